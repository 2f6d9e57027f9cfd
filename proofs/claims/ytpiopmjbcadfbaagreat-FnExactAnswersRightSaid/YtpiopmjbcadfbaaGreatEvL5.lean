/- Typed functions and what holds of them: part 5. -/
import Derived.Test.YtpiopmjbcadfbaaGreatEvL4
set_option linter.unusedVariables false
set_option linter.unusedSimpArgs false
set_option linter.unusedSectionVars false
namespace Go.Proofs.Ev
section
structure SOk (s:aj):Prop where
 now:0<=s.now/\s.now<=1000000
 ai:0<=s.ai/\s.ai<=1000
 age:0<=s.age/\s.age<=20
 len:s.tasks.length<=12
 turns:0<=s.turns/\s.turns<=1000000
 next:1<=s.next/\s.next<=1000000
 task:∀t∈s.tasks,ir t=true/\t.id<s.next/\t.born<=s.now
 ids:s.tasks.Pairwise λa b=>a.id<b.id
 run:(s.run=0/\s.left=0)\/∃t∈s.tasks,t.id=s.run/\1<=s.left/\s.left<=eY t
theorem Oe {s:aj} (h:ba s=true):SOk s:=by
 have hs:=bC h;have hT:=hs.2.2.2.2.2.2.1;refine⟨hs.1,hs.2.1,hs.2.2.1,hs.2.2.2.1,hs.2.2.2.2.1,hs.2.2.2.2.2.1,λt ht=>?_,CY hT,?_⟩
 ·obtain⟨i,hi,rfl⟩:=RR.1 ht;have:=cc hT hi;exact⟨this.1,this.2.1,this.2.2.1⟩
 ·cases hr:s.run==0
  ·obtain⟨_,i,hf⟩:=C0 h hr;obtain⟨hi,hid⟩:=qe hf;exact .inr ⟨s.tasks[i],Rp hi,hid,qZ h (Rp hi) hid.symm⟩
  ·have hrun:=hs.2.2.2.2.2.2.2;unfold J1 at hrun;rw[hr,cond_true]at hrun;exact .inl ⟨by simpa using hr,by simpa using hrun⟩
theorem zq {s:aj} (h:SOk s):gn s=true:=by
 unfold gn;rw[SB];intro i hi;rw[List.mem_range]at hi;obtain⟨h1,h2,h3⟩:=h.task _ (Rp hi);rw[ag hi,Rr];simp only[Rk,decide_eq_true_eq];refine⟨h1,h2,h3,?_⟩;by_cases c:0<i
 ·rw[decide_eq_true c,cond_true,ag (show i-1<s.tasks.length by omega),Rr];exact decide_eq_true (List.pairwise_iff_getElem.1 h.ids (i-1) i (by omega) hi (by omega))
 ·rw[decide_eq_false c];rfl
theorem wN {s:aj} (h:SOk s):ba s=true:=by
 have hT:=zq h;unfold ba inB;simp only[Rk,decide_eq_true_eq];refine⟨h.now,h.ai,h.age,by have:=h.len;omega,h.turns,h.next,hT,?_⟩
 rcases h.run with⟨h1,h2⟩|⟨t,ht,e,l1,l2⟩
 ·unfold J1;rw[h1,h2];rfl
 ·have hb:=(h.task t ht).1;have hid:=(b8 hb).1;obtain⟨i,hi,rfl⟩:=RR.1 ht
  have h0:(s.run==0)=false:=by rw[<-e];simp;omega
  unfold J1;rw[h0,cond_false,<-e,CS hT hi,Rr,ag hi,Rr,(eZ hb).1,Rr];exact cn.2 ⟨l1,l2⟩
theorem Ia {ts:List Task} (hp:ts.Pairwise λa b=>a.id<b.id) {t:Task} (ht:t∈ts):∃pre post,ts=pre++t::post/\(∀u∈pre,u.id<t.id)/\(∀u∈post,t.id<u.id)/\(∀u∈pre,∀v∈post,u.id<v.id)/\(pre.Pairwise λa b=>a.id<b.id)/\post.Pairwise λa b=>a.id<b.id:=by
 obtain⟨pre,post,rfl⟩:=List.append_of_mem ht;rw[List.pairwise_append,TE]at hp;obtain⟨h1,⟨h2,h3⟩,h4⟩:=hp;exact⟨pre,post,rfl,λu hu=>h4 u hu t (by simp),h2,λu hu v hv=>h4 u hu v (by simp[hv]),h1,h3⟩
theorem JO {pre post:List Task} {t:Task} (h:∀u∈pre,u.id≠t.id):((pre++t::post).findIdx? λu=>u.id==t.id)=some pre.length:=by
 rw[List.findIdx?_append]
 have h1:(pre.findIdx? λu=>u.id==t.id)=none:=by
  rw[SX];intro u hu;simpa using h u hu
 rw[h1,TD];simp
theorem L5 {pre post:List Task} {t:Task} {id:Int} (h1:∀u∈pre,u.id≠id) (h2:∀u∈post,u.id≠id) (ht:t.id=id):J2 (pre++t::post) id=pre++post:=by
 unfold J2;rw[S8,SY]
 have e1:pre.filter (λu=>!(u.id==id))=pre:=SC.2 λu hu=>by simpa using h1 u hu
 have e2:post.filter (λu=>!(u.id==id))=post:=SC.2 λu hu=>by simpa using h2 u hu
 rw[e1,e2,ht];simp
def qj (t:Task):Task:=⟨t.id,t.av,t.at_+1,t.due,t.born⟩
theorem Bo {s:aj} {pre post:List Task} {t:Task} {L tr:Int} (e:s.tasks=pre++t::post) (h1:∀u∈pre,u.id≠t.id) (h2:∀u∈post,u.id≠t.id):
  ub s t.id L tr=if L-1>0 then(⟨s.now+1,s.ai,s.age,s.tasks,t.id,L-1,tr,s.next⟩,0,false)else
   if t.at_+1<t.av.length then(⟨s.now+1,s.ai,s.age,pre++qj t::post,0,L-1,tr,s.next⟩,t.id,false)
   else(⟨s.now+1,s.ai,s.age,pre++post,0,L-1,tr,s.next⟩,t.id,true):=by
 unfold ub
 have hf:(s.tasks.findIdx? λu=>u.id==t.id)=some pre.length:=by rw[e];exact JO h1
 have hg:s.tasks[pre.length]? =some t:=by rw[e];simp
 have hset:s.tasks.set pre.length (qj t)=pre++qj t::post:=by rw[e];simp
 rw[ab,hf,Rr,hg,Rr,ab];show(if L-1>0 then _ else if t.at_+1<(t.av.length:Int)then(⟨s.now+1,s.ai,s.age,s.tasks.set pre.length (qj t),0,L-1,tr,s.next⟩,t.id,false)else(⟨s.now+1,s.ai,s.age,J2 (s.tasks.set pre.length (qj t)) t.id,0,L-1,tr,s.next⟩,t.id,true):aj× Int× Bool)=_;rw[hset,L5 (t:=qj t) h1 h2 rfl]
structure Rd (s:aj) (t:Task) (L tr:Int):Prop where
 mem:t∈s.tasks
 lo:1<=L
 hi:L<=eY t
 rem:∀u∈s.tasks,dU s u=cond (t.id==u.id) (gp u-eY u+L) (gp u)
 trn:0<=tr/\tr<=1000000
 eq:fj s false=ub s t.id L tr
theorem Qo {s:aj} (h:SOk s) {t u:Task} (ht:t∈s.tasks) (hu:u∈s.tasks) (e:t.id=u.id):t=u:=by
 obtain⟨i,hi,rfl⟩:=RR.1 ht;obtain⟨j,hj,rfl⟩:=RR.1 hu;have:=LV (zq h) hi hj e;subst this;rfl
theorem Bp {key:Task->Int} {xs:List Task} (h:EW key xs=none):xs=[]:=by
 cases xs with
 |nil=>rfl
 |cons x l=>exact nomatch h
theorem L6 {s:aj} (h:SOk s) (hp:kn s=0):s.tasks=[]:=by
 have hT:=zq h
 have hl:zU s=none:=by
  cases hl:zU s with
  |none=>rfl
  |some t=>
   have h1:=L3 hT hl
   cases he:nK s with
   |none=>
    unfold kn at hp;rw[hl,he]at hp;simp only[S9,Sq,RL,Bool.true_or,Rs,cond_true,Rr]at hp
    omega
   |some e=>
    have h2:=wL hT he;unfold kn at hp;rw[hl,he]at hp;simp only[S9,Rq,TU,Rs,Rr]at hp;cases hc:(decide (s.age>0)&&(s.turns.tmod s.age==0))<;>rw[hc]at hp
    ·simp only[cond_false]at hp;omega
    ·simp only[cond_true]at hp;omega
 have he:nK s=none:=by
  cases he:nK s with
  |none=>rfl
  |some e=>
   have h2:=wL hT he;unfold kn at hp;rw[hl,he]at hp;simp only[Sq,R8,cond_false,Rr]at hp;omega
 have f1:=Bp hl;have f2:=Bp he
 cases ht:s.tasks with
 |nil=>rfl
 |cons x l=>
  have hx:x∈s.tasks:=by rw[ht];simp
  cases hq:dY s x
  ·have:x∈s.tasks.filter λt=>!dY s t:=Sd.2 ⟨hx,by rw[hq];rfl⟩;rw[f2]at this;exact nomatch this
  ·have:x∈s.tasks.filter (dY s):=Sd.2 ⟨hx,hq⟩;rw[f1]at this;exact nomatch this
theorem E3 {s:aj} (h:SOk s) (hn:s.now≠1000000):
  (s.tasks=[]/\s.run=0/\s.left=0/\fj s false=(⟨s.now+1,s.ai,s.age,s.tasks,s.run,s.left,s.turns,s.next⟩,0,false))\/∃t L tr,Rd s t L tr/\(s.run=t.id\/(s.run=0/\kn s=t.id)):=by
 have hb:=wN h
 have hnow:(ba s&&!(s.now==1000000))=true:=by rw[hb];simpa using hn
 rcases h.run with⟨h1,h2⟩|⟨t,ht,e,l1,l2⟩
 ·by_cases hp:kn s=0
  ·left;refine⟨L6 h hp,h1,h2,?_⟩;unfold fj;rw[hnow,h1,hp];rfl
  ·right;obtain⟨i,hi,hf,hid⟩:=zo hb hp;have ht:=Rp hi;have hc:=eZ (h.task _ ht).1;refine⟨s.tasks[i],eY s.tasks[i],cond (decide (s.turns+1>1000000)) 0 (s.turns+1),⟨ht,hc.2.1,Int.le_refl _,λu hu=>?_,?_,?_⟩,.inr ⟨h1,hid.symm⟩⟩
   ·have hu0:=(b8 (h.task u hu).1).1
    have:(s.run==u.id)=false:=by rw[h1];simp;omega
    unfold dU;rw[this,cond_false];cases hq:s.tasks[i].id==u.id
    ·rfl
    ·have:=Qo h ht hu (by simpa using hq);rw[cond_true,this];omega
   ·have:=h.turns;rw[ab];split<;>omega
   ·have hp':(kn s==0)=false:=by simpa using hp
    unfold fj;rw[hnow,h1,hp',hf];simp only[cond_true,cond_false,Rr];rw[ag hi,Rr,hid];rfl
 ·right;have ht0:=(b8 (h.task t ht).1).1;refine⟨t,s.left,s.turns,⟨ht,l1,l2,λu hu=>?_,h.turns,?_⟩,.inl e.symm⟩
  ·unfold dU;rw[e]
  ·have:(s.run==0)=false:=by rw[<-e];simp;omega
   unfold fj;rw[hnow,this,e];rfl
def Pt (p:Int->Bool) (s:aj):Int:=(s.tasks.map λt=>cond (p t.due) (dU s t) 0).sum
theorem E4 {t:Task} (h:ir t=true):gp (qj t)=gp t-eY t:=by
 have ht:=b8 h
 have hlt:t.at_.toNat<t.av.length:=by omega
 have e:idx t.av t.at_=some t.av[t.at_.toNat]:=by rw[rX _ ht.2.2.1.1];exact ag hlt
 have hc:eY t=t.av[t.at_.toNat]:=by unfold eY;rw[e];rfl
 unfold gp qj
 have e2:(t.at_+1).toNat=t.at_.toNat+1:=by omega
 simp only;rw[e2,gA hlt,S1,hc];omega
theorem L7 {t:Task} (h:ir t=true) (hl:¬t.at_+1<t.av.length):gp t-eY t=0:=by
 rw[<-E4 h];unfold gp qj;simp only;rw[List.drop_eq_nil_of_le (by omega)];rfl
structure Qp (s:aj) (t:Task) (r:aj× Int× Bool):Prop where
 ok:SOk r.1
 now:r.1.now=s.now+1
 ai:r.1.ai=s.ai
 age:r.1.age=s.age
 next:r.1.next=s.next
 sum:∀p:Int->Bool,Pt p r.1=Pt p s-cond (p t.due) 1 0
 from_:∀u∈r.1.tasks,∃v∈s.tasks,v.id=u.id/\v.due=u.due
 told:(r.2.1=0/\r.2.2=false/\r.1.run=t.id/\r.1.tasks=s.tasks)\/(r.2.1=t.id/\r.1.run=0/\r.1.left=0)
 goes:r.2.2=true->r.2.1=t.id/\∀u∈r.1.tasks,u.id≠t.id
theorem worked {s:aj} {t:Task} {L tr:Int} (h:SOk s) (hn:s.now≠1000000) (T:Rd s t L tr):Qp s t (fj s false):=by
  obtain⟨pre,post,e,h1,h2,h3,h4,h5⟩:=Ia h.ids T.mem;have hb:=(h.task t T.mem).1;have htb:=b8 hb
  have n1:∀u∈pre,u.id≠t.id:=λu hu=>by have:=h1 u hu;omega
  have n2:∀u∈post,u.id≠t.id:=λu hu=>by have:=h2 u hu;omega
  have m1:∀u∈pre,u∈s.tasks:=λu hu=>by rw[e];simp[hu]
  have m2:∀u∈post,u∈s.tasks:=λu hu=>by rw[e];simp[hu]
  have hlen:=h.len;rw[e,Rz,Rw]at hlen;have hnow:=h.now
  have part:∀(p:Int->Bool) (s':aj) (l:List Task),(∀u∈l,u∈s.tasks/\u.id≠t.id)->(∀u∈l,s'.run≠u.id)->(l.map λu=>cond (p u.due) (dU s' u) 0)=l.map λu=>cond (p u.due) (dU s u) 0:=λp s' l hl hr=>List.map_congr_left λu hu=>by
    have r1:dU s' u=gp u:=by unfold dU;rw[show(s'.run==u.id)=false by simpa using hr u hu];rfl
    have r2:dU s u=gp u:=by rw[T.rem u (hl u hu).1,show(t.id==u.id)=false by simpa usingλq=>(hl u hu).2 q.symm];rfl
    rw[r1,r2]
  have q1:∀u∈pre,u∈s.tasks/\u.id≠t.id:=λu hu=>⟨m1 u hu,n1 u hu⟩;have q2:∀u∈post,u∈s.tasks/\u.id≠t.id:=λu hu=>⟨m2 u hu,n2 u hu⟩
  have z1:∀u∈s.tasks,(0:Int)≠u.id:=λu hu=>by have:=(b8 (h.task u hu).1).1;omega
  have rt:dU s t=gp t-eY t+L:=by rw[T.rem t T.mem];simp
  have old:∀p:Int->Bool,Pt p s=(pre.map λu=>cond (p u.due) (dU s u) 0).sum+(cond (p t.due) (gp t-eY t+L) 0+(post.map λu=>cond (p u.due) (dU s u) 0).sum):=λp=>by
    unfold Pt;rw[<-rt];conv=>lhs;rw[e,Sv,Td,RZ,S1]
  rw[T.eq,Bo e n1 n2];have hlo:=T.lo;by_cases c1:L-1>0
  · rw[if_pos c1];refine⟨⟨by simp only;omega,h.ai,h.age,h.len,T.trn,h.next,λu hu=>?_,h.ids,.inr ⟨t,T.mem,rfl,?_⟩⟩,rfl,rfl,rfl,rfl,λp=>?_,λu hu=>⟨u,hu,rfl,rfl⟩,.inl ⟨rfl,rfl,rfl,rfl⟩,λhg=>nomatch hg⟩
    · have:=h.task u hu;exact⟨this.1,this.2.1,by simp only;omega⟩
    · have:=T.hi;simp only;omega
    · rw[old p];unfold Pt;simp only
      conv=>lhs;rw[show List.map (λu:Task=>cond (p u.due) (dU ⟨s.now+1,s.ai,s.age,s.tasks,t.id,L-1,tr,s.next⟩ u) 0) s.tasks=List.map (λu:Task=>cond (p u.due) (dU ⟨s.now+1,s.ai,s.age,s.tasks,t.id,L-1,tr,s.next⟩ u) 0) (pre++t::post)from by rw[<-e],Sv,Td,RZ,S1]
      rw[part p _ pre q1 (λu hu=>(n1 u hu).symm),part p _ post q2 (λu hu=>(n2 u hu).symm)]
      have:dU ⟨s.now+1,s.ai,s.age,s.tasks,t.id,L-1,tr,s.next⟩ t=gp t-eY t+(L-1):=by unfold dU;simp
      rw[this];cases p t.due<;>simp only[cond_true,cond_false]<;>omega
  · have hL:L=1:=by omega
    subst hL;rw[if_neg c1];by_cases c2:t.at_+1<t.av.length
    · rw [if_pos c2]
      have hnb:ir (qj t)=true:=by
        unfold ir inB qj;unfold ir inB at hb;simp only[Rk,decide_eq_true_eq]at hb⊢;exact⟨hb.1,hb.2.1,⟨by omega,by omega⟩,hb.2.2.2.1,hb.2.2.2.2.1,hb.2.2.2.2.2⟩
      refine⟨⟨by simp only;omega,h.ai,h.age,by simp only[Rz,Rw];omega,T.trn,h.next,λu hu=>?_,?_,.inl ⟨rfl,rfl⟩⟩,rfl,rfl,rfl,rfl,λp=>?_,λu hu=>?_,.inr ⟨rfl,rfl,rfl⟩,λhg=>nomatch hg⟩
      · simp only at hu⊢
        rcases Sb.1 hu with hu|hu
        · have:=h.task u (m1 u hu);exact⟨this.1,this.2.1,by omega⟩
        · rcases RI.1 hu with rfl|hu
          · have:=h.task t T.mem;exact⟨hnb,this.2.1,by show t.born<=_;omega⟩
          · have:=h.task u (m2 u hu);exact⟨this.1,this.2.1,by omega⟩
      · simp only;rw[List.pairwise_append,TE];refine⟨h4,⟨h2,h5⟩,λu hu v hv=>?_⟩
        rcases RI.1 hv with rfl|hv
        · exact h1 u hu
        · exact h3 u hu v hv
      · rw[old p];unfold Pt;simp only;rw[Sv,Td,RZ,S1];rw[part p _ pre q1 (λu hu=>z1 u (m1 u hu)),part p _ post q2 (λu hu=>z1 u (m2 u hu))];have hd:(qj t).due=t.due:=rfl
        have:dU ⟨s.now+1,s.ai,s.age,pre++qj t::post,0,1-1,tr,s.next⟩ (qj t)=gp t-eY t:=by
          unfold dU;rw[show((0:Int)==(qj t).id)=false by show((0:Int)==t.id)=false;simp;omega,cond_false,E4 hb]
        rw[this,hd];cases p t.due<;>simp only[cond_true,cond_false]<;>omega
      · simp only at hu
        rcases Sb.1 hu with hu|hu
        · exact⟨u,m1 u hu,rfl,rfl⟩
        · rcases RI.1 hu with rfl|hu
          · exact⟨t,T.mem,rfl,rfl⟩
          · exact⟨u,m2 u hu,rfl,rfl⟩
    · rw[if_neg c2];have hr:=L7 hb c2;refine⟨⟨by simp only;omega,h.ai,h.age,by simp only[Rz];omega,T.trn,h.next,λu hu=>?_,?_,.inl ⟨rfl,rfl⟩⟩,rfl,rfl,rfl,rfl,λp=>?_,λu hu=>?_,.inr ⟨rfl,rfl,rfl⟩,λ_=>⟨rfl,λu hu=>?_⟩⟩
      · simp only at hu⊢
        rcases Sb.1 hu with hu|hu
        · have:=h.task u (m1 u hu);exact⟨this.1,this.2.1,by omega⟩
        · have:=h.task u (m2 u hu);exact⟨this.1,this.2.1,by omega⟩
      · simp only;rw[List.pairwise_append];exact⟨h4,h5,h3⟩
      · rw[old p];unfold Pt;simp only;rw[Sv,Td];rw[part p _ pre q1 (λu hu=>z1 u (m1 u hu)),part p _ post q2 (λu hu=>z1 u (m2 u hu)),hr];cases p t.due<;>simp only[cond_true,cond_false]<;>omega
      · simp only at hu
        rcases Sb.1 hu with hu|hu
        · exact⟨u,m1 u hu,rfl,rfl⟩
        · exact⟨u,m2 u hu,rfl,rfl⟩
      · simp only at hu
        rcases Sb.1 hu with hu|hu
        · exact n1 u hu
        · exact n2 u hu
theorem vW {s:aj} (h:SOk s) (hn:s.now≠1000000):fj s true=(⟨s.now+1,s.ai,s.age,s.tasks,s.run,s.left,s.turns,s.next⟩,0,false):=by
 have hnow:(ba s&&!(s.now==1000000))=true:=by rw[wN h];simpa using hn
 unfold fj;rw[hnow];rfl
theorem wO {s:aj} (hn:s.now=1000000) (st:Bool):fj s st=(s,0,false):=by
 unfold fj;rw[hn];simp
theorem Ib {s:aj} (h:SOk s) (hn:s.now≠1000000):SOk ⟨s.now+1,s.ai,s.age,s.tasks,s.run,s.left,s.turns,s.next⟩:=by
 have:=h.now;exact⟨by simp only;omega,h.ai,h.age,h.len,h.turns,h.next,λu hu=>by have:=h.task u hu;exact⟨this.1,this.2.1,by simp only;omega⟩,h.ids,h.run⟩
theorem Pu {s:aj} (h:SOk s) (st:Bool):SOk (fj s st).1:=by
 by_cases hn:s.now=1000000
 ·rw[wO hn];exact h
 cases st
 ·rcases E3 h hn with⟨_,_,_,e⟩|⟨t,L,tr,T,_⟩
  ·rw[e];exact Ib h hn
  ·exact(worked h hn T).ok
 ·rw[vW h hn];exact Ib h hn
theorem L8 {s:aj} (h:SOk s) (id:Int):SOk (qh s id).1:=by
 unfold qh;cases hc:(ba s&&decide (0<=ki s.tasks id))
 ·exact h
 rw[cond_true]
 have hm:∀u∈J2 s.tasks id,u∈s.tasks/\u.id≠id:=λu hu=>by
  have:=Sd.1 hu;exact⟨this.1,by simpa using this.2⟩
 refine⟨h.now,h.ai,h.age,SJ (Tb _ _) h.len,h.turns,h.next,λu hu=>h.task u (hm u hu).1,h.ids.filter _,?_⟩;cases hr:s.run==id
 ·simp only[cond_false]
  rcases h.run with h1|⟨t,ht,e,l⟩
  ·exact .inl h1
  ·refine .inr ⟨t,Sd.2 ⟨ht,?_⟩,e,l⟩;rw[e,hr];rfl
 ·exact .inl ⟨rfl,rfl⟩
theorem NM {s:aj} (h:SOk s) (av:List Int) (due:Int):SOk (fa s av due).1:=by
 rcases zp s av due with⟨_,_,_,g,_⟩|⟨_,_,g⟩
 ·unfold zg at g;exact Oe (Sl.1 g).1
 ·rw[g];exact h
end
set_option maxRecDepth 100000
section
end
set_option maxRecDepth 100000
set_option maxHeartbeats 4000000
section
theorem JP {b:List Int} (h:(dT b).2=0):di (dT b).1=true:=by
  unfold dT at h⊢;by_cases c:(b.length:Int)>6000
  · rw[decide_eq_true c]at h;exact absurd (show(5:Int)=0 from h) (by decide)
  rw[decide_eq_false c]at h⊢;simp only[cond_false]at h⊢;cases c1:decide (b.take 3=[80,77,49])
  · rw[c1]at h;exact absurd (show(1:Int)=0 from h) (by decide)
  rw[c1]at h;simp only[Rq,cond_false]at h⊢;generalize aR b 3 false=r2 at h⊢;generalize aR b r2.2.1 r2.2.2=r3 at h⊢;generalize aR b r3.2.1 r3.2.2=r4 at h⊢;generalize bW b r4.2.1 r4.2.2 2000=r5 at h⊢;generalize qa b r5.1.toNat r5.2.1 r5.2.2 []=y at h⊢;generalize aR b y.1 y.2.1=r6 at h⊢;cases c2:r6.2.2
  · rw [c2] at h;simp only[cond_false]at h⊢;cases c3:(r6.1 !=GK ((b.take y.1.toNat).drop 0))
    · rw[c3]at h;simp only[cond_false]at h⊢;cases c4:(r6.2.1 !=(b.length:Int))
      · rw[c4]at h;simp only[cond_false]at h⊢;cases c5:di ⟨⟨r2.1,r3.1,r4.1⟩,y.2.2⟩
        · rw[c5]at h;exact absurd (show(4:Int)=0 from h) (by decide)
        · simp only[Rq,cond_false];exact c5
      · rw[c4]at h;exact absurd (show(3:Int)=0 from h) (by decide)
    · rw[c3]at h;exact absurd (show(3:Int)=0 from h) (by decide)
  · rw[c2]at h;exact absurd (show(2:Int)=0 from h) (by decide)
theorem su (b:List Int):(dT b).1.tot<=8002000:=by
  have h0:da.tot=0:=rfl;unfold dT;generalize aR b 3 false=r2;simp only;generalize aR b r2.2.1 r2.2.2=r3;generalize aR b r3.2.1 r3.2.2=r4;have hc:=qX b r4.2.1 r4.2.2;generalize bW b r4.2.1 r4.2.2 2000=r5 at hc;have ht:=qY b r5.1.toNat r5.2.1 r5.2.2 [];rw[show fy ay.tot []=0 from rfl]at ht;generalize qa b r5.1.toNat r5.2.1 r5.2.2 []=y at ht;generalize aR b y.1 y.2.1=r6
  have hy:(⟨⟨r2.1,r3.1,r4.1⟩,y.2.2⟩:Model).tot<=8002000:=by show fy ay.tot y.2.2+0<=_;omega
  cases decide ((b.length:Int)>6000)<;>simp only[cond_true,cond_false]
  · cases (!decide (b.take 3 = [80, 77, 49])) <;> simp only [cond_true, cond_false]
    · cases r6.2.2<;>simp only[cond_true,cond_false]
      · cases(r6.1 !=GK ((b.take y.1.toNat).drop 0))<;>simp only[cond_true,cond_false]
        · cases(r6.2.1 !=(b.length:Int))<;>simp only[cond_true,cond_false]
          · generalize (!di _)=q;cases q<;>simp only[cond_true,cond_false]
            · exact hy
            · omega
          · omega
        · omega
      · omega
    · omega
  · omega
def rD (m:Model):Bool:=(bq m).all λc=>decide (c<=1000)
theorem C3 {k:Nat} {m:Model} (hk:m.tot<k) (hN:m.tot<=aQ):qS k m=some (rD m&&di m):=by
 have hM:=ao;have hc:=jq m;have hl:=bu ay.tot m.ar;have ht:m.tot=fy ay.tot m.ar+0:=rfl;unfold qS rD;rw[kg hk hN,aa,p6 hk hN]
 rw[jy (bq m) (λc=>decide (c<=1000)) (no:=some false) (yes:=some (di m)) (λi hi next=>by
  unfold kS;simp only;rw[decide_eq_true (by omega),cond_true,decide_eq_true (by omega),cond_true,Rm,ag hi,aa,aq hi (by omega)];by_cases c:(bq m)[i]<=1000
  ·rw[decide_eq_false (by omega),decide_eq_true c];rfl
  ·rw[decide_eq_true (by omega),decide_eq_false c];rfl) (λnext=>by
  unfold kS;simp only
  rw[decide_eq_false (by omega)];rfl) (by omega)]
 cases(bq m).all λc=>decide (c<=1000)<;>rfl
theorem E5 {k:Nat} {m:Model} (hk:m.tot+1<k) (hN:m.tot<aQ):tJ k m=some (rD m):=by
 have hM:=ao;have hc:=jq m;have hl:=bu ay.tot m.ar;have ht:m.tot=fy ay.tot m.ar+0:=rfl;unfold tJ rD bV cr;rw[kh hk hN,aa]
 rw[eO (bq m) (λx=>decide (x>1000)) (λi hi next=>by
  simp only[aZ,ab,pX,aa]
  rw[if_pos (by omega),aC,ag hi,aa,aq hi (by omega)]) (λnext=>by
  simp only[aZ,ab];rw[if_neg (by omega)]) (by omega)]
 rw[cR];simp only[aa,nE];rw[S3,TJ]
 congr 2
 funext c
 rw[<-decide_not]
 congr 1
 exact propext Int.not_lt
def sw:ak:=⟨⟨0,0,0⟩,[]⟩
def du (kind code:Int):List Event:=[⟨5,kind,code,sw⟩]
def Ic (r:Runtime) (a:Int):Bool:=inB a 0 3&&r.ax.getD a.toNat false
def rm (r:Runtime) (x:Step):List Event× List Model× List Bool:=
 cond (inB x.a 0 3&&!r.ax.getD x.a.toNat false) (cond (decide ((dT x.data).2=0)&&rD (dT x.data).1) ([⟨0,x.a,yC (dT x.data).1,sw⟩],r.al.set x.a.toNat (dT x.data).1,r.ax.set x.a.toNat true) (du x.kind 2,r.al,r.ax)) (du x.kind 1,r.al,r.ax)
section
variable {k:Nat} {r:Runtime} {x:Step} (hk:9000000<=k) (hb:∀y∈x.data,okB y) (hl:x.data.length<=aQ) (hlo:r.ax.length=4) (hmo:r.al.length=4)
include hk hb hl hlo hmo
theorem L9:oI k r x=some (rm r x):=by
 have hM:=ao;have hd:=su x.data;unfold oI rm bB;rw[cF,aa];cases c1:inB x.a 0 3
 ·simp only[RL,cond_true,aa,decide_true,R8,cond_false];rfl
 have c1':=of_decide_eq_true c1
 have hi:x.a.toNat<r.ax.length:=by omega
 simp only[Rq,cond_false,Rs];rw[decide_eq_true (by omega),cond_true,ag hi,aa,bE hi];cases c2:r.ax[x.a.toNat]
 ·simp only[cond_false,RL,cond_true];rw[v8 hk hb hl,aa,nF];by_cases c3:(dT x.data).2=0
  ·rw[decide_eq_true c3];simp only[cond_true,Rs];rw[C3 (by omega) (by omega),aa,JP c3,Tz];cases rD (dT x.data).1
   ·simp only[RL,cond_true,aa,decide_true,cond_false];rfl
   ·simp only[Rq,cond_false,cond_true];rw[decide_eq_true (by omega),cond_true,zS (by omega) (by omega),aa];simp only[decide_true,cond_true];rfl
  ·rw[decide_eq_false c3];simp only[cond_true,aa,decide_true,R8,cond_false];rfl
 ·simp only[cond_true,aa,decide_true,Rq,cond_false];rfl
theorem Ma:gd k r x=some (rm r x):=by
 have hM:=ao;have hd:=su x.data;unfold gd rm dH;rw[fA,aa];cases c1:inB x.a 0 3
 ·simp only[RL,cond_true,aa,decide_true,R8,cond_false];rfl
 have c1':=of_decide_eq_true c1
 have hi:x.a.toNat<r.ax.length:=by omega
 simp only[Rq,cond_false,Rs];rw[decide_eq_true (by omega),cond_true,ag hi,aa,bE hi];cases c2:r.ax[x.a.toNat]
 ·simp only[cond_false,RL,cond_true];rw[v9 hk hb hl,aa,nF];by_cases c3:(dT x.data).2=0
  ·rw[decide_eq_true c3];simp only[cond_true,Rs];rw[E5 (by omega) (by omega),aa];cases rD (dT x.data).1
   ·simp only[RL,cond_true,aa,decide_true,cond_false];rfl
   ·simp only[Rq,cond_false,cond_true];rw[decide_eq_true (by omega),cond_true,zT (by omega) (by omega),aa];simp only[decide_true,cond_true];rfl
  ·rw[decide_eq_false c3];simp only[cond_true,aa,decide_true,R8,cond_false];rfl
 ·simp only[cond_true,aa,decide_true,Rq,cond_false];rfl
end
theorem tV {k:Nat} {r:Runtime} {a:Int} (hlo:r.ax.length=4):ey k r a=some (Ic r a):=by
 unfold ey Ic;rw[fA,aa];cases c:inB a 0 3
 ·rfl
 have c':=of_decide_eq_true c;simp only[cond_true,Rs];rw[rX _ (by omega),ag (show a.toNat<r.ax.length by omega),bE (show a.toNat<r.ax.length by omega)];rfl
end
set_option maxRecDepth 100000
set_option maxHeartbeats 4000000
section
def tW (rs:List Request) (id:Int):Int:=(rs.findIdx? λq=>q.id==id).elim (-1) λi=>(i:Int)
def wP (rs:List Request) (id:Int):List Request:=rs.filter λq=>!(q.id==id)
section
variable {k:Nat} {rs:List Request} {id:Int} (hk:rs.length<k) (hN:rs.length<=aQ)
include hk hN
theorem zr:bz k rs id=some (tW rs id):=by
 have hM:=ao;unfold bz tW
 rw[eO rs (λt=>t.id==id) (yes:=some (-1)) (no:=some) (λi hi next=>by
  simp only[aX,gv,decide_true,cond_true,aa]
  rw[ab,if_pos (by omega),ab,if_pos (by omega),Rm,ag hi,aa,aq hi (by omega)]) (λnext=>by
  simp only[aX,decide_true,cond_true];rw[ab,if_neg (by omega)]) hk]
 exact cR _
theorem zt:bA k rs id=some (tW rs id):=by
 have hM:=ao;unfold bA tW
 rw[eO rs (λt=>t.id==id) (yes:=some (-1)) (no:=some) (λi hi next=>by
  simp only[aY,gZ,decide_true,cond_true,aa]
  rw[ab,if_pos (by omega),aC,ag hi,aa,aq hi (by omega)]) (λnext=>by
  simp only[aY,decide_true,cond_true];rw[ab,if_neg (by omega)]) hk]
 exact cR _
theorem zv:bn k rs id=some (wP rs id):=by
  have hM:=ao;unfold bn wP;rw[zr hk hN,aa];unfold tW
  cases hf:rs.findIdx? λz=>z.id==id with
  | none =>
    rw[S6,filter_none hf]
    simp
  | some i =>
    obtain⟨hi,hfi⟩:=mK hf;rw[Rr,bG,if_neg (by omega),aq hi (by omega)]
    obtain⟨i',ys',h1,h2,h3,h4⟩:=jt rs (λz=>z.id==id) (R:=List Request) (g:=(λu5 n5=>aM k id u5 n5 (λy4=>cond (decide (0<=y4.1/\y4.1<=(y4.2.length:Int))) (cond (decide (0<=y4.1/\y4.1<=(((y4.2).take y4.1.toNat++List.replicate (y4.2.length-y4.1.toNat) (⟨(0:Int),(0:Int),(⟨(⟨(⟨(0:Int),(0:Int),(0:Int)⟩:Shape),([]:List ay)⟩:Model),(0:Int),(⟨(⟨(0:Int),(0:Int),(0:Int)⟩:Shape),([]:List Int)⟩:ak),(0:Int)⟩:Job),(0:Int)⟩:Request)++(y4.2).drop (y4.1.toNat+(y4.2.length-y4.1.toNat))).length:Int))) (cond (decide (id=id)) (some (((y4.2).take y4.1.toNat++List.replicate (y4.2.length-y4.1.toNat) (⟨(0:Int),(0:Int),(⟨(⟨(⟨(0:Int),(0:Int),(0:Int)⟩:Shape),([]:List ay)⟩:Model),(0:Int),(⟨(⟨(0:Int),(0:Int),(0:Int)⟩:Shape),([]:List Int)⟩:ak),(0:Int)⟩:Job),(0:Int)⟩:Request)++(y4.2).drop (y4.1.toNat+(y4.2.length-y4.1.toNat))).take (y4.1.toNat-0))) none) none) none)))
      (fin:=(λy4=>cond (decide (0<=y4.1/\y4.1<=(y4.2.length:Int))) (cond (decide (0<=y4.1/\y4.1<=(((y4.2).take y4.1.toNat++List.replicate (y4.2.length-y4.1.toNat) (⟨(0:Int),(0:Int),(⟨(⟨(⟨(0:Int),(0:Int),(0:Int)⟩:Shape),([]:List ay)⟩:Model),(0:Int),(⟨(⟨(0:Int),(0:Int),(0:Int)⟩:Shape),([]:List Int)⟩:ak),(0:Int)⟩:Job),(0:Int)⟩:Request)++(y4.2).drop (y4.1.toNat+(y4.2.length-y4.1.toNat))).length:Int))) (cond (decide (id=id)) (some (((y4.2).take y4.1.toNat++List.replicate (y4.2.length-y4.1.toNat) (⟨(0:Int),(0:Int),(⟨(⟨(⟨(0:Int),(0:Int),(0:Int)⟩:Shape),([]:List ay)⟩:Model),(0:Int),(⟨(⟨(0:Int),(0:Int),(0:Int)⟩:Shape),([]:List Int)⟩:ak),(0:Int)⟩:Job),(0:Int)⟩:Request)++(y4.2).drop (y4.1.toNat+(y4.2.length-y4.1.toNat))).take (y4.1.toNat-0))) none) none) none))
      (λi j ys hj next hij hl hg=>by
        simp only[aM,fL,decide_true,cond_true,aa,hl]
        rw[ab,if_pos (by omega),ab,if_pos (by omega),Rm,hg,aa,cond_not,ab,if_pos (by omega),aq hj (by omega),aq (show i<rs.length by omega) (by omega),Rm])
      (λi ys next hl=>by simp only[aM,hl];rw[ab,if_neg (by omega)])
      (rs.length-(i+1)) i (i+1) rs k (by omega) (by omega) (by omega) rfl rfl hfi
    refine h4.trans ?_;obtain⟨c1,c2⟩:=rb (⟨(0:Int),(0:Int),(⟨(⟨(⟨(0:Int),(0:Int),(0:Int)⟩:Shape),([]:List ay)⟩:Model),(0:Int),(⟨(⟨(0:Int),(0:Int),(0:Int)⟩:Shape),([]:List Int)⟩:ak),(0:Int)⟩:Job),(0:Int)⟩:Request) h1 h2;simp only[Rm,h2,decide_true,cond_true];rw[c2,c1,ab,if_pos (by omega),ab,if_pos (by omega),h3]
end
theorem vn {k:Nat} {r:Runtime} {id:Int} (hk:r.ae.length<k) (hN:r.ae.length<=aQ):gK k r id=some (tW r.ae id):=by
 unfold gK;rw[zt hk hN];rfl
theorem re {k:Nat} {r:Runtime} {id:Int} (hk:r.ae.length<k) (hN:r.ae.length<=aQ):va k r id=some (tW r.ae id):=by
 have hM:=ao;unfold va tW
 rw[eO r.ae (λt=>t.id==id) (yes:=some (-1)) (no:=some) (λi hi next=>by
  simp only[qT]
  rw[ab,if_pos (by omega),aC,ag hi,aa,aq hi (by omega)]) (λnext=>by
  simp only[qT];rw[ab,if_neg (by omega)]) hk]
 exact cR _
def vo (s:aj) (id:Int):aj:=⟨s.now,s.ai,s.age,J2 s.tasks id,cond (s.run==id) 0 s.run,cond (s.run==id) 0 s.left,s.turns,s.next⟩
theorem vp {s:aj} (h:SOk s) {id:Int} (hid:1<=id):(qh s id).1=vo s id:=by
 unfold qh;rw[wN h,Rs];by_cases c:0<=ki s.tasks id
 ·rw[decide_eq_true c];rfl
 rw[decide_eq_false c,cond_false]
 have hn:∀t∈s.tasks,t.id≠id:=λt ht e=>by
  unfold ki at c
  cases hf:s.tasks.findIdx? λt=>t.id==id with
  |none=>rw[SX]at hf;have:=hf t ht;simp[e]at this
  |some i=>rw[hf,Rr]at c;omega
 have ht:J2 s.tasks id=s.tasks:=SC.2 λt ht=>by simpa using hn t ht
 have hr:(s.run==id)=false:=by
  rcases h.run with⟨h1,_⟩|⟨t,g1,g2,_⟩
  ·rw[h1];simp;omega
  ·rw[<-g2];simpa using hn t g1
 unfold vo;rw[ht,hr];rfl
def Qq (r:Runtime) (id:Int):Runtime:=⟨vo r.sched id,r.al,r.ax,wP r.ae id⟩
section
variable {k:Nat} {r:Runtime} {id:Int} (hk:r.sched.tot+r.ae.length<k) (hN:r.sched.tot+r.ae.length<=aQ)
include hk hN
theorem Mb (h:SOk r.sched) (hid:1<=id):oJ k r id=some (let s:=vo r.sched id;(s.now,s.ai,s.age,s.tasks,s.run,s.left,s.turns,s.next,wP r.ae id)):=by
 have hM:=ao;unfold oJ
 refine(oU r.ae (λq=>!(q.id==id)) (λq=>q) (g:=λu5 n5=>gJ k (id,r.sched.now,r.sched.ai,r.sched.age,r.sched.run,r.sched.left,r.sched.turns,r.sched.next,r.ae,r.sched.tasks,r.al,r.ax) u5 n5 _) (fin:=_) (λi ys hi next hl=>by
  simp only[gJ];rw[ab,if_pos (by omega),aC,ag hi,aa,aa,cE (by omega),aq hi (by omega)]
  rfl) (λys next=>by
  simp only[gJ];rw[ab,if_neg (by omega)]) (by omega)).trans ?_
 simp only[TL,qi (show r.sched.tot<k by omega) (show r.sched.tot<=aQ by omega),aa,decide_true,cond_true];have:=vp h hid;rw[<-this];unfold qh wP;cases(ba r.sched&&decide (0<=ki r.sched.tasks id))<;>rfl
theorem Bq (h:SOk r.sched) (hid:1<=id):j7 k r id=some (let s:=vo r.sched id;(s.now,s.ai,s.age,s.tasks,s.run,s.left,s.turns,s.next,wP r.ae id)):=by
 have hM:=ao;unfold j7
 refine(oU r.ae (λq=>!(q.id==id)) (λq=>q) (g:=λu5 n5=>fK k (id,r.sched.now,r.sched.ai,r.sched.age,r.sched.run,r.sched.left,r.sched.turns,r.sched.next,r.sched.tasks,r.al,r.ax,r.ae) u5 n5 _) (fin:=_) (λi ys hi next hl=>by
  simp only[fK];rw[ab,if_pos (by omega),ab,if_pos (by omega),Rm,ag hi,aa,ab,if_pos (by omega),aa,cE (by omega),aq hi (by omega)]
  rfl) (λys next=>by
  simp only[fK];rw[ab,if_neg (by omega)]) (by omega)).trans ?_
 simp only[TL,qi (show r.sched.tot<k by omega) (show r.sched.tot<=aQ by omega),aa,decide_true,cond_true];have:=vp h hid;rw[<-this];unfold qh wP;cases(ba r.sched&&decide (0<=ki r.sched.tasks id))<;>rfl
omit hk hN in
theorem JQ {zs:List dE} {a b c d e f g:Int} {ms:List Model} {ls:List Bool} {rs:List Request} (hk:zs.length<k) (hN:zs.length<=aQ):de k a b c zs d e f g ms ls rs id=some (zs.filter λz=>!(z.id==id),cond (d==id) 0 d,cond (d==id) 0 e):=by
 unfold de;rw[o7 hk hN,aa];simp only[decide_true,cond_true];cases d==id<;>rfl
theorem E6:dL k r id=some (let s:=vo r.sched id;(⟨4,id,0,sw⟩,s.tasks,s.run,s.left,wP r.ae id)):=by
 have hlen:=bu Task.tot r.sched.tasks;have hst:r.sched.tot=fy Task.tot r.sched.tasks+0:=rfl;unfold dL;rw[ra,aa,JQ (by rw[ez];omega) (by rw[ez];omega),aa];simp only;rw[mJ,cond_true,oV r.sched.tasks (λt=>!(t.id==id)) (λz=>!(z.id==id)) (λn t=>rfl),aa,zv (by omega) (by omega),aa];simp only[decide_true,cond_true];rfl
end
end
set_option maxRecDepth 100000
set_option maxHeartbeats 4000000
section
structure NN (q:Request) (t:Task):Prop where
 id:q.id=t.id
 job:ua q.job=true
 at_:q.job.at_=t.at_
 av:bq q.job.model=t.av
 tot:q.job.model.tot<=8002000
inductive Lk:List Request->List Task->Prop
 |nil:Lk [] []
 |cons {q:Request} {t:Task} {qs:List Request} {ts:List Task}:NN q t->Lk qs ts->Lk (q::qs) (t::ts)
theorem Lk.len:∀{qs:List Request} {ts:List Task},Lk qs ts->qs.length=ts.length
 |_,_,.nil=>rfl
 |_,_,.cons _ h=>by simp[h.len]
theorem Lk.off {id:Int}:∀{qs:List Request} {ts:List Task},Lk qs ts->Lk (wP qs id) (J2 ts id)
 |_,_,.nil=>.nil
 |_,_,.cons (q:=q) (t:=t) (qs:=qs) (ts:=ts) h g=>by
  have e:(q.id==id)=(t.id==id):=by rw[h.id]
  have:=g.off (id:=id);unfold wP J2 at this⊢;rw[SY,SY,e];cases(t.id==id)
  ·exact .cons h this
  ·exact this
theorem Lk.app {q:Request} {t:Task} (l:NN q t):∀{qs:List Request} {ts:List Task},Lk qs ts->Lk (qs++[q]) (ts++[t])
 |_,_,.nil=>.cons l .nil
 |_,_,.cons h g=>.cons h (g.app l)
theorem Lk.get:∀{qs:List Request} {ts:List Task},Lk qs ts->∀{i:Nat} (h1:i<qs.length) (h2:i<ts.length),NN qs[i] ts[i]
 |_,_,.nil,_,h,_=>absurd h (by simp)
 |_,_,.cons h _,0,_,_=>h
 |_,_,.cons _ g,i+1,h1,h2=>g.get (by simpa using h1) (by simpa using h2)
theorem Lk.set {q:Request} {t:Task} (l:NN q t):∀{qs:List Request} {ts:List Task},Lk qs ts->∀(i:Nat),Lk (qs.set i q) (ts.set i t)
 |_,_,.nil,_=>.nil
 |_,_,.cons _ g,0=>.cons l g
 |_,_,.cons h g,i+1=>.cons h (g.set l i)
theorem Lk.ids {qs:List Request} {ts:List Task} (h:Lk qs ts):∀q∈qs,∃t∈ts,q.id=t.id:=by
 induction h with
 |nil=>exactλq hq=>nomatch hq
 |cons l _ ih=>
  intro q hq
  rcases RI.1 hq with rfl|hq
  ·exact⟨_,RN,l.id⟩
  ·obtain⟨t,h1,h2⟩:=ih q hq;exact⟨t,RF _ h1,h2⟩
structure rf (r:Runtime):Prop where
 s:SOk r.sched
 ml:r.al.length=4
 ll:r.ax.length=4
 mod:∀m∈r.al,m.tot<=8002000
 req:Lk r.ae r.sched.tasks
theorem rf.Og {r:Runtime} (h:rf r):r.ae.length<=12:=by rw[h.req.len];exact h.s.len
theorem Ie {t:Task} (h:ir t=true):t.tot<=6:=by
 have:=(b8 h).2.1.2;unfold Task.tot;omega
theorem GX {α:Type} {t:α->Nat} {B:Nat}:∀{xs:List α},(∀x∈xs,t x<=B)->fy t xs<=xs.length*(B+1)
 |[],_=>by simp[fy]
 |x::xs,h=>by
  have h1:=h x RN;have h2:=GX (t:=t) (B:=B) (xs:=xs) λy hy=>h y (RF _ hy);rw[xO,Rw,RM];omega
theorem rf.tot {r:Runtime} (h:rf r):r.sched.tot<=84:=by
 have h1:=GX (t:=Task.tot) (B:=6) (xs:=r.sched.tasks) λt ht=>Ie (h.s.task t ht).1;have h2:=h.s.len;show fy Task.tot r.sched.tasks+0<=84;omega
theorem Br {r:Runtime} (h:rf r):∀q∈r.ae,1<=q.id:=λq hq=>by
 obtain⟨t,h1,h2⟩:=h.req.ids q hq;have:=(b8 (h.s.task t h1).1).1.1;omega
theorem Mc {s:aj} (h:SOk s) {id:Int} (hid:1<=id):SOk (vo s id):=by rw[<-vp h hid];exact L8 h id
theorem Ig {r:Runtime} (h:rf r) {id:Int} (hid:1<=id):rf (Qq r id):=⟨Mc h.s hid,h.ml,h.ll,h.mod,h.req.off⟩
def eF (r:Runtime) (x:Step):List Event× aj× List Request:=
  cond (Ic r x.a) (cond (dm (r.al.getD x.a.toNat da) x.input).2 (cond (inB x.b 0 1000000)
    (let ad:=fa r.sched (bq (dm (r.al.getD x.a.toNat da) x.input).1.model) (r.sched.now+x.b);
      cond (decide (ad.2.2=0)) ([⟨2,ad.2.1,r.sched.now+x.b,sw⟩],ad.1,r.ae++[⟨ad.2.1,x.a,(dm (r.al.getD x.a.toNat da) x.input).1,r.sched.now+x.b⟩]) (du x.kind (IntKind.i64.wrap (3+ad.2.2)),r.sched,r.ae))
    (du x.kind 8,r.sched,r.ae)) (du x.kind 3,r.sched,r.ae)) (du x.kind 1,r.sched,r.ae)
def Re (e:List Event× aj× List Request):List Event× Int× Int× Int× List Task× Int× Int× Int× Int× List Request:=(e.1,e.2.1.now,e.2.1.ai,e.2.1.age,e.2.1.tasks,e.2.1.run,e.2.1.left,e.2.1.turns,e.2.1.next,e.2.2)
section
variable {k:Nat} {r:Runtime} {x:Step} (h:rf r) (hk:20000000<=k) (hx:x.input.tot<=2000000)
include h hk hx
theorem GY:kV k r x=some (Re (eF r x)):=by
 have hM:=ao;have hq:=h.Og;have ht:=h.tot;have hnow:=h.s.now;unfold kV eF bB Ic;rw[cF,aa];cases c1:inB x.a 0 3
 ·simp only[RL,cond_true,aa,decide_true,R8,cond_false];rfl
 have c1':=of_decide_eq_true c1;have hlo:=h.ll;have hmo:=h.ml
 have hi:x.a.toNat<r.ax.length:=by omega
 have hi2:x.a.toNat<r.al.length:=by omega
 simp only[Rq,cond_false,Rs];rw[decide_eq_true (by omega),cond_true,ag hi,aa,bE hi];cases c2:r.ax[x.a.toNat]
 ·simp only[RL,cond_true,aa,decide_true,cond_false];rfl
 simp only[Rq,cond_false,cond_true];rw[decide_eq_true (by omega),cond_true,ag hi2,aa,bE hi2];have hmt:=h.mod _ (Rp hi2);generalize hm:r.al[x.a.toNat]=m at hmt;have hjt:=vN m x.input;rw[CB (by omega) (by omega),aa];cases c3:(dm m x.input).2
 ·simp only[RL,cond_true,aa,decide_true,cond_false];rfl
 simp only[Rq,cond_false,cond_true];rw[qd,aa];cases c4:inB x.b 0 1000000
 ·simp only[RL,cond_true,aa,decide_true,cond_false];rfl
 have c4':=of_decide_eq_true c4;simp only[Rq,cond_false,cond_true];rw[aH (n:=r.sched.now+x.b) (by omega) (by omega)];generalize hj:(dm m x.input).1=j at hjt
 have hjm:j.model.tot<=j.tot:=by unfold Job.tot;omega
 have hcl:=jq j.model;have hcl2:=bu ay.tot j.model.ar;have hcl3:j.model.tot=fy ay.tot j.model.ar+0:=rfl;rw[kg (by omega) (by omega),aa,JH (by omega) (by omega),aa,nF];generalize fa r.sched (bq j.model) (r.sched.now+x.b)=ad;by_cases c5:ad.2.2=0
 ·rw[decide_eq_true c5];simp only[cond_true]
  have hlen:(r.ae++[(⟨ad.2.1,x.a,j,r.sched.now+x.b⟩:Request)]).length=r.ae.length+1:=by simp
  rw[cE (by omega),hlen,aH (by omega) (by omega),decide_eq_true (by omega),cond_true,show(((r.ae.length+1:Nat):Int)-1).toNat=r.ae.length from by omega,Rn (RE _),Nat.sub_self];simp only[Te,aa,decide_true,cond_true];rfl
 ·rw[decide_eq_false c5];simp only[cond_true,aa,decide_true,cond_false];rfl
theorem GZ:fi k r x=some (Re (eF r x)):=by
 have hM:=ao;have hq:=h.Og;have ht:=h.tot;have hnow:=h.s.now;have hlo:=h.ll;have hmo:=h.ml;unfold fi eF dH;rw[tV h.ll,aa];cases c0:Ic r x.a
 ·simp only[RL,cond_true,aa,decide_true,R8,cond_false];rfl
 have c1':=of_decide_eq_true (Sl.1 c0).1
 have hi2:x.a.toNat<r.al.length:=by omega
 simp only[Rq,cond_false,cond_true];rw[decide_eq_true (by omega),cond_true,ag hi2,aa,bE hi2];have hmt:=h.mod _ (Rp hi2);generalize hm:r.al[x.a.toNat]=m at hmt;have hjt:=vN m x.input;rw[CC (by omega) (by omega),aa];cases c3:(dm m x.input).2
 ·simp only[RL,cond_true,aa,decide_true,cond_false];rfl
 simp only[Rq,cond_false,cond_true];rw[sr,aa];cases c4:inB x.b 0 1000000
 ·simp only[RL,cond_true,aa,decide_true,cond_false];rfl
 have c4':=of_decide_eq_true c4;simp only[Rq,cond_false,cond_true];rw[aH (n:=r.sched.now+x.b) (by omega) (by omega)];generalize hj:(dm m x.input).1=j at hjt
 have hjm:j.model.tot<=j.tot:=by unfold Job.tot;omega
 have hcl:=jq j.model;have hcl2:=bu ay.tot j.model.ar;have hcl3:j.model.tot=fy ay.tot j.model.ar+0:=rfl;rw[kh (by omega) (by omega),aa,JI (by omega) (by omega),aa,nF];generalize fa r.sched (bq j.model) (r.sched.now+x.b)=ad;by_cases c5:ad.2.2=0
 ·rw[decide_eq_true c5];simp only[cond_true];rw[cE (by omega)];simp only[aa,decide_true,cond_true];rfl
 ·rw[decide_eq_false c5];simp only[cond_true,aa,decide_true,cond_false];rfl
end
end
set_option maxRecDepth 100000
set_option maxHeartbeats 4000000
section
theorem SOk.tot {s:aj} (h:SOk s):s.tot<=84:=by
 have h1:=GX (t:=Task.tot) (B:=6) (xs:=s.tasks) λt ht=>Ie (h.task t ht).1;have h2:=h.len;show fy Task.tot s.tasks+0<=84;omega
theorem Ih (rs:List Request) (id:Int):(wP rs id).length<=rs.length:=Tb _ _
def zX (id:Int):Event:=⟨4,id,0,sw⟩
def vq (a:Int):List Request->List Event->aj->List Request->List Event× aj× List Request
 |[],e,s,rs=>(e,s,rs)
 |q::qs,e,s,rs=>cond (q.model==a) (vq a qs (e++[zX q.id]) (vo s q.id) (wP rs q.id)) (vq a qs e s rs)
theorem zx (a:Int) (ms:List Model) (ls:List Bool):∀(qs:List Request) (e:List Event) (s:aj) (rs:List Request),(∀q∈qs,1<=q.id)->rf ⟨s,ms,ls,rs⟩->rf ⟨(vq a qs e s rs).2.1,ms,ls,(vq a qs e s rs).2.2⟩/\(vq a qs e s rs).1.length<=e.length+qs.length
 |[],e,s,rs,_,h=>⟨h,RE _⟩
 |q::qs,e,s,rs,hq,h=>by
  unfold vq;cases q.model==a
  ·have:=zx a ms ls qs e s rs (λx hx=>hq x (RF _ hx)) h;exact⟨this.1,SJ this.2 (by simp)⟩
  ·have:=zx a ms ls qs (e++[zX q.id]) (vo s q.id) (wP rs q.id) (λx hx=>hq x (RF _ hx)) (Ig h (hq q RN));exact⟨this.1,SJ this.2 (by simp;omega)⟩
inductive kq:List Int->List Event->List Int->Prop
 |nil {ids:List Int}:kq ids [] ids
 |other {ids ids':List Int} {e:Event} {es:List Event}:e.kind≠2->e.kind≠3->e.kind≠4->kq ids es ids'->kq ids (e::es) ids'
 |ends {ids ids':List Int} {e:Event} {es:List Event}:e.kind=3\/e.kind=4->e.a∈ids->(e.kind=3->e.out.okB=true)->kq (ids.filter λi=>!(i==e.a)) es ids'->kq ids (e::es) ids'
theorem kq.app {a b c:List Int} {e f:List Event} (h:kq a e b) (g:kq b f c):kq a (e++f) c:=by
 induction h with
 |nil=>exact g
 |other h1 h2 h3 _ ih=>exact .other h1 h2 h3 (ih g)
 |ends h1 h2 h3 _ ih=>exact .ends h1 h2 h3 (ih g)
def o8 (rs:List Request):List Int:=rs.map λq=>q.id
theorem wQ (rs:List Request) (id:Int):o8 (wP rs id)=(o8 rs).filter λi=>!(i==id):=by
 unfold o8 wP;rw[List.filter_map];rfl
theorem Lk.Rf {qs:List Request} {ts:List Task} (h:Lk qs ts):o8 qs=ts.map λt=>t.id:=by
 induction h with
 |nil=>rfl
 |cons l _ ih=>unfold o8 at ih⊢;rw[RZ,RZ,ih,l.id]
theorem rf.inc {r:Runtime} (h:rf r):(o8 r.ae).Pairwise (·<·):=by
 rw[h.req.Rf,List.pairwise_map];exact h.s.ids
theorem rf.lt {r:Runtime} (h:rf r):∀i∈o8 r.ae,1<=i/\i<r.sched.next:=by
 rw[h.req.Rf];intro i hi;obtain⟨t,ht,rfl⟩:=Tp.1 hi;have:=h.s.task t ht;exact⟨(b8 this.1).1.1,this.2.1⟩
theorem zy (a:Int):∀(qs:List Request) (e:List Event) (s:aj) (rs:List Request),(o8 qs).Pairwise (·<·)->(∀i∈o8 qs,i∈o8 rs)->∃d,(vq a qs e s rs).1=e++d/\kq (o8 rs) d (o8 (vq a qs e s rs).2.2)
 |[],e,s,rs,_,_=>⟨[],by simp[vq],.nil⟩
 |q::qs,e,s,rs,hp,hm=>by
  unfold vq;have hp':=TE.1 hp;cases q.model==a
  ·exact zy a qs e s rs hp'.2 λi hi=>hm i (RF _ hi)
  ·obtain⟨d,h1,h2⟩:=zy a qs (e++[zX q.id]) (vo s q.id) (wP rs q.id) hp'.2 λi hi=>by
    rw[wQ,Sd];have:q.id<i:=hp'.1 i hi;exact⟨hm i (RF _ hi),by simp;omega⟩
   refine⟨zX q.id::d,by rw[cond_true,h1,RH];rfl,.ends (.inr rfl) (hm _ RN) (λh=>absurd h (show¬(4:Int)=3 by decide)) ?_⟩;rw[wQ]at h2;exact h2
section
variable {k:Nat} (hk:20000000<=k)
include hk
theorem vr {R:Type} {orig:List Request} {a q1 q2 q4 q5 q6:Int} {q3 q7:List Int} {ms:List Model} {ls:List Bool} {fin:Int× Int× Int× Int× Int× Int× Int× List Event× List Task× List Request->Option R}:∀(qs pre:List Request) (e:List Event) (s:aj) (rs:List Request) (kf:Nat),qs.length<kf->orig=pre++qs->orig.length<=12->e.length+qs.length<=100->(∀q∈qs,1<=q.id)->SOk s->rs.length<=12->
  iter (λu10 n10=>cK k (orig,q1,a,q2,q3,q4,q5,q6,q7,ms,ls) u10 n10 fin) kf ((pre.length:Int),s.now,s.ai,s.age,s.run,s.left,s.turns,s.next,e,s.tasks,rs)=
   (let y:=vq a qs e s rs;fin (y.2.1.now,y.2.1.ai,y.2.1.age,y.2.1.run,y.2.1.left,y.2.1.turns,y.2.1.next,y.1,y.2.1.tasks,y.2.2))
 |_,_,_,_,_,0,h,_,_,_,_,_,_=>by omega
 |[],pre,e,s,rs,kf+1,_,ho,hl,_,_,_,_=>by
  rw[aG];show cK k _ _ _ fin=_;unfold cK;simp only
  rw[decide_eq_false (by rw[ho];simp)];rfl
 |q::qs,pre,e,s,rs,kf+1,hkf,ho,hl,he,hq,hs,hr=>by
  have hM:=ao;simp only[Rw]at hkf he
  have hol:orig.length=pre.length+(qs.length+1):=by rw[ho];simp
  have hat:idx orig (pre.length:Int)=some q:=by rw[aC,ho];simp
  have hst:=hs.tot;rw[aG];unfold vq;cases c:q.model==a
  ·have st:∀next,cK k (orig,q1,a,q2,q3,q4,q5,q6,q7,ms,ls) ((pre.length:Int),s.now,s.ai,s.age,s.run,s.left,s.turns,s.next,e,s.tasks,rs) next fin=next (((pre++[q]).length:Int),s.now,s.ai,s.age,s.run,s.left,s.turns,s.next,e,s.tasks,rs):=λnext=>by
    unfold cK;simp only;rw[decide_eq_true (by omega),cond_true,hat,aa,c,cond_false,aH (by omega) (by omega),Rz];rfl
   exact(st _).trans (vr qs (pre++[q]) e s rs kf (by omega) (by rw[ho];simp) hl (by omega) (λx hx=>hq x (RF _ hx)) hs hr)
  ·have st:∀next,cK k (orig,q1,a,q2,q3,q4,q5,q6,q7,ms,ls) ((pre.length:Int),s.now,s.ai,s.age,s.run,s.left,s.turns,s.next,e,s.tasks,rs) next fin=next (((pre++[q]).length:Int),(vo s q.id).now,(vo s q.id).ai,(vo s q.id).age,(vo s q.id).run,(vo s q.id).left,(vo s q.id).turns,(vo s q.id).next,e++[zX q.id],(vo s q.id).tasks,wP rs q.id):=λnext=>by
    unfold cK;simp only;rw[decide_eq_true (by omega),cond_true,hat,aa,c,cond_true,aa,Mb (k:=k) (r:=⟨s,ms,ls,rs⟩) (by show s.tot+rs.length<k;omega) (by show s.tot+rs.length<=aQ;omega) hs (hq q RN),aa,aa,cE (by omega),aH (by omega) (by omega),Rz];rfl
   exact(st _).trans (vr qs (pre++[q]) (e++[zX q.id]) (vo s q.id) (wP rs q.id) kf (by omega) (by rw[ho];simp) hl (by simp;omega) (λx hx=>hq x (RF _ hx)) (Mc hs (hq q RN)) (SJ (Ih _ _) hr))
theorem vt {R:Type} {orig:List Request} {a n p1 p2 p3 p4 p5 q1 q2 q4 q5 q6:Int} {q3 q7:List Int} {ms:List Model} {ls:List Bool} {fin:Int× Int× List Event× List Task× List Request->Option R}:∀(qs pre:List Request) (e:List Event) (s:aj) (rs:List Request) (kf:Nat),qs.length<kf->orig=pre++qs->n=orig.length->orig.length<=12->e.length+qs.length<=100->(∀q∈qs,1<=q.id)->SOk s->rs.length<=12->s.now=p1->s.ai=p2->s.age=p3->s.turns=p4->s.next=p5->
  iter (λu7 n7=>bo k (n,p1,p2,p3,p4,p5,q1,a,q2,q3,q4,q5,q6,q7,orig,ms,ls) u7 n7 fin) kf ((pre.length:Int),s.run,s.left,e,s.tasks,rs)=
   (let y:=vq a qs e s rs;fin (y.2.1.run,y.2.1.left,y.1,y.2.1.tasks,y.2.2))
 |_,_,_,_,_,0,h,_,_,_,_,_,_,_,_,_,_,_,_=>by omega
 |[],pre,e,s,rs,kf+1,_,ho,hn,hl,_,_,_,_,_,_,_,_,_=>by
  rw[aG];show bo k _ _ _ fin=_;unfold bo;simp only
  rw[decide_eq_false (by rw[hn,ho];simp)];rfl
 |q::qs,pre,e,s,rs,kf+1,hkf,ho,hn,hl,he,hq,hs,hr,e1,e2,e3,e4,e5=>by
  have hM:=ao;simp only[Rw]at hkf he
  have hol:orig.length=pre.length+(qs.length+1):=by rw[ho];simp
  have hat:orig[(pre.length:Int).toNat]? =some q:=by rw[Rm,ho];simp
  have hst:=hs.tot;rw[aG];unfold vq;cases c:q.model==a
  ·have st:∀next,bo k (n,p1,p2,p3,p4,p5,q1,a,q2,q3,q4,q5,q6,q7,orig,ms,ls) ((pre.length:Int),s.run,s.left,e,s.tasks,rs) next fin=next (((pre++[q]).length:Int),s.run,s.left,e,s.tasks,rs):=λnext=>by
    unfold bo;simp only;rw[decide_eq_true (by omega),cond_true,decide_eq_true (by omega),cond_true,hat,aa,c,cond_false,aH (by omega) (by omega),Rz];rfl
   exact(st _).trans (vt qs (pre++[q]) e s rs kf (by omega) (by rw[ho];simp) hn hl (by omega) (λx hx=>hq x (RF _ hx)) hs hr e1 e2 e3 e4 e5)
  ·have st:∀next,bo k (n,p1,p2,p3,p4,p5,q1,a,q2,q3,q4,q5,q6,q7,orig,ms,ls) ((pre.length:Int),s.run,s.left,e,s.tasks,rs) next fin=next (((pre++[q]).length:Int),(vo s q.id).run,(vo s q.id).left,e++[zX q.id],(vo s q.id).tasks,wP rs q.id):=λnext=>by
    subst e1 e2 e3 e4 e5;unfold bo;simp only;rw[decide_eq_true (by omega),cond_true,decide_eq_true (by omega),cond_true,hat,aa,c,cond_true,E6 (k:=k) (r:=⟨s,ms,ls,rs⟩) (by show s.tot+rs.length<k;omega) (by show s.tot+rs.length<=aQ;omega),aa,cE (by omega),aH (by omega) (by omega),Rz];rfl
   exact(st _).trans (vt qs (pre++[q]) (e++[zX q.id]) (vo s q.id) (wP rs q.id) kf (by omega) (by rw[ho];simp) hn hl (by simp;omega) (λx hx=>hq x (RF _ hx)) (Mc hs (hq q RN)) (SJ (Ih _ _) hr) e1 e2 e3 e4 e5)
end
def eG (r:Runtime) (x:Step):List Event× Runtime:=
 cond (Ic r x.a) (let y:=vq x.a r.ae [] r.sched r.ae;(y.1++[⟨1,x.a,0,sw⟩],⟨y.2.1,r.al.set x.a.toNat da,r.ax.set x.a.toNat false,y.2.2⟩)) (du x.kind 1,r)
theorem vu (a:Int):∀(qs:List Request) (e:List Event) (s:aj) (rs:List Request),(vq a qs e s rs).2.1.now=s.now/\(vq a qs e s rs).2.1.ai=s.ai/\(vq a qs e s rs).2.1.age=s.age/\(vq a qs e s rs).2.1.turns=s.turns/\(vq a qs e s rs).2.1.next=s.next
 |[],e,s,rs=>⟨rfl,rfl,rfl,rfl,rfl⟩
 |q::qs,e,s,rs=>by
  unfold vq;cases q.model==a
  ·exact vu a qs e s rs
  ·exact vu a qs (e++[zX q.id]) (vo s q.id) (wP rs q.id)
section
variable {k:Nat} {r:Runtime} {x:Step} (h:rf r) (hk:20000000<=k)
include h hk
theorem G1:kU k r x=some (let e:=eG r x;(e.1,e.2.sched.now,e.2.sched.ai,e.2.sched.age,e.2.sched.tasks,e.2.sched.run,e.2.sched.left,e.2.sched.turns,e.2.sched.next,e.2.al,e.2.ax,e.2.ae)):=by
 have hM:=ao;have hq:=h.Og;have hlo:=h.ll;have hmo:=h.ml;unfold kU eG bB Ic;rw[cF,aa];cases c1:inB x.a 0 3
 ·rfl
 have c1':=of_decide_eq_true c1
 have hi:x.a.toNat<r.ax.length:=by omega
 simp only[Rq,cond_false,Rs];rw[decide_eq_true (by omega),cond_true,ag hi,aa,bE hi];cases c2:r.ax[x.a.toNat]
 ·rfl
 simp only[Rq,cond_false,cond_true];have hu:=zx x.a r.al r.ax r.ae [] r.sched r.ae (Br h) h;refine(vr hk r.ae [] [] r.sched r.ae k (by omega) rfl hq (by simp;omega) (Br h) h.s hq).trans ?_;generalize vq x.a r.ae [] r.sched r.ae=y at hu;have:=hu.2;simp only[RY]at this;simp only;rw[decide_eq_true (by omega),cond_true,cE (by omega)];rfl
theorem G2:fh k r x=some (let e:=eG r x;(e.1,e.2.sched.tasks,e.2.sched.run,e.2.sched.left,e.2.al,e.2.ax,e.2.ae))/\(eG r x).2.sched.now=r.sched.now/\(eG r x).2.sched.ai=r.sched.ai/\(eG r x).2.sched.age=r.sched.age/\(eG r x).2.sched.turns=r.sched.turns/\(eG r x).2.sched.next=r.sched.next:=by
 have hM:=ao;have hq:=h.Og;have hlo:=h.ll;have hmo:=h.ml;unfold fh eG dH;rw[tV h.ll,aa];cases c0:Ic r x.a
 ·simp only[RL,cond_true,aa,decide_true,cond_false];exact⟨rfl,trivial,trivial,trivial,trivial,trivial⟩
 have c1':=of_decide_eq_true (Sl.1 c0).1;simp only[Rq,cond_false,cond_true]
 have hc:bU k r.ae=some r.ae:=by
  unfold bU;rw[cE (by simp;omega)];simp only[decide_true,cond_true,SL]
  cases r.ae with
  |nil=>exact xZ _
  |cons=>rfl
 have hkp:=vu x.a r.ae [] r.sched r.ae;refine⟨?_,hkp⟩;rw[hc,aa];have hu:=zx x.a r.al r.ax r.ae [] r.sched r.ae (Br h) h;refine(vt hk r.ae [] [] r.sched r.ae k (by omega) rfl rfl hq (by simp;omega) (Br h) h.s hq rfl rfl rfl rfl rfl).trans ?_;generalize vq x.a r.ae [] r.sched r.ae=y at hu;have:=hu.2;simp only[RY]at this;simp only;rw[decide_eq_true (by omega),cond_true,decide_eq_true (by omega),cond_true,cE (by omega)];simp only[decide_true,cond_true];rfl
end
end
set_option maxRecDepth 100000
set_option maxHeartbeats 4000000
section
section
variable {k:Nat}
theorem NP (s:aj) (ms:List Model) (ls:List Bool) (rs:List Request):gf k s.now s.ai s.age s.tasks s.run s.left s.turns s.next ms ls rs=ed k s:=by
 unfold gf ed;simp only[decide_true,cond_true]
theorem Pv (a b c d e f g id:Int) (zs:List dE) (ms:List Model) (ls:List Bool) (rs:List Request):de k a b c zs d e f g ms ls rs id=dv k a b c zs d e f g id:=by
 unfold de dv;simp only[decide_true,cond_true]
theorem Pw (s:aj) (ms:List Model) (ls:List Bool) (rs:List Request) (st:Bool):fo k s.now s.ai s.age s.tasks s.run s.left s.turns s.next ms ls rs st=fJ k s st:=by
 unfold fo fJ;rw[NP];simp only[Pv,decide_true,cond_true]
theorem Px {s:aj} (h:SOk s) (hn:s.now≠1000000) (hk:1000<k) (st:Bool) (ms:List Model) (ls:List Bool) (rs:List Request):
  fo k s.now s.ai s.age s.tasks s.run s.left s.turns s.next ms ls rs st=some (((fj s st).2.1,(fj s st).2.2),(fj s st).1.now,(fj s st).1.tasks,(fj s st).1.run,(fj s st).1.left,(fj s st).1.turns)/\
   (fj s st).1.ai=s.ai/\(fj s st).1.age=s.age/\(fj s st).1.next=s.next:=by
 have hM:=ao;have ht:=h.tot;have e:=zW (k:=k) (s:=s) (st:=st) (by omega) (by omega);unfold sb at e;rw[jr (by omega) (by omega),aa,kj (by omega) (by omega),aa,wN h,bG,if_neg hn]at e;simp only[Rq,cond_false]at e;rw[Pw]
 cases hm:fJ k s st with
 |none=>rw[hm]at e;exact nomatch e
 |some r3=>
  rw[hm]at e;have e:=SK e;rw[<-e];exact⟨rfl,rfl,rfl,rfl⟩
inductive Ii (s:aj):aj× Int× Bool->Prop
 |rest {u:aj}:u.tasks=s.tasks->Ii s (u,0,false)
 |next {u:aj} {pre post:List Task} {t:Task}:s.tasks=pre++t::post->(∀v∈pre,v.id≠t.id)->1<=t.id->t.at_+1<t.av.length->u.tasks=pre++qj t::post->Ii s (u,t.id,false)
 |done {u:aj} {pre post:List Task} {t:Task}:s.tasks=pre++t::post->(∀v∈pre,v.id≠t.id)->(∀v∈post,v.id≠t.id)->1<=t.id->t.at_<t.av.length->u.tasks=pre++post->u.run=0->Ii s (u,t.id,true)
theorem Qr {s:aj} (h:SOk s) (st:Bool):Ii s (fj s st):=by
 by_cases hn:s.now=1000000
 ·rw[wO hn];exact .rest rfl
 cases st
 ·rcases E3 h hn with⟨_,_,_,e⟩|⟨t,L,tr,T,_⟩
  ·rw[e];exact .rest rfl
  ·obtain⟨pre,post,e,h1,h2,h3,h4,h5⟩:=Ia h.ids T.mem;have hb:=b8 (h.task t T.mem).1
   have n1:∀u∈pre,u.id≠t.id:=λu hu=>by have:=h1 u hu;omega
   have n2:∀u∈post,u.id≠t.id:=λu hu=>by have:=h2 u hu;omega
   rw[T.eq,Bo e n1 n2];by_cases c1:L-1>0
   ·rw[if_pos c1];exact .rest rfl
   rw[if_neg c1];by_cases c2:t.at_+1<t.av.length
   ·rw[if_pos c2];exact .next e n1 hb.1.1 c2 rfl
   ·rw[if_neg c2];exact .done e n1 n2 hb.1.1 hb.2.2.1.2 rfl rfl
 ·rw[vW h hn];exact .rest rfl
end
inductive Tr (st:Bool):Nat->aj->List Event->aj->Prop
 |nil {s:aj}:Tr st 0 s [] s
 |tick {n:Nat} {s s' u:aj} {d e:List Event}:s'=(fj s st).1->(d=[]/\(fj s st).2.2=false\/∃t,d=[⟨3,(fj s st).2.1,s'.now,t⟩]/\(fj s st).2.2=true)->Tr st n s' e u->Tr st (n+1) s (d++e) u
theorem Lk.split {t:Task}:∀{pre post:List Task} {qs:List Request},Lk qs (pre++t::post)->∃qp q qo,qs=qp++q::qo/\Lk qp pre/\NN q t/\Lk qo post
 |[],post,_,.cons (q:=q) (qs:=qs) h g=>⟨[],q,qs,rfl,.nil,h,g⟩
 |p::pre,post,_,.cons (q:=q) (qs:=qs) h g=>by
  obtain⟨qp,q',qo,e,h1,h2,h3⟩:=g.split (pre:=pre);exact⟨q::qp,q',qo,by rw[e];rfl,.cons h h1,h2,h3⟩
theorem Lk.join {ts:List Task} {ro:List Request} (g:Lk ro ts):∀{rs:List Request} {us:List Task},Lk rs us->Lk (rs++ro) (us++ts)
 |_,_,.nil=>g
 |_,_,.cons h f=>.cons h (g.join f)
theorem Lk.ne {id:Int}:∀{qs:List Request} {ts:List Task},Lk qs ts->(∀v∈ts,v.id≠id)->∀q∈qs,q.id≠id:=λ{qs ts} h hn q hq=>by
 obtain⟨t,h1,h2⟩:=h.ids q hq;rw[h2];exact hn t h1
theorem Ij {id:Int} {q:Request} (hq:q.id=id):∀{qp qo:List Request},(∀v∈qp,v.id≠id)->((qp++q::qo).findIdx? λq=>q.id==id)=some qp.length
 |[],qo,_=>by rw[SL,TD,hq];simp
 |p::qp,qo,h=>by
  have h1:=h p RN;rw[SP,TD,show(p.id==id)=false from by simpa using h1,Ij hq λv hv=>h v (RF _ hv)];simp
theorem Md {id:Int} {q:Request} (hq:q.id=id) {qp qo:List Request} (h1:∀v∈qp,v.id≠id) (h2:∀v∈qo,v.id≠id):wP (qp++q::qo) id=qp++qo:=by
 unfold wP;rw[S8,SY,hq];simp only[beq_self_eq_true,Rq,SM,if_false];rw[SC.2 λv hv=>by simpa using h1 v hv,SC.2 λv hv=>by simpa using h2 v hv]
theorem sx {q:Request} {t:Task} (l:NN q t) (hc:t.at_<t.av.length):ua (vk q.job)=true/\q.job.at_≠(q.job.model.ar.length:Int)/\NN ⟨q.id,q.model,vk q.job,q.due⟩ (qj t):=by
 have hl:=ik (iT l.job).1;rw[l.av]at hl
 have hne:q.job.at_≠(q.job.model.ar.length:Int):=by rw[l.at_];omega
 have hs:=LR l.job hne;refine⟨hs,hne,⟨l.id,hs,?_,l.av,l.tot⟩⟩;show(vk q.job).at_=t.at_+1;rw[<-l.at_];rfl
end
set_option maxRecDepth 100000
set_option maxHeartbeats 4000000
section
def oW (q:Request):Request:=⟨q.id,q.model,vk q.job,q.due⟩
def Me (id now:Int) (t:ak):Event:=⟨3,id,now,t⟩
theorem G3 {q:Request} {t:Task} (l:NN q t):q.job.tot<=8003000:=by
 have:=(LQ l.job).2;have:=l.tot;omega
theorem tX {k:Nat} {qp qo:List Request} {q:Request} {t:Task} (l:NN q t) (hc:t.at_<t.av.length) (hk:20000000<=k):jD k qp.length (qp++q::qo)=some (qp++oW q::qo):=by
 have hM:=ao;have htt:=G3 l;obtain⟨hs,hne,_⟩:=sx l hc;generalize hj:q.job=j at*;have ht:j.tot=j.model.tot+(j.act.data.length+0+0):=rfl;have h:ua j=true:=hj▸l.job;obtain⟨hm,hat,hok,hsh,hsp⟩:=iT h;obtain⟨hlen,_⟩:=lk hm;obtain⟨hl,hlt⟩:=ES h hne
 have gm:∀(y:Request) (qs:List Request),(qp++y::qs)[qp.length]? =some y:=λy qs=>by simp
 have sm:∀(y z:Request) (qs:List Request),(qp++y::qs).set qp.length z=qp++z::qs:=λy z qs=>by simp
 unfold jD oW;simp only[gm,sm,aa,hj];rw[CQ (by omega) (by omega) h,aa];rw[rX _ hat.1,hl,aa,oS (by omega) (by omega) (by omega) (by omega) (by omega),aa,aH (n:=j.at_+1) (by omega) (by omega)];rfl
theorem qk {q:Request} {qp qo:List Request} (h:∀v∈qp,v.id≠q.id):tW (qp++q::qo) q.id=(qp.length:Int):=by
 unfold tW;rw[Ij rfl h];rfl
theorem JR {k:Nat} {qp qo:List Request} {q:Request} (hl:qp.length+qo.length<=100):bL k (qp++q::qo) (qp.length:Int) (IntKind.i64.wrap ((qp.length:Int)+1))=some (qp++qo):=by
 have hlen:(qp++q::qo).length=qp.length+qo.length+1:=by simp;omega
 have t1:(qp.length:Int).toNat=qp.length:=Rm _
 have t2:((qp.length:Int)+1).toNat=qp.length+1:=by omega
 have e1:(qp++q::qo).take (qp.length-0)=qp:=by simp
 have e2:((qp++q::qo).drop (qp.length+1)).take (qp.length+qo.length+1-(qp.length+1))=qo:=by
  rw[show qp++q::qo=(qp++[q])++qo from by simp,List.drop_left' (by simp),SS (by omega)]
 have e3:((qp++q::qo).drop (qp.length-0+(qp.length+qo.length+1-(qp.length+1)))).length=1:=by rw[Sy,hlen];omega
 have e4:qp.length-0+(qp.length+qo.length+1-(qp.length+1))=qp.length+qo.length:=by omega
 unfold bL;rw[aH (by omega) (by omega)];simp only[t1,t2,hlen,e1,e2,Rm];generalize (qp++q::qo).drop (qp.length-0+(qp.length+qo.length+1-(qp.length+1)))=z at e3;rw[e4]
 have hT:(qp++qo++z).length=qp.length+qo.length+1:=by simp[e3];omega
 rw[hT]
 rw[decide_eq_true (show(0:Int)<=((qp.length+qo.length+1:Nat):Int)/\((qp.length+qo.length+1:Nat):Int)<=((qp.length+qo.length+1:Nat):Int) by omega),cond_true,
  decide_eq_true (show(0:Int)<=(qp.length:Int)+1/\(qp.length:Int)+1<=((qp.length+qo.length+1:Nat):Int) by omega),cond_true,
  decide_eq_true (show(0:Int)<=(qp.length:Int)/\(qp.length:Int)<=((qp.length+1:Nat):Int) by omega),cond_true,bG,if_neg (by omega),
  decide_eq_true (show(0:Int)<=(qp.length:Int)/\(qp.length:Int)<=((qp.length+qo.length+1:Nat):Int) by omega),cond_true,cond_true]
 have hb:((qp.length+qo.length).ble (qp.length+qo.length+1)&&((qp.length+1+(qp.length+qo.length+1-(qp.length+1))).ble (qp.length+qo.length+1)&&Nat.ble 1 (qp.length+qo.length+1)))=true:=by
  rw[Rk,Rk,Nat.ble_eq,Nat.ble_eq,Nat.ble_eq];omega
 rw[hb,cond_true,decide_eq_true (show(0:Int)<=((qp.length+qo.length+1:Nat):Int)/\((qp.length+qo.length+1:Nat):Int)<=((qp.length+qo.length+1-0:Nat):Int) by omega),cond_true,
  decide_eq_true (show(0:Int)<=((qp.length+qo.length:Nat):Int)/\((qp.length+qo.length:Nat):Int)<=((qp.length+qo.length+1:Nat):Int) by omega),cond_true]
 congr 1
 rw[Ru,RH,SD (by rw[R2,hT];omega),List.take_take,Nat.min_self,SD (by simp),SS (by simp)]
theorem Mf {k:Nat} (hk:20000000<=k) {st:Bool} {s:aj} {ms:List Model} {ls:List Bool} {rs:List Request} {e:List Event} (h:rf ⟨s,ms,ls,rs⟩) (he:e.length<=1000) {i a:Int} (hi:0<=i) (hia:i<a) (ha:a<=200) {q1 q2 q4 q5 q6 kd p9:Int} {q3 q7:List Int} (hkd:(kd==5)=st):
  ∃(e':List Event) (s':aj) (rs':List Request),rf ⟨s',ms,ls,rs'⟩/\e'.length<=e.length+1/\(∃d,e'=e++d/\kq (o8 rs) d (o8 rs')/\s'=(fj s st).1/\(d=[]/\(fj s st).2.2=false\/∃t,d=[⟨3,(fj s st).2.1,s'.now,t⟩]/\(fj s st).2.2=true))/\(s'.ai=s.ai/\s'.age=s.age/\s'.next=s.next)/\
   (∀(R:Type) (next:_->Option R) fin,c9 k (st,q1,a,q2,q3,q4,q5,q6,q7,ms,ls) (i,s.now,s.ai,s.age,s.run,s.left,s.turns,s.next,e,s.tasks,rs) next fin=next (i+1,s'.now,s'.ai,s'.age,s'.run,s'.left,s'.turns,s'.next,e',s'.tasks,rs'))/\
   (s.now=1000000->e'=e/\s'=s/\rs'=rs)/\
   (s.now≠1000000->∀(R:Type) (next:_->Option R) fin,bj k (a,s.ai,s.age,s.next,kd,p9,q2,q3,q4,q5,q6,q7,ms,ls) (i,s.now,s.run,s.left,s.turns,e,s.tasks,rs) next fin=next (i+1,s'.now,s'.run,s'.left,s'.turns,e',s'.tasks,rs')):=by
 have hM:=ao;have ht:s.tot<=84:=SOk.tot h.s;have hq:rs.length<=12:=h.Og;have hTK:=Qr h.s st;have hok:=Pu h.s st;have hS:=zV (k:=k) (s:=s) (st:=st) (by omega) (by omega);have hI:=λhn:s.now≠1000000=>Px (k:=k) h.s hn (by omega) st ms ls rs
 have hfix:(fj s st).1.ai=s.ai/\(fj s st).1.age=s.age/\(fj s st).1.next=s.next:=by
  by_cases hn:s.now=1000000
  ·rw[wO hn];exact⟨rfl,rfl,rfl⟩
  ·exact(hI hn).2
 have hend:s.now=1000000->fj s st=(s,0,false):=λhn=>wO hn st;generalize fj s st=T at*;have hw:IntKind.i64.wrap (i+1)=i+1:=aH (by omega) (by omega);have hreq:Lk rs s.tasks:=h.req
 cases hTK with
 |rest hu=>
  rename_i u;refine⟨e,u,rs,⟨hok,h.ml,h.ll,h.mod,by show Lk rs u.tasks;rw[hu];exact hreq⟩,by omega,⟨[],by simp,.nil,rfl,.inl ⟨rfl,rfl⟩⟩,hfix,λR next fin=>?_,λhn=>?_,λhn R next fin=>?_⟩
  ·unfold c9;simp only;rw[decide_eq_true hia,cond_true,hS,aa,hw];rfl
  ·have:=congrArg Prod.fst (hend hn);exact⟨rfl,this,rfl⟩
  ·unfold bj;simp only
   rw[decide_eq_true hia,cond_true,bG,if_neg hn,hkd,(hI hn).1,aa,hw];rfl
 |next e1 n1 p1 c1 hu=>
  rename_i u pre post t;obtain⟨qp,q,qo,rfl,l1,l,l2⟩:=(e1▸hreq:Lk rs (pre++t::post)).split;have hqp:=l1.ne n1;rw[<-l.id]at hqp;obtain⟨hs,hne,l'⟩:=sx l (by omega)
  have hlen:(qp++q::qo).length=qp.length+qo.length+1:=by simp;omega
  have hq:(qp++q::qo).length<=12:=hq;have hjt:=G3 l
  have gm:∀(y:Request) (qs:List Request),(qp++y::qs)[qp.length]? =some y:=λy qs=>by simp
  have sm:∀(y z:Request) (qs:List Request),(qp++y::qs).set qp.length z=qp++z::qs:=λy z qs=>by simp
  have hz:(t.id==(0:Int))=false:=by simp;omega
  refine⟨e,u,qp++oW q::qo,⟨hok,h.ml,h.ll,h.mod,by show Lk (qp++oW q::qo) u.tasks;rw[hu];exact(Lk.cons l' l2).join l1⟩,by omega,⟨[],by simp,by unfold o8;rw[Sv,Sv];exact .nil,rfl,.inl ⟨rfl,rfl⟩⟩,hfix,λR next fin=>?_,λhn=>absurd (congrArg (λx=>x.2.1) (hend hn)) (by show¬t.id=0;omega),λhn R next fin=>?_⟩
  ·unfold c9;simp only;rw[decide_eq_true hia,cond_true,hS,aa,hz,cond_false,re (by show(qp++q::qo).length<k;omega) (by show(qp++q::qo).length<=aQ;omega),aa];simp only;rw[<-l.id,qk hqp,decide_eq_true (by omega),cond_true,Rm,gm,aa,vU (by omega) (by omega),aa,cond_true,aa,cond_false,hw,sm];unfold NH;rw[l.job,show(q.job.at_==(q.job.model.ar.length:Int))=false from by simpa using hne];rfl
  ·unfold bj;simp only;rw[decide_eq_true hia,cond_true,bG,if_neg hn,hkd,(hI hn).1,aa];simp only;rw[hz,cond_false,vn (by show(qp++q::qo).length<k;omega) (by show(qp++q::qo).length<=aQ;omega),aa];simp only
   rw[<-l.id,qk hqp,decide_eq_true (by omega),cond_true,Rm,tX l (by omega) hk,aa,cond_false,hw]
 |done e1 n1 n2 p1 c1 hu hr=>
  rename_i u pre post t;obtain⟨qp,q,qo,rfl,l1,l,l2⟩:=(e1▸hreq:Lk rs (pre++t::post)).split;have hqp:=l1.ne n1;have hqo:=l2.ne n2;rw[<-l.id]at hqp hqo;obtain⟨hs,hne,l'⟩:=sx l c1
  have hlen:(qp++q::qo).length=qp.length+qo.length+1:=by simp;omega
  have hlen2:(qp++oW q::qo).length=qp.length+qo.length+1:=by simp;omega
  have hq:(qp++q::qo).length<=12:=hq;have hjt:=G3 l
  have gm:∀(y:Request) (qs:List Request),(qp++y::qs)[qp.length]? =some y:=λy qs=>by simp
  have sm:∀(y z:Request) (qs:List Request),(qp++y::qs).set qp.length z=qp++z::qs:=λy z qs=>by simp
  have hz:(t.id==(0:Int))=false:=by simp;omega
  have hut:u.tot<=84:=SOk.tot hok
  have hoff:vo u q.id=u:=by
   unfold vo;rw[hr,show((0:Int)==q.id)=false from by rw[l.id];simp;omega]
   have:J2 u.tasks q.id=u.tasks:=SC.2 λv hv=>by
    rw[hu]at hv;rw[l.id]
    rcases Sb.1 hv with hv|hv
    ·simpa using n1 v hv
    ·simpa using n2 v hv
   rw[this,<-hr];rfl
  refine⟨e++[Me q.id u.now (vk q.job).act],u,qp++qo,⟨hok,h.ml,h.ll,h.mod,by show Lk (qp++qo) u.tasks;rw[hu];exact l2.join l1⟩,by simp,⟨[Me q.id u.now (vk q.job).act],rfl,.ends (.inl rfl) (by unfold o8;simp[Me]) (λ_=>(iT l'.job).2.2.1) (by rw[show(Me q.id u.now (vk q.job).act).a=q.id from rfl,<-wQ,Md rfl hqp hqo];exact .nil),rfl,.inr ⟨(vk q.job).act,by unfold Me;rw[l.id],rfl⟩⟩,hfix,λR next fin=>?_,λhn=>absurd (congrArg (λx=>x.2.1) (hend hn)) (by show¬t.id=0;omega),λhn R next fin=>?_⟩
  ·unfold c9;simp only;rw[decide_eq_true hia,cond_true,hS,aa,hz,cond_false,re (by show(qp++q::qo).length<k;omega) (by show(qp++q::qo).length<=aQ;omega),aa];simp only;rw[<-l.id,qk hqp,decide_eq_true (by omega),cond_true,Rm,gm,aa,vU (by omega) (by omega),aa,cond_true,aa,cond_true,hw,sm];unfold NH;rw[l.job,show(q.job.at_==(q.job.model.ar.length:Int))=false from by simpa using hne];simp only[RL,Rs,cond_true];rw[Bq (k:=k) (r:=⟨u,ms,ls,qp++(⟨q.id,q.model,vk q.job,q.due⟩:Request)::qo⟩) (by show u.tot+(qp++oW q::qo).length<k;omega) (by show u.tot+(qp++oW q::qo).length<=aQ;omega) hok (by rw[l.id];exact p1),aa,cE (by omega)];simp only;rw[hoff,Md (q:=(⟨q.id,q.model,vk q.job,q.due⟩:Request)) rfl hqp hqo];rfl
  ·unfold bj;simp only;rw[decide_eq_true hia,cond_true,bG,if_neg hn,hkd,(hI hn).1,aa];simp only;rw[hz,cond_false,vn (by show(qp++q::qo).length<k;omega) (by show(qp++q::qo).length<=aQ;omega),aa];simp only;rw[<-l.id,qk hqp,decide_eq_true (by omega),cond_true,Rm,tX l c1 hk,aa,cond_true,decide_eq_true (by omega),cond_true,gm,aa,cE (by omega),JR (by omega),aa,hw];rfl
end
set_option maxRecDepth 100000
set_option maxHeartbeats 4000000
section
theorem Ik {k:Nat} (hk:20000000<=k) {st:Bool} {ms:List Model} {ls:List Bool} {a:Int} (ha:a<=200) {q1 q2 q4 q5 q6 kd p9:Int} {q3 q7:List Int} (hkd:(kd==5)=st):∀(n:Nat) (i:Int) (s:aj) (rs:List Request) (e:List Event),a=i+n->0<=i->rf ⟨s,ms,ls,rs⟩->e.length+n<=1000->
  ∃(e':List Event) (s':aj) (rs':List Request),rf ⟨s',ms,ls,rs'⟩/\e'.length<=e.length+n/\(∃d,e'=e++d/\kq (o8 rs) d (o8 rs')/\Tr st n s d s')/\(s'.ai=s.ai/\s'.age=s.age/\s'.next=s.next)/\
   (s.now=1000000->e'=e/\s'=s/\rs'=rs)/\
   (∀(R:Type) (fin:_->Option R) (kf:Nat),n<kf->iter (λu10 n10=>c9 k (st,q1,a,q2,q3,q4,q5,q6,q7,ms,ls) u10 n10 fin) kf (i,s.now,s.ai,s.age,s.run,s.left,s.turns,s.next,e,s.tasks,rs)=fin (e',s'.now,s'.ai,s'.age,s'.run,s'.left,s'.turns,s'.next,s'.tasks,rs'))/\
   (∀(R:Type) (fin:_->Option R) (kf:Nat),n<kf->iter (λu9 n9=>bj k (a,s.ai,s.age,s.next,kd,p9,q2,q3,q4,q5,q6,q7,ms,ls) u9 n9 fin) kf (i,s.now,s.run,s.left,s.turns,e,s.tasks,rs)=fin (e',s'.now,s'.run,s'.left,s'.turns,s'.tasks,rs'))
 |0,i,s,rs,e,hi,h0,h,he=>by
  refine⟨e,s,rs,h,RE _,⟨[],by simp,.nil,.nil⟩,⟨rfl,rfl,rfl⟩,λ_=>⟨rfl,rfl,rfl⟩,λR fin kf hkf=>?_,λR fin kf hkf=>?_⟩
  ·obtain⟨kf,rfl⟩:∃m,kf=m+1:=⟨kf-1,by omega⟩;rw[aG];show c9 k _ _ _ fin=_;unfold c9;simp only;rw[decide_eq_false (by omega)];rfl
  ·obtain⟨kf,rfl⟩:∃m,kf=m+1:=⟨kf-1,by omega⟩;rw[aG];show bj k _ _ _ fin=_;unfold bj;simp only
   rw[decide_eq_false (by omega)];rfl
 |n+1,i,s,rs,e,hi,h0,h,he=>by
  obtain⟨e1,s1,r1,g1,g2,⟨d1,dd1,td1,w1,w2⟩,g3,g4,g5,g6⟩:=Mf (e:=e) hk h (by omega) h0 (show i<a by omega) ha (q1:=q1) (q2:=q2) (q4:=q4) (q5:=q5) (q6:=q6) (kd:=kd) (p9:=p9) (q3:=q3) (q7:=q7) hkd;obtain⟨e2,s2,r2,f1,f2,⟨d2,dd2,td2,tr2⟩,f3,f4,f5,f6⟩:=Ik hk (ms:=ms) (ls:=ls) ha (q1:=q1) (q2:=q2) (q4:=q4) (q5:=q5) (q6:=q6) (kd:=kd) (p9:=p9) (q3:=q3) (q7:=q7) hkd n (i+1) s1 r1 e1 (by omega) (by omega) g1 (by omega);refine⟨e2,s2,r2,f1,by omega,⟨d1++d2,by rw[dd2,dd1,RH],td1.app td2,.tick w1 w2 tr2⟩,⟨f3.1.trans g3.1,f3.2.1.trans g3.2.1,f3.2.2.trans g3.2.2⟩,λhn=>?_,λR fin kf hkf=>?_,λR fin kf hkf=>?_⟩
  ·obtain⟨x1,x2,x3⟩:=g5 hn;subst x1 x2 x3;exact f4 hn
  ·obtain⟨kf,rfl⟩:∃m,kf=m+1:=⟨kf-1,by omega⟩;rw[aG];exact(g4 R _ fin).trans (f5 R fin kf (by omega))
  ·obtain⟨kf,rfl⟩:∃m,kf=m+1:=⟨kf-1,by omega⟩;rw[aG];by_cases hn:s.now=1000000
   ·obtain⟨x1,x2,x3⟩:=g5 hn;subst x1 x2 x3;obtain⟨y1,y2,y3⟩:=f4 hn;subst y1 y2 y3;show bj k _ _ _ fin=_;unfold bj;simp only;rw[decide_eq_true (by omega),cond_true,bG,if_pos hn]
   ·refine(g6 hn R _ fin).trans ?_;have:=f6 R fin kf (by omega);rw[g3.1,g3.2.1,g3.2.2]at this;exact this
def Qs (e:List Event) (r:Runtime):List Event× Int× Int× Int× List Task× Int× Int× Int× Int× List Model× List Bool× List Request:=(e,r.sched.now,r.sched.ai,r.sched.age,r.sched.tasks,r.sched.run,r.sched.left,r.sched.turns,r.sched.next,r.al,r.ax,r.ae)
structure lR (x:Step):Prop where
 byte:∀y∈x.data,okB y
 data:x.data.length<=aQ
 input:x.input.tot<=2000000
theorem Mg {r:Runtime} (h:rf r) (x:Step):rf ⟨r.sched,(rm r x).2.1,(rm r x).2.2,r.ae⟩/\(rm r x).1.length<=1:=by
 unfold rm;cases(inB x.a 0 3&&!r.ax.getD x.a.toNat false)
 ·exact⟨⟨h.s,h.ml,h.ll,h.mod,h.req⟩,by simp[du]⟩
 cases(decide ((dT x.data).2=0)&&rD (dT x.data).1)
 ·exact⟨⟨h.s,h.ml,h.ll,h.mod,h.req⟩,by simp[du]⟩
 refine⟨⟨h.s,by simp[h.ml],by simp[h.ll],λm hm=>?_,h.req⟩,by simp⟩
 rcases List.mem_or_eq_of_mem_set hm with hm|rfl
 ·exact h.mod m hm
 ·exact su _
theorem C4 {s:aj} {av:List Int} {due:Int} (h:(fa s av due).2.2=0):(fa s av due).2.1=s.next/\(fa s av due).1.tasks=s.tasks++[⟨s.next,av,0,due,s.now⟩]:=by
 unfold fa at h⊢;cases c1:(ba s&&ir ⟨s.next,av,0,due,s.now⟩)
 ·rw[c1]at h;exact absurd (show(1:Int)=0 from h) (by decide)
 rw[c1]at h;cases c2:((s.tasks.length:Int)==12||s.next==1000000)
 ·rw[c2]at h;cases c3:zg ⟨s.now,s.ai,s.age,s.tasks++[⟨s.next,av,0,due,s.now⟩],s.run,s.left,s.turns,s.next+1⟩
  ·rw[c3]at h;exact absurd (show(3:Int)=0 from h) (by decide)
  ·exact⟨rfl,rfl⟩
 ·rw[c2]at h;exact absurd (show(2:Int)=0 from h) (by decide)
theorem E7 {r:Runtime} (h:rf r) (x:Step):rf ⟨(eF r x).2.1,r.al,r.ax,(eF r x).2.2⟩/\(eF r x).1.length<=1:=by
 have same:∀c,rf ⟨(du x.kind c,r.sched,r.ae).2.1,r.al,r.ax,(du x.kind c,r.sched,r.ae).2.2⟩/\(du x.kind c,r.sched,r.ae).1.length<=1:=λc=>⟨⟨h.s,h.ml,h.ll,h.mod,h.req⟩,by simp[du]⟩;unfold eF;cases c0:Ic r x.a
 ·exact same _
 simp only[cond_true];have c1':=of_decide_eq_true (Sl.1 c0).1;have hmo:=h.ml
 have hmt:(r.al.getD x.a.toNat da).tot<=8002000:=by
  rw[bE (show x.a.toNat<r.al.length by omega)];exact h.mod _ (Rp _)
 generalize r.al.getD x.a.toNat da=m at hmt;cases c2:(dm m x.input).2
 ·exact same _
 have hj:ua ⟨m,0,x.input,0⟩=true/\(dm m x.input).1=⟨m,0,x.input,0⟩:=by
  unfold dm at c2⊢;cases c:ua ⟨m,0,x.input,0⟩
  ·rw[c]at c2;exact nomatch c2
  ·exact⟨rfl,rfl⟩
 rw[hj.2];simp only[cond_true];cases inB x.b 0 1000000
 ·exact same _
 simp only[cond_true];have ho:=NM h.s (bq m) (r.sched.now+x.b);by_cases c3:(fa r.sched (bq m) (r.sched.now+x.b)).2.2=0
 ·obtain⟨h1,h2⟩:=C4 c3;rw[decide_eq_true c3];simp only[cond_true];refine⟨⟨ho,h.ml,h.ll,h.mod,?_⟩,by simp⟩;show Lk (r.ae++[_]) (fa r.sched (bq m) (r.sched.now+x.b)).1.tasks;rw[h2];exact h.req.app ⟨h1,hj.1,rfl,rfl,hmt⟩
 ·rw[decide_eq_false c3];exact same _
theorem E8 {r:Runtime} (h:rf r) (x:Step):rf (eG r x).2/\(eG r x).1.length<=13:=by
 unfold eG;cases Ic r x.a
 ·exact⟨h,by simp[du]⟩
 have hu:=zx x.a r.al r.ax r.ae [] r.sched r.ae (Br h) h;have hq:=h.Og;refine⟨⟨hu.1.s,by simp[h.ml],by simp[h.ll],λm hm=>?_,hu.1.req⟩,?_⟩
 ·rcases List.mem_or_eq_of_mem_set hm with hm|rfl
  ·exact h.mod m hm
  ·exact RX _
 ·have:=hu.2;simp only[RY]at this;simp only[cond_true,Rz,Rw,RY];omega
theorem Mh {rs:List Request} {id:Int} (h:¬tW rs id<0):∃q∈rs,q.id=id:=by
 unfold tW at h
 cases hf:rs.findIdx? λq=>q.id==id with
 |none=>rw[hf]at h;exact absurd (show(-1:Int)<0 by decide) h
 |some i=>
  obtain⟨hi,hp,_⟩:=Sx.1 hf;exact⟨rs[i],Rp hi,by simpa using hp⟩
def rE (s:aj) (e:List Event):aj:=e.foldl (λs v=>cond (v.kind==4) (vo s v.a) s) s
def zz (r:Runtime) (x:Step) (e:List Event) (s':aj):Prop:=
 ((inB x.kind 4 5&&inB x.a 0 200)=true/\Tr (x.kind==5) x.a.toNat r.sched e s')\/
 ((inB x.kind 4 5&&inB x.a 0 200)=false/\((s'=rE r.sched e/\∀v∈e,v.kind≠3)\/∃cs due,e=[⟨2,r.sched.next,due,sw⟩]/\fa r.sched cs due=(s',r.sched.next,0)))
theorem fw (s:aj) (kd c:Int):s=rE s (du kd c)/\∀v∈du kd c,v.kind≠3:=⟨rfl,λv hv=>by rw[SN.1 hv];exact(show¬(5:Int)=3 by decide)⟩
theorem NQ (r:Runtime) (x:Step):r.sched=rE r.sched (rm r x).1/\∀v∈(rm r x).1,v.kind≠3:=by
 unfold rm;cases(inB x.a 0 3&&!r.ax.getD x.a.toNat false)
 ·exact fw _ _ _
 cases(decide ((dT x.data).2=0)&&rD (dT x.data).1)
 ·exact fw _ _ _
 ·exact⟨rfl,λv hv=>by rw[SN.1 hv];exact(show¬(0:Int)=3 by decide)⟩
theorem C5 (a:Int) (s0:aj):∀(qs:List Request) (e:List Event) (s:aj) (rs:List Request),s=rE s0 e->(∀v∈e,v.kind≠3)->(vq a qs e s rs).2.1=rE s0 (vq a qs e s rs).1/\∀v∈(vq a qs e s rs).1,v.kind≠3
 |[],e,s,rs,h1,h2=>⟨h1,h2⟩
 |q::qs,e,s,rs,h1,h2=>by
  unfold vq;cases q.model==a
  ·exact C5 a s0 qs e s rs h1 h2
  ·refine C5 a s0 qs _ _ _ (by unfold rE at h1⊢;rw[Sc,<-h1];rfl) λv hv=>?_
   rcases Sb.1 hv with hv|hv
   ·exact h2 v hv
   ·rw[SN.1 hv];exact(show¬(4:Int)=3 by decide)
theorem JS (r:Runtime) (x:Step):(eG r x).2.sched=rE r.sched (eG r x).1/\∀v∈(eG r x).1,v.kind≠3:=by
 unfold eG;cases Ic r x.a
 ·exact fw _ _ _
 obtain⟨h1,h2⟩:=C5 x.a r.sched r.ae [] r.sched r.ae rfl λv hv=>absurd hv (by simp);refine⟨?_,λv hv=>?_⟩
 ·unfold rE at h1⊢;simp only[cond_true];rw[Sc,<-h1];rfl
 ·rcases Sb.1 hv with hv|hv
  ·exact h2 v hv
  ·rw[SN.1 hv];exact(show¬(1:Int)=3 by decide)
theorem JT (r:Runtime) (x:Step):((eF r x).2.1=rE r.sched (eF r x).1/\∀v∈(eF r x).1,v.kind≠3)\/∃cs due,(eF r x).1=[⟨2,r.sched.next,due,sw⟩]/\fa r.sched cs due=((eF r x).2.1,r.sched.next,0):=by
 unfold eF;cases Ic r x.a
 ·exact .inl (fw _ _ _)
 simp only[cond_true];cases(dm (r.al.getD x.a.toNat da) x.input).2
 ·exact .inl (fw _ _ _)
 simp only[cond_true];cases inB x.b 0 1000000
 ·exact .inl (fw _ _ _)
 simp only[cond_true];generalize bq (dm (r.al.getD x.a.toNat da) x.input).1.model=cs;by_cases c3:(fa r.sched cs (r.sched.now+x.b)).2.2=0
 ·obtain⟨h1,_⟩:=C4 c3;rw[decide_eq_true c3];refine .inr ⟨cs,r.sched.now+x.b,by rw[cond_true,h1],?_⟩;rw[cond_true,<-h1,<-c3]
 ·rw[decide_eq_false c3];exact .inl (fw _ _ _)
def wR (r:Runtime) (x:Step) (e:List Event) (r':Runtime):Prop:=
 (kq (o8 r.ae) e (o8 r'.ae)/\r'.sched.next=r.sched.next)\/
 ∃due,e=[⟨2,r.sched.next,due,sw⟩]/\r'.sched.next=r.sched.next+1/\r'.ae=r.ae++[⟨r.sched.next,x.a,⟨r.al.getD x.a.toNat da,0,x.input,0⟩,due⟩]/\r'.al=r.al/\0<=x.a/\x.a<4
theorem Mi {r:Runtime} (x:Step):kq (o8 r.ae) (rm r x).1 (o8 r.ae):=by
 have ref:∀c,kq (o8 r.ae) (du x.kind c) (o8 r.ae):=λc=>.other (by simp) (by simp) (by simp) .nil;unfold rm;cases(inB x.a 0 3&&!r.ax.getD x.a.toNat false)
 ·exact ref _
 cases(decide ((dT x.data).2=0)&&rD (dT x.data).1)
 ·exact ref _
 ·exact .other (by simp) (by simp) (by simp) .nil
theorem G4 {r:Runtime} (h:rf r) (x:Step):wR r x (eF r x).1 ⟨(eF r x).2.1,r.al,r.ax,(eF r x).2.2⟩:=by
 have ref:∀c,wR r x (du x.kind c,r.sched,r.ae).1 ⟨(du x.kind c,r.sched,r.ae).2.1,r.al,r.ax,(du x.kind c,r.sched,r.ae).2.2⟩:=λc=>.inl ⟨.other (by simp) (by simp) (by simp) .nil,rfl⟩;unfold eF;cases c0:Ic r x.a
 ·exact ref _
 simp only[cond_true];have c1':=of_decide_eq_true (Sl.1 c0).1;cases c2:(dm (r.al.getD x.a.toNat da) x.input).2
 ·exact ref _
 have hj:(dm (r.al.getD x.a.toNat da) x.input).1=⟨r.al.getD x.a.toNat da,0,x.input,0⟩:=by
  unfold dm at c2⊢;cases c:ua ⟨r.al.getD x.a.toNat da,0,x.input,0⟩
  ·rw[c]at c2;exact nomatch c2
  ·rfl
 rw[hj];simp only[cond_true];cases inB x.b 0 1000000
 ·exact ref _
 simp only[cond_true];generalize hc:bq (r.al.getD x.a.toNat da)=cs;by_cases c3:(fa r.sched cs (r.sched.now+x.b)).2.2=0
 ·obtain⟨h1,h2⟩:=C4 c3;rw[decide_eq_true c3];simp only[cond_true];refine .inr ⟨r.sched.now+x.b,by rw[h1],?_,by rw[h1],rfl,c1'.1,by omega⟩
  rcases zp r.sched cs (r.sched.now+x.b)with⟨_,_,_,_,g⟩|⟨g,_⟩
  ·show(fa r.sched cs (r.sched.now+x.b)).1.next=_
   rw[g]
  ·exact(g c3).elim
 ·rw[decide_eq_false c3];exact ref _
theorem G5 {r:Runtime} (h:rf r) (x:Step):kq (o8 r.ae) (eG r x).1 (o8 (eG r x).2.ae):=by
 unfold eG;cases Ic r x.a
 ·exact .other (by simp) (by simp) (by simp) .nil
 obtain⟨d,h1,h2⟩:=zy x.a r.ae [] r.sched r.ae h.inc λi hi=>hi;simp only[cond_true];rw[h1,SL];exact h2.app (.other (by simp) (by simp) (by simp) .nil)
theorem Qt {k:Nat} (hk:20000000<=k) {r:Runtime} (h:rf r) {x:Step} (hx:lR x):∃(e:List Event) (r':Runtime),rf r'/\e.length<=1000/\wR r x e r'/\tI k r x=some (Qs e r')/\iP k r x=some (Qs e r')/\zz r x e r'.sched:=by
 have hM:=ao;have hq:=h.Og;have ht:=h.tot;unfold tI iP;simp only[bG];by_cases c0:x.kind=0
 ·simp only[if_pos c0];rw[L9 (by omega) hx.byte hx.data h.ll h.ml,Ma (by omega) hx.byte hx.data h.ll h.ml];exact⟨(rm r x).1,⟨r.sched,(rm r x).2.1,(rm r x).2.2,r.ae⟩,(Mg h x).1,by have:=(Mg h x).2;omega,.inl ⟨Mi x,rfl⟩,rfl,rfl,.inr ⟨by rw[c0];rfl,.inl (NQ r x)⟩⟩
 simp only[if_neg c0];by_cases c1:x.kind=1
 ·simp only[if_pos c1];obtain⟨i1,i2,i3,i4,i5,i6⟩:=G2 h hk (x:=x);rw[G1 h hk,i1];refine⟨(eG r x).1,(eG r x).2,(E8 h x).1,by have:=(E8 h x).2;omega,.inl ⟨G5 h x,i6⟩,rfl,?_,.inr ⟨by rw[c1];rfl,.inl (JS r x)⟩⟩;simp only[aa,Qs,i2,i3,i4,i5,i6]
 simp only[if_neg c1];by_cases c2:x.kind=2
 ·simp only[if_pos c2];rw[GY h hk hx.input,GZ h hk hx.input];exact⟨(eF r x).1,⟨(eF r x).2.1,r.al,r.ax,(eF r x).2.2⟩,(E7 h x).1,by have:=(E7 h x).2;omega,G4 h x,rfl,rfl,.inr ⟨by rw[c2];rfl,JT r x⟩⟩
 simp only[if_neg c2];by_cases c3:x.kind=3
 ·simp only[if_pos c3];unfold hJ;rw[re (by omega) (by omega),aa,vn (by omega) (by omega),aa];by_cases c:tW r.ae x.a<0
  ·rw[decide_eq_true c];unfold bB dH;simp only[cond_true,aa,decide_true];exact⟨du x.kind 7,r,h,by simp[du],.inl ⟨.other (by simp) (by simp) (by simp) .nil,rfl⟩,rfl,rfl,.inr ⟨by rw[c3];rfl,.inl (fw _ _ _)⟩⟩
  ·rw[decide_eq_false c];obtain⟨q,hq1,hq2⟩:=Mh c;have hid:1<=x.a:=hq2▸Br h q hq1;simp only[cond_false];rw[Bq (by omega) (by omega) h.s hid,E6 (by omega) (by omega)];simp only[aa,decide_true,cond_true];exact⟨[zX x.a],Qq r x.a,Ig h hid,by simp,.inl ⟨.ends (.inr rfl) (by show x.a∈o8 r.ae;unfold o8;exact Tp.2 ⟨q,hq1,hq2⟩) (λh=>absurd h (show¬(4:Int)=3 by decide)) (by show kq ((o8 r.ae).filter λi=>!(i==x.a)) [] (o8 (wP r.ae x.a));rw[wQ];exact .nil),rfl⟩,rfl,rfl,.inr ⟨by rw[c3];rfl,.inl ⟨rfl,λv hv=>by rw[SN.1 hv];exact(show¬(4:Int)=3 by decide)⟩⟩⟩
 simp only[if_neg c3]
 have run:∀(st:Bool),(x.kind==5)=st->∃(e:List Event) (s':aj) (rs':List Request),rf ⟨s',r.al,r.ax,rs'⟩/\e.length<=1000/\(kq (o8 r.ae) e (o8 rs')/\((inB x.a 0 200=true/\Tr st x.a.toNat r.sched e s')\/(inB x.a 0 200=false/\s'=rE r.sched e/\∀v∈e,v.kind≠3)))/\(s'.ai=r.sched.ai/\s'.age=r.sched.age/\s'.next=r.sched.next)/\
   j8 k r x st=some (e,s'.now,s'.ai,s'.age,s'.tasks,s'.run,s'.left,s'.turns,s'.next,rs')/\fq k r x=some (e,s'.now,s'.tasks,s'.run,s'.left,s'.turns,rs'):=λst hst=>by
  unfold j8 fq bB dH;rw[cF,aa,fA,aa];cases c:inB x.a 0 200
  ·simp only[RL,cond_true,aa,decide_true];exact⟨du x.kind 8,r.sched,r.ae,h,by simp[du],⟨.other (by simp) (by simp) (by simp) .nil,.inr ⟨by first|rfl|trivial,fw _ _ _⟩⟩,⟨rfl,rfl,rfl⟩,rfl,rfl⟩
  have c':=of_decide_eq_true c;simp only[Rq,cond_false,decide_true,cond_true];obtain⟨e,s',rs',g1,g2,⟨d,dd,td,tr⟩,g3,_,g5,g6⟩:=Ik hk (st:=st) (ms:=r.al) (ls:=r.ax) (a:=x.a) (by omega) (q1:=x.kind) (q2:=x.b) (q4:=x.input.sh.h) (q5:=x.input.sh.w) (q6:=x.input.sh.c) (kd:=x.kind) (p9:=x.a) (q3:=x.data) (q7:=x.input.data) hst x.a.toNat 0 r.sched r.ae [] (by omega) (by omega) h (by simp;omega);refine⟨e,s',rs',g1,?_,⟨by rw[dd];exact td,.inl ⟨by first|rfl|trivial,by rw[dd];exact tr⟩⟩,g3,g5 _ _ k (by omega),g6 _ _ k (by omega)⟩;simp only[RY]at g2;omega
 by_cases c4:x.kind=4
 ·simp only[if_pos c4];obtain⟨e,s',rs',g1,g2,⟨td,tt⟩,g3,g4,g5⟩:=run false (by rw[c4];rfl);rw[g4,g5]
  refine⟨e,⟨s',r.al,r.ax,rs'⟩,g1,g2,.inl ⟨td,g3.2.2⟩,rfl,?_,by
   rcases tt with⟨t1,t2⟩|⟨t1,t2⟩
   ·exact .inl ⟨by rw[c4,t1];rfl,by rw[c4];exact t2⟩
   ·exact .inr ⟨by rw[c4,t1];rfl,.inl t2⟩⟩
  simp only[aa,Qs,g3.1,g3.2.1,g3.2.2]
 simp only[if_neg c4];by_cases c5:x.kind=5
 ·simp only[if_pos c5];obtain⟨e,s',rs',g1,g2,⟨td,tt⟩,g3,g4,g5⟩:=run true (by rw[c5];rfl);rw[g4,g5]
  refine⟨e,⟨s',r.al,r.ax,rs'⟩,g1,g2,.inl ⟨td,g3.2.2⟩,rfl,?_,by
   rcases tt with⟨t1,t2⟩|⟨t1,t2⟩
   ·exact .inl ⟨by rw[c5,t1];rfl,by rw[c5];exact t2⟩
   ·exact .inr ⟨by rw[c5,t1];rfl,.inl t2⟩⟩
  simp only[aa,Qs,g3.1,g3.2.1,g3.2.2]
 simp only[if_neg c5];unfold bB dH;simp only[aa];exact⟨du x.kind 8,r,h,by simp[du],.inl ⟨.other (by simp) (by simp) (by simp) .nil,rfl⟩,rfl,rfl,.inr ⟨by rw[show inB x.kind 4 5=false from decide_eq_false (by omega)];rfl,.inl (fw _ _ _)⟩⟩
end
set_option maxRecDepth 100000
set_option maxHeartbeats 4000000
section
def rt0 (s:aj):Runtime:=⟨s,List.replicate 4 da,List.replicate 4 false,[]⟩
def Py:Runtime:=⟨⟨0,0,0,[],0,0,0,0⟩,[],[],[]⟩
theorem zA {k:Nat} {a b:Int} (hk:0<k):mB k a b=some (cond (ba (wM a b)) (rt0 (wM a b),true) (Py,false)):=by
 unfold mB;rw[NK hk,aa];cases ba (wM a b)<;>rfl
theorem zB {k:Nat} {a b:Int} (hk:0<k):mC k a b=some (cond (ba (wM a b)) (rt0 (wM a b),true) (Py,false)):=by
 unfold mC;rw[NL hk,aa];cases ba (wM a b)<;>rfl
theorem Qu {a b:Int} (h:ba (wM a b)=true):rf (rt0 (wM a b)):=⟨Oe h,rfl,rfl,λm hm=>by rw[(TC.1 hm).2];exact RX _,.nil⟩
theorem G6 {xs:List Step} (hx:okS Step.Ok xs) (ht:fy Step.tot xs<=1048576):∀x∈xs,lR x:=λx hm=>by
 have hM:=ao;have h1:=hx.2 x hm;have h2:=fc Step.tot hm;have h3:x.tot=x.data.length+(x.input.tot+0):=rfl;exact⟨h1.2.2.2.1.2,by omega,by omega⟩
end
set_option maxRecDepth 100000
set_option maxHeartbeats 4000000
section
def mL (E:List Entry):Prop:=∀(i:Nat) (h:i<E.length),E[i].id=(i:Int)+1
theorem mL.set {E:List Entry} (h:mL E) {j:Nat} {y:Entry} (hy:y.id=(j:Int)+1):mL (E.set j y):=λi hi=>by
 rw[List.getElem_set];by_cases c:j=i
 ·subst c;rw[if_pos rfl];exact hy
 ·rw[if_neg c];exact h i (by simpa using hi)
theorem mL.app {E:List Entry} (h:mL E) {y:Entry} (hy:y.id=(E.length:Int)+1):mL (E++[y]):=λi hi=>by
 rw[List.getElem_append];by_cases c:i<E.length
 ·rw[dif_pos c];exact h i c
 ·rw[dif_neg c];simp only[Rz,Rw,RY]at hi
  have:i=E.length:=by omega
  subst this;simpa using hy
def NR (now:Int) (ev:Event) (y:Entry):Entry:=⟨y.id,y.model,y.input,y.at_,y.due,cond (ev.kind==4) now ev.b,ev.kind==3⟩
section
variable {k:Nat} {p:List Step× Int× Int× List Event× Int× Int× Int× Int× Int× Int× Int× Int× Int× Int× Int× Int× Int× Int× Int× List Event× Int× Int× Int× Int× Int× Int× List Int× List Request× List Task× List Model× List Bool× List Request} {ev:Event} {now:Int}
 (h1:p.2.2.2.2.2.2.2.2.2.2.2.2.2.2.2.2.2.2.2.2.1=ev.kind) (h2:p.2.2.2.2.2.2.2.2.2.2.2.2.2.2.2.2.2.2.2.2.2.1=ev.a) (h3:p.2.2.2.2.2.2.2.2.2.2.2.2.2.2.2.2.2.2.2.2.2.2.1=ev.b) (h4:p.2.2.1=now)
include h1 h2 h3 h4
theorem Pz {R:Type} {E:List Entry} {fin:List Entry->Option R} {j:Nat} (hj:j<E.length) (hE:E.length<=100000) (next:Int× List Entry->Option R):
  fM k p ((j:Int),E) next fin=next (((j+1:Nat):Int),cond (E[j].id==ev.a) (E.set j (NR now ev E[j])) E):=by
 have hM:=ao;have hd0:decide ((j:Int)<(E.length:Int))=true:=decide_eq_true (by omega);have hd:decide (0<=(j:Int)/\(j:Int)<(E.length:Int))=true:=decide_eq_true (by omega);have hg:∀y:Entry,(E.set j y)[j]? =some y:=λy=>Sj hj;unfold fM;simp only[h1,h2,h3,h4,hd0,hd,Rm,R6,cond_true,ag hj,aa,List.set_set,hg,aq hj (show E.length<=9223372036854775807 by omega)];cases c:(E[j].id==ev.a)
 ·rfl
 simp only[cond_true,NR];cases(ev.kind==4)<;>rfl
theorem C6 {R:Type} {fin:List Entry->Option R}:∀(n j:Nat) (E:List Entry) (kf:Nat),j+n=E.length->n<kf->E.length<=100000->mL E->
  iter (λu14 n14=>fM k p u14 n14 fin) kf ((j:Int),E)=fin (cond (decide ((j:Int)<ev.a/\ev.a<=(E.length:Int))) (E.set (ev.a-1).toNat (NR now ev (E.getD (ev.a-1).toNat ⟨0,da,sw,0,0,0,false⟩))) E)
 |_,_,_,0,_,h,_,_=>by omega
 |0,j,E,kf+1,hj,_,_,_=>by
  rw[aG];show fM k p _ _ fin=_;unfold fM;simp only
  rw[decide_eq_false (show¬(j:Int)<(E.length:Int) by omega),cond_false,decide_eq_false (show¬((j:Int)<ev.a/\ev.a<=(E.length:Int)) by omega)];rfl
 |n+1,j,E,kf+1,hj,hk,hE,hP=>by
  have hjl:j<E.length:=by omega
  have hid:=hP j hjl;rw[aG];refine(Pz h1 h2 h3 h4 hjl hE _).trans ?_;by_cases c:E[j].id=ev.a
  ·rw[show(E[j].id==ev.a)=true from by simpa using c,cond_true]
   have e1:(ev.a-1).toNat=j:=by omega
   have hP2:mL (E.set j (NR now ev E[j])):=hP.set (by show E[j].id=_;exact hid);refine(C6 n (j+1) _ kf (by simp;omega) (by omega) (by simpa using hE) hP2).trans ?_;rw[R6,decide_eq_false (by omega),decide_eq_true (by omega),e1,bE hjl];rfl
  ·rw[show(E[j].id==ev.a)=false from by simpa using c,cond_false];refine(C6 n (j+1) E kf (by omega) (by omega) hE hP).trans ?_;by_cases d:((j+1:Nat):Int)<ev.a/\ev.a<=(E.length:Int)
   ·rw[decide_eq_true d,decide_eq_true (by omega)]
   ·rw[decide_eq_false d,decide_eq_false (by omega)]
end
end
set_option maxRecDepth 100000
set_option maxHeartbeats 4000000
section
def noEntry:Entry:=⟨0,da,sw,0,0,0,false⟩
def dX (now:Int) (E:List Entry) (ev:Event):List Entry:=cond (ev.kind==3||ev.kind==4) (E.set (ev.a-1).toNat (NR now ev (E.getD (ev.a-1).toNat noEntry))) E
def Live (E:List Entry) (ids:List Int):Prop:=∀i∈ids,1<=i/\i<=E.length/\(E.getD (i-1).toNat noEntry).done=false
theorem nM (now:Int) (E:List Entry) (ev:Event):(dX now E ev).length=E.length:=by
 unfold dX;cases(ev.kind==3||ev.kind==4)<;>simp
theorem tY {now:Int} {E:List Entry} {ev:Event} (h:mL E):mL (dX now E ev):=by
 unfold dX;cases(ev.kind==3||ev.kind==4)
 ·exact h
 ·intro i hi
  have hi':i<E.length:=by simpa using hi
  simp only[cond_true];rw[List.getElem_set];by_cases c:(ev.a-1).toNat=i
  ·rw[if_pos c,c,bE hi'];exact h i hi'
  ·rw[if_neg c];exact h i hi'
theorem sy {now:Int} {E:List Entry} {ev:Event} {ids:List Int} (h:Live E ids) (ha:1<=ev.a):Live (dX now E ev) (ids.filter λi=>!(i==ev.a)):=λi hi=>by
 obtain⟨h1,h2⟩:=Sd.1 hi;obtain⟨g1,g2,g3⟩:=h i h1
 have hne:i≠ev.a:=by simpa using h2
 refine⟨g1,by rw[nM];exact g2,?_⟩;unfold dX;cases(ev.kind==3||ev.kind==4)
 ·exact g3
 ·simp only[cond_true];rw[RO,SR (by omega),<-RO];exact g3
theorem Q6 {k:Nat} {p:List Step× Int× Int× List Event× Int× Int× Int× Int× Int× Int× Int× Int× Int× Int× Int× Int× Int× Int× List Request× List Task× List Model× List Bool× List Request} {now:Int} (h4:p.2.2.1=now) {R:Type} {fin:List Entry× List Event->Option R} {es:List Event} {ids ids':List Int} (ht:kq ids es ids'):∀(pre:List Event) (E:List Entry) (evs:List Event) (kf:Nat),p.2.2.2.1=pre++es->es.length<kf->E.length+10<k->E.length<=100000->(pre++es).length<=100000->evs.length+es.length<=1000000->mL E->Live E ids->
  iter (λu22 n22=>dx k p u22 n22 fin) kf ((pre.length:Int),E,evs)=fin (es.foldl (dX now) E,evs++es):=by
 have hM:=ao
 induction ht with
 |nil=>
  intro pre E evs kf hL hk _ _ _ _ _ _;obtain⟨kf,rfl⟩:∃m,kf=m+1:=⟨kf-1,by simp at hk;omega⟩;rw[aG];show dx k p _ _ fin=_;unfold dx;simp only
  rw[hL,decide_eq_false (by simp),cond_false,RU];rfl
 |other k2 k3 k4 ht ih=>
  rename_i ids0 ids1 e es;intro pre E evs kf hL hk hE1 hE2 hl hv hP hLv;obtain⟨kf,rfl⟩:∃m,kf=m+1:=⟨kf-1,by simp at hk;omega⟩
  have hlen:(pre++e::es).length=pre.length+(es.length+1):=by simp
  simp only[Rw]at hk hv;rw[aG]
  have st:∀next,dx k p ((pre.length:Int),E,evs) next fin=next (((pre++[e]).length:Int),E,evs++[e]):=λnext=>by
   unfold dx;simp only;rw[hL,decide_eq_true (by omega),cond_true,aC,show(pre++e::es)[pre.length]? =some e from by simp,aa,cE (by omega),bG,if_neg k2,bG,if_neg k3,bG,if_neg k4,aH (by omega) (by omega),Rz];rfl
  refine(st _).trans ((ih (pre++[e]) E (evs++[e]) kf (by rw[hL];simp) (by omega) hE1 hE2 (by simpa using hl) (by simp;omega) hP hLv).trans ?_);rw[Sm,show dX now E e=E from by unfold dX;rw[show(e.kind==3)=false from by simpa using k3,show(e.kind==4)=false from by simpa using k4];rfl]
  simp
 |ends kk hm ko ht ih=>
  rename_i ids0 ids1 e es;intro pre E evs kf hL hk hE1 hE2 hl hv hP hLv;obtain⟨kf,rfl⟩:∃m,kf=m+1:=⟨kf-1,by simp at hk;omega⟩
  have hlen:(pre++e::es).length=pre.length+(es.length+1):=by simp
  simp only[Rw]at hk hv;obtain⟨a1,a2,a3⟩:=hLv _ hm;rw[aG]
  have hap:dX now E e=E.set (e.a-1).toNat (NR now e (E.getD (e.a-1).toNat noEntry)):=by
   unfold dX
   rcases kk with kk|kk<;>rw[kk]<;>rfl
  have st:∀next,dx k p ((pre.length:Int),E,evs) next fin=next (((pre++[e]).length:Int),dX now E e,evs++[e]):=λnext=>by
   rw[hap];unfold dx;simp only;rw[hL,decide_eq_true (by omega),cond_true,aC,show(pre++e::es)[pre.length]? =some e from by simp,aa,cE (by omega),bG,if_neg (by rcases kk with kk|kk<;>rw[kk]<;>decide),bG]
   rcases kk with kk|kk
   ·rw[if_pos kk];refine(C6 (ev:=e) (now:=now) (by rfl) (by rfl) (by rfl) h4 E.length 0 E k (by omega) (by omega) hE2 hP).trans ?_;rw[decide_eq_true (by omega),cond_true,aH (by omega) (by omega),Rz];rfl
   ·rw[if_neg (by rw[kk];decide),bG,if_pos kk];refine(C6 (ev:=e) (now:=now) (by rfl) (by rfl) (by rfl) h4 E.length 0 E k (by omega) (by omega) hE2 hP).trans ?_;rw[decide_eq_true (by omega),cond_true,aH (by omega) (by omega),Rz];rfl
  refine(st _).trans ((ih (pre++[e]) (dX now E e) (evs++[e]) kf (by rw[hL];simp) (by omega) (by rw[nM];exact hE1) (by rw[nM];exact hE2) (by simpa using hl) (by simp;omega) (tY hP) (sy hLv a1)).trans ?_);rw[Sm];simp
theorem Q7 {k:Nat} {p:Int× List Step× Int× Int× List Event× Int× Int× Int× Int× Int× Int× Int× Int× Int× Int× Int× Int× Int× Int× Int× Int× Int× Int× List Int× Int× Int× Int× List Int× List Request× List Task× List Model× List Bool× List Request} {now:Int} (h4:p.1=now) {R:Type} {fin:List Event× List Entry->Option R} {es:List Event} {ids ids':List Int} (ht:kq ids es ids'):∀(pre:List Event) (E:List Entry) (evs:List Event) (kf:Nat),p.2.2.2.2.1=pre++es->p.2.2.2.2.2.1=((pre++es).length:Int)->es.length<kf->E.length<=100000->(pre++es).length<=100000->evs.length+es.length<=1000000->Live E ids->
  iter (λu12 n12=>eg k p u12 n12 fin) kf ((pre.length:Int),evs,E)=fin (evs++es,es.foldl (dX now) E):=by
 have hM:=ao
 induction ht with
 |nil=>
  intro pre E evs kf hL hL2 hk _ _ _ _;obtain⟨kf,rfl⟩:∃m,kf=m+1:=⟨kf-1,by simp at hk;omega⟩;rw[aG];show eg k p _ _ fin=_;unfold eg;simp only
  rw[hL2,decide_eq_false (by simp),cond_false,RU];rfl
 |other k2 k3 k4 ht ih=>
  rename_i ids0 ids1 e es;intro pre E evs kf hL hL2 hk hE2 hl hv hLv;obtain⟨kf,rfl⟩:∃m,kf=m+1:=⟨kf-1,by simp at hk;omega⟩
  have hlen:(pre++e::es).length=pre.length+(es.length+1):=by simp
  simp only[Rw]at hk hv;rw[aG]
  have st:∀next,eg k p ((pre.length:Int),evs,E) next fin=next (((pre++[e]).length:Int),evs++[e],E):=λnext=>by
   unfold eg;simp only;rw[hL2,hL,decide_eq_true (by omega),cond_true,aC,show(pre++e::es)[pre.length]? =some e from by simp,aa,cE (by omega),bG,if_neg k2,bG,if_neg k3,bG,if_neg k4,aH (by omega) (by omega),Rz];rfl
  refine(st _).trans ((ih (pre++[e]) E (evs++[e]) kf (by rw[hL];simp) (by rw[hL2];simp) (by omega) hE2 (by simpa using hl) (by simp;omega) hLv).trans ?_);rw[Sm,show dX now E e=E from by unfold dX;rw[show(e.kind==3)=false from by simpa using k3,show(e.kind==4)=false from by simpa using k4];rfl]
  simp
 |ends kk hm ko ht ih=>
  rename_i ids0 ids1 e es;intro pre E evs kf hL hL2 hk hE2 hl hv hLv;obtain⟨kf,rfl⟩:∃m,kf=m+1:=⟨kf-1,by simp at hk;omega⟩
  have hlen:(pre++e::es).length=pre.length+(es.length+1):=by simp
  simp only[Rw]at hk hv;obtain⟨a1,a2,a3⟩:=hLv _ hm;rw[aG]
  have hi:(e.a-1).toNat<E.length:=by omega
  have hap:dX now E e=E.set (e.a-1).toNat (NR now e (E.getD (e.a-1).toNat noEntry)):=by
   unfold dX
   rcases kk with kk|kk<;>rw[kk]<;>rfl
  have st:∀next,eg k p ((pre.length:Int),evs,E) next fin=next (((pre++[e]).length:Int),evs++[e],dX now E e):=λnext=>by
   rw[hap];rw[bE hi]at a3⊢;unfold eg;simp only;rw[hL2,hL,decide_eq_true (by omega),cond_true,aC,show(pre++e::es)[pre.length]? =some e from by simp,aa,cE (by omega),bG,if_neg (by rcases kk with kk|kk<;>rw[kk]<;>decide),bG,aH (n:=e.a-1) (by omega) (by omega),aH (n:=(pre.length:Int)+1) (by omega) (by omega),h4]
   rcases kk with kk|kk
   ·rw[if_pos kk,decide_eq_true (by omega),cond_true,ag hi,aa,R6,decide_eq_true (by omega),cond_true,Sj hi,aa,List.set_set,Rz];unfold NR;rw[kk];rfl
   ·rw[if_neg (by rw[kk];decide),bG,if_pos kk,decide_eq_true (by omega),cond_true,ag hi,aa,Rz];unfold NR;rw[kk,a3];rfl
  refine(st _).trans ((ih (pre++[e]) (dX now E e) (evs++[e]) kf (by rw[hL];simp) (by rw[hL2];simp) (by omega) (by rw[nM];exact hE2) (by simpa using hl) (by simp;omega) (sy hLv a1)).trans ?_);rw[Sm];simp
end
set_option maxRecDepth 100000
set_option maxHeartbeats 4000000
section
structure zY (r:Runtime) (E:List Entry) (evs:List Event) (n:Nat):Prop where
 ok:rf r
 next:r.sched.next=(E.length:Int)+1
 E9:mL E
 live:Live E (o8 r.ae)
 Q8:E.length<=n
 Q9:evs.length<=1000*n
 ended:∀e∈evs,e.kind=3->1<=e.a/\e.a<=E.length/\e.out.okB=true
 small:∀y∈E,y.model.tot<=8002000/\y.input.tot<=2000000
theorem kq.sub {ids ids':List Int} {es:List Event} (h:kq ids es ids'):∀i∈ids',i∈ids:=by
 induction h with
 |nil=>exactλi h=>h
 |other _ _ _ _ ih=>exact ih
 |ends _ _ _ _ ih=>exactλi hi=>(Sd.1 (ih i hi)).1
theorem kq.told {ids ids':List Int} {es:List Event} (h:kq ids es ids'):∀e∈es,e.kind=3->e.a∈ids/\e.out.okB=true:=by
 induction h with
 |nil=>exactλe he=>absurd he (by simp)
 |other k2 k3 k4 _ ih=>
  intro e he hk
  rcases RI.1 he with rfl|he
  ·exact absurd hk k3
  ·exact ih e he hk
 |ends kk hm ho _ ih=>
  intro e he hk
  rcases RI.1 he with rfl|he
  ·exact⟨hm,ho hk⟩
  ·obtain⟨g1,g2⟩:=ih e he hk;exact⟨(Sd.1 g1).1,g2⟩
theorem Fa {P:Model->ak->Prop} {now:Int} {E:List Entry} {ev:Event} (h:∀y∈E,P y.model y.input):∀y∈dX now E ev,P y.model y.input:=by
 unfold dX;cases(ev.kind==3||ev.kind==4)
 ·exact h
 ·intro y hy
  rcases List.mem_or_eq_of_mem_set hy with hy|rfl
  ·exact h y hy
  ·by_cases c:(ev.a-1).toNat<E.length
   ·rw[bE c];exact h E[(ev.a-1).toNat] (Rp c)
   ·rw[cond_true,List.set_eq_of_length_le (by omega)]at hy;exact h _ hy
theorem rF {P:Model->ak->Prop} {now:Int}:∀{es:List Event} {E:List Entry},(∀y∈E,P y.model y.input)->∀y∈es.foldl (dX now) E,P y.model y.input
 |[],_,h=>h
 |e::es,E,h=>rF (es:=es) (Fa h)
theorem NS {now:Int} {ids ids':List Int} {es:List Event} (h:kq ids es ids'):∀{E:List Entry},mL E->Live E ids->mL (es.foldl (dX now) E)/\Live (es.foldl (dX now) E) ids'/\(es.foldl (dX now) E).length=E.length:=by
 induction h with
 |nil=>exactλhP hL=>⟨hP,hL,rfl⟩
 |other k2 k3 k4 _ ih=>
  rename_i e es _;intro E hP hL;rw[Sm,show dX now E e=E from by unfold dX;rw[show(e.kind==3)=false from by simpa using k3,show(e.kind==4)=false from by simpa using k4];rfl]
  exact ih hP hL
 |ends kk hm _ _ ih=>
  intro E hP hL;rw[Sm];obtain⟨g1,g2,g3⟩:=ih (tY (now:=now) hP) (sy (now:=now) hL (hL _ hm).1);exact⟨g1,g2,g3.trans (nM _ _ _)⟩
theorem Mj {rs:List Request} {q:Request} (h:∀i∈o8 rs,i<q.id):tW (rs++[q]) q.id=(rs.length:Int):=qk (qo:=[]) λv hv=>by
 have:=h v.id (Tp.2 ⟨v,hv,rfl⟩);omega
theorem NT {E:List Entry} {ids:List Int} (h:Live E ids) (y:Entry):Live (E++[y]) ids:=λi hi=>by
 obtain⟨g1,g2,g3⟩:=h i hi;refine⟨g1,by simp;omega,?_⟩;rw[bE (by omega)]at g3;rw[bE (by simp;omega),List.getElem_append_left (by omega)];exact g3
theorem Il {V R:Type} {g:V->(V->Option R)->Option R} {v w:V} {r:Option R} (h1:∀next,g v next=next w) (h2:∀next,g w next=r) {kf:Nat} (hk:2<=kf):iter g kf v=r:=by
 obtain⟨m,rfl⟩:∃m,kf=m+1+1:=⟨kf-2,by omega⟩;rw[aG,h1,aG,h2]
theorem Im {α:Type} (x:α) (l:List α):idx (x::l) (0:Int)=some x:=rfl
def Made (r:Runtime) (x:Step) (e:List Event) (E E1:List Entry) (r':Runtime):Prop:=
 (kq (o8 r.ae) e (o8 r'.ae)/\E1=e.foldl (dX r.sched.now) E)\/
 ∃due,e=[⟨2,r.sched.next,due,sw⟩]/\r'.sched.next=r.sched.next+1/\E1=E++[⟨r.sched.next,r.al.getD x.a.toNat da,x.input,r.sched.now,due,-1,false⟩]
theorem NU {k:Nat} (hk:20000000<=k) {r r':Runtime} {x:Step} {e:List Event} {E:List Entry} {evs:List Event} {n:Nat} (hx:lR x) (h:zY r E evs n) (h':rf r') (he:e.length<=1000) (hn:n<=200) (ht:wR r x e r'):
  ∃E1:List Entry,Made r x e E E1 r'/\zY r' E1 (evs++e) (n+1)/\
   (∀{R:Type} {p:List Step× Int× Int× List Event× Int× Int× Int× Int× Int× Int× Int× Int× Int× Int× Int× Int× Int× Int× List Request× List Task× List Model× List Bool× List Request} {fin:List Entry× List Event->Option R},p.2.2.1=r.sched.now->p.2.2.2.1=e->(⟨(⟨p.2.2.2.2.2.2.2.2.2.2.2.1,p.2.2.2.2.2.2.2.2.2.2.2.2.1,p.2.2.2.2.2.2.2.2.2.2.2.2.2.1,p.2.2.2.2.2.2.2.2.2.2.2.2.2.2.2.2.2.2.2.1,p.2.2.2.2.2.2.2.2.2.2.2.2.2.2.1,p.2.2.2.2.2.2.2.2.2.2.2.2.2.2.2.1,p.2.2.2.2.2.2.2.2.2.2.2.2.2.2.2.2.1,p.2.2.2.2.2.2.2.2.2.2.2.2.2.2.2.2.2.1⟩:aj),p.2.2.2.2.2.2.2.2.2.2.2.2.2.2.2.2.2.2.2.2.1,p.2.2.2.2.2.2.2.2.2.2.2.2.2.2.2.2.2.2.2.2.2.1,p.2.2.2.2.2.2.2.2.2.2.2.2.2.2.2.2.2.2.2.2.2.2⟩:Runtime)=r'->iter (λu22 n22=>dx k p u22 n22 fin) k ((0:Int),E,evs)=fin (E1,evs++e))/\
   (∀{R:Type} {p:Int× List Step× Int× Int× List Event× Int× Int× Int× Int× Int× Int× Int× Int× Int× Int× Int× Int× Int× Int× Int× Int× Int× Int× List Int× Int× Int× Int× List Int× List Request× List Task× List Model× List Bool× List Request} {fin:List Event× List Entry->Option R},p.1=r.sched.now->p.2.2.2.2.1=e->p.2.2.2.2.2.1=(e.length:Int)->p.2.2.2.2.2.2.2.2.2.2.2.2.2.2.2.2.2.2.2.2.2.1=x.a->p.2.2.2.2.2.2.2.2.2.2.2.2.2.2.2.2.2.2.2.2.2.2.2.2.2.2.2.2.2.2.1=r'.al->(⟨(⟨p.2.2.2.2.2.2.2.2.2.2.2.2.2.2.2.2.2.2.2.2.2.2.2.2.1,p.2.2.2.2.2.2.2.2.2.2.2.2.2.2.2.2.2.2.2.2.2.2.2.2.2.1,p.2.2.2.2.2.2.2.2.2.2.2.2.2.2.2.2.2.2.2.2.2.2.2.2.2.2.1⟩:Shape),p.2.2.2.2.2.2.2.2.2.2.2.2.2.2.2.2.2.2.2.2.2.2.2.2.2.2.2.1⟩:ak)=x.input->iter (λu12 n12=>eg k p u12 n12 fin) k ((0:Int),evs,E)=fin (evs++e,E1)):=by
 have hM:=ao;have hel:=h.Q8;have hvl:=h.Q9
 rcases ht with⟨ht,hnx⟩|⟨due,rfl,hnx,hrq,hms,xa0,xa1⟩
 ·obtain⟨g1,g2,g3⟩:=NS (now:=r.sched.now) ht h.E9 h.live;refine⟨e.foldl (dX r.sched.now) E,.inl ⟨ht,rfl⟩,⟨h',by rw[hnx,h.next,g3],g1,g2,by omega,by rw[Rz];omega,λv hv hk=>?_,rF (P:=λm t=>m.tot<=8002000/\t.tot<=2000000) h.small⟩,λ{R} {p} {fin} q1 q2 q3=>?_,λ{R} {p} {fin} q1 q2 q3 q4 q5 q6=>?_⟩
  ·rw[g3]
   rcases Sb.1 hv with hv|hv
   ·exact h.ended v hv hk
   ·obtain⟨c1,c2⟩:=ht.told v hv hk;obtain⟨d1,d2,_⟩:=h.live _ c1;exact⟨d1,d2,c2⟩
  ·exact Q6 q1 ht [] E evs k q2 (by omega) (by omega) (by omega) (by simpa using(show e.length<=100000 by omega)) (by omega) h.E9 h.live
  ·exact Q7 q1 ht [] E evs k q2 q3 (by omega) (by omega) (by simpa using(show e.length<=100000 by omega)) (by omega) h.live
 ·have hmo:=h.ok.ml
  have hi:x.a.toNat<r.al.length:=by omega
  have hmt:=h.ok.mod _ (Rp hi);have hxi:=hx.input;have hxt:x.input.tot=x.input.data.length:=rfl;refine⟨E++[⟨r.sched.next,r.al.getD x.a.toNat da,x.input,r.sched.now,due,-1,false⟩],.inr ⟨due,rfl,hnx,rfl⟩,⟨h',by rw[hnx,h.next];simp,h.E9.app (by show r.sched.next=_;exact h.next),λi hi=>?_,by simp;omega,by simp;omega,λv hv hk=>?_,λy hy=>?_⟩,λ{R} {p} {fin} q1 q2 q3=>?_,λ{R} {p} {fin} q1 q2 q3 q4 q5 q6=>?_⟩
  ·rw[hrq]at hi;unfold o8 at hi;rw[Sv]at hi
   rcases Sb.1 hi with hi|hi
   ·exact NT h.live _ i hi
   ·obtain rfl:i=r.sched.next:=by simpa using hi
    have hnext:=h.next;refine⟨by omega,by simp;omega,?_⟩;rw[show(r.sched.next-1).toNat=E.length from by omega,bE (by simp),List.getElem_append_right (RE _)];simp
  ·rcases Sb.1 hv with hv|hv
   ·obtain⟨d1,d2,d3⟩:=h.ended v hv hk;exact⟨d1,by simp;omega,d3⟩
   ·obtain rfl:v=⟨2,r.sched.next,due,sw⟩:=by simpa using hv
    exact absurd hk (show¬(2:Int)=3 by decide)
  ·rcases Sb.1 hy with hy|hy
   ·exact h.small y hy
   ·obtain rfl:y=_:=SN.1 hy;exact⟨by rw[bE hi];exact hmt,by show x.input.tot<=_;omega⟩
  ·refine Il (w:=((1:Int),E++[⟨r.sched.next,r.al.getD x.a.toNat da,x.input,r.sched.now,due,-1,false⟩],evs++[⟨2,r.sched.next,due,sw⟩])) (λnext=>?_) (λnext=>?_) (by omega)
   ·have hr:=congrArg Runtime.ae q3;simp only at hr;have hlt:∀i∈o8 r.ae,i<r.sched.next:=λi hi=>(h.ok.lt i hi).2;have hq:=h.ok.Og;have hfr:=Mj (q:=⟨r.sched.next,x.a,⟨r.al.getD x.a.toNat da,0,x.input,0⟩,due⟩) hlt;unfold dx;simp only;rw[q2,q3,hr,hrq,decide_eq_true (by simp),cond_true,Im,aa,cE (by omega),bG,if_pos rfl,re (by rw[hrq];simp;omega) (by rw[hrq];simp;omega),aa,hrq];simp only;rw[hfr,decide_eq_true (by simp;omega),cond_true,Rm,Rn (RE _),Nat.sub_self,Te,aa,bE hi,p7 (by show r.al[x.a.toNat].tot<k;omega) (by show r.al[x.a.toNat].tot<=aQ;omega),aa,mE (by show x.input.data.length<k;omega) (by show x.input.data.length<=aQ;omega),aa,cE (by omega),q1];rfl
   ·unfold dx;simp only;rw[q2,decide_eq_false (by simp),cond_false]
  ·refine Il (w:=((1:Int),evs++[⟨2,r.sched.next,due,sw⟩],E++[⟨r.sched.next,r.al.getD x.a.toNat da,x.input,r.sched.now,due,-1,false⟩])) (λnext=>?_) (λnext=>?_) (by omega)
   ·unfold eg;simp only;rw[q2,q3,q4,q5,q6,decide_eq_true (by simp),cond_true,Im,aa,cE (by omega),bG,if_pos rfl,hms,decide_eq_true (by omega),cond_true,ag hi,aa,bE hi,nH (by omega) (by omega),aa,mD (by omega),aa,cE (by omega),q1];rfl
   ·unfold eg;simp only;rw[q3,decide_eq_false (by simp),cond_false]
end
end Go.Proofs.Ev
