/- Typed functions and what holds of them: part 5. -/
import Derived.Test.YtpiopmjbcadfbaaGreatEvL4
set_option linter.unusedVariables false
set_option linter.unusedSimpArgs false
set_option linter.unusedSectionVars false
namespace Go.Proofs.Ev
section
structure SOk (s:aj):Prop where
 now:0<=s.now/\s.now<=1000000
 ag:0<=s.ag/\s.ag<=1000
 age:0<=s.age/\s.age<=20
 len:s.tasks.length<=12
 turns:0<=s.turns/\s.turns<=1000000
 next:1<=s.next/\s.next<=1000000
 task:∀t∈s.tasks,gY t=true/\t.id<s.next/\t.born<=s.now
 ids:s.tasks.Pairwise λa b=>a.id<b.id
 run:(s.run=0/\s.left=0)\/∃t∈s.tasks,t.id=s.run/\1<=s.left/\s.left<=fa t
theorem Nl {s:aj} (h:bC s=true):SOk s:=by
 have hs:=bF h;have hT:=hs.2.2.2.2.2.2.1;refine⟨hs.1,hs.2.1,hs.2.2.1,hs.2.2.2.1,hs.2.2.2.2.1,hs.2.2.2.2.2.1,λt ht=>?_,Cv hT,?_⟩
 ·obtain⟨i,hi,rfl⟩:=QU.1 ht;have:=ca hT hi;exact⟨this.1,this.2.1,this.2.2.1⟩
 ·cases hr:s.run==0
  ·obtain⟨_,i,hf⟩:=Cx h hr;obtain⟨hi,hid⟩:=pI hf;exact .inr ⟨s.tasks[i],Qs hi,hid,qC h (Qs hi) hid.symm⟩
  ·have hrun:=hs.2.2.2.2.2.2.2;unfold Jg at hrun;rw[hr,cond_true]at hrun;exact .inl ⟨by simpa using hr,by simpa using hrun⟩
theorem yO {s:aj} (h:SOk s):gd s=true:=by
 unfold gd;rw[RJ];intro i hi;rw[List.mem_range]at hi;obtain⟨h1,h2,h3⟩:=h.task _ (Qs hi);rw[ai hi,Qo];simp only[Qk,decide_eq_true_eq];refine⟨h1,h2,h3,?_⟩;by_cases c:0<i
 ·rw[decide_eq_true c,cond_true,ai (show i-1<s.tasks.length by omega),Qo];exact decide_eq_true (List.pairwise_iff_getElem.1 h.ids (i-1) i (by omega) hi (by omega))
 ·rw[decide_eq_false c];rfl
theorem wg {s:aj} (h:SOk s):bC s=true:=by
 have hT:=yO h;unfold bC inB;simp only[Qk,decide_eq_true_eq];refine⟨h.now,h.ag,h.age,by have:=h.len;omega,h.turns,h.next,hT,?_⟩
 rcases h.run with⟨h1,h2⟩|⟨t,ht,e,l1,l2⟩
 ·unfold Jg;rw[h1,h2];rfl
 ·have hb:=(h.task t ht).1;have hid:=(b8 hb).1;obtain⟨i,hi,rfl⟩:=QU.1 ht
  have h0:(s.run==0)=false:=by rw[<-e];simp;omega
  unfold Jg;rw[h0,cond_false,<-e,Cp hT hi,Qo,ai hi,Qo,(fb hb).1,Qo];exact cg.2 ⟨l1,l2⟩
theorem Hz {ts:List Task} (hp:ts.Pairwise λa b=>a.id<b.id) {t:Task} (ht:t∈ts):∃pre post,ts=pre++t::post/\(∀u∈pre,u.id<t.id)/\(∀u∈post,t.id<u.id)/\(∀u∈pre,∀v∈post,u.id<v.id)/\(pre.Pairwise λa b=>a.id<b.id)/\post.Pairwise λa b=>a.id<b.id:=by
 obtain⟨pre,post,rfl⟩:=List.append_of_mem ht;rw[List.pairwise_append,Sr]at hp;obtain⟨h1,⟨h2,h3⟩,h4⟩:=hp;exact⟨pre,post,rfl,λu hu=>h4 u hu t (by simp),h2,λu hu v hv=>h4 u hu v (by simp[hv]),h1,h3⟩
theorem I8 {pre post:List Task} {t:Task} (h:∀u∈pre,u.id≠t.id):((pre++t::post).findIdx? λu=>u.id==t.id)=some pre.length:=by
 rw[List.findIdx?_append]
 have h1:(pre.findIdx? λu=>u.id==t.id)=none:=by
  rw[RI];intro u hu;simpa using h u hu
 rw[h1,Sq];simp
theorem Lg {pre post:List Task} {t:Task} {id:Int} (h1:∀u∈pre,u.id≠id) (h2:∀u∈post,u.id≠id) (ht:t.id=id):Jh (pre++t::post) id=pre++post:=by
 unfold Jh;rw[RW,RK]
 have e1:pre.filter (λu=>!(u.id==id))=pre:=Rr.2 λu hu=>by simpa using h1 u hu
 have e2:post.filter (λu=>!(u.id==id))=post:=Rr.2 λu hu=>by simpa using h2 u hu
 rw[e1,e2,ht];simp
def pN (t:Task):Task:=⟨t.id,t.aq,t.at_+1,t.due,t.born⟩
theorem AK {s:aj} {pre post:List Task} {t:Task} {L tr:Int} (e:s.tasks=pre++t::post) (h1:∀u∈pre,u.id≠t.id) (h2:∀u∈post,u.id≠t.id):
  tB s t.id L tr=if L-1>0 then(⟨s.now+1,s.ag,s.age,s.tasks,t.id,L-1,tr,s.next⟩,0,false)else
   if t.at_+1<t.aq.length then(⟨s.now+1,s.ag,s.age,pre++pN t::post,0,L-1,tr,s.next⟩,t.id,false)
   else(⟨s.now+1,s.ag,s.age,pre++post,0,L-1,tr,s.next⟩,t.id,true):=by
 unfold tB
 have hf:(s.tasks.findIdx? λu=>u.id==t.id)=some pre.length:=by rw[e];exact I8 h1
 have hg:s.tasks[pre.length]? =some t:=by rw[e];simp
 have hset:s.tasks.set pre.length (pN t)=pre++pN t::post:=by rw[e];simp
 rw[ab,hf,Qo,hg,Qo,ab];show(if L-1>0 then _ else if t.at_+1<(t.aq.length:Int)then(⟨s.now+1,s.ag,s.age,s.tasks.set pre.length (pN t),0,L-1,tr,s.next⟩,t.id,false)else(⟨s.now+1,s.ag,s.age,Jh (s.tasks.set pre.length (pN t)) t.id,0,L-1,tr,s.next⟩,t.id,true):aj× Int× Bool)=_;rw[hset,Lg (t:=pN t) h1 h2 rfl]
structure Qc (s:aj) (t:Task) (L tr:Int):Prop where
 mem:t∈s.tasks
 lo:1<=L
 hi:L<=fa t
 rem:∀u∈s.tasks,dO s u=cond (t.id==u.id) (gf u-fa u+L) (gf u)
 trn:0<=tr/\tr<=1000000
 eq:gO s false=tB s t.id L tr
theorem Pw {s:aj} (h:SOk s) {t u:Task} (ht:t∈s.tasks) (hu:u∈s.tasks) (e:t.id=u.id):t=u:=by
 obtain⟨i,hi,rfl⟩:=QU.1 ht;obtain⟨j,hj,rfl⟩:=QU.1 hu;have:=K8 (yO h) hi hj e;subst this;rfl
theorem AL {key:Task->Int} {xs:List Task} (h:Er key xs=none):xs=[]:=by
 cases xs with
 |nil=>rfl
 |cons x l=>exact nomatch h
theorem Lh {s:aj} (h:SOk s) (hp:jZ s=0):s.tasks=[]:=by
 have hT:=yO h
 have hl:zq s=none:=by
  cases hl:zq s with
  |none=>rfl
  |some t=>
   have h1:=Ld hT hl
   cases he:nm s with
   |none=>
    unfold jZ at hp;rw[hl,he]at hp;simp only[RX,Re,QI,Bool.true_or,Qr,cond_true,Qo]at hp
    omega
   |some e=>
    have h2:=we hT he;unfold jZ at hp;rw[hl,he]at hp;simp only[RX,Qq,SK,Qr,Qo]at hp;cases hc:(decide (s.age>0)&&(s.turns.tmod s.age==0))<;>rw[hc]at hp
    ·simp only[cond_false]at hp;omega
    ·simp only[cond_true]at hp;omega
 have he:nm s=none:=by
  cases he:nm s with
  |none=>rfl
  |some e=>
   have h2:=we hT he;unfold jZ at hp;rw[hl,he]at hp;simp only[Re,Q9,cond_false,Qo]at hp;omega
 have f1:=AL hl;have f2:=AL he
 cases ht:s.tasks with
 |nil=>rfl
 |cons x l=>
  have hx:x∈s.tasks:=by rw[ht];simp
  cases hq:dS s x
  ·have:x∈s.tasks.filter λt=>!dS s t:=Rk.2 ⟨hx,by rw[hq];rfl⟩;rw[f2]at this;exact nomatch this
  ·have:x∈s.tasks.filter (dS s):=Rk.2 ⟨hx,hq⟩;rw[f1]at this;exact nomatch this
theorem Ey {s:aj} (h:SOk s) (hn:s.now≠1000000):
  (s.tasks=[]/\s.run=0/\s.left=0/\gO s false=(⟨s.now+1,s.ag,s.age,s.tasks,s.run,s.left,s.turns,s.next⟩,0,false))\/∃t L tr,Qc s t L tr/\(s.run=t.id\/(s.run=0/\jZ s=t.id)):=by
 have hb:=wg h
 have hnow:(bC s&&!(s.now==1000000))=true:=by rw[hb];simpa using hn
 rcases h.run with⟨h1,h2⟩|⟨t,ht,e,l1,l2⟩
 ·by_cases hp:jZ s=0
  ·left;refine⟨Lh h hp,h1,h2,?_⟩;unfold gO;rw[hnow,h1,hp];rfl
  ·right;obtain⟨i,hi,hf,hid⟩:=yM hb hp;have ht:=Qs hi;have hc:=fb (h.task _ ht).1;refine⟨s.tasks[i],fa s.tasks[i],cond (decide (s.turns+1>1000000)) 0 (s.turns+1),⟨ht,hc.2.1,Int.le_refl _,λu hu=>?_,?_,?_⟩,.inr ⟨h1,hid.symm⟩⟩
   ·have hu0:=(b8 (h.task u hu).1).1
    have:(s.run==u.id)=false:=by rw[h1];simp;omega
    unfold dO;rw[this,cond_false];cases hq:s.tasks[i].id==u.id
    ·rfl
    ·have:=Pw h ht hu (by simpa using hq);rw[cond_true,this];omega
   ·have:=h.turns;rw[ab];split<;>omega
   ·have hp':(jZ s==0)=false:=by simpa using hp
    unfold gO;rw[hnow,h1,hp',hf];simp only[cond_true,cond_false,Qo];rw[ai hi,Qo,hid];rfl
 ·right;have ht0:=(b8 (h.task t ht).1).1;refine⟨t,s.left,s.turns,⟨ht,l1,l2,λu hu=>?_,h.turns,?_⟩,.inl e.symm⟩
  ·unfold dO;rw[e]
  ·have:(s.run==0)=false:=by rw[<-e];simp;omega
   unfold gO;rw[hnow,this,e];rfl
def Ov (p:Int->Bool) (s:aj):Int:=(s.tasks.map λt=>cond (p t.due) (dO s t) 0).sum
theorem Ez {t:Task} (h:gY t=true):gf (pN t)=gf t-fa t:=by
 have ht:=b8 h
 have hlt:t.at_.toNat<t.aq.length:=by omega
 have e:idx t.aq t.at_=some t.aq[t.at_.toNat]:=by rw[rv _ ht.2.2.1.1];exact ai hlt
 have hc:fa t=t.aq[t.at_.toNat]:=by unfold fa;rw[e];rfl
 unfold gf pN
 have e2:(t.at_+1).toNat=t.at_.toNat+1:=by omega
 simp only;rw[e2,gv hlt,RD,hc];omega
theorem Li {t:Task} (h:gY t=true) (hl:¬t.at_+1<t.aq.length):gf t-fa t=0:=by
 rw[<-Ez h];unfold gf pN;simp only;rw[List.drop_eq_nil_of_le (by omega)];rfl
structure Px (s:aj) (t:Task) (r:aj× Int× Bool):Prop where
 ok:SOk r.1
 now:r.1.now=s.now+1
 ag:r.1.ag=s.ag
 age:r.1.age=s.age
 next:r.1.next=s.next
 sum:∀p:Int->Bool,Ov p r.1=Ov p s-cond (p t.due) 1 0
 from_:∀u∈r.1.tasks,∃v∈s.tasks,v.id=u.id/\v.due=u.due
 told:(r.2.1=0/\r.2.2=false/\r.1.run=t.id/\r.1.tasks=s.tasks)\/(r.2.1=t.id/\r.1.run=0/\r.1.left=0)
 goes:r.2.2=true->r.2.1=t.id/\∀u∈r.1.tasks,u.id≠t.id
theorem worked {s:aj} {t:Task} {L tr:Int} (h:SOk s) (hn:s.now≠1000000) (T:Qc s t L tr):Px s t (gO s false):=by
  obtain⟨pre,post,e,h1,h2,h3,h4,h5⟩:=Hz h.ids T.mem;have hb:=(h.task t T.mem).1;have htb:=b8 hb
  have n1:∀u∈pre,u.id≠t.id:=λu hu=>by have:=h1 u hu;omega
  have n2:∀u∈post,u.id≠t.id:=λu hu=>by have:=h2 u hu;omega
  have m1:∀u∈pre,u∈s.tasks:=λu hu=>by rw[e];simp[hu]
  have m2:∀u∈post,u∈s.tasks:=λu hu=>by rw[e];simp[hu]
  have hlen:=h.len;rw[e,QK,Qy]at hlen;have hnow:=h.now
  have part:∀(p:Int->Bool) (s':aj) (l:List Task),(∀u∈l,u∈s.tasks/\u.id≠t.id)->(∀u∈l,s'.run≠u.id)->(l.map λu=>cond (p u.due) (dO s' u) 0)=l.map λu=>cond (p u.due) (dO s u) 0:=λp s' l hl hr=>List.map_congr_left λu hu=>by
    have r1:dO s' u=gf u:=by unfold dO;rw[show(s'.run==u.id)=false by simpa using hr u hu];rfl
    have r2:dO s u=gf u:=by rw[T.rem u (hl u hu).1,show(t.id==u.id)=false by simpa usingλq=>(hl u hu).2 q.symm];rfl
    rw[r1,r2]
  have q1:∀u∈pre,u∈s.tasks/\u.id≠t.id:=λu hu=>⟨m1 u hu,n1 u hu⟩;have q2:∀u∈post,u∈s.tasks/\u.id≠t.id:=λu hu=>⟨m2 u hu,n2 u hu⟩
  have z1:∀u∈s.tasks,(0:Int)≠u.id:=λu hu=>by have:=(b8 (h.task u hu).1).1;omega
  have rt:dO s t=gf t-fa t+L:=by rw[T.rem t T.mem];simp
  have old:∀p:Int->Bool,Ov p s=(pre.map λu=>cond (p u.due) (dO s u) 0).sum+(cond (p t.due) (gf t-fa t+L) 0+(post.map λu=>cond (p u.due) (dO s u) 0).sum):=λp=>by
    unfold Ov;rw[<-rt];conv=>lhs;rw[e,Rp,R4,QT,RD]
  rw[T.eq,AK e n1 n2];have hlo:=T.lo;by_cases c1:L-1>0
  · rw[if_pos c1];refine⟨⟨by simp only;omega,h.ag,h.age,h.len,T.trn,h.next,λu hu=>?_,h.ids,.inr ⟨t,T.mem,rfl,?_⟩⟩,rfl,rfl,rfl,rfl,λp=>?_,λu hu=>⟨u,hu,rfl,rfl⟩,.inl ⟨rfl,rfl,rfl,rfl⟩,λhg=>nomatch hg⟩
    · have:=h.task u hu;exact⟨this.1,this.2.1,by simp only;omega⟩
    · have:=T.hi;simp only;omega
    · rw[old p];unfold Ov;simp only
      conv=>lhs;rw[show List.map (λu:Task=>cond (p u.due) (dO ⟨s.now+1,s.ag,s.age,s.tasks,t.id,L-1,tr,s.next⟩ u) 0) s.tasks=List.map (λu:Task=>cond (p u.due) (dO ⟨s.now+1,s.ag,s.age,s.tasks,t.id,L-1,tr,s.next⟩ u) 0) (pre++t::post)from by rw[<-e],Rp,R4,QT,RD]
      rw[part p _ pre q1 (λu hu=>(n1 u hu).symm),part p _ post q2 (λu hu=>(n2 u hu).symm)]
      have:dO ⟨s.now+1,s.ag,s.age,s.tasks,t.id,L-1,tr,s.next⟩ t=gf t-fa t+(L-1):=by unfold dO;simp
      rw[this];cases p t.due<;>simp only[cond_true,cond_false]<;>omega
  · have hL:L=1:=by omega
    subst hL;rw[if_neg c1];by_cases c2:t.at_+1<t.aq.length
    · rw [if_pos c2]
      have hnb:gY (pN t)=true:=by
        unfold gY inB pN;unfold gY inB at hb;simp only[Qk,decide_eq_true_eq]at hb⊢;exact⟨hb.1,hb.2.1,⟨by omega,by omega⟩,hb.2.2.2.1,hb.2.2.2.2.1,hb.2.2.2.2.2⟩
      refine⟨⟨by simp only;omega,h.ag,h.age,by simp only[QK,Qy];omega,T.trn,h.next,λu hu=>?_,?_,.inl ⟨rfl,rfl⟩⟩,rfl,rfl,rfl,rfl,λp=>?_,λu hu=>?_,.inr ⟨rfl,rfl,rfl⟩,λhg=>nomatch hg⟩
      · simp only at hu⊢
        rcases RF.1 hu with hu|hu
        · have:=h.task u (m1 u hu);exact⟨this.1,this.2.1,by omega⟩
        · rcases QG.1 hu with rfl|hu
          · have:=h.task t T.mem;exact⟨hnb,this.2.1,by show t.born<=_;omega⟩
          · have:=h.task u (m2 u hu);exact⟨this.1,this.2.1,by omega⟩
      · simp only;rw[List.pairwise_append,Sr];refine⟨h4,⟨h2,h5⟩,λu hu v hv=>?_⟩
        rcases QG.1 hv with rfl|hv
        · exact h1 u hu
        · exact h3 u hu v hv
      · rw[old p];unfold Ov;simp only;rw[Rp,R4,QT,RD];rw[part p _ pre q1 (λu hu=>z1 u (m1 u hu)),part p _ post q2 (λu hu=>z1 u (m2 u hu))];have hd:(pN t).due=t.due:=rfl
        have:dO ⟨s.now+1,s.ag,s.age,pre++pN t::post,0,1-1,tr,s.next⟩ (pN t)=gf t-fa t:=by
          unfold dO;rw[show((0:Int)==(pN t).id)=false by show((0:Int)==t.id)=false;simp;omega,cond_false,Ez hb]
        rw[this,hd];cases p t.due<;>simp only[cond_true,cond_false]<;>omega
      · simp only at hu
        rcases RF.1 hu with hu|hu
        · exact⟨u,m1 u hu,rfl,rfl⟩
        · rcases QG.1 hu with rfl|hu
          · exact⟨t,T.mem,rfl,rfl⟩
          · exact⟨u,m2 u hu,rfl,rfl⟩
    · rw[if_neg c2];have hr:=Li hb c2;refine⟨⟨by simp only;omega,h.ag,h.age,by simp only[QK];omega,T.trn,h.next,λu hu=>?_,?_,.inl ⟨rfl,rfl⟩⟩,rfl,rfl,rfl,rfl,λp=>?_,λu hu=>?_,.inr ⟨rfl,rfl,rfl⟩,λ_=>⟨rfl,λu hu=>?_⟩⟩
      · simp only at hu⊢
        rcases RF.1 hu with hu|hu
        · have:=h.task u (m1 u hu);exact⟨this.1,this.2.1,by omega⟩
        · have:=h.task u (m2 u hu);exact⟨this.1,this.2.1,by omega⟩
      · simp only;rw[List.pairwise_append];exact⟨h4,h5,h3⟩
      · rw[old p];unfold Ov;simp only;rw[Rp,R4];rw[part p _ pre q1 (λu hu=>z1 u (m1 u hu)),part p _ post q2 (λu hu=>z1 u (m2 u hu)),hr];cases p t.due<;>simp only[cond_true,cond_false]<;>omega
      · simp only at hu
        rcases RF.1 hu with hu|hu
        · exact⟨u,m1 u hu,rfl,rfl⟩
        · exact⟨u,m2 u hu,rfl,rfl⟩
      · simp only at hu
        rcases RF.1 hu with hu|hu
        · exact n1 u hu
        · exact n2 u hu
theorem vt {s:aj} (h:SOk s) (hn:s.now≠1000000):gO s true=(⟨s.now+1,s.ag,s.age,s.tasks,s.run,s.left,s.turns,s.next⟩,0,false):=by
 have hnow:(bC s&&!(s.now==1000000))=true:=by rw[wg h];simpa using hn
 unfold gO;rw[hnow];rfl
theorem wi {s:aj} (hn:s.now=1000000) (st:Bool):gO s st=(s,0,false):=by
 unfold gO;rw[hn];simp
theorem HA {s:aj} (h:SOk s) (hn:s.now≠1000000):SOk ⟨s.now+1,s.ag,s.age,s.tasks,s.run,s.left,s.turns,s.next⟩:=by
 have:=h.now;exact⟨by simp only;omega,h.ag,h.age,h.len,h.turns,h.next,λu hu=>by have:=h.task u hu;exact⟨this.1,this.2.1,by simp only;omega⟩,h.ids,h.run⟩
theorem Ow {s:aj} (h:SOk s) (st:Bool):SOk (gO s st).1:=by
 by_cases hn:s.now=1000000
 ·rw[wi hn];exact h
 cases st
 ·rcases Ey h hn with⟨_,_,_,e⟩|⟨t,L,tr,T,_⟩
  ·rw[e];exact HA h hn
  ·exact(worked h hn T).ok
 ·rw[vt h hn];exact HA h hn
theorem Lj {s:aj} (h:SOk s) (id:Int):SOk (pL s id).1:=by
 unfold pL;cases hc:(bC s&&decide (0<=jX s.tasks id))
 ·exact h
 rw[cond_true]
 have hm:∀u∈Jh s.tasks id,u∈s.tasks/\u.id≠id:=λu hu=>by
  have:=Rk.1 hu;exact⟨this.1,by simpa using this.2⟩
 refine⟨h.now,h.ag,h.age,Rx (RZ _ _) h.len,h.turns,h.next,λu hu=>h.task u (hm u hu).1,h.ids.filter _,?_⟩;cases hr:s.run==id
 ·simp only[cond_false]
  rcases h.run with h1|⟨t,ht,e,l⟩
  ·exact .inl h1
  ·refine .inr ⟨t,Rk.2 ⟨ht,?_⟩,e,l⟩;rw[e,hr];rfl
 ·exact .inl ⟨rfl,rfl⟩
theorem MX {s:aj} (h:SOk s) (aq:List Int) (due:Int):SOk (fD s aq due).1:=by
 rcases yN s aq due with⟨_,_,_,g,_⟩|⟨_,_,g⟩
 ·unfold yF at g;exact Nl (RO.1 g).1
 ·rw[g];exact h
end
set_option maxRecDepth 100000
section
end
set_option maxRecDepth 100000
set_option maxHeartbeats 4000000
section
theorem I9 {b:List Int} (h:(eB b).2=0):ek (eB b).1=true:=by
  unfold eB at h⊢;by_cases c:(b.length:Int)>6000
  · rw[decide_eq_true c]at h;exact absurd (show(5:Int)=0 from h) (by decide)
  rw[decide_eq_false c]at h⊢;simp only[cond_false]at h⊢;cases c1:decide (b.take 3=[80,77,49])
  · rw[c1]at h;exact absurd (show(1:Int)=0 from h) (by decide)
  rw[c1]at h;simp only[Qq,cond_false]at h⊢;generalize aV b 3 false=r2 at h⊢;generalize aV b r2.2.1 r2.2.2=r3 at h⊢;generalize aV b r3.2.1 r3.2.2=r4 at h⊢;generalize bY b r4.2.1 r4.2.2 2000=r5 at h⊢;generalize pE b r5.1.toNat r5.2.1 r5.2.2 []=y at h⊢;generalize aV b y.1 y.2.1=r6 at h⊢;cases c2:r6.2.2
  · rw [c2] at h;simp only[cond_false]at h⊢;cases c3:(r6.1 !=Ga ((b.take y.1.toNat).drop 0))
    · rw[c3]at h;simp only[cond_false]at h⊢;cases c4:(r6.2.1 !=(b.length:Int))
      · rw[c4]at h;simp only[cond_false]at h⊢;cases c5:ek ⟨⟨r2.1,r3.1,r4.1⟩,y.2.2⟩
        · rw[c5]at h;exact absurd (show(4:Int)=0 from h) (by decide)
        · simp only[Qq,cond_false];exact c5
      · rw[c4]at h;exact absurd (show(3:Int)=0 from h) (by decide)
    · rw[c3]at h;exact absurd (show(3:Int)=0 from h) (by decide)
  · rw[c2]at h;exact absurd (show(2:Int)=0 from h) (by decide)
theorem rL (b:List Int):(eB b).1.tot<=8002000:=by
  have h0:eZ.tot=0:=rfl;unfold eB;generalize aV b 3 false=r2;simp only;generalize aV b r2.2.1 r2.2.2=r3;generalize aV b r3.2.1 r3.2.2=r4;have hc:=qz b r4.2.1 r4.2.2;generalize bY b r4.2.1 r4.2.2 2000=r5 at hc;have ht:=qA b r5.1.toNat r5.2.1 r5.2.2 [];rw[show eu ax.tot []=0 from rfl]at ht;generalize pE b r5.1.toNat r5.2.1 r5.2.2 []=y at ht;generalize aV b y.1 y.2.1=r6
  have hy:(⟨⟨r2.1,r3.1,r4.1⟩,y.2.2⟩:Model).tot<=8002000:=by show eu ax.tot y.2.2+0<=_;omega
  cases decide ((b.length:Int)>6000)<;>simp only[cond_true,cond_false]
  · cases (!decide (b.take 3 = [80, 77, 49])) <;> simp only [cond_true, cond_false]
    · cases r6.2.2<;>simp only[cond_true,cond_false]
      · cases(r6.1 !=Ga ((b.take y.1.toNat).drop 0))<;>simp only[cond_true,cond_false]
        · cases(r6.2.1 !=(b.length:Int))<;>simp only[cond_true,cond_false]
          · generalize (!ek _)=q;cases q<;>simp only[cond_true,cond_false]
            · exact hy
            · omega
          · omega
        · omega
      · omega
    · omega
  · omega
def tp (m:Model):Bool:=(bB m).all λc=>decide (c<=1000)
theorem Cy {k:Nat} {m:Model} (hk:m.tot<k) (hN:m.tot<=aU):qu k m=some (tp m&&ek m):=by
 have hM:=ar;have hc:=jb m;have hl:=bm ax.tot m.aB;have ht:m.tot=eu ax.tot m.aB+0:=rfl;unfold qu tp;rw[jU hk hN,aa,vh hk hN]
 rw[nK (bB m) (λc=>decide (c<=1000)) (no:=some false) (yes:=some (ek m)) (λi hi next=>by
  unfold kB;simp only;rw[decide_eq_true (by omega),cond_true,decide_eq_true (by omega),cond_true,Ql,ai hi,aa,au hi (by omega)];by_cases c:(bB m)[i]<=1000
  ·rw[decide_eq_false (by omega),decide_eq_true c];rfl
  ·rw[decide_eq_true (by omega),decide_eq_false c];rfl) (λnext=>by
  unfold kB;simp only
  rw[decide_eq_false (by omega)];rfl) (by omega)]
 cases(bB m).all λc=>decide (c<=1000)<;>rfl
theorem EA {k:Nat} {m:Model} (hk:m.tot+1<k) (hN:m.tot<aU):s3 k m=some (tp m):=by
 have hM:=ar;have hc:=jb m;have hl:=bm ax.tot m.aB;have ht:m.tot=eu ax.tot m.aB+0:=rfl;unfold s3 tp bf bD;rw[jV hk hN,aa]
 rw[eM (bB m) (λx=>decide (x>1000)) (λi hi next=>by
  simp only[aJ,ab,py,aa]
  rw[if_pos (by omega),aE,ai hi,aa,au hi (by omega)]) (λnext=>by
  simp only[aJ,ab];rw[if_neg (by omega)]) (by omega)]
 rw[cH];simp only[aa,ng];rw[RQ,SA]
 congr 2
 funext c
 rw[<-decide_not]
 congr 1
 exact propext Int.not_lt
def Gl:av:=⟨⟨0,0,0⟩,[]⟩
def dw (kind code:Int):List Event:=[⟨5,kind,code,Gl⟩]
def Ji (r:Runtime) (a:Int):Bool:=inB a 0 3&&r.ak.getD a.toNat false
def uJ (r:Runtime) (x:Step):List Event× List Model× List Bool:=
 cond (inB x.a 0 3&&!r.ak.getD x.a.toNat false) (cond (decide ((eB x.data).2=0)&&tp (eB x.data).1) ([⟨0,x.a,xE (eB x.data).1,Gl⟩],r.ao.set x.a.toNat (eB x.data).1,r.ak.set x.a.toNat true) (dw x.kind 2,r.ao,r.ak)) (dw x.kind 1,r.ao,r.ak)
section
variable {k:Nat} {r:Runtime} {x:Step} (hk:9000000<=k) (hb:∀y∈x.data,okB y) (hl:x.data.length<=aU) (hlo:r.ak.length=4) (hmo:r.ao.length=4)
include hk hb hl hlo hmo
theorem Ll:lx k r x=some (uJ r x):=by
 have hM:=ar;have hd:=rL x.data;unfold lx uJ bE;rw[cr,aa];cases c1:inB x.a 0 3
 ·simp only[QI,cond_true,aa,decide_true,Q9,cond_false];rfl
 have c1':=of_decide_eq_true c1
 have hi:x.a.toNat<r.ak.length:=by omega
 simp only[Qq,cond_false,Qr];rw[decide_eq_true (by omega),cond_true,ai hi,aa,cM hi];cases c2:r.ak[x.a.toNat]
 ·simp only[cond_false,QI,cond_true];rw[vE hk hb hl,aa,nh];by_cases c3:(eB x.data).2=0
  ·rw[decide_eq_true c3];simp only[cond_true,Qr];rw[Cy (by omega) (by omega),aa,I9 c3,Sm];cases tp (eB x.data).1
   ·simp only[QI,cond_true,aa,decide_true,cond_false];rfl
   ·simp only[Qq,cond_false,cond_true];rw[decide_eq_true (by omega),cond_true,zo (by omega) (by omega),aa];simp only[decide_true,cond_true];rfl
  ·rw[decide_eq_false c3];simp only[cond_true,aa,decide_true,Q9,cond_false];rfl
 ·simp only[cond_true,aa,decide_true,Qq,cond_false];rfl
theorem Lm:eX k r x=some (uJ r x):=by
 have hM:=ar;have hd:=rL x.data;unfold eX uJ du;rw[fB,aa];cases c1:inB x.a 0 3
 ·simp only[QI,cond_true,aa,decide_true,Q9,cond_false];rfl
 have c1':=of_decide_eq_true c1
 have hi:x.a.toNat<r.ak.length:=by omega
 simp only[Qq,cond_false,Qr];rw[decide_eq_true (by omega),cond_true,ai hi,aa,cM hi];cases c2:r.ak[x.a.toNat]
 ·simp only[cond_false,QI,cond_true];rw[vF hk hb hl,aa,nh];by_cases c3:(eB x.data).2=0
  ·rw[decide_eq_true c3];simp only[cond_true,Qr];rw[EA (by omega) (by omega),aa];cases tp (eB x.data).1
   ·simp only[QI,cond_true,aa,decide_true,cond_false];rfl
   ·simp only[Qq,cond_false,cond_true];rw[decide_eq_true (by omega),cond_true,zp (by omega) (by omega),aa];simp only[decide_true,cond_true];rfl
  ·rw[decide_eq_false c3];simp only[cond_true,aa,decide_true,Q9,cond_false];rfl
 ·simp only[cond_true,aa,decide_true,Qq,cond_false];rfl
end
theorem tq {k:Nat} {r:Runtime} {a:Int} (hlo:r.ak.length=4):eg k r a=some (Ji r a):=by
 unfold eg Ji;rw[fB,aa];cases c:inB a 0 3
 ·rfl
 have c':=of_decide_eq_true c;simp only[cond_true,Qr];rw[rv _ (by omega),ai (show a.toNat<r.ak.length by omega),cM (show a.toNat<r.ak.length by omega)];rfl
end
set_option maxRecDepth 100000
set_option maxHeartbeats 4000000
section
def uK (rs:List Request) (id:Int):Int:=(rs.findIdx? λq=>q.id==id).elim (-1) λi=>(i:Int)
def wj (rs:List Request) (id:Int):List Request:=rs.filter λq=>!(q.id==id)
section
variable {k:Nat} {rs:List Request} {id:Int} (hk:rs.length<k) (hN:rs.length<=aU)
include hk hN
theorem yP:bz k rs id=some (uK rs id):=by
 have hM:=ar;unfold bz uK
 rw[eM rs (λt=>t.id==id) (yes:=some (-1)) (no:=some) (λi hi next=>by
  simp only[bc,gj,decide_true,cond_true,aa]
  rw[ab,if_pos (by omega),ab,if_pos (by omega),Ql,ai hi,aa,au hi (by omega)]) (λnext=>by
  simp only[bc,decide_true,cond_true];rw[ab,if_neg (by omega)]) hk]
 exact cH _
theorem yQ:bA k rs id=some (uK rs id):=by
 have hM:=ar;unfold bA uK
 rw[eM rs (λt=>t.id==id) (yes:=some (-1)) (no:=some) (λi hi next=>by
  simp only[bd,gL,decide_true,cond_true,aa]
  rw[ab,if_pos (by omega),aE,ai hi,aa,au hi (by omega)]) (λnext=>by
  simp only[bd,decide_true,cond_true];rw[ab,if_neg (by omega)]) hk]
 exact cH _
theorem yR:bo k rs id=some (wj rs id):=by
  have hM:=ar;unfold bo wj;rw[yP hk hN,aa];unfold uK
  cases hf:rs.findIdx? λz=>z.id==id with
  | none =>
    rw[RU,filter_none hf]
    simp
  | some i =>
    obtain⟨hi,hfi⟩:=mj hf;rw[Qo,dP,if_neg (by omega),au hi (by omega)]
    obtain⟨i',ys',h1,h2,h3,h4⟩:=jd rs (λz=>z.id==id) (R:=List Request) (g:=(λu5 n5=>aP k id u5 n5 (λy4=>cond (decide (0<=y4.1/\y4.1<=(y4.2.length:Int))) (cond (decide (0<=y4.1/\y4.1<=(((y4.2).take y4.1.toNat++List.replicate (y4.2.length-y4.1.toNat) (⟨(0:Int),(0:Int),(⟨(⟨(⟨(0:Int),(0:Int),(0:Int)⟩:Shape),([]:List ax)⟩:Model),(0:Int),(⟨(⟨(0:Int),(0:Int),(0:Int)⟩:Shape),([]:List Int)⟩:av),(0:Int)⟩:Job),(0:Int)⟩:Request)++(y4.2).drop (y4.1.toNat+(y4.2.length-y4.1.toNat))).length:Int))) (cond (decide (id=id)) (some (((y4.2).take y4.1.toNat++List.replicate (y4.2.length-y4.1.toNat) (⟨(0:Int),(0:Int),(⟨(⟨(⟨(0:Int),(0:Int),(0:Int)⟩:Shape),([]:List ax)⟩:Model),(0:Int),(⟨(⟨(0:Int),(0:Int),(0:Int)⟩:Shape),([]:List Int)⟩:av),(0:Int)⟩:Job),(0:Int)⟩:Request)++(y4.2).drop (y4.1.toNat+(y4.2.length-y4.1.toNat))).take (y4.1.toNat-0))) none) none) none)))
      (fin:=(λy4=>cond (decide (0<=y4.1/\y4.1<=(y4.2.length:Int))) (cond (decide (0<=y4.1/\y4.1<=(((y4.2).take y4.1.toNat++List.replicate (y4.2.length-y4.1.toNat) (⟨(0:Int),(0:Int),(⟨(⟨(⟨(0:Int),(0:Int),(0:Int)⟩:Shape),([]:List ax)⟩:Model),(0:Int),(⟨(⟨(0:Int),(0:Int),(0:Int)⟩:Shape),([]:List Int)⟩:av),(0:Int)⟩:Job),(0:Int)⟩:Request)++(y4.2).drop (y4.1.toNat+(y4.2.length-y4.1.toNat))).length:Int))) (cond (decide (id=id)) (some (((y4.2).take y4.1.toNat++List.replicate (y4.2.length-y4.1.toNat) (⟨(0:Int),(0:Int),(⟨(⟨(⟨(0:Int),(0:Int),(0:Int)⟩:Shape),([]:List ax)⟩:Model),(0:Int),(⟨(⟨(0:Int),(0:Int),(0:Int)⟩:Shape),([]:List Int)⟩:av),(0:Int)⟩:Job),(0:Int)⟩:Request)++(y4.2).drop (y4.1.toNat+(y4.2.length-y4.1.toNat))).take (y4.1.toNat-0))) none) none) none))
      (λi j ys hj next hij hl hg=>by
        simp only[aP,fK,decide_true,cond_true,aa,hl]
        rw[ab,if_pos (by omega),ab,if_pos (by omega),Ql,hg,aa,cond_not,ab,if_pos (by omega),au hj (by omega),au (show i<rs.length by omega) (by omega),Ql])
      (λi ys next hl=>by simp only[aP,hl];rw[ab,if_neg (by omega)])
      (rs.length-(i+1)) i (i+1) rs k (by omega) (by omega) (by omega) rfl rfl hfi
    refine h4.trans ?_;obtain⟨c1,c2⟩:=qE (⟨(0:Int),(0:Int),(⟨(⟨(⟨(0:Int),(0:Int),(0:Int)⟩:Shape),([]:List ax)⟩:Model),(0:Int),(⟨(⟨(0:Int),(0:Int),(0:Int)⟩:Shape),([]:List Int)⟩:av),(0:Int)⟩:Job),(0:Int)⟩:Request) h1 h2;simp only[Ql,h2,decide_true,cond_true];rw[c2,c1,ab,if_pos (by omega),ab,if_pos (by omega),h3]
end
theorem uL {k:Nat} {r:Runtime} {id:Int} (hk:r.ae.length<k) (hN:r.ae.length<=aU):gB k r id=some (uK r.ae id):=by
 unfold gB;rw[yQ hk hN];rfl
theorem uM {k:Nat} {r:Runtime} {id:Int} (hk:r.ae.length<k) (hN:r.ae.length<=aU):xA k r id=some (uK r.ae id):=by
 have hM:=ar;unfold xA uK
 rw[eM r.ae (λt=>t.id==id) (yes:=some (-1)) (no:=some) (λi hi next=>by
  simp only[qv]
  rw[ab,if_pos (by omega),aE,ai hi,aa,au hi (by omega)]) (λnext=>by
  simp only[qv];rw[ab,if_neg (by omega)]) hk]
 exact cH _
def vu (s:aj) (id:Int):aj:=⟨s.now,s.ag,s.age,Jh s.tasks id,cond (s.run==id) 0 s.run,cond (s.run==id) 0 s.left,s.turns,s.next⟩
theorem uN {s:aj} (h:SOk s) {id:Int} (hid:1<=id):(pL s id).1=vu s id:=by
 unfold pL;rw[wg h,Qr];by_cases c:0<=jX s.tasks id
 ·rw[decide_eq_true c];rfl
 rw[decide_eq_false c,cond_false]
 have hn:∀t∈s.tasks,t.id≠id:=λt ht e=>by
  unfold jX at c
  cases hf:s.tasks.findIdx? λt=>t.id==id with
  |none=>rw[RI]at hf;have:=hf t ht;simp[e]at this
  |some i=>rw[hf,Qo]at c;omega
 have ht:Jh s.tasks id=s.tasks:=Rr.2 λt ht=>by simpa using hn t ht
 have hr:(s.run==id)=false:=by
  rcases h.run with⟨h1,_⟩|⟨t,g1,g2,_⟩
  ·rw[h1];simp;omega
  ·rw[<-g2];simpa using hn t g1
 unfold vu;rw[ht,hr];rfl
def Py (r:Runtime) (id:Int):Runtime:=⟨vu r.sched id,r.ao,r.ak,wj r.ae id⟩
section
variable {k:Nat} {r:Runtime} {id:Int} (hk:r.sched.tot+r.ae.length<k) (hN:r.sched.tot+r.ae.length<=aU)
include hk hN
theorem Ln (h:SOk r.sched) (hid:1<=id):nX k r id=some (let s:=vu r.sched id;(s.now,s.ag,s.age,s.tasks,s.run,s.left,s.turns,s.next,wj r.ae id)):=by
 have hM:=ar;unfold nX
 refine(om r.ae (λq=>!(q.id==id)) (λq=>q) (g:=λu5 n5=>gA k (id,r.sched.now,r.sched.ag,r.sched.age,r.sched.run,r.sched.left,r.sched.turns,r.sched.next,r.ae,r.sched.tasks,r.ao,r.ak) u5 n5 _) (fin:=_) (λi ys hi next hl=>by
  simp only[gA];rw[ab,if_pos (by omega),aE,ai hi,aa,aa,cX (by omega),au hi (by omega)]
  rfl) (λys next=>by
  simp only[gA];rw[ab,if_neg (by omega)]) (by omega)).trans ?_
 simp only[SC,pM (show r.sched.tot<k by omega) (show r.sched.tot<=aU by omega),aa,decide_true,cond_true];have:=uN h hid;rw[<-this];unfold pL wj;cases(bC r.sched&&decide (0<=jX r.sched.tasks id))<;>rfl
theorem AM (h:SOk r.sched) (hid:1<=id):gT k r id=some (let s:=vu r.sched id;(s.now,s.ag,s.age,s.tasks,s.run,s.left,s.turns,s.next,wj r.ae id)):=by
 have hM:=ar;unfold gT
 refine(om r.ae (λq=>!(q.id==id)) (λq=>q) (g:=λu5 n5=>dK k (id,r.sched.now,r.sched.ag,r.sched.age,r.sched.run,r.sched.left,r.sched.turns,r.sched.next,r.sched.tasks,r.ao,r.ak,r.ae) u5 n5 _) (fin:=_) (λi ys hi next hl=>by
  simp only[dK];rw[ab,if_pos (by omega),ab,if_pos (by omega),Ql,ai hi,aa,ab,if_pos (by omega),aa,cX (by omega),au hi (by omega)]
  rfl) (λys next=>by
  simp only[dK];rw[ab,if_neg (by omega)]) (by omega)).trans ?_
 simp only[SC,pM (show r.sched.tot<k by omega) (show r.sched.tot<=aU by omega),aa,decide_true,cond_true];have:=uN h hid;rw[<-this];unfold pL wj;cases(bC r.sched&&decide (0<=jX r.sched.tasks id))<;>rfl
omit hk hN in
theorem Ja {zs:List bX} {a b c d e f g:Int} {ms:List Model} {ls:List Bool} {rs:List Request} (hk:zs.length<k) (hN:zs.length<=aU):cC k a b c zs d e f g ms ls rs id=some (zs.filter λz=>!(z.id==id),cond (d==id) 0 d,cond (d==id) 0 e):=by
 unfold cC;rw[oB hk hN,aa];simp only[decide_true,cond_true];cases d==id<;>rfl
theorem EB:dB k r id=some (let s:=vu r.sched id;(⟨4,id,0,Gl⟩,s.tasks,s.run,s.left,wj r.ae id)):=by
 have hlen:=bm Task.tot r.sched.tasks;have hst:r.sched.tot=eu Task.tot r.sched.tasks+0:=rfl;unfold dB;rw[qD,aa,Ja (by rw[en];omega) (by rw[en];omega),aa];simp only;rw[mi,cond_true,oo r.sched.tasks (λt=>!(t.id==id)) (λz=>!(z.id==id)) (λn t=>rfl),aa,yR (by omega) (by omega),aa];simp only[decide_true,cond_true];rfl
end
end
set_option maxRecDepth 100000
set_option maxHeartbeats 4000000
section
structure MY (q:Request) (t:Task):Prop where
 id:q.id=t.id
 job:tA q.job=true
 at_:q.job.at_=t.at_
 aq:bB q.job.model=t.aq
 tot:q.job.model.tot<=8002000
inductive Lk:List Request->List Task->Prop
 |nil:Lk [] []
 |cons {q:Request} {t:Task} {qs:List Request} {ts:List Task}:MY q t->Lk qs ts->Lk (q::qs) (t::ts)
theorem Lk.len:∀{qs:List Request} {ts:List Task},Lk qs ts->qs.length=ts.length
 |_,_,.nil=>rfl
 |_,_,.cons _ h=>by simp[h.len]
theorem Lk.off {id:Int}:∀{qs:List Request} {ts:List Task},Lk qs ts->Lk (wj qs id) (Jh ts id)
 |_,_,.nil=>.nil
 |_,_,.cons (q:=q) (t:=t) (qs:=qs) (ts:=ts) h g=>by
  have e:(q.id==id)=(t.id==id):=by rw[h.id]
  have:=g.off (id:=id);unfold wj Jh at this⊢;rw[RK,RK,e];cases(t.id==id)
  ·exact .cons h this
  ·exact this
theorem Lk.app {q:Request} {t:Task} (l:MY q t):∀{qs:List Request} {ts:List Task},Lk qs ts->Lk (qs++[q]) (ts++[t])
 |_,_,.nil=>.cons l .nil
 |_,_,.cons h g=>.cons h (g.app l)
theorem Lk.get:∀{qs:List Request} {ts:List Task},Lk qs ts->∀{i:Nat} (h1:i<qs.length) (h2:i<ts.length),MY qs[i] ts[i]
 |_,_,.nil,_,h,_=>absurd h (by simp)
 |_,_,.cons h _,0,_,_=>h
 |_,_,.cons _ g,i+1,h1,h2=>g.get (by simpa using h1) (by simpa using h2)
theorem Lk.set {q:Request} {t:Task} (l:MY q t):∀{qs:List Request} {ts:List Task},Lk qs ts->∀(i:Nat),Lk (qs.set i q) (ts.set i t)
 |_,_,.nil,_=>.nil
 |_,_,.cons _ g,0=>.cons l g
 |_,_,.cons h g,i+1=>.cons h (g.set l i)
theorem Lk.ids {qs:List Request} {ts:List Task} (h:Lk qs ts):∀q∈qs,∃t∈ts,q.id=t.id:=by
 induction h with
 |nil=>exactλq hq=>nomatch hq
 |cons l _ ih=>
  intro q hq
  rcases QG.1 hq with rfl|hq
  ·exact⟨_,QN,l.id⟩
  ·obtain⟨t,h1,h2⟩:=ih q hq;exact⟨t,QC _ h1,h2⟩
structure qL (r:Runtime):Prop where
 s:SOk r.sched
 ml:r.ao.length=4
 ll:r.ak.length=4
 mod:∀m∈r.ao,m.tot<=8002000
 req:Lk r.ae r.sched.tasks
theorem qL.Ox {r:Runtime} (h:qL r):r.ae.length<=12:=by rw[h.req.len];exact h.s.len
theorem HB {t:Task} (h:gY t=true):t.tot<=6:=by
 have:=(b8 h).2.1.2;unfold Task.tot;omega
theorem Gm {α:Type} {t:α->Nat} {B:Nat}:∀{xs:List α},(∀x∈xs,t x<=B)->eu t xs<=xs.length*(B+1)
 |[],_=>by simp[eu]
 |x::xs,h=>by
  have h1:=h x QN;have h2:=Gm (t:=t) (B:=B) (xs:=xs) λy hy=>h y (QC _ hy);rw[pn,Qy,QL];omega
theorem qL.tot {r:Runtime} (h:qL r):r.sched.tot<=84:=by
 have h1:=Gm (t:=Task.tot) (B:=6) (xs:=r.sched.tasks) λt ht=>HB (h.s.task t ht).1;have h2:=h.s.len;show eu Task.tot r.sched.tasks+0<=84;omega
theorem AO {r:Runtime} (h:qL r):∀q∈r.ae,1<=q.id:=λq hq=>by
 obtain⟨t,h1,h2⟩:=h.req.ids q hq;have:=(b8 (h.s.task t h1).1).1.1;omega
theorem Lo {s:aj} (h:SOk s) {id:Int} (hid:1<=id):SOk (vu s id):=by rw[<-uN h hid];exact Lj h id
theorem HC {r:Runtime} (h:qL r) {id:Int} (hid:1<=id):qL (Py r id):=⟨Lo h.s hid,h.ml,h.ll,h.mod,h.req.off⟩
def gP (r:Runtime) (x:Step):List Event× aj× List Request:=
  cond (Ji r x.a) (cond (dv (r.ao.getD x.a.toNat eZ) x.input).2 (cond (inB x.b 0 1000000)
    (let ad:=fD r.sched (bB (dv (r.ao.getD x.a.toNat eZ) x.input).1.model) (r.sched.now+x.b);
      cond (decide (ad.2.2=0)) ([⟨2,ad.2.1,r.sched.now+x.b,Gl⟩],ad.1,r.ae++[⟨ad.2.1,x.a,(dv (r.ao.getD x.a.toNat eZ) x.input).1,r.sched.now+x.b⟩]) (dw x.kind (IntKind.i64.wrap (3+ad.2.2)),r.sched,r.ae))
    (dw x.kind 8,r.sched,r.ae)) (dw x.kind 3,r.sched,r.ae)) (dw x.kind 1,r.sched,r.ae)
def Qd (e:List Event× aj× List Request):List Event× Int× Int× Int× List Task× Int× Int× Int× Int× List Request:=(e.1,e.2.1.now,e.2.1.ag,e.2.1.age,e.2.1.tasks,e.2.1.run,e.2.1.left,e.2.1.turns,e.2.1.next,e.2.2)
section
variable {k:Nat} {r:Runtime} {x:Step} (h:qL r) (hk:20000000<=k) (hx:x.input.tot<=2000000)
include h hk hx
theorem Gn:kD k r x=some (Qd (gP r x)):=by
 have hM:=ar;have hq:=h.Ox;have ht:=h.tot;have hnow:=h.s.now;unfold kD gP bE Ji;rw[cr,aa];cases c1:inB x.a 0 3
 ·simp only[QI,cond_true,aa,decide_true,Q9,cond_false];rfl
 have c1':=of_decide_eq_true c1;have hlo:=h.ll;have hmo:=h.ml
 have hi:x.a.toNat<r.ak.length:=by omega
 have hi2:x.a.toNat<r.ao.length:=by omega
 simp only[Qq,cond_false,Qr];rw[decide_eq_true (by omega),cond_true,ai hi,aa,cM hi];cases c2:r.ak[x.a.toNat]
 ·simp only[QI,cond_true,aa,decide_true,cond_false];rfl
 simp only[Qq,cond_false,cond_true];rw[decide_eq_true (by omega),cond_true,ai hi2,aa,cM hi2];have hmt:=h.mod _ (Qs hi2);generalize hm:r.ao[x.a.toNat]=m at hmt;have hjt:=vj m x.input;rw[B5 (by omega) (by omega),aa];cases c3:(dv m x.input).2
 ·simp only[QI,cond_true,aa,decide_true,cond_false];rfl
 simp only[Qq,cond_false,cond_true];rw[pH,aa];cases c4:inB x.b 0 1000000
 ·simp only[QI,cond_true,aa,decide_true,cond_false];rfl
 have c4':=of_decide_eq_true c4;simp only[Qq,cond_false,cond_true];rw[aK (n:=r.sched.now+x.b) (by omega) (by omega)];generalize hj:(dv m x.input).1=j at hjt
 have hjm:j.model.tot<=j.tot:=by unfold Job.tot;omega
 have hcl:=jb j.model;have hcl2:=bm ax.tot j.model.aB;have hcl3:j.model.tot=eu ax.tot j.model.aB+0:=rfl;rw[jU (by omega) (by omega),aa,I1 (by omega) (by omega),aa,nh];generalize fD r.sched (bB j.model) (r.sched.now+x.b)=ad;by_cases c5:ad.2.2=0
 ·rw[decide_eq_true c5];simp only[cond_true]
  have hlen:(r.ae++[(⟨ad.2.1,x.a,j,r.sched.now+x.b⟩:Request)]).length=r.ae.length+1:=by simp
  rw[cX (by omega),hlen,aK (by omega) (by omega),decide_eq_true (by omega),cond_true,show(((r.ae.length+1:Nat):Int)-1).toNat=r.ae.length from by omega,Qm (QE _),Nat.sub_self];simp only[List.getElem?_cons_zero,aa,decide_true,cond_true];rfl
 ·rw[decide_eq_false c5];simp only[cond_true,aa,decide_true,cond_false];rfl
theorem Gp:fl k r x=some (Qd (gP r x)):=by
 have hM:=ar;have hq:=h.Ox;have ht:=h.tot;have hnow:=h.s.now;have hlo:=h.ll;have hmo:=h.ml;unfold fl gP du;rw[tq h.ll,aa];cases c0:Ji r x.a
 ·simp only[QI,cond_true,aa,decide_true,Q9,cond_false];rfl
 have c1':=of_decide_eq_true (RO.1 c0).1
 have hi2:x.a.toNat<r.ao.length:=by omega
 simp only[Qq,cond_false,cond_true];rw[decide_eq_true (by omega),cond_true,ai hi2,aa,cM hi2];have hmt:=h.mod _ (Qs hi2);generalize hm:r.ao[x.a.toNat]=m at hmt;have hjt:=vj m x.input;rw[B6 (by omega) (by omega),aa];cases c3:(dv m x.input).2
 ·simp only[QI,cond_true,aa,decide_true,cond_false];rfl
 simp only[Qq,cond_false,cond_true];rw[rK,aa];cases c4:inB x.b 0 1000000
 ·simp only[QI,cond_true,aa,decide_true,cond_false];rfl
 have c4':=of_decide_eq_true c4;simp only[Qq,cond_false,cond_true];rw[aK (n:=r.sched.now+x.b) (by omega) (by omega)];generalize hj:(dv m x.input).1=j at hjt
 have hjm:j.model.tot<=j.tot:=by unfold Job.tot;omega
 have hcl:=jb j.model;have hcl2:=bm ax.tot j.model.aB;have hcl3:j.model.tot=eu ax.tot j.model.aB+0:=rfl;rw[jV (by omega) (by omega),aa,I2 (by omega) (by omega),aa,nh];generalize fD r.sched (bB j.model) (r.sched.now+x.b)=ad;by_cases c5:ad.2.2=0
 ·rw[decide_eq_true c5];simp only[cond_true];rw[cX (by omega)];simp only[aa,decide_true,cond_true];rfl
 ·rw[decide_eq_false c5];simp only[cond_true,aa,decide_true,cond_false];rfl
end
end
set_option maxRecDepth 100000
set_option maxHeartbeats 4000000
section
theorem SOk.tot {s:aj} (h:SOk s):s.tot<=84:=by
 have h1:=Gm (t:=Task.tot) (B:=6) (xs:=s.tasks) λt ht=>HB (h.task t ht).1;have h2:=h.len;show eu Task.tot s.tasks+0<=84;omega
theorem HD (rs:List Request) (id:Int):(wj rs id).length<=rs.length:=RZ _ _
def zv (id:Int):Event:=⟨4,id,0,Gl⟩
def yS (a:Int):List Request->List Event->aj->List Request->List Event× aj× List Request
 |[],e,s,rs=>(e,s,rs)
 |q::qs,e,s,rs=>cond (q.model==a) (yS a qs (e++[zv q.id]) (vu s q.id) (wj rs q.id)) (yS a qs e s rs)
theorem yU (a:Int) (ms:List Model) (ls:List Bool):∀(qs:List Request) (e:List Event) (s:aj) (rs:List Request),(∀q∈qs,1<=q.id)->qL ⟨s,ms,ls,rs⟩->qL ⟨(yS a qs e s rs).2.1,ms,ls,(yS a qs e s rs).2.2⟩/\(yS a qs e s rs).1.length<=e.length+qs.length
 |[],e,s,rs,_,h=>⟨h,QE _⟩
 |q::qs,e,s,rs,hq,h=>by
  unfold yS;cases q.model==a
  ·have:=yU a ms ls qs e s rs (λx hx=>hq x (QC _ hx)) h;exact⟨this.1,Rx this.2 (by simp)⟩
  ·have:=yU a ms ls qs (e++[zv q.id]) (vu s q.id) (wj rs q.id) (λx hx=>hq x (QC _ hx)) (HC h (hq q QN));exact⟨this.1,Rx this.2 (by simp;omega)⟩
inductive oE:List Int->List Event->List Int->Prop
 |nil {ids:List Int}:oE ids [] ids
 |other {ids ids':List Int} {e:Event} {es:List Event}:e.kind≠2->e.kind≠3->e.kind≠4->oE ids es ids'->oE ids (e::es) ids'
 |ends {ids ids':List Int} {e:Event} {es:List Event}:e.kind=3\/e.kind=4->e.a∈ids->oE (ids.filter λi=>!(i==e.a)) es ids'->oE ids (e::es) ids'
theorem oE.app {a b c:List Int} {e f:List Event} (h:oE a e b) (g:oE b f c):oE a (e++f) c:=by
 induction h with
 |nil=>exact g
 |other h1 h2 h3 _ ih=>exact .other h1 h2 h3 (ih g)
 |ends h1 h2 _ ih=>exact .ends h1 h2 (ih g)
def qY (rs:List Request):List Int:=rs.map λq=>q.id
theorem wm (rs:List Request) (id:Int):qY (wj rs id)=(qY rs).filter λi=>!(i==id):=by
 unfold qY wj;rw[List.filter_map];rfl
theorem Lk.Qe {qs:List Request} {ts:List Task} (h:Lk qs ts):qY qs=ts.map λt=>t.id:=by
 induction h with
 |nil=>rfl
 |cons l _ ih=>unfold qY at ih⊢;rw[QT,QT,ih,l.id]
theorem qL.inc {r:Runtime} (h:qL r):(qY r.ae).Pairwise (·<·):=by
 rw[h.req.Qe,List.pairwise_map];exact h.s.ids
theorem qL.lt {r:Runtime} (h:qL r):∀i∈qY r.ae,1<=i/\i<r.sched.next:=by
 rw[h.req.Qe];intro i hi;obtain⟨t,ht,rfl⟩:=Sx.1 hi;have:=h.s.task t ht;exact⟨(b8 this.1).1.1,this.2.1⟩
theorem yV (a:Int):∀(qs:List Request) (e:List Event) (s:aj) (rs:List Request),(qY qs).Pairwise (·<·)->(∀i∈qY qs,i∈qY rs)->∃d,(yS a qs e s rs).1=e++d/\oE (qY rs) d (qY (yS a qs e s rs).2.2)
 |[],e,s,rs,_,_=>⟨[],by simp[yS],.nil⟩
 |q::qs,e,s,rs,hp,hm=>by
  unfold yS;have hp':=Sr.1 hp;cases q.model==a
  ·exact yV a qs e s rs hp'.2 λi hi=>hm i (QC _ hi)
  ·obtain⟨d,h1,h2⟩:=yV a qs (e++[zv q.id]) (vu s q.id) (wj rs q.id) hp'.2 λi hi=>by
    rw[wm,Rk];have:q.id<i:=hp'.1 i hi;exact⟨hm i (QC _ hi),by simp;omega⟩
   refine⟨zv q.id::d,by rw[cond_true,h1,QF];rfl,.ends (.inr rfl) (hm _ QN) ?_⟩;rw[wm]at h2;exact h2
section
variable {k:Nat} (hk:20000000<=k)
include hk
theorem uO {R:Type} {orig:List Request} {a q1 q2 q4 q5 q6:Int} {q3 q7:List Int} {ms:List Model} {ls:List Bool} {fin:Int× Int× Int× Int× Int× Int× Int× List Event× List Task× List Request->Option R}:∀(qs pre:List Request) (e:List Event) (s:aj) (rs:List Request) (kf:Nat),qs.length<kf->orig=pre++qs->orig.length<=12->e.length+qs.length<=100->(∀q∈qs,1<=q.id)->SOk s->rs.length<=12->
  iter (λu10 n10=>cz k (orig,q1,a,q2,q3,q4,q5,q6,q7,ms,ls) u10 n10 fin) kf ((pre.length:Int),s.now,s.ag,s.age,s.run,s.left,s.turns,s.next,e,s.tasks,rs)=
   (let y:=yS a qs e s rs;fin (y.2.1.now,y.2.1.ag,y.2.1.age,y.2.1.run,y.2.1.left,y.2.1.turns,y.2.1.next,y.1,y.2.1.tasks,y.2.2))
 |_,_,_,_,_,0,h,_,_,_,_,_,_=>by omega
 |[],pre,e,s,rs,kf+1,_,ho,hl,_,_,_,_=>by
  rw[aS];show cz k _ _ _ fin=_;unfold cz;simp only
  rw[decide_eq_false (by rw[ho];simp)];rfl
 |q::qs,pre,e,s,rs,kf+1,hkf,ho,hl,he,hq,hs,hr=>by
  have hM:=ar;simp only[Qy]at hkf he
  have hol:orig.length=pre.length+(qs.length+1):=by rw[ho];simp
  have hat:idx orig (pre.length:Int)=some q:=by rw[aE,ho];simp
  have hst:=hs.tot;rw[aS];unfold yS;cases c:q.model==a
  ·have st:∀next,cz k (orig,q1,a,q2,q3,q4,q5,q6,q7,ms,ls) ((pre.length:Int),s.now,s.ag,s.age,s.run,s.left,s.turns,s.next,e,s.tasks,rs) next fin=next (((pre++[q]).length:Int),s.now,s.ag,s.age,s.run,s.left,s.turns,s.next,e,s.tasks,rs):=λnext=>by
    unfold cz;simp only;rw[decide_eq_true (by omega),cond_true,hat,aa,c,cond_false,aK (by omega) (by omega),QK];rfl
   exact(st _).trans (uO qs (pre++[q]) e s rs kf (by omega) (by rw[ho];simp) hl (by omega) (λx hx=>hq x (QC _ hx)) hs hr)
  ·have st:∀next,cz k (orig,q1,a,q2,q3,q4,q5,q6,q7,ms,ls) ((pre.length:Int),s.now,s.ag,s.age,s.run,s.left,s.turns,s.next,e,s.tasks,rs) next fin=next (((pre++[q]).length:Int),(vu s q.id).now,(vu s q.id).ag,(vu s q.id).age,(vu s q.id).run,(vu s q.id).left,(vu s q.id).turns,(vu s q.id).next,e++[zv q.id],(vu s q.id).tasks,wj rs q.id):=λnext=>by
    unfold cz;simp only;rw[decide_eq_true (by omega),cond_true,hat,aa,c,cond_true,aa,Ln (k:=k) (r:=⟨s,ms,ls,rs⟩) (by show s.tot+rs.length<k;omega) (by show s.tot+rs.length<=aU;omega) hs (hq q QN),aa,aa,cX (by omega),aK (by omega) (by omega),QK];rfl
   exact(st _).trans (uO qs (pre++[q]) (e++[zv q.id]) (vu s q.id) (wj rs q.id) kf (by omega) (by rw[ho];simp) hl (by simp;omega) (λx hx=>hq x (QC _ hx)) (Lo hs (hq q QN)) (Rx (HD _ _) hr))
theorem uP {R:Type} {orig:List Request} {a n p1 p2 p3 p4 p5 q1 q2 q4 q5 q6:Int} {q3 q7:List Int} {ms:List Model} {ls:List Bool} {fin:Int× Int× List Event× List Task× List Request->Option R}:∀(qs pre:List Request) (e:List Event) (s:aj) (rs:List Request) (kf:Nat),qs.length<kf->orig=pre++qs->n=orig.length->orig.length<=12->e.length+qs.length<=100->(∀q∈qs,1<=q.id)->SOk s->rs.length<=12->s.now=p1->s.ag=p2->s.age=p3->s.turns=p4->s.next=p5->
  iter (λu7 n7=>bp k (n,p1,p2,p3,p4,p5,q1,a,q2,q3,q4,q5,q6,q7,orig,ms,ls) u7 n7 fin) kf ((pre.length:Int),s.run,s.left,e,s.tasks,rs)=
   (let y:=yS a qs e s rs;fin (y.2.1.run,y.2.1.left,y.1,y.2.1.tasks,y.2.2))
 |_,_,_,_,_,0,h,_,_,_,_,_,_,_,_,_,_,_,_=>by omega
 |[],pre,e,s,rs,kf+1,_,ho,hn,hl,_,_,_,_,_,_,_,_,_=>by
  rw[aS];show bp k _ _ _ fin=_;unfold bp;simp only
  rw[decide_eq_false (by rw[hn,ho];simp)];rfl
 |q::qs,pre,e,s,rs,kf+1,hkf,ho,hn,hl,he,hq,hs,hr,e1,e2,e3,e4,e5=>by
  have hM:=ar;simp only[Qy]at hkf he
  have hol:orig.length=pre.length+(qs.length+1):=by rw[ho];simp
  have hat:orig[(pre.length:Int).toNat]? =some q:=by rw[Ql,ho];simp
  have hst:=hs.tot;rw[aS];unfold yS;cases c:q.model==a
  ·have st:∀next,bp k (n,p1,p2,p3,p4,p5,q1,a,q2,q3,q4,q5,q6,q7,orig,ms,ls) ((pre.length:Int),s.run,s.left,e,s.tasks,rs) next fin=next (((pre++[q]).length:Int),s.run,s.left,e,s.tasks,rs):=λnext=>by
    unfold bp;simp only;rw[decide_eq_true (by omega),cond_true,decide_eq_true (by omega),cond_true,hat,aa,c,cond_false,aK (by omega) (by omega),QK];rfl
   exact(st _).trans (uP qs (pre++[q]) e s rs kf (by omega) (by rw[ho];simp) hn hl (by omega) (λx hx=>hq x (QC _ hx)) hs hr e1 e2 e3 e4 e5)
  ·have st:∀next,bp k (n,p1,p2,p3,p4,p5,q1,a,q2,q3,q4,q5,q6,q7,orig,ms,ls) ((pre.length:Int),s.run,s.left,e,s.tasks,rs) next fin=next (((pre++[q]).length:Int),(vu s q.id).run,(vu s q.id).left,e++[zv q.id],(vu s q.id).tasks,wj rs q.id):=λnext=>by
    subst e1 e2 e3 e4 e5;unfold bp;simp only;rw[decide_eq_true (by omega),cond_true,decide_eq_true (by omega),cond_true,hat,aa,c,cond_true,EB (k:=k) (r:=⟨s,ms,ls,rs⟩) (by show s.tot+rs.length<k;omega) (by show s.tot+rs.length<=aU;omega),aa,cX (by omega),aK (by omega) (by omega),QK];rfl
   exact(st _).trans (uP qs (pre++[q]) (e++[zv q.id]) (vu s q.id) (wj rs q.id) kf (by omega) (by rw[ho];simp) hn hl (by simp;omega) (λx hx=>hq x (QC _ hx)) (Lo hs (hq q QN)) (Rx (HD _ _) hr) e1 e2 e3 e4 e5)
end
def fL (r:Runtime) (x:Step):List Event× Runtime:=
 cond (Ji r x.a) (let y:=yS x.a r.ae [] r.sched r.ae;(y.1++[⟨1,x.a,0,Gl⟩],⟨y.2.1,r.ao.set x.a.toNat eZ,r.ak.set x.a.toNat false,y.2.2⟩)) (dw x.kind 1,r)
theorem uQ (a:Int):∀(qs:List Request) (e:List Event) (s:aj) (rs:List Request),(yS a qs e s rs).2.1.now=s.now/\(yS a qs e s rs).2.1.ag=s.ag/\(yS a qs e s rs).2.1.age=s.age/\(yS a qs e s rs).2.1.turns=s.turns/\(yS a qs e s rs).2.1.next=s.next
 |[],e,s,rs=>⟨rfl,rfl,rfl,rfl,rfl⟩
 |q::qs,e,s,rs=>by
  unfold yS;cases q.model==a
  ·exact uQ a qs e s rs
  ·exact uQ a qs (e++[zv q.id]) (vu s q.id) (wj rs q.id)
section
variable {k:Nat} {r:Runtime} {x:Step} (h:qL r) (hk:20000000<=k)
include h hk
theorem Gq:kC k r x=some (let e:=fL r x;(e.1,e.2.sched.now,e.2.sched.ag,e.2.sched.age,e.2.sched.tasks,e.2.sched.run,e.2.sched.left,e.2.sched.turns,e.2.sched.next,e.2.ao,e.2.ak,e.2.ae)):=by
 have hM:=ar;have hq:=h.Ox;have hlo:=h.ll;have hmo:=h.ml;unfold kC fL bE Ji;rw[cr,aa];cases c1:inB x.a 0 3
 ·rfl
 have c1':=of_decide_eq_true c1
 have hi:x.a.toNat<r.ak.length:=by omega
 simp only[Qq,cond_false,Qr];rw[decide_eq_true (by omega),cond_true,ai hi,aa,cM hi];cases c2:r.ak[x.a.toNat]
 ·rfl
 simp only[Qq,cond_false,cond_true];have hu:=yU x.a r.ao r.ak r.ae [] r.sched r.ae (AO h) h;refine(uO hk r.ae [] [] r.sched r.ae k (by omega) rfl hq (by simp;omega) (AO h) h.s hq).trans ?_;generalize yS x.a r.ae [] r.sched r.ae=y at hu;have:=hu.2;simp only[QY]at this;simp only;rw[decide_eq_true (by omega),cond_true,cX (by omega)];rfl
theorem Gr:fk k r x=some (let e:=fL r x;(e.1,e.2.sched.tasks,e.2.sched.run,e.2.sched.left,e.2.ao,e.2.ak,e.2.ae))/\(fL r x).2.sched.now=r.sched.now/\(fL r x).2.sched.ag=r.sched.ag/\(fL r x).2.sched.age=r.sched.age/\(fL r x).2.sched.turns=r.sched.turns/\(fL r x).2.sched.next=r.sched.next:=by
 have hM:=ar;have hq:=h.Ox;have hlo:=h.ll;have hmo:=h.ml;unfold fk fL du;rw[tq h.ll,aa];cases c0:Ji r x.a
 ·simp only[QI,cond_true,aa,decide_true,cond_false];exact⟨rfl,trivial,trivial,trivial,trivial,trivial⟩
 have c1':=of_decide_eq_true (RO.1 c0).1;simp only[Qq,cond_false,cond_true]
 have hc:bW k r.ae=some r.ae:=by
  unfold bW;rw[cX (by simp;omega)];simp only[decide_true,cond_true,Rz]
  cases r.ae with
  |nil=>exact xB _
  |cons=>rfl
 have hkp:=uQ x.a r.ae [] r.sched r.ae;refine⟨?_,hkp⟩;rw[hc,aa];have hu:=yU x.a r.ao r.ak r.ae [] r.sched r.ae (AO h) h;refine(uP hk r.ae [] [] r.sched r.ae k (by omega) rfl rfl hq (by simp;omega) (AO h) h.s hq rfl rfl rfl rfl rfl).trans ?_;generalize yS x.a r.ae [] r.sched r.ae=y at hu;have:=hu.2;simp only[QY]at this;simp only;rw[decide_eq_true (by omega),cond_true,decide_eq_true (by omega),cond_true,cX (by omega)];simp only[decide_true,cond_true];rfl
end
end
set_option maxRecDepth 100000
set_option maxHeartbeats 4000000
section
section
variable {k:Nat}
theorem MZ (s:aj) (ms:List Model) (ls:List Bool) (rs:List Request):eY k s.now s.ag s.age s.tasks s.run s.left s.turns s.next ms ls rs=dU k s:=by
 unfold eY dU;simp only[decide_true,cond_true]
theorem Oy (a b c d e f g id:Int) (zs:List bX) (ms:List Model) (ls:List Bool) (rs:List Request):cC k a b c zs d e f g ms ls rs id=di k a b c zs d e f g id:=by
 unfold cC di;simp only[decide_true,cond_true]
theorem Oz (s:aj) (ms:List Model) (ls:List Bool) (rs:List Request) (st:Bool):fv k s.now s.ag s.age s.tasks s.run s.left s.turns s.next ms ls rs st=fJ k s st:=by
 unfold fv fJ;rw[MZ];simp only[Oy,decide_true,cond_true]
theorem OA {s:aj} (h:SOk s) (hn:s.now≠1000000) (hk:1000<k) (st:Bool) (ms:List Model) (ls:List Bool) (rs:List Request):
  fv k s.now s.ag s.age s.tasks s.run s.left s.turns s.next ms ls rs st=some (((gO s st).2.1,(gO s st).2.2),(gO s st).1.now,(gO s st).1.tasks,(gO s st).1.run,(gO s st).1.left,(gO s st).1.turns)/\
   (gO s st).1.ag=s.ag/\(gO s st).1.age=s.age/\(gO s st).1.next=s.next:=by
 have hM:=ar;have ht:=h.tot;have e:=zt (k:=k) (s:=s) (st:=st) (by omega) (by omega);unfold rB at e;rw[jc (by omega) (by omega),aa,jY (by omega) (by omega),aa,wg h,dP,if_neg hn]at e;simp only[Qq,cond_false]at e;rw[Oz]
 cases hm:fJ k s st with
 |none=>rw[hm]at e;exact nomatch e
 |some r3=>
  rw[hm]at e;have e:=Ry e;rw[<-e];exact⟨rfl,rfl,rfl,rfl⟩
inductive HE (s:aj):aj× Int× Bool->Prop
 |rest {u:aj}:u.tasks=s.tasks->HE s (u,0,false)
 |next {u:aj} {pre post:List Task} {t:Task}:s.tasks=pre++t::post->(∀v∈pre,v.id≠t.id)->1<=t.id->t.at_+1<t.aq.length->u.tasks=pre++pN t::post->HE s (u,t.id,false)
 |done {u:aj} {pre post:List Task} {t:Task}:s.tasks=pre++t::post->(∀v∈pre,v.id≠t.id)->(∀v∈post,v.id≠t.id)->1<=t.id->t.at_<t.aq.length->u.tasks=pre++post->u.run=0->HE s (u,t.id,true)
theorem Pz {s:aj} (h:SOk s) (st:Bool):HE s (gO s st):=by
 by_cases hn:s.now=1000000
 ·rw[wi hn];exact .rest rfl
 cases st
 ·rcases Ey h hn with⟨_,_,_,e⟩|⟨t,L,tr,T,_⟩
  ·rw[e];exact .rest rfl
  ·obtain⟨pre,post,e,h1,h2,h3,h4,h5⟩:=Hz h.ids T.mem;have hb:=b8 (h.task t T.mem).1
   have n1:∀u∈pre,u.id≠t.id:=λu hu=>by have:=h1 u hu;omega
   have n2:∀u∈post,u.id≠t.id:=λu hu=>by have:=h2 u hu;omega
   rw[T.eq,AK e n1 n2];by_cases c1:L-1>0
   ·rw[if_pos c1];exact .rest rfl
   rw[if_neg c1];by_cases c2:t.at_+1<t.aq.length
   ·rw[if_pos c2];exact .next e n1 hb.1.1 c2 rfl
   ·rw[if_neg c2];exact .done e n1 n2 hb.1.1 hb.2.2.1.2 rfl rfl
 ·rw[vt h hn];exact .rest rfl
end
theorem Lk.split {t:Task}:∀{pre post:List Task} {qs:List Request},Lk qs (pre++t::post)->∃qp q qo,qs=qp++q::qo/\Lk qp pre/\MY q t/\Lk qo post
 |[],post,_,.cons (q:=q) (qs:=qs) h g=>⟨[],q,qs,rfl,.nil,h,g⟩
 |p::pre,post,_,.cons (q:=q) (qs:=qs) h g=>by
  obtain⟨qp,q',qo,e,h1,h2,h3⟩:=g.split (pre:=pre);exact⟨q::qp,q',qo,by rw[e];rfl,.cons h h1,h2,h3⟩
theorem Lk.join {ts:List Task} {ro:List Request} (g:Lk ro ts):∀{rs:List Request} {us:List Task},Lk rs us->Lk (rs++ro) (us++ts)
 |_,_,.nil=>g
 |_,_,.cons h f=>.cons h (g.join f)
theorem Lk.ne {id:Int}:∀{qs:List Request} {ts:List Task},Lk qs ts->(∀v∈ts,v.id≠id)->∀q∈qs,q.id≠id:=λ{qs ts} h hn q hq=>by
 obtain⟨t,h1,h2⟩:=h.ids q hq;rw[h2];exact hn t h1
theorem HF {id:Int} {q:Request} (hq:q.id=id):∀{qp qo:List Request},(∀v∈qp,v.id≠id)->((qp++q::qo).findIdx? λq=>q.id==id)=some qp.length
 |[],qo,_=>by rw[Rz,Sq,hq];simp
 |p::qp,qo,h=>by
  have h1:=h p QN;rw[RB,Sq,show(p.id==id)=false from by simpa using h1,HF hq λv hv=>h v (QC _ hv)];simp
theorem Lq {id:Int} {q:Request} (hq:q.id=id) {qp qo:List Request} (h1:∀v∈qp,v.id≠id) (h2:∀v∈qo,v.id≠id):wj (qp++q::qo) id=qp++qo:=by
 unfold wj;rw[RW,RK,hq];simp only[beq_self_eq_true,Qq,RA,if_false];rw[Rr.2 λv hv=>by simpa using h1 v hv,Rr.2 λv hv=>by simpa using h2 v hv]
theorem rM {q:Request} {t:Task} (l:MY q t) (hc:t.at_<t.aq.length):tA (vG q.job)=true/\q.job.at_≠(q.job.model.aB.length:Int)/\MY ⟨q.id,q.model,vG q.job,q.due⟩ (pN t):=by
 have hl:=gU (jW l.job).1;rw[l.aq]at hl
 have hne:q.job.at_≠(q.job.model.aB.length:Int):=by rw[l.at_];omega
 have hs:=K5 l.job hne;refine⟨hs,hne,⟨l.id,hs,?_,l.aq,l.tot⟩⟩;show(vG q.job).at_=t.at_+1;rw[<-l.at_];rfl
end
set_option maxRecDepth 100000
set_option maxHeartbeats 4000000
section
def oq (q:Request):Request:=⟨q.id,q.model,vG q.job,q.due⟩
def M0 (id now:Int) (t:av):Event:=⟨3,id,now,t⟩
theorem Gs {q:Request} {t:Task} (l:MY q t):q.job.tot<=8003000:=by
 have:=(K4 l.job).2;have:=l.tot;omega
theorem tu {k:Nat} {qp qo:List Request} {q:Request} {t:Task} (l:MY q t) (hc:t.at_<t.aq.length) (hk:20000000<=k):jn k qp.length (qp++q::qo)=some (qp++oq q::qo):=by
 have hM:=ar;have htt:=Gs l;obtain⟨hs,hne,_⟩:=rM l hc;generalize hj:q.job=j at*;have ht:j.tot=j.model.tot+(j.act.data.length+0+0):=rfl;have h:tA j=true:=hj▸l.job;obtain⟨hm,hat,hok,hsh,hsp⟩:=jW h;obtain⟨hlen,_⟩:=qB hm;obtain⟨hl,hlt⟩:=Ek h hne
 have gm:∀(y:Request) (qs:List Request),(qp++y::qs)[qp.length]? =some y:=λy qs=>by simp
 have sm:∀(y z:Request) (qs:List Request),(qp++y::qs).set qp.length z=qp++z::qs:=λy z qs=>by simp
 unfold jn oq;simp only[gm,sm,aa,hj];rw[Cn (by omega) (by omega) h,aa];rw[rv _ hat.1,hl,aa,Cl (by omega) (by omega) (by omega) (by omega) (by omega),aa,aK (n:=j.at_+1) (by omega) (by omega)];rfl
theorem tv {q:Request} {qp qo:List Request} (h:∀v∈qp,v.id≠q.id):uK (qp++q::qo) q.id=(qp.length:Int):=by
 unfold uK;rw[HF rfl h];rfl
theorem Jb {k:Nat} {qp qo:List Request} {q:Request} (hl:qp.length+qo.length<=100):bN k (qp++q::qo) (qp.length:Int) (IntKind.i64.wrap ((qp.length:Int)+1))=some (qp++qo):=by
 have hlen:(qp++q::qo).length=qp.length+qo.length+1:=by simp;omega
 have t1:(qp.length:Int).toNat=qp.length:=Ql _
 have t2:((qp.length:Int)+1).toNat=qp.length+1:=by omega
 have e1:(qp++q::qo).take (qp.length-0)=qp:=by simp
 have e2:((qp++q::qo).drop (qp.length+1)).take (qp.length+qo.length+1-(qp.length+1))=qo:=by
  rw[show qp++q::qo=(qp++[q])++qo from by simp,List.drop_left' (by simp),RE (by omega)]
 have e3:((qp++q::qo).drop (qp.length-0+(qp.length+qo.length+1-(qp.length+1)))).length=1:=by rw[Rn,hlen];omega
 have e4:qp.length-0+(qp.length+qo.length+1-(qp.length+1))=qp.length+qo.length:=by omega
 unfold bN;rw[aK (by omega) (by omega)];simp only[t1,t2,hlen,e1,e2,Ql];generalize (qp++q::qo).drop (qp.length-0+(qp.length+qo.length+1-(qp.length+1)))=z at e3;rw[e4]
 have hT:(qp++qo++z).length=qp.length+qo.length+1:=by simp[e3];omega
 rw[hT]
 rw[decide_eq_true (show(0:Int)<=((qp.length+qo.length+1:Nat):Int)/\((qp.length+qo.length+1:Nat):Int)<=((qp.length+qo.length+1:Nat):Int) by omega),cond_true,
  decide_eq_true (show(0:Int)<=(qp.length:Int)+1/\(qp.length:Int)+1<=((qp.length+qo.length+1:Nat):Int) by omega),cond_true,
  decide_eq_true (show(0:Int)<=(qp.length:Int)/\(qp.length:Int)<=((qp.length+1:Nat):Int) by omega),cond_true,dP,if_neg (by omega),
  decide_eq_true (show(0:Int)<=(qp.length:Int)/\(qp.length:Int)<=((qp.length+qo.length+1:Nat):Int) by omega),cond_true,cond_true]
 have hb:((qp.length+qo.length).ble (qp.length+qo.length+1)&&((qp.length+1+(qp.length+qo.length+1-(qp.length+1))).ble (qp.length+qo.length+1)&&Nat.ble 1 (qp.length+qo.length+1)))=true:=by
  rw[Qk,Qk,Nat.ble_eq,Nat.ble_eq,Nat.ble_eq];omega
 rw[hb,cond_true,decide_eq_true (show(0:Int)<=((qp.length+qo.length+1:Nat):Int)/\((qp.length+qo.length+1:Nat):Int)<=((qp.length+qo.length+1-0:Nat):Int) by omega),cond_true,
  decide_eq_true (show(0:Int)<=((qp.length+qo.length:Nat):Int)/\((qp.length+qo.length:Nat):Int)<=((qp.length+qo.length+1:Nat):Int) by omega),cond_true]
 congr 1
 rw[Qt,QF,Rs (by rw[QX,hT];omega),List.take_take,Nat.min_self,Rs (by simp),RE (by simp)]
theorem Lr {k:Nat} (hk:20000000<=k) {st:Bool} {s:aj} {ms:List Model} {ls:List Bool} {rs:List Request} {e:List Event} (h:qL ⟨s,ms,ls,rs⟩) (he:e.length<=1000) {i a:Int} (hi:0<=i) (hia:i<a) (ha:a<=200) {q1 q2 q4 q5 q6 kd p9:Int} {q3 q7:List Int} (hkd:(kd==5)=st):
  ∃(e':List Event) (s':aj) (rs':List Request),qL ⟨s',ms,ls,rs'⟩/\e'.length<=e.length+1/\(∃d,e'=e++d/\oE (qY rs) d (qY rs'))/\(s'.ag=s.ag/\s'.age=s.age/\s'.next=s.next)/\
   (∀(R:Type) (next:_->Option R) fin,cT k (st,q1,a,q2,q3,q4,q5,q6,q7,ms,ls) (i,s.now,s.ag,s.age,s.run,s.left,s.turns,s.next,e,s.tasks,rs) next fin=next (i+1,s'.now,s'.ag,s'.age,s'.run,s'.left,s'.turns,s'.next,e',s'.tasks,rs'))/\
   (s.now=1000000->e'=e/\s'=s/\rs'=rs)/\
   (s.now≠1000000->∀(R:Type) (next:_->Option R) fin,bj k (a,s.ag,s.age,s.next,kd,p9,q2,q3,q4,q5,q6,q7,ms,ls) (i,s.now,s.run,s.left,s.turns,e,s.tasks,rs) next fin=next (i+1,s'.now,s'.run,s'.left,s'.turns,e',s'.tasks,rs')):=by
 have hM:=ar;have ht:s.tot<=84:=SOk.tot h.s;have hq:rs.length<=12:=h.Ox;have hTK:=Pz h.s st;have hok:=Ow h.s st;have hS:=zr (k:=k) (s:=s) (st:=st) (by omega) (by omega);have hI:=λhn:s.now≠1000000=>OA (k:=k) h.s hn (by omega) st ms ls rs
 have hfix:(gO s st).1.ag=s.ag/\(gO s st).1.age=s.age/\(gO s st).1.next=s.next:=by
  by_cases hn:s.now=1000000
  ·rw[wi hn];exact⟨rfl,rfl,rfl⟩
  ·exact(hI hn).2
 have hend:s.now=1000000->gO s st=(s,0,false):=λhn=>wi hn st;generalize gO s st=T at*;have hw:IntKind.i64.wrap (i+1)=i+1:=aK (by omega) (by omega);have hreq:Lk rs s.tasks:=h.req
 cases hTK with
 |rest hu=>
  rename_i u;refine⟨e,u,rs,⟨hok,h.ml,h.ll,h.mod,by show Lk rs u.tasks;rw[hu];exact hreq⟩,by omega,⟨[],by simp,.nil⟩,hfix,λR next fin=>?_,λhn=>?_,λhn R next fin=>?_⟩
  ·unfold cT;simp only;rw[decide_eq_true hia,cond_true,hS,aa,hw];rfl
  ·have:=congrArg Prod.fst (hend hn);exact⟨rfl,this,rfl⟩
  ·unfold bj;simp only
   rw[decide_eq_true hia,cond_true,dP,if_neg hn,hkd,(hI hn).1,aa,hw];rfl
 |next e1 n1 p1 c1 hu=>
  rename_i u pre post t;obtain⟨qp,q,qo,rfl,l1,l,l2⟩:=(e1▸hreq:Lk rs (pre++t::post)).split;have hqp:=l1.ne n1;rw[<-l.id]at hqp;obtain⟨hs,hne,l'⟩:=rM l (by omega)
  have hlen:(qp++q::qo).length=qp.length+qo.length+1:=by simp;omega
  have hq:(qp++q::qo).length<=12:=hq;have hjt:=Gs l
  have gm:∀(y:Request) (qs:List Request),(qp++y::qs)[qp.length]? =some y:=λy qs=>by simp
  have sm:∀(y z:Request) (qs:List Request),(qp++y::qs).set qp.length z=qp++z::qs:=λy z qs=>by simp
  have hz:(t.id==(0:Int))=false:=by simp;omega
  refine⟨e,u,qp++oq q::qo,⟨hok,h.ml,h.ll,h.mod,by show Lk (qp++oq q::qo) u.tasks;rw[hu];exact(Lk.cons l' l2).join l1⟩,by omega,⟨[],by simp,by unfold qY;rw[Rp,Rp];exact .nil⟩,hfix,λR next fin=>?_,λhn=>absurd (congrArg (λx=>x.2.1) (hend hn)) (by show¬t.id=0;omega),λhn R next fin=>?_⟩
  ·unfold cT;simp only;rw[decide_eq_true hia,cond_true,hS,aa,hz,cond_false,uM (by show(qp++q::qo).length<k;omega) (by show(qp++q::qo).length<=aU;omega),aa];simp only;rw[<-l.id,tv hqp,decide_eq_true (by omega),cond_true,Ql,gm,aa,vq (by omega) (by omega),aa,cond_true,aa,cond_false,hw,sm];unfold MS;rw[l.job,show(q.job.at_==(q.job.model.aB.length:Int))=false from by simpa using hne];rfl
  ·unfold bj;simp only;rw[decide_eq_true hia,cond_true,dP,if_neg hn,hkd,(hI hn).1,aa];simp only;rw[hz,cond_false,uL (by show(qp++q::qo).length<k;omega) (by show(qp++q::qo).length<=aU;omega),aa];simp only
   rw[<-l.id,tv hqp,decide_eq_true (by omega),cond_true,Ql,tu l (by omega) hk,aa,cond_false,hw]
 |done e1 n1 n2 p1 c1 hu hr=>
  rename_i u pre post t;obtain⟨qp,q,qo,rfl,l1,l,l2⟩:=(e1▸hreq:Lk rs (pre++t::post)).split;have hqp:=l1.ne n1;have hqo:=l2.ne n2;rw[<-l.id]at hqp hqo;obtain⟨hs,hne,l'⟩:=rM l c1
  have hlen:(qp++q::qo).length=qp.length+qo.length+1:=by simp;omega
  have hlen2:(qp++oq q::qo).length=qp.length+qo.length+1:=by simp;omega
  have hq:(qp++q::qo).length<=12:=hq;have hjt:=Gs l
  have gm:∀(y:Request) (qs:List Request),(qp++y::qs)[qp.length]? =some y:=λy qs=>by simp
  have sm:∀(y z:Request) (qs:List Request),(qp++y::qs).set qp.length z=qp++z::qs:=λy z qs=>by simp
  have hz:(t.id==(0:Int))=false:=by simp;omega
  have hut:u.tot<=84:=SOk.tot hok
  have hoff:vu u q.id=u:=by
   unfold vu;rw[hr,show((0:Int)==q.id)=false from by rw[l.id];simp;omega]
   have:Jh u.tasks q.id=u.tasks:=Rr.2 λv hv=>by
    rw[hu]at hv;rw[l.id]
    rcases RF.1 hv with hv|hv
    ·simpa using n1 v hv
    ·simpa using n2 v hv
   rw[this,<-hr];rfl
  refine⟨e++[M0 q.id u.now (vG q.job).act],u,qp++qo,⟨hok,h.ml,h.ll,h.mod,by show Lk (qp++qo) u.tasks;rw[hu];exact l2.join l1⟩,by simp,⟨[M0 q.id u.now (vG q.job).act],rfl,.ends (.inl rfl) (by unfold qY;simp[M0]) (by rw[show(M0 q.id u.now (vG q.job).act).a=q.id from rfl,<-wm,Lq rfl hqp hqo];exact .nil)⟩,hfix,λR next fin=>?_,λhn=>absurd (congrArg (λx=>x.2.1) (hend hn)) (by show¬t.id=0;omega),λhn R next fin=>?_⟩
  ·unfold cT;simp only;rw[decide_eq_true hia,cond_true,hS,aa,hz,cond_false,uM (by show(qp++q::qo).length<k;omega) (by show(qp++q::qo).length<=aU;omega),aa];simp only;rw[<-l.id,tv hqp,decide_eq_true (by omega),cond_true,Ql,gm,aa,vq (by omega) (by omega),aa,cond_true,aa,cond_true,hw,sm];unfold MS;rw[l.job,show(q.job.at_==(q.job.model.aB.length:Int))=false from by simpa using hne];simp only[QI,Qr,cond_true];rw[AM (k:=k) (r:=⟨u,ms,ls,qp++(⟨q.id,q.model,vG q.job,q.due⟩:Request)::qo⟩) (by show u.tot+(qp++oq q::qo).length<k;omega) (by show u.tot+(qp++oq q::qo).length<=aU;omega) hok (by rw[l.id];exact p1),aa,cX (by omega)];simp only;rw[hoff,Lq (q:=(⟨q.id,q.model,vG q.job,q.due⟩:Request)) rfl hqp hqo];rfl
  ·unfold bj;simp only;rw[decide_eq_true hia,cond_true,dP,if_neg hn,hkd,(hI hn).1,aa];simp only;rw[hz,cond_false,uL (by show(qp++q::qo).length<k;omega) (by show(qp++q::qo).length<=aU;omega),aa];simp only;rw[<-l.id,tv hqp,decide_eq_true (by omega),cond_true,Ql,tu l c1 hk,aa,cond_true,decide_eq_true (by omega),cond_true,gm,aa,cX (by omega),Jb (by omega),aa,hw];rfl
end
set_option maxRecDepth 100000
set_option maxHeartbeats 4000000
section
theorem HG {k:Nat} (hk:20000000<=k) {st:Bool} {ms:List Model} {ls:List Bool} {a:Int} (ha:a<=200) {q1 q2 q4 q5 q6 kd p9:Int} {q3 q7:List Int} (hkd:(kd==5)=st):∀(n:Nat) (i:Int) (s:aj) (rs:List Request) (e:List Event),a=i+n->0<=i->qL ⟨s,ms,ls,rs⟩->e.length+n<=1000->
  ∃(e':List Event) (s':aj) (rs':List Request),qL ⟨s',ms,ls,rs'⟩/\e'.length<=e.length+n/\(∃d,e'=e++d/\oE (qY rs) d (qY rs'))/\(s'.ag=s.ag/\s'.age=s.age/\s'.next=s.next)/\
   (s.now=1000000->e'=e/\s'=s/\rs'=rs)/\
   (∀(R:Type) (fin:_->Option R) (kf:Nat),n<kf->iter (λu10 n10=>cT k (st,q1,a,q2,q3,q4,q5,q6,q7,ms,ls) u10 n10 fin) kf (i,s.now,s.ag,s.age,s.run,s.left,s.turns,s.next,e,s.tasks,rs)=fin (e',s'.now,s'.ag,s'.age,s'.run,s'.left,s'.turns,s'.next,s'.tasks,rs'))/\
   (∀(R:Type) (fin:_->Option R) (kf:Nat),n<kf->iter (λu9 n9=>bj k (a,s.ag,s.age,s.next,kd,p9,q2,q3,q4,q5,q6,q7,ms,ls) u9 n9 fin) kf (i,s.now,s.run,s.left,s.turns,e,s.tasks,rs)=fin (e',s'.now,s'.run,s'.left,s'.turns,s'.tasks,rs'))
 |0,i,s,rs,e,hi,h0,h,he=>by
  refine⟨e,s,rs,h,QE _,⟨[],by simp,.nil⟩,⟨rfl,rfl,rfl⟩,λ_=>⟨rfl,rfl,rfl⟩,λR fin kf hkf=>?_,λR fin kf hkf=>?_⟩
  ·obtain⟨kf,rfl⟩:∃m,kf=m+1:=⟨kf-1,by omega⟩;rw[aS];show cT k _ _ _ fin=_;unfold cT;simp only;rw[decide_eq_false (by omega)];rfl
  ·obtain⟨kf,rfl⟩:∃m,kf=m+1:=⟨kf-1,by omega⟩;rw[aS];show bj k _ _ _ fin=_;unfold bj;simp only
   rw[decide_eq_false (by omega)];rfl
 |n+1,i,s,rs,e,hi,h0,h,he=>by
  obtain⟨e1,s1,r1,g1,g2,⟨d1,dd1,td1⟩,g3,g4,g5,g6⟩:=Lr (e:=e) hk h (by omega) h0 (show i<a by omega) ha (q1:=q1) (q2:=q2) (q4:=q4) (q5:=q5) (q6:=q6) (kd:=kd) (p9:=p9) (q3:=q3) (q7:=q7) hkd;obtain⟨e2,s2,r2,f1,f2,⟨d2,dd2,td2⟩,f3,f4,f5,f6⟩:=HG hk (ms:=ms) (ls:=ls) ha (q1:=q1) (q2:=q2) (q4:=q4) (q5:=q5) (q6:=q6) (kd:=kd) (p9:=p9) (q3:=q3) (q7:=q7) hkd n (i+1) s1 r1 e1 (by omega) (by omega) g1 (by omega);refine⟨e2,s2,r2,f1,by omega,⟨d1++d2,by rw[dd2,dd1,QF],td1.app td2⟩,⟨f3.1.trans g3.1,f3.2.1.trans g3.2.1,f3.2.2.trans g3.2.2⟩,λhn=>?_,λR fin kf hkf=>?_,λR fin kf hkf=>?_⟩
  ·obtain⟨x1,x2,x3⟩:=g5 hn;subst x1 x2 x3;exact f4 hn
  ·obtain⟨kf,rfl⟩:∃m,kf=m+1:=⟨kf-1,by omega⟩;rw[aS];exact(g4 R _ fin).trans (f5 R fin kf (by omega))
  ·obtain⟨kf,rfl⟩:∃m,kf=m+1:=⟨kf-1,by omega⟩;rw[aS];by_cases hn:s.now=1000000
   ·obtain⟨x1,x2,x3⟩:=g5 hn;subst x1 x2 x3;obtain⟨y1,y2,y3⟩:=f4 hn;subst y1 y2 y3;show bj k _ _ _ fin=_;unfold bj;simp only;rw[decide_eq_true (by omega),cond_true,dP,if_pos hn]
   ·refine(g6 hn R _ fin).trans ?_;have:=f6 R fin kf (by omega);rw[g3.1,g3.2.1,g3.2.2]at this;exact this
def OB (e:List Event) (r:Runtime):List Event× Int× Int× Int× List Task× Int× Int× Int× Int× List Model× List Bool× List Request:=(e,r.sched.now,r.sched.ag,r.sched.age,r.sched.tasks,r.sched.run,r.sched.left,r.sched.turns,r.sched.next,r.ao,r.ak,r.ae)
structure tw (x:Step):Prop where
 byte:∀y∈x.data,okB y
 data:x.data.length<=aU
 input:x.input.tot<=2000000
theorem Ls {r:Runtime} (h:qL r) (x:Step):qL ⟨r.sched,(uJ r x).2.1,(uJ r x).2.2,r.ae⟩/\(uJ r x).1.length<=1:=by
 unfold uJ;cases(inB x.a 0 3&&!r.ak.getD x.a.toNat false)
 ·exact⟨⟨h.s,h.ml,h.ll,h.mod,h.req⟩,by simp[dw]⟩
 cases(decide ((eB x.data).2=0)&&tp (eB x.data).1)
 ·exact⟨⟨h.s,h.ml,h.ll,h.mod,h.req⟩,by simp[dw]⟩
 refine⟨⟨h.s,by simp[h.ml],by simp[h.ll],λm hm=>?_,h.req⟩,by simp⟩
 rcases List.mem_or_eq_of_mem_set hm with hm|rfl
 ·exact h.mod m hm
 ·exact rL _
theorem HH {s:aj} {aq:List Int} {due:Int} (h:(fD s aq due).2.2=0):(fD s aq due).2.1=s.next/\(fD s aq due).1.tasks=s.tasks++[⟨s.next,aq,0,due,s.now⟩]:=by
 unfold fD at h⊢;cases c1:(bC s&&gY ⟨s.next,aq,0,due,s.now⟩)
 ·rw[c1]at h;exact absurd (show(1:Int)=0 from h) (by decide)
 rw[c1]at h;cases c2:((s.tasks.length:Int)==12||s.next==1000000)
 ·rw[c2]at h;cases c3:yF ⟨s.now,s.ag,s.age,s.tasks++[⟨s.next,aq,0,due,s.now⟩],s.run,s.left,s.turns,s.next+1⟩
  ·rw[c3]at h;exact absurd (show(3:Int)=0 from h) (by decide)
  ·exact⟨rfl,rfl⟩
 ·rw[c2]at h;exact absurd (show(2:Int)=0 from h) (by decide)
theorem EC {r:Runtime} (h:qL r) (x:Step):qL ⟨(gP r x).2.1,r.ao,r.ak,(gP r x).2.2⟩/\(gP r x).1.length<=1:=by
 have same:∀c,qL ⟨(dw x.kind c,r.sched,r.ae).2.1,r.ao,r.ak,(dw x.kind c,r.sched,r.ae).2.2⟩/\(dw x.kind c,r.sched,r.ae).1.length<=1:=λc=>⟨⟨h.s,h.ml,h.ll,h.mod,h.req⟩,by simp[dw]⟩;unfold gP;cases c0:Ji r x.a
 ·exact same _
 simp only[cond_true];have c1':=of_decide_eq_true (RO.1 c0).1;have hmo:=h.ml
 have hmt:(r.ao.getD x.a.toNat eZ).tot<=8002000:=by
  rw[cM (show x.a.toNat<r.ao.length by omega)];exact h.mod _ (Qs _)
 generalize r.ao.getD x.a.toNat eZ=m at hmt;cases c2:(dv m x.input).2
 ·exact same _
 have hj:tA ⟨m,0,x.input,0⟩=true/\(dv m x.input).1=⟨m,0,x.input,0⟩:=by
  unfold dv at c2⊢;cases c:tA ⟨m,0,x.input,0⟩
  ·rw[c]at c2;exact nomatch c2
  ·exact⟨rfl,rfl⟩
 rw[hj.2];simp only[cond_true];cases inB x.b 0 1000000
 ·exact same _
 simp only[cond_true];have ho:=MX h.s (bB m) (r.sched.now+x.b);by_cases c3:(fD r.sched (bB m) (r.sched.now+x.b)).2.2=0
 ·obtain⟨h1,h2⟩:=HH c3;rw[decide_eq_true c3];simp only[cond_true];refine⟨⟨ho,h.ml,h.ll,h.mod,?_⟩,by simp⟩;show Lk (r.ae++[_]) (fD r.sched (bB m) (r.sched.now+x.b)).1.tasks;rw[h2];exact h.req.app ⟨h1,hj.1,rfl,rfl,hmt⟩
 ·rw[decide_eq_false c3];exact same _
theorem ED {r:Runtime} (h:qL r) (x:Step):qL (fL r x).2/\(fL r x).1.length<=13:=by
 unfold fL;cases Ji r x.a
 ·exact⟨h,by simp[dw]⟩
 have hu:=yU x.a r.ao r.ak r.ae [] r.sched r.ae (AO h) h;have hq:=h.Ox;refine⟨⟨hu.1.s,by simp[h.ml],by simp[h.ll],λm hm=>?_,hu.1.req⟩,?_⟩
 ·rcases List.mem_or_eq_of_mem_set hm with hm|rfl
  ·exact h.mod m hm
  ·exact QP _
 ·have:=hu.2;simp only[QY]at this;simp only[cond_true,QK,Qy,QY];omega
theorem Lt {rs:List Request} {id:Int} (h:¬uK rs id<0):∃q∈rs,q.id=id:=by
 unfold uK at h
 cases hf:rs.findIdx? λq=>q.id==id with
 |none=>rw[hf]at h;exact absurd (show(-1:Int)<0 by decide) h
 |some i=>
  obtain⟨hi,hp,_⟩:=Rm.1 hf;exact⟨rs[i],Qs hi,by simpa using hp⟩
def Cz (r:Runtime) (x:Step) (e:List Event) (r':Runtime):Prop:=
 (oE (qY r.ae) e (qY r'.ae)/\r'.sched.next=r.sched.next)\/
 ∃due,e=[⟨2,r.sched.next,due,Gl⟩]/\r'.sched.next=r.sched.next+1/\r'.ae=r.ae++[⟨r.sched.next,x.a,⟨r.ao.getD x.a.toNat eZ,0,x.input,0⟩,due⟩]/\r'.ao=r.ao/\0<=x.a/\x.a<4
theorem Lu {r:Runtime} (x:Step):oE (qY r.ae) (uJ r x).1 (qY r.ae):=by
 have ref:∀c,oE (qY r.ae) (dw x.kind c) (qY r.ae):=λc=>.other (by simp) (by simp) (by simp) .nil;unfold uJ;cases(inB x.a 0 3&&!r.ak.getD x.a.toNat false)
 ·exact ref _
 cases(decide ((eB x.data).2=0)&&tp (eB x.data).1)
 ·exact ref _
 ·exact .other (by simp) (by simp) (by simp) .nil
theorem Gt {r:Runtime} (h:qL r) (x:Step):Cz r x (gP r x).1 ⟨(gP r x).2.1,r.ao,r.ak,(gP r x).2.2⟩:=by
 have ref:∀c,Cz r x (dw x.kind c,r.sched,r.ae).1 ⟨(dw x.kind c,r.sched,r.ae).2.1,r.ao,r.ak,(dw x.kind c,r.sched,r.ae).2.2⟩:=λc=>.inl ⟨.other (by simp) (by simp) (by simp) .nil,rfl⟩;unfold gP;cases c0:Ji r x.a
 ·exact ref _
 simp only[cond_true];have c1':=of_decide_eq_true (RO.1 c0).1;cases c2:(dv (r.ao.getD x.a.toNat eZ) x.input).2
 ·exact ref _
 have hj:(dv (r.ao.getD x.a.toNat eZ) x.input).1=⟨r.ao.getD x.a.toNat eZ,0,x.input,0⟩:=by
  unfold dv at c2⊢;cases c:tA ⟨r.ao.getD x.a.toNat eZ,0,x.input,0⟩
  ·rw[c]at c2;exact nomatch c2
  ·rfl
 rw[hj];simp only[cond_true];cases inB x.b 0 1000000
 ·exact ref _
 simp only[cond_true];generalize hc:bB (r.ao.getD x.a.toNat eZ)=cs;by_cases c3:(fD r.sched cs (r.sched.now+x.b)).2.2=0
 ·obtain⟨h1,h2⟩:=HH c3;rw[decide_eq_true c3];simp only[cond_true];refine .inr ⟨r.sched.now+x.b,by rw[h1],?_,by rw[h1],rfl,c1'.1,by omega⟩
  rcases yN r.sched cs (r.sched.now+x.b)with⟨_,_,_,_,g⟩|⟨g,_⟩
  ·show(fD r.sched cs (r.sched.now+x.b)).1.next=_
   rw[g]
  ·exact(g c3).elim
 ·rw[decide_eq_false c3];exact ref _
theorem Gu {r:Runtime} (h:qL r) (x:Step):oE (qY r.ae) (fL r x).1 (qY (fL r x).2.ae):=by
 unfold fL;cases Ji r x.a
 ·exact .other (by simp) (by simp) (by simp) .nil
 obtain⟨d,h1,h2⟩:=yV x.a r.ae [] r.sched r.ae h.inc λi hi=>hi;simp only[cond_true];rw[h1,Rz];exact h2.app (.other (by simp) (by simp) (by simp) .nil)
theorem OC {k:Nat} (hk:20000000<=k) {r:Runtime} (h:qL r) {x:Step} (hx:tw x):∃(e:List Event) (r':Runtime),qL r'/\e.length<=1000/\Cz r x e r'/\sZ k r x=some (OB e r')/\iC k r x=some (OB e r'):=by
 have hM:=ar;have hq:=h.Ox;have ht:=h.tot;unfold sZ iC;simp only[dP];by_cases c0:x.kind=0
 ·simp only[if_pos c0];rw[Ll (by omega) hx.byte hx.data h.ll h.ml,Lm (by omega) hx.byte hx.data h.ll h.ml];exact⟨(uJ r x).1,⟨r.sched,(uJ r x).2.1,(uJ r x).2.2,r.ae⟩,(Ls h x).1,by have:=(Ls h x).2;omega,.inl ⟨Lu x,rfl⟩,rfl,rfl⟩
 simp only[if_neg c0];by_cases c1:x.kind=1
 ·simp only[if_pos c1];obtain⟨i1,i2,i3,i4,i5,i6⟩:=Gr h hk (x:=x);rw[Gq h hk,i1];refine⟨(fL r x).1,(fL r x).2,(ED h x).1,by have:=(ED h x).2;omega,.inl ⟨Gu h x,i6⟩,rfl,?_⟩;simp only[aa,OB,i2,i3,i4,i5,i6]
 simp only[if_neg c1];by_cases c2:x.kind=2
 ·simp only[if_pos c2];rw[Gn h hk hx.input,Gp h hk hx.input];exact⟨(gP r x).1,⟨(gP r x).2.1,r.ao,r.ak,(gP r x).2.2⟩,(EC h x).1,by have:=(EC h x).2;omega,Gt h x,rfl,rfl⟩
 simp only[if_neg c2];by_cases c3:x.kind=3
 ·simp only[if_pos c3];unfold gM;rw[uM (by omega) (by omega),aa,uL (by omega) (by omega),aa];by_cases c:uK r.ae x.a<0
  ·rw[decide_eq_true c];unfold bE du;simp only[cond_true,aa,decide_true];exact⟨dw x.kind 7,r,h,by simp[dw],.inl ⟨.other (by simp) (by simp) (by simp) .nil,rfl⟩,rfl,rfl⟩
  ·rw[decide_eq_false c];obtain⟨q,hq1,hq2⟩:=Lt c;have hid:1<=x.a:=hq2▸AO h q hq1;simp only[cond_false];rw[AM (by omega) (by omega) h.s hid,EB (by omega) (by omega)];simp only[aa,decide_true,cond_true];exact⟨[zv x.a],Py r x.a,HC h hid,by simp,.inl ⟨.ends (.inr rfl) (by show x.a∈qY r.ae;unfold qY;exact Sx.2 ⟨q,hq1,hq2⟩) (by show oE ((qY r.ae).filter λi=>!(i==x.a)) [] (qY (wj r.ae x.a));rw[wm];exact .nil),rfl⟩,rfl,rfl⟩
 simp only[if_neg c3]
 have run:∀(st:Bool),(x.kind==5)=st->∃(e:List Event) (s':aj) (rs':List Request),qL ⟨s',r.ao,r.ak,rs'⟩/\e.length<=1000/\oE (qY r.ae) e (qY rs')/\(s'.ag=r.sched.ag/\s'.age=r.sched.age/\s'.next=r.sched.next)/\
   jQ k r x st=some (e,s'.now,s'.ag,s'.age,s'.tasks,s'.run,s'.left,s'.turns,s'.next,rs')/\fw k r x=some (e,s'.now,s'.tasks,s'.run,s'.left,s'.turns,rs'):=λst hst=>by
  unfold jQ fw bE du;rw[cr,aa,fB,aa];cases c:inB x.a 0 200
  ·simp only[QI,cond_true,aa,decide_true];exact⟨dw x.kind 8,r.sched,r.ae,h,by simp[dw],.other (by simp) (by simp) (by simp) .nil,⟨rfl,rfl,rfl⟩,rfl,rfl⟩
  have c':=of_decide_eq_true c;simp only[Qq,cond_false,decide_true,cond_true];obtain⟨e,s',rs',g1,g2,⟨d,dd,td⟩,g3,_,g5,g6⟩:=HG hk (st:=st) (ms:=r.ao) (ls:=r.ak) (a:=x.a) (by omega) (q1:=x.kind) (q2:=x.b) (q4:=x.input.sh.h) (q5:=x.input.sh.w) (q6:=x.input.sh.c) (kd:=x.kind) (p9:=x.a) (q3:=x.data) (q7:=x.input.data) hst x.a.toNat 0 r.sched r.ae [] (by omega) (by omega) h (by simp;omega);refine⟨e,s',rs',g1,?_,by rw[dd];exact td,g3,g5 _ _ k (by omega),g6 _ _ k (by omega)⟩;simp only[QY]at g2;omega
 by_cases c4:x.kind=4
 ·simp only[if_pos c4];obtain⟨e,s',rs',g1,g2,td,g3,g4,g5⟩:=run false (by rw[c4];rfl);rw[g4,g5];refine⟨e,⟨s',r.ao,r.ak,rs'⟩,g1,g2,.inl ⟨td,g3.2.2⟩,rfl,?_⟩;simp only[aa,OB,g3.1,g3.2.1,g3.2.2]
 simp only[if_neg c4];by_cases c5:x.kind=5
 ·simp only[if_pos c5];obtain⟨e,s',rs',g1,g2,td,g3,g4,g5⟩:=run true (by rw[c5];rfl);rw[g4,g5];refine⟨e,⟨s',r.ao,r.ak,rs'⟩,g1,g2,.inl ⟨td,g3.2.2⟩,rfl,?_⟩;simp only[aa,OB,g3.1,g3.2.1,g3.2.2]
 simp only[if_neg c5];unfold bE du;simp only[aa];exact⟨dw x.kind 8,r,h,by simp[dw],.inl ⟨.other (by simp) (by simp) (by simp) .nil,rfl⟩,rfl,rfl⟩
end
set_option maxRecDepth 100000
set_option maxHeartbeats 4000000
section
def rt0 (s:aj):Runtime:=⟨s,List.replicate 4 eZ,List.replicate 4 false,[]⟩
def Qf:Runtime:=⟨⟨0,0,0,[],0,0,0,0⟩,[],[],[]⟩
theorem yW {k:Nat} {a b:Int} (hk:0<k):ma k a b=some (cond (bC (CD a b)) (rt0 (CD a b),true) (Qf,false)):=by
 unfold ma;rw[MV hk,aa];cases bC (CD a b)<;>rfl
theorem yX {k:Nat} {a b:Int} (hk:0<k):md k a b=some (cond (bC (CD a b)) (rt0 (CD a b),true) (Qf,false)):=by
 unfold md;rw[MW hk,aa];cases bC (CD a b)<;>rfl
theorem PA {a b:Int} (h:bC (CD a b)=true):qL (rt0 (CD a b)):=⟨Nl h,rfl,rfl,λm hm=>by rw[(Sp.1 hm).2];exact QP _,.nil⟩
theorem Gv {xs:List Step} (hx:okS Step.Ok xs) (ht:eu Step.tot xs<=1048576):∀x∈xs,tw x:=λx hm=>by
 have hM:=ar;have h1:=hx.2 x hm;have h2:=eE Step.tot hm;have h3:x.tot=x.data.length+(x.input.tot+0):=rfl;exact⟨h1.2.2.2.1.2,by omega,by omega⟩
theorem AP {k:Nat} (hk:20000000<=k) {steps:List Step} (hs:∀x∈steps,tw x) (hl:steps.length<=200):∀(qs pre:List Step) (r:Runtime) (out:List Int),steps=pre++qs->qL r->out.length<=pre.length->
    ∃out':List Int,out'.length<=200/\(∀kf:Nat,qs.length<kf->iter (λu5 n5=>dL k steps u5 n5 (λy4=>some y4)) kf ((pre.length:Int),out,r.sched.now,r.sched.ag,r.sched.age,r.sched.run,r.sched.left,r.sched.turns,r.sched.next,r.sched.tasks,r.ao,r.ak,r.ae)=some out')/\
      (∀kf:Nat,qs.length<kf->iter (λu5 n5=>dM k (steps,(steps.length:Int)) u5 n5 (λy4=>some y4)) kf ((pre.length:Int),r.sched.now,r.sched.ag,r.sched.age,r.sched.run,r.sched.left,r.sched.turns,r.sched.next,out,r.sched.tasks,r.ao,r.ak,r.ae)=some out')
  | [], pre, r, out, hp, h, ho => by
    have hlen:steps.length=pre.length:=by rw[hp];simp
    refine⟨out,by omega,λkf hkf=>?_,λkf hkf=>?_⟩
    · obtain⟨kf,rfl⟩:∃m,kf=m+1:=⟨kf-1,by simp at hkf;omega⟩;rw[aS];show dL k _ _ _ _=_;unfold dL;simp only;rw[decide_eq_false (by omega)];rfl
    · obtain⟨kf,rfl⟩:∃m,kf=m+1:=⟨kf-1,by simp at hkf;omega⟩;rw[aS];show dM k _ _ _ _=_;unfold dM;simp only
      rw[decide_eq_false (by omega)];rfl
  | x :: qs, pre, r, out, hp, h, ho => by
    have hM:=ar
    have hlen:steps.length=pre.length+(qs.length+1):=by rw[hp];simp
    have hat:idx steps (pre.length:Int)=some x:=by rw[aE,hp];simp
    obtain⟨e,r',h',he,_,e1,e2⟩:=OC hk h (hs x (by rw[hp];simp))
    have hw:IntKind.i64.wrap ((pre.length:Int)+1)=((pre++[x]).length:Int):=by rw[aK (by omega) (by omega),QK];rfl
    obtain⟨out',o1,o2,o3⟩:=AP hk hs hl qs (pre++[x]) r' (cond ((e.length:Int)==0) (out++[(pre.length:Int)]) out) (by rw[hp];simp) h' (by cases((e.length:Int)==0)<;>simp<;>omega);refine⟨out',o1,λkf hkf=>?_,λkf hkf=>?_⟩
    · obtain⟨kf,rfl⟩:∃m,kf=m+1:=⟨kf-1,by simp at hkf;omega⟩;rw[aS,<-o2 kf (by simp at hkf;omega)]
      have st:∀next,dL k steps ((pre.length:Int),out,r.sched.now,r.sched.ag,r.sched.age,r.sched.run,r.sched.left,r.sched.turns,r.sched.next,r.sched.tasks,r.ao,r.ak,r.ae) next (λy4=>some y4)=next (((pre++[x]).length:Int),cond ((e.length:Int)==0) (out++[(pre.length:Int)]) out,r'.sched.now,r'.sched.ag,r'.sched.age,r'.sched.run,r'.sched.left,r'.sched.turns,r'.sched.next,r'.sched.tasks,r'.ao,r'.ak,r'.ae):=λnext=>by
        unfold dL;simp only;rw[decide_eq_true (by omega),cond_true,hat,aa,show(⟨⟨r.sched.now,r.sched.ag,r.sched.age,r.sched.tasks,r.sched.run,r.sched.left,r.sched.turns,r.sched.next⟩,r.ao,r.ak,r.ae⟩:Runtime)=r from rfl,e1,aa,cX (by simp;omega),hw];unfold OB;cases((e.length:Int)==0)<;>rfl
      exact st _
    · obtain⟨kf,rfl⟩:∃m,kf=m+1:=⟨kf-1,by simp at hkf;omega⟩;rw[aS,<-o3 kf (by simp at hkf;omega)]
      have st:∀next,dM k (steps,(steps.length:Int)) ((pre.length:Int),r.sched.now,r.sched.ag,r.sched.age,r.sched.run,r.sched.left,r.sched.turns,r.sched.next,out,r.sched.tasks,r.ao,r.ak,r.ae) next (λy4=>some y4)=next (((pre++[x]).length:Int),r'.sched.now,r'.sched.ag,r'.sched.age,r'.sched.run,r'.sched.left,r'.sched.turns,r'.sched.next,cond ((e.length:Int)==0) (out++[(pre.length:Int)]) out,r'.sched.tasks,r'.ao,r'.ak,r'.ae):=λnext=>by
        unfold dM;simp only;rw[decide_eq_true (by omega),cond_true,hat,aa,show(⟨⟨r.sched.now,r.sched.ag,r.sched.age,r.sched.tasks,r.sched.run,r.sched.left,r.sched.turns,r.sched.next⟩,r.ao,r.ak,r.ae⟩:Runtime)=r from rfl,e2,aa,cX (by simp;omega),hw];unfold OB;cases((e.length:Int)==0)<;>rfl
      exact st _
theorem yY {k:Nat} (hk:20000000<=k) {a b:Int} {xs:List Step} (hs:∀x∈xs,tw x):∃out:List Int,out.length<=200/\mb k a b xs=some out/\jR k a b xs=some out:=by
 unfold mb jR;rw[yW (by omega),yX (by omega),aa,aa];cases c:bC (CD a b)
 ·simp only[cond_false,QI,cond_true];exact⟨[],by simp,rfl,rfl⟩
 simp only[cond_true,Qq,cond_false];by_cases c2:(xs.length:Int)>200
 ·rw[decide_eq_true c2];simp only[cond_true];exact⟨[],by simp,rfl,rfl⟩
 rw[decide_eq_false c2];obtain⟨out,o1,o2,o3⟩:=AP hk hs (by omega) xs [] (rt0 (CD a b)) [] rfl (PA c) (QE _);simp only[cond_false];exact⟨out,o1,o2 k (by omega),o3 k (by omega)⟩
theorem oF (a b:Int) (xs:List Step) (ha:okI a) (hb:okI b) (hx:okS Step.Ok xs):∃k,cZ k a b xs=some true:=by
 suffices h:∀kk,eu Step.tot xs+20000000<=kk->cZ kk a b xs=some true from⟨_,h _ (QE _)⟩
 intro kk hkk;have hM:=ar;have hlen:=bm Step.tot xs;unfold cZ;rw[F1 (n:=1048576) hx (by omega) (by omega) (by omega),aa,ab];by_cases c:(1048576:Int)<(eu Step.tot xs:Int)
 ·simp only[if_pos c];rfl
 simp only[if_neg c];rw[if_neg (by omega)]
 have hk:eu Step.tot xs<kk:=by omega
 have hN:eu Step.tot xs<=aU:=by omega
 obtain⟨out,hol,q1,q2⟩:=yY (k:=kk) (by omega) (a:=a) (b:=b) (Gv hx (by omega));obtain⟨r1,y1,e1,a1,b1,l1,h1⟩:=vD (k:=kk) (xs:=xs) (m:=1) hk hN (by omega) (by unfold CC;omega);obtain⟨r2,y2,e2,a2,b2,l2,h2⟩:=pA (k:=kk) (xs:=out) (m:=1) (by omega) (by omega) (by omega) (by unfold CC;omega);simp only[F2 hk hN,aa,q1,q2,Ap (xs:=out) (ys:=out) (k:=kk) (by omega) (by omega),F3 (ys:=xs) hk hN,e1,e2,h2,decide_true,cond_not,cond_true,ab,lR];rw[if_neg (by omega)];simp
 repeat rw[if_neg (by omega)]
end
end Go.Proofs.Ev
