/- Typed functions and what holds of them: part 4. -/
import Derived.Test.YtpiopmjbcadfbaaGreatEvL3
set_option linter.unusedVariables false
set_option linter.unusedSimpArgs false
set_option linter.unusedSectionVars false
namespace Go.Proofs.Ev
section
theorem uF {a b:Int} {x:Int} (h:a<=x/\x<=b) (h0:0<=a):∃n:Nat,x=n:=⟨x.toNat,by omega⟩
theorem vp {H W C Z S:Nat} {l:ax} {c:Int} (hz:l.size=Z) (hs:l.step=S) (s1:1<=S) (h8:H<=8) (w8:W<=8) (hzH:Z<=H) (hzW:Z<=W):
  qw ⟨H,W,C⟩ l c=⟨((H-Z)/S+1:Nat),((W-Z)/S+1:Nat),c⟩:=by
 have key:∀n:Nat,n<=8->Z<=n->IntKind.i64.wrap ((IntKind.i64.wrap ((IntKind.i64.wrap ((n:Int)-(Z:Int))).tdiv (S:Int)))+1)=(((n-Z)/S+1:Nat):Int):=λn h1 h2=>by
  have e1:((n:Int)-(Z:Int))=((n-Z:Nat):Int):=by omega
  have e2:(((n-Z:Nat):Int)).tdiv (S:Int)=(((n-Z)/S:Nat):Int):=rfl;have e3:(n-Z)/S<=n-Z:=Nat.div_le_self _ _;rw[e1,aK (n:=((n-Z:Nat):Int)) (by omega) (by omega),e2];generalize (n-Z)/S=q at e3;rw[aK (n:=((q:Nat):Int)) (by omega) (by omega),aK (by omega) (by omega)];omega
 unfold qw;rw[hz,hs];simp only[key H h8 hzH,key W w8 hzW]
theorem Cj {n Z S:Nat} (h:n<=8) (h1:1<=Z) (h2:Z<=n):1<=(n-Z)/S+1/\(n-Z)/S+1<=8:=by
 have e3:(n-Z)/S<=n-Z:=Nat.div_le_self _ _;generalize (n-Z)/S=q at e3;omega
theorem K3 {H W Z S h w:Nat} (z1:1<=Z) (z3:Z<=3) (s1:1<=S) (s2:S<=2) (hzH:Z<=H) (hzW:Z<=W) (hh:h<(H-Z)/S+1) (hw:w<(W-Z)/S+1):KY H W Z S h w:=by
 have a1:h*S<=H-Z:=(Nat.le_div_iff_mul_le (by omega)).1 (by omega);have a2:w*S<=W-Z:=(Nat.le_div_iff_mul_le (by omega)).1 (by omega);exact⟨z1,z3,s2,by omega,by omega⟩
theorem Eg {l:ax} (h:Hp l=true):(1<=l.out/\l.out<=8)/\(l.mG.length:Int)=l.out/\∀x∈l.weights,-128<=x/\x<=127:=by
 simp only[Hp,Qk,cg,decide_eq_true_eq]at h;obtain⟨h1,h2,h3,h4,h5,h6,h7⟩:=h;unfold qU at h7;rw[RJ]at h7;exact⟨h1,h5,λx hx=>cg.1 (h7 x hx)⟩
theorem uG {H W C:Nat} {xs:List Int} (r:kH H W C xs) {l:ax} (hl:iD ⟨H,W,C⟩ l=true):
  ∃Z S H' W' C':Nat,l.size=Z/\l.step=S/\shapeOf ⟨H,W,C⟩ l=⟨H',W',C'⟩/\(1<=H'/\H'<=8)/\(1<=W'/\W'<=8)/\(1<=C'/\C'<=8)/\
   ∀h w o,h<H'->w<W'->o<C'->Fits H W C xs l Z S h w o:=by
 have hr:=r;obtain⟨h1,h8,w1,w8,c1,c8,hlen,hmem⟩:=hr;have hsz:=r.size;unfold iD at hl;rw[Qk]at hl;obtain⟨-,hl⟩:=hl;unfold shapeOf;by_cases k0:l.kind=0
 ·rw[decide_eq_true k0]at hl⊢;simp only[cond_true,Qk,decide_eq_true_eq,oD]at hl;obtain⟨⟨z0,s0⟩,hn,hs,hw⟩:=hl;obtain⟨ho,hb,hi⟩:=Eg hn;obtain⟨O,hO⟩:=uF ho (by omega);rw[hO]at ho hb;refine⟨0,0,1,1,O,by omega,by omega,by rw[cond_true,hO];rfl,by omega,by omega,by omega,λh w o _ _ hlt=>.MO k0 (by omega) (by omega) ?_⟩;rw[hO,hsz]at hw;have:((O:Int)*((H*W*C:Nat):Int))=((O*(H*W*C):Nat):Int):=(Rj _ _).symm;rw[this]at hw;have:(o+1)*(H*W*C)<=O*(H*W*C):=QB _ hlt;rw[QL,Nat.one_mul]at this;rw[hlen];omega
 rw[decide_eq_false k0]at hl⊢;simp only[cond_false]at hl⊢;by_cases k1:l.kind=1
 ·rw[decide_eq_true k1]at hl⊢;simp only[cond_true,Qk,decide_eq_true_eq]at hl⊢;obtain⟨hwin,hn,hw,hw6⟩:=hl;obtain⟨z1,z3,s1,s2,zh,zw⟩:=pB hwin;obtain⟨ho,hb,hi⟩:=Eg hn;obtain⟨O,hO⟩:=uF ho (by omega);obtain⟨Z,hZ⟩:=uF ⟨z1,z3⟩ (by omega);obtain⟨S,hS⟩:=uF ⟨s1,s2⟩ (by omega);rw[hO]at ho hb;rw[hZ]at z1 z3 zh zw;rw[hS]at s1 s2
  have zh:Z<=H:=by have:((Z:Nat):Int)<=(H:Int):=zh;omega
  have zw:Z<=W:=by have:((Z:Nat):Int)<=(W:Int):=zw;omega
  have d1:=Cj (S:=S) h8 (show 1<=Z by omega) zh;have d2:=Cj (S:=S) w8 (show 1<=Z by omega) zw;refine⟨Z,S,(H-Z)/S+1,(W-Z)/S+1,O,hZ,hS,by rw[vp hZ hS (by omega) h8 w8 zh zw,hO],d1,d2,by omega,λh w o hh hw2 hlt=>.conv k1 (by omega) (by omega) ?_ (K3 (by omega) (by omega) (by omega) (by omega) zh zw hh hw2) hi⟩;rw[hO,hZ]at hw
  have:((O:Int)*(Z:Int)*(Z:Int)*(C:Int))=((O*(Z*(Z*C)):Nat):Int):=by
   rw[Rj,Rj,Rj,SM,SM]
  have hw:(l.weights.length:Int)=(O:Int)*(Z:Int)*(Z:Int)*(C:Int):=hw;rw[this]at hw;have:(o+1)*(Z*(Z*C))<=O*(Z*(Z*C)):=QB _ hlt;rw[QL,Nat.one_mul]at this;omega
 rw[decide_eq_false k1]at hl⊢;simp only[cond_false]at hl⊢;by_cases k2:l.kind=2\/l.kind=3
 ·have hk:(decide (l.kind=2)||decide (l.kind=3))=true:=by simpa using k2
  rw[hk]at hl;simp only[cond_true,Qk,decide_eq_true_eq]at hl;obtain⟨hwin,hn,hw⟩:=hl;obtain⟨z1,z3,s1,s2,zh,zw⟩:=pB hwin;obtain⟨Z,hZ⟩:=uF ⟨z1,z3⟩ (by omega);obtain⟨S,hS⟩:=uF ⟨s1,s2⟩ (by omega);rw[hZ]at z1 z3 zh zw;rw[hS]at s1 s2
  have zh:Z<=H:=by have:((Z:Nat):Int)<=(H:Int):=zh;omega
  have zw:Z<=W:=by have:((Z:Nat):Int)<=(W:Int):=zw;omega
  have d1:=Cj (S:=S) h8 (show 1<=Z by omega) zh;have d2:=Cj (S:=S) w8 (show 1<=Z by omega) zw;rw[decide_eq_false (show¬l.kind=4 by omega),decide_eq_false (show¬l.kind=5 by omega)];simp only[cond_false];refine⟨Z,S,(H-Z)/S+1,(W-Z)/S+1,C,hZ,hS,vp hZ hS (by omega) h8 w8 zh zw,d1,d2,by omega,λh w o hh hw2 hlt=>?_⟩;have v:=K3 (by omega) (by omega) (by omega) (by omega) zh zw hh hw2
  rcases k2 with k2|k2
  ·exact .max k2 v hlt
  ·exact .avg k2 v hlt
 have hk:(decide (l.kind=2)||decide (l.kind=3))=false:=by simpa using k2
 rw[hk]at hl;simp only[cond_false]at hl;by_cases k4:l.kind=4
 ·rw[decide_eq_true k4]at hl⊢;simp only[cond_true,Qk,decide_eq_true_eq,oD,cg]at hl⊢;obtain⟨⟨z0,s0⟩,hn,hz⟩:=hl;exact⟨0,0,H,W,C,by omega,by omega,rfl,by omega,by omega,by omega,λh w o a b c=>.PM k4 a b c hz⟩
 rw[decide_eq_false k4]at hl⊢;simp only[cond_false]at hl⊢;by_cases k5:l.kind=5
 ·rw[decide_eq_true k5]at hl⊢;simp only[cond_true,Qk,decide_eq_true_eq,oD]at hl⊢;obtain⟨⟨z0,s0⟩,hn,hz,hs⟩:=hl;have p1:1<=H*W:=Q2 h1 w1;have p2:1<=H*W*C:=Q2 p1 c1;rw[hsz]at hs⊢;exact⟨0,0,1,1,H*W*C,by omega,by omega,rfl,by omega,by omega,by omega,λh w o a b c=>.flat k5 (by rw[hlen];exact c)⟩
 rw[decide_eq_false k5]at hl;exact nomatch hl
theorem IX {x d:Int} (hd:1<=d) (h1:-128*d<=x) (h2:x<=127*d):-128<=gl x d/\gl x d<=127:=by
 unfold gl;by_cases c:x<0
 ·rw[if_pos c];have a1:0<=(2*-x+d)/(2*d):=Int.ediv_nonneg (by omega) (by omega);have a2:(2*-x+d)/(2*d)<129:=Int.ediv_lt_of_lt_mul (by omega) (by omega);omega
 ·rw[if_neg c];have a1:0<=(2*x+d)/(2*d):=Int.ediv_nonneg (by omega) (by omega);have a2:(2*x+d)/(2*d)<128:=Int.ediv_lt_of_lt_mul (by omega) (by omega);omega
theorem MQ {H W C:Nat} {xs:List Int} (r:kH H W C xs) {l:ax} {Z S h w o:Nat} (f:Fits H W C xs l Z S h w o):-128<=lD W C xs l Z S h w o/\lD W C xs l Z S h w o<=127:=by
 unfold lD
 cases f with
 |MO h0 hb h8 hw=>rw[h0];exact xO _
 |conv h0 hb h8 hw v hi=>rw[h0];exact xO _
 |max h0 v ho=>
  rw[h0];obtain⟨x,ys,e⟩:=xX (xs:=xs) (C:=C) (o:=o) v;show -128<=kI (iH W C xs Z S h w o)/\kI (iH W C xs Z S h w o)<=127;have:=v9 r v ho;rw[e]at this⊢
  exact this _ (pG ys x)
 |avg h0 v ho=>
  rw[h0];have hl:=nk (xs:=xs) (C:=C) (o:=o) v;have hb:=xW (v9 r v ho);rw[hl.1]at hb;show -128<=gl (iH W C xs Z S h w o).sum ((Z*Z:Nat):Int)/\gl (iH W C xs Z S h w o).sum ((Z*Z:Nat):Int)<=127
  exact IX (by omega) hb.1 hb.2
 |PM h0 h1 h2 h3 hz=>
  rw[h0];have:=Hs r h1 h2 h3;show -128<=(if atN W C xs h w o<l.zero then l.zero else atN W C xs h w o)/\(if atN W C xs h w o<l.zero then l.zero else atN W C xs h w o)<=127;by_cases c:atN W C xs h w o<l.zero
  ·rw[if_pos c];exact hz
  ·rw[if_neg c];exact this
 |flat h0 ho=>rw[h0];exact r.mem _ (v8 ho)
def runN (W C:Nat) (xs:List Int) (l:ax) (Z S H' W' C':Nat):List Int:=
 (List.range H').flatMap λh=>(List.range W').flatMap λw=>(List.range C').flatMap λo=>[lD W C xs l Z S h w o]
def LB (t:av) (l:ax):av× Bool:=
 cond (t.okB&&iD t.sh l) (⟨shapeOf t.sh l,runN t.sh.w.toNat t.sh.c.toNat t.data l l.size.toNat l.step.toNat (shapeOf t.sh l).h.toNat (shapeOf t.sh l).w.toNat (shapeOf t.sh l).c.toNat⟩,true) (⟨ja,[]⟩,false)
theorem MR (W C:Nat) (xs:List Int) (l:ax) (Z S H' W' C':Nat):(runN W C xs l Z S H' W' C').length=H'*(W'*(C'*1)):=
 gC _ _ _ λi hi=>gC _ _ _ λj hj=>gC _ _ _ λo ho=>rfl
theorem IY {t:av} {l:ax} (h1:t.okB=true) (h2:iD t.sh l=true):(LB t l).1.okB=true/\(LB t l).1.sh=shapeOf t.sh l/\(LB t l).2=true:=by
 obtain⟨H,W,C,r,e⟩:=Ch h1
 have e2:t.sh=⟨H,W,C⟩:=by rw[e];rfl
 have h2':=h2;rw[e2]at h2';obtain⟨Z,S,H',W',C',hz,hs,hsh,a1,a2,a3,hf⟩:=uG r h2';unfold LB;rw[h1,h2];simp only[Bool.and_self,cond_true];refine And.intro ?_ (by simp);rw[e2,hsh,show l.size.toNat=Z from by omega,show l.step.toNat=S from by omega];simp only[Ql];refine kH.ok (H:=H') (W:=W') (C:=C') ⟨a1.1,a1.2,a2.1,a2.2,a3.1,a3.2,by rw[MR,Nat.mul_one,Nat.mul_assoc],λx hx=>?_⟩;unfold runN at hx;rw[Sf]at hx;obtain⟨i,hi,hx⟩:=hx;rw[Sf]at hx;obtain⟨j,hj,hx⟩:=hx;rw[Sf]at hx;obtain⟨o,ho,hx⟩:=hx;rw[List.mem_range]at hi hj ho;rw[List.mem_singleton]at hx;rw[hx];exact MQ r (hf i j o hi hj ho)
theorem Ck {k:Nat} {t:av} {l:ax} (hk:512<k) (hd:t.data.length<k) (hdN:t.data.length<=aU) (hl:l.tot<k) (hlN:l.tot<=aU):qd k t l=some (LB t l):=by
 have hM:=ar;unfold qd LB;rw[nZ hd (by unfold tz;omega),aa];cases h1:t.okB
 ·rfl
 simp only[Qq,cond_false,Qr];rw[oa hl hlN,aa];unfold gE;cases h2:iD t.sh l
 ·rfl
 obtain⟨H,W,C,r,e⟩:=Ch h1;obtain⟨sh,xs⟩:=t;have e2:sh=⟨H,W,C⟩:=congrArg av.sh e;subst e2;obtain⟨Z,S,H',W',C',hz,hs,hsh,a1,a2,a3,hf⟩:=uG r h2
 have hwN:l.weights.length<=aU:=by unfold ax.tot at hlN;omega
 simp only[cond_true,Qq,cond_false];rw[hsh,show l.size.toNat=Z from by omega,show l.step.toNat=S from by omega];simp only[Ql]
 have m1:∀w:Nat,∀h:Nat,((List.range C').flatMap λo=>[lD W C xs l Z S h w o]).length<=8:=λw h=>by
  have:=kG (λo=>[lD W C xs l Z S h w o]) 1 C' (λ_ _=>QE _);omega
 have m2:∀h:Nat,((List.range W').flatMap λw=>(List.range C').flatMap λo=>[lD W C xs l Z S h w o]).length<=64:=λh=>by
  have:=kG (λw=>(List.range C').flatMap λo=>[lD W C xs l Z S h w o]) 8 W' (λw _=>m1 w h);omega
 refine(fx H' 64 (λh=>(List.range W').flatMap λw=>(List.range C').flatMap λo=>[lD W C xs l Z S h w o]) [] (fin:=λy=>some ((⟨⟨H',W',C'⟩,y⟩:av),true)) (λh _=>m2 h) (λh ys next hi hy=>?_) (λys next=>?_) (by omega)).trans (by rw[Rz];rfl)
 ·simp only[ko];rw[ab,if_pos (by omega),au hi (by omega)];refine fx W' 8 (λw=>(List.range C').flatMap λo=>[lD W C xs l Z S h w o]) ys (fin:=λy=>next (((h+1:Nat):Int),y)) (λw _=>m1 w h) (λw zs next2 hj hz2=>?_) (λzs next2=>?_) (by omega)
  ·simp only[kn];rw[ab,if_pos (by omega),au hj (by omega)];refine fx C' 1 (λo=>[lD W C xs l Z S h w o]) zs (fin:=λy=>next2 (((w+1:Nat):Int),y)) (λ_ _=>QE _) (λo us next3 ho hz3=>?_) (λus next3=>?_) (by omega)
   ·simp only[kj];simp only[QY]at hy;have eq:=K2 (k:=k) r (l:=l) hk hwN hz hs (hf h w o hi hj ho);rw[ab,if_pos (by omega)];refine(congrArg (λo:Option Int=>o.bind _) eq).trans ?_;rw[aa,cX (by simp;omega),au ho (by omega)]
   ·simp only[kj];rw[ab,if_neg (by omega)]
  ·simp only[kn];rw[ab,if_neg (by omega)]
 ·simp only[ko];rw[ab,if_neg (by omega)]
theorem Cl {k:Nat} {t:av} {l:ax} (hk:512<k) (hd:t.data.length<k) (hdN:t.data.length<=aU) (hl:l.tot<k) (hlN:l.tot<=aU):qh k t l=some (LB t l):=by
 have hM:=ar;unfold qh LB;rw[oc hl hlN,aa,s6 hd (by unfold tz;omega)];unfold gE;cases h2:iD t.sh l
 ·cases t.okB<;>rfl
 simp only[cond_true,Qq,cond_false,aa];cases h1:t.okB
 ·rfl
 simp only[Qq,cond_false,Bool.and_self,cond_true];obtain⟨H,W,C,r,e⟩:=Ch h1;obtain⟨sh,xs⟩:=t;have e2:sh=⟨H,W,C⟩:=congrArg av.sh e;subst e2;obtain⟨Z,S,H',W',C',hz,hs,hsh,a1,a2,a3,hf⟩:=uG r h2
 have hwN:l.weights.length<=aU:=by unfold ax.tot at hlN;omega
 rw[hsh,show l.size.toNat=Z from by omega,show l.step.toNat=S from by omega];simp only[Ql]
 have m1:∀w:Nat,∀h:Nat,((List.range C').flatMap λo=>[lD W C xs l Z S h w o]).length<=8:=λw h=>by
  have:=kG (λo=>[lD W C xs l Z S h w o]) 1 C' (λ_ _=>QE _);omega
 have m2:∀h:Nat,((List.range W').flatMap λw=>(List.range C').flatMap λo=>[lD W C xs l Z S h w o]).length<=64:=λh=>by
  have:=kG (λw=>(List.range C').flatMap λo=>[lD W C xs l Z S h w o]) 8 W' (λw _=>m1 w h);omega
 refine(fx H' 64 (λh=>(List.range W').flatMap λw=>(List.range C').flatMap λo=>[lD W C xs l Z S h w o]) [] (fin:=λy=>some ((⟨⟨H',W',C'⟩,y⟩:av),true)) (λh _=>m2 h) (λh ys next hi hy=>?_) (λys next=>?_) (by omega)).trans (by rw[Rz];rfl)
 ·simp only[kt];rw[ab,if_pos (by omega),au hi (by omega)];refine fx W' 8 (λw=>(List.range C').flatMap λo=>[lD W C xs l Z S h w o]) ys (fin:=λy=>next (((h+1:Nat):Int),y)) (λw _=>m1 w h) (λw zs next2 hj hz2=>?_) (λzs next2=>?_) (by omega)
  ·simp only[kr];rw[ab,if_pos (by omega),au hj (by omega)];refine fx C' 1 (λo=>[lD W C xs l Z S h w o]) zs (fin:=λy=>next2 (((w+1:Nat):Int),y)) (λ_ _=>QE _) (λo us next3 ho hz3=>?_) (λus next3=>?_) (by omega)
   ·simp only[kq];simp only[QY]at hy;have eq:=K0 (k:=k) r (l:=l) hk hwN hz hs (hf h w o hi hj ho);rw[ab,if_pos (by omega)];refine(congrArg (λo:Option Int=>o.bind _) eq).trans ?_;rw[aa,cX (by simp;omega),au ho (by omega)]
   ·simp only[kq];rw[ab,if_neg (by omega)]
  ·simp only[kr];rw[ab,if_neg (by omega)]
 ·simp only[kt];rw[ab,if_neg (by omega)]
end
section
end
section
end
section
def xY:ax:=⟨0,0,0,0,0,0,0,[],[]⟩
theorem AD:∀(ls:List ax) (s:Shape) (t:List Shape),cJ s ls=some t->∀i,i<ls.length->iD ((s::t).getD i ja) (ls.getD i xY)=true/\(s::t).getD (i+1) ja=shapeOf ((s::t).getD i ja) (ls.getD i xY)
 |[],s,t,h,i,hi=>by simp at hi
 |l::ls,s,t,h,i,hi=>by
  simp only[cJ]at h;cases hb:iD s l<;>simp only[hb,cond_true,cond_false]at h
  ·exact nomatch h
  ·obtain⟨t',h1,rfl⟩:=Qp.1 h
   cases i with
   |zero=>exact⟨hb,rfl⟩
   |succ i=>exact AD ls (shapeOf s l) t' h1 i (by simpa using hi)
theorem qB {m:Model} (h:ek m=true):(1<=m.aB.length/\m.aB.length<=6)/\∀i,i<m.aB.length->iD ((cc m).getD i ja) (m.aB.getD i xY)=true/\(cc m).getD (i+1) ja=shapeOf ((cc m).getD i ja) (m.aB.getD i xY):=by
 unfold cc;rw[h,cond_true];unfold ek at h;unfold dN at h⊢;cases h1:(m.inp.okB&&inB (m.aB.length:Int) 1 6)<;>rw[h1]at h
 ·exact nomatch h
 ·simp only[cond_true]at h⊢;rw[Qk,cg]at h1
  cases h2:cJ m.inp m.aB with
  |none=>rw[h2]at h;exact nomatch h
  |some t=>exact⟨by omega,AD m.aB m.inp t h2⟩
theorem jW {j:Job} (h:tA j=true):ek j.model=true/\(0<=j.at_/\j.at_<=j.model.aB.length)/\j.act.okB=true/\j.act.sh=(cc j.model).getD j.at_.toNat ja/\j.iF=P5 ((bB j.model).take j.at_.toNat):=by
 unfold tA at h;simp only[Qk,cg,decide_eq_true_eq]at h;exact h
theorem K4 {j:Job} (h:tA j=true):j.act.data.length<=512/\j.tot<=j.model.tot+512:=by
 have h1:=(jW h).2.2.1;unfold av.okB at h1;simp only[Qk,decide_eq_true_eq]at h1;have:=Shape.KP j.act.sh;unfold Job.tot av.tot;omega
def xZ (j:Job):ax:=j.model.aB.getD j.at_.toNat xY
def IZ (j:Job):Int:=(bB j.model).getD j.at_.toNat 0
def vG (j:Job):Job:=⟨j.model,j.at_+1,(LB j.act (xZ j)).1,IntKind.i64.wrap (j.iF+IZ j)⟩
theorem K5 {j:Job} (h:tA j=true) (hd:j.at_≠(j.model.aB.length:Int)):tA (vG j)=true:=by
 obtain⟨hm,hat,hok,hsh,hsp⟩:=jW h;obtain⟨hlen,hg⟩:=qB hm;obtain⟨hl,hs⟩:=hg j.at_.toNat (by omega);rw[<-hsh]at hl hs;obtain⟨r1,r2,r3⟩:=IY hok hl;have hcl:=gU hm
 have hi:j.at_.toNat<(bB j.model).length:=by omega
 have e:(j.at_+1).toNat=j.at_.toNat+1:=by omega
 unfold tA vG;simp only[Qk,cg,decide_eq_true_eq,hm,true_and,e];refine⟨by omega,r1,?_,?_⟩
 ·show(LB j.act (xZ j)).1.sh=_;rw[hs];exact r2
 ·unfold P5 IZ;rw[dq hi,Ro,cM hi,hsp];rfl
theorem Ou {V R:Type} {g:V->(V->Option R)->Option R} {fin:V->Option R} {st:Nat->V} {n:Nat} {k:Nat} (h:∀i,i<n->∀next,g (st i) next=next (st (i+1))) (hn:∀next,g (st n) next=fin (st n)) (hk:n<k):iter g k (st 0)=fin (st n):=
 fg (g:=g) (st:=st) (n:=n) (r:=fin (st n)) h hn hk
theorem Gc {k:Nat} {j:Job} (hk:j.tot+8<k) (hN:j.tot<=aU) (h:tA j=true):vX k j=some ((bB j.model).drop j.at_.toNat):=by
 have hM:=ar;obtain⟨hm,hat,hok,hsh,hsp⟩:=jW h;obtain⟨hlen,hg⟩:=qB hm;have hcl:=gU hm;have ht:j.tot=j.model.tot+(j.act.tot+0):=rfl;unfold vX;rw[qx (by omega) hN,aa,h];simp only[Qq,cond_false];rw[jU (by omega) (by omega),aa]
 have e0:(j.at_,([]:List Int))=(((j.at_.toNat+0:Nat):Int),((bB j.model).drop j.at_.toNat).take 0):=by
  rw[List.take_zero];congr 1;omega
 rw[e0];refine(Ou (g:=λu5 n5=>lk k (bB j.model) u5 n5 (λy4=>some y4)) (fin:=λv=>some v.2) (st:=λi=>(((j.at_.toNat+i:Nat):Int),((bB j.model).drop j.at_.toNat).take i)) (n:=(bB j.model).length-j.at_.toNat) (λi hi next=>?_) (λnext=>?_) (by omega)).trans ?_
 ·have hi2:j.at_.toNat+i<(bB j.model).length:=by omega
  have hi3:i<((bB j.model).drop j.at_.toNat).length:=by simp;omega
  simp only[lk];rw[ab,if_pos (by omega),ab,if_pos (by omega),Ql,ai hi2,aa,cX (by simp;omega),au hi2 (by omega),dq hi3,List.getElem_drop];rfl
 ·simp only[lk];rw[ab,if_neg (by omega)]
 ·rw[RE (by simp)]
theorem Gd {k:Nat} {j:Job} (hk:j.tot+8<k) (hN:j.tot<aU) (h:tA j=true):vY k j=some ((bB j.model).drop j.at_.toNat):=by
 obtain⟨hm,hat,hok,hsh,hsp⟩:=jW h;have hcl:=gU hm;have ht:j.tot=j.model.tot+(j.act.tot+0):=rfl;unfold vY;rw[As (by omega) hN,aa,h];simp only[Qq,cond_false];rw[jV (by omega) (by omega),aa,ab,if_pos (by omega),RE (by simp)]
theorem K6 (xs:List Int) (n:Nat):(xs.drop n)[0]? =if n<xs.length then some (xs.getD n 0)else none:=by
 rw[Qx,QQ];by_cases c:n<xs.length
 ·rw[if_pos c,ai c,cM c]
 ·rw[if_neg c,QM (by omega)]
theorem Eh {xs:List Int} {n:Nat} (h:¬n<xs.length):xs.getD n 0=0:=by
 rw[QW,QM (by omega)];rfl
theorem Cm {k:Nat} {j:Job} (hk:j.tot+8<k) (hN:j.tot<=aU) (h:tA j=true):qe k j=some (IZ j):=by
 unfold qe IZ;rw[Gc hk hN h,aa,DY,ab,Rn];by_cases c:j.at_.toNat<(bB j.model).length
 ·rw[if_neg (by omega),ab,if_pos (by omega)];show(((bB j.model).drop j.at_.toNat)[0]?).bind _=_;rw[K6,if_pos c,aa]
 ·rw[if_pos (by omega),Eh c]
theorem Cn {k:Nat} {j:Job} (hk:j.tot+8<k) (hN:j.tot<aU) (h:tA j=true):qf k j=some (IZ j):=by
 unfold qf IZ;rw[Gd hk hN h,aa,DY,ab,Rn];by_cases c:j.at_.toNat<(bB j.model).length
 ·rw[if_neg (by omega),vS,K6,if_pos c,aa]
 ·rw[if_pos (by omega),Eh c]
theorem Ei {k:Nat} {j:Job} (hk:j.tot<k) (hN:j.tot<=aU):sM k j=some j:=by
 have ht:j.tot=j.model.tot+(j.act.data.length+0+0):=rfl;unfold sM;rw[vi (by omega) (by omega),aa,ve (by omega) (by omega),aa]
def MS (j:Job):Job× Bool:=cond (tA j&&!(j.at_==(j.model.aB.length:Int))) (vG j,true) (j,false)
theorem Ej {k:Nat} {j:Job} (hk:j.tot<k) (hN:j.tot<=aU) (h:tA j=true):sN k j=some (j.at_==(j.model.aB.length:Int)):=by
 unfold sN;rw[qx hk hN,aa,h];rfl
theorem Ek {j:Job} (h:tA j=true) (hd:j.at_≠(j.model.aB.length:Int)):j.model.aB[j.at_.toNat]? =some (xZ j)/\(xZ j).tot<=j.model.tot:=by
 obtain⟨hm,hat,hok,hsh,hsp⟩:=jW h
 have hi:j.at_.toNat<j.model.aB.length:=by omega
 unfold xZ;rw[cM hi];have:=eE ax.tot (Qs hi);exact⟨ai hi,by unfold Model.tot;omega⟩
theorem vq {k:Nat} {j:Job} (hk:j.tot+513<k) (hN:j.tot<=aU):sR k j=some (MS j):=by
 have hM:=ar;have ht:j.tot=j.model.tot+(j.act.data.length+0+0):=rfl;unfold sR MS;rw[Ei (by omega) hN,aa,qx (by omega) hN,aa];cases h:tA j
 ·rfl
 simp only[Qq,cond_false,Qr];rw[Ej (by omega) hN h,aa,DY];obtain⟨hm,hat,hok,hsh,hsp⟩:=jW h;obtain⟨hlen,_⟩:=qB hm;by_cases c:j.at_=(j.model.aB.length:Int)
 ·rw[decide_eq_true c];rfl
 rw[decide_eq_false c];simp only[cond_false,QI,cond_true];obtain⟨hl,hlt⟩:=Ek h c;rw[rv _ hat.1,hl,aa,Ck (by omega) (by omega) (by omega) (by omega) (by omega),aa,Cm (by omega) hN h,aa,aK (n:=j.at_+1) (by omega) (by omega)];rfl
end
section
end
section
theorem oh (b c:Bool):cond b (some c) (some false)=some (b&&c):=by cases b<;>rfl
theorem Nk (a b:Int):decide (a>=b)=!decide (a<b):=by rw[<-decide_not];exact decide_eq_decide.2 (by omega)
theorem K7 (a b:Int):decide (a>b)=!decide (a<=b):=by rw[<-decide_not];exact decide_eq_decide.2 (by omega)
theorem Em {R:Type} (n:Nat) (p:Nat->Bool) {g:Int->(Int->Option R)->Option R} {yes no:Option R}
  (h:∀(i:Nat) (hi:i<n) (next:Int->Option R),g (i:Int) next=cond (p i) (next ((i+1:Nat):Int)) no)
  (hn:∀next,g (n:Int) next=yes) {k:Nat} (hk:n<k):iter g k 0=cond ((List.range n).all p) yes no:=
 nK (List.range n) p (g:=g) (yes:=yes) (no:=no) (λi hi next=>by rw[h i (by simpa using hi)];simp) (λnext=>by simpa using hn next) (by simpa using hk)
theorem om {α β R:Type} (xs:List α) (p:α->Bool) (f:α->β) {g:Int× List β->(Int× List β->Option R)->Option R} {fin:List β->Option R}
  (h:∀(i:Nat) (ys:List β) (hi:i<xs.length) (next:Int× List β->Option R),ys.length<=i->g ((i:Int),ys) next=cond (p xs[i]) (next (((i+1:Nat):Int),ys++[f xs[i]])) (next (((i+1:Nat):Int),ys)))
  (hn:∀ys next,g ((xs.length:Int),ys) next=fin ys) {k:Nat} (hk:xs.length<k):iter g k (0,[])=fin ((xs.filter p).map f):=by
 have:=fg (g:=g) (st:=λi=>((i:Int),((xs.take i).filter p).map f)) (n:=xs.length) (r:=fin ((xs.filter p).map f)) (λi hi next=>by
  rw[h i _ hi next (by simp only[List.length_map];exact Rx (RZ _ _) (by simp;omega)),dq hi,RW,Rp];cases hp:p xs[i]
  ·simp[hp]
  ·simp[hp]) (λnext=>by rw[Ra];exact hn _ _) hk
 simpa using this
theorem yA {α:Type} {f:α->Int} {B:Int}:∀(xs:List α) (hf:∀x∈xs,0<=f x/\f x<=B),0<=(xs.map f).sum/\(xs.map f).sum<=B*xs.length
 |[],_=>by simp
 |x::xs,hf=>by
  have:=yA xs λy hy=>hf y (by simp[hy]);have h2:=hf x (by simp);simp only[QT,RD,Qy];rw[Int.natCast_add,Int.mul_add];omega
theorem Hu {α R:Type} (xs:List α) (f:α->Int) {B:Int} (hf:∀x∈xs,0<=f x/\f x<=B) {g:Int× Int->(Int× Int->Option R)->Option R} {fin:Int->Option R}
  (h:∀(i:Nat) (s:Int) (hi:i<xs.length) (next:Int× Int->Option R),0<=s->s<=B*i->g (s,(i:Int)) next=next (s+f xs[i],((i+1:Nat):Int)))
  (hn:∀s next,g (s,(xs.length:Int)) next=fin s) {k:Nat} (hk:xs.length<k):iter g k (0,0)=fin ((xs.map f).sum):=by
 have:=fg (g:=g) (st:=λi=>(((xs.take i).map f).sum,(i:Int))) (n:=xs.length) (r:=fin ((xs.map f).sum)) (λi hi next=>by
  have hb:=yA (f:=f) (B:=B) (xs.take i) (λx hx=>hf x (Se hx));rw[QX,So (by omega)]at hb;rw[h i _ hi next hb.1 hb.2,dq hi,Rp,R4]
  simp) (λnext=>by rw[Ra];exact hn _ _) hk
 simpa using this
theorem En {R:Type} (xs:List Int) (a:Nat) (ha:a<=xs.length) {B:Int} (hB:0<=B) (hf:∀x∈xs,0<=x/\x<=B) {g:Int× Int->(Int× Int->Option R)->Option R} {fin:Int->Option R}
  (h:∀(i:Nat) (s:Int) (hi:i<xs.length) (next:Int× Int->Option R),0<=s->s<=B*i->g (s,(i:Int)) next=next (s+xs[i],((i+1:Nat):Int)))
  (hn:∀s next,g (s,(xs.length:Int)) next=fin s) {k:Nat} (hk:xs.length<k):iter g k (0,(a:Int))=fin ((xs.drop a).sum):=by
 have:=fg (g:=g) (st:=λi=>(((xs.drop a).take i).sum,((a+i:Nat):Int))) (n:=xs.length-a) (r:=fin ((xs.drop a).sum)) (λi hi next=>by
  have hb:=yA (f:=λx:Int=>x) (B:=B) ((xs.drop a).take i) (λx hx=>hf x (List.mem_of_mem_drop (Se hx)));rw[QX,Rn,So (by omega),SC]at hb;have hle:B*(i:Int)<=B*((a+i:Nat):Int):=Int.mul_le_mul_of_nonneg_left (by omega) hB;rw[h (a+i) _ (by omega) next hb.1 (by omega),dq (show i<(xs.drop a).length by simp;omega),R4]
  simp[Rd]) (λnext=>by
   rw[show a+(xs.length-a)=xs.length by omega,RE (by simp)];exact hn _ _) (k:=k) (by omega)
 simpa using this
def gY (t:Task):Bool:=inB t.id 1 1000000&&(inB (t.aq.length:Int) 1 6&&(inB t.at_ 0 ((t.aq.length:Int)-1)&&(inB t.due 0 1000000&&(inB t.born 0 1000000&&t.aq.all λx=>inB x 1 1000))))
theorem b8 {t:Task} (h:gY t=true):(1<=t.id/\t.id<=1000000)/\(1<=t.aq.length/\t.aq.length<=6)/\(0<=t.at_/\t.at_<t.aq.length)/\(0<=t.due/\t.due<=1000000)/\(0<=t.born/\t.born<=1000000)/\∀x∈t.aq,1<=x/\x<=1000:=by
 unfold gY inB at h;simp only[Qk,decide_eq_true_eq,RJ]at h;obtain⟨h1,h2,h3,h4,h5,h6⟩:=h;exact⟨h1,by omega,by omega,h4,h5,h6⟩
theorem pH (k:Nat) (x:Int):jM k x=some (inB x 0 1000000):=by unfold jM;rw[cr];rfl
theorem rK (k:Nat) (x:Int):l9 k x=some (inB x 0 1000000):=by unfold l9;rw[fB];rfl
theorem yB {k:Nat} {t:Task} (hk:t.aq.length<k) (hN:t.aq.length<=aU):sV k t=some (gY t):=by
 have hM:=ar;unfold sV gY;simp only[cr,pH,aa,cond_not]
 rw[aK (by omega) (by omega),nK t.aq (λx=>inB x 1 1000) (yes:=some true) (no:=some false) (λi hi next=>by
  simp only[nU]
  rw[ab,if_pos (by omega),aE,ai hi,aa,cr,aa,cond_not,au hi (by omega)]) (λnext=>by
  simp only[nU];rw[ab,if_neg (by omega)]) hk]
 simp only[oh,Sm]
theorem yC {k:Nat} {t:Task} (hk:t.aq.length<k) (hN:t.aq.length<=aU):sX k t=some (gY t):=by
 have hM:=ar;unfold sX bn bG gY
 rw[eM t.aq (λx=>!inB x 1 1000) (λi hi next=>by
  simp only[aL,ab,rA,fB,aa]
  rw[if_pos (by omega),aE,ai hi,aa,au hi (by omega)]) (λnext=>by
  simp only[aL,ab];rw[if_neg (by omega)]) hk]
 rw[cH];simp only[fB,rK,aa,ng];rw[aK (by omega) (by omega),RQ];simp only[SA,oh]
 congr 1
 generalize inB t.id 1 1000000=a;generalize inB (t.aq.length:Int) 1 6=b;generalize inB t.at_ 0 ((t.aq.length:Int)-1)=c;generalize inB t.due 0 1000000=d;generalize inB t.born 0 1000000=e;generalize (t.aq.all λx=>inB x 1 1000)=f;cases a<;>cases b<;>cases c<;>cases d<;>cases e<;>cases f<;>rfl
def jX (ts:List Task) (id:Int):Int:=(ts.findIdx? λt=>t.id==id).elim (-1) λi=>(i:Int)
theorem kS {k:Nat} {s:aj} {id:Int} (hk:s.tasks.length<k) (hN:s.tasks.length<=aU):ka k s id=some (jX s.tasks id):=by
 have hM:=ar;unfold ka jX
 rw[eM s.tasks (λt=>t.id==id) (yes:=some (-1)) (no:=some) (λi hi next=>by
  simp only[qk]
  rw[ab,if_pos (by omega),aE,ai hi,aa,au hi (by omega)]) (λnext=>by
  simp only[qk];rw[ab,if_neg (by omega)]) hk]
 exact cH _
theorem tl {k:Nat} {s:aj} {id:Int} (hk:s.tasks.length<k) (hN:s.tasks.length<=aU):cW k s id=some (jX s.tasks id):=by
 have hM:=ar;unfold cW cS jX
 rw[eM s.tasks (λt=>t.id==id) (yes:=some (-1)) (no:=some) (λi hi next=>by
  simp only[bQ,iY,decide_true,cond_true,aa]
  rw[ab,if_pos (by omega),aE,ai hi,aa,au hi (by omega)]) (λnext=>by
  simp only[bQ,decide_true,cond_true];rw[ab,if_neg (by omega)]) hk]
 rw[cH];rfl
def gd (s:aj):Bool:=(List.range s.tasks.length).all λi=>(s.tasks[i]?).elim false λt=>gY t&&(decide (t.id<s.next)&&(decide (t.born<=s.now)&&(cond (decide (0<i)) ((s.tasks[i-1]?).elim false λu=>decide (u.id<t.id)) true)))
def Jg (s:aj):Bool:=cond (s.run==0) (s.left==0) ((s.tasks.findIdx? λt=>t.id==s.run).elim false λi=>(s.tasks[i]?).elim false λt=>(idx t.aq t.at_).elim false λc=>inB s.left 1 c)
def bC (s:aj):Bool:=inB s.now 0 1000000&&(inB s.ag 0 1000&&(inB s.age 0 20&&(decide ((s.tasks.length:Int)<=12)&&(inB s.turns 0 1000000&&(inB s.next 1 1000000&&(gd s&&Jg s))))))
theorem ca {s:aj} (h:gd s=true) {i:Nat} (hi:i<s.tasks.length):gY s.tasks[i]=true/\s.tasks[i].id<s.next/\s.tasks[i].born<=s.now/\∀j,(hj:j+1=i)->s.tasks[j].id<s.tasks[i].id:=by
 unfold gd at h;rw[RJ]at h;have:=h i (by simpa using hi);rw[ai hi,Qo]at this;simp only[Qk,decide_eq_true_eq]at this;obtain⟨h1,h2,h3,h4⟩:=this;refine⟨h1,h2,h3,λj hj=>?_⟩;subst hj;rw[decide_eq_true (by omega),cond_true,Nat.add_sub_cancel,ai (show j<s.tasks.length by omega),Qo]at h4;exact of_decide_eq_true h4
theorem Hv {s:aj} (h:gd s=true):∀(d i:Nat) (hd:i+d+1<s.tasks.length),s.tasks[i].id<s.tasks[i+d+1].id
 |0,i,hd=>(ca h hd).2.2.2 i rfl
 |d+1,i,hd=>Int.lt_trans (Hv h d i (by omega)) ((ca h (i:=i+(d+1)+1) hd).2.2.2 (i+d+1) (by omega))
theorem K8 {s:aj} (h:gd s=true) {i j:Nat} (hi:i<s.tasks.length) (hj:j<s.tasks.length) (e:s.tasks[i].id=s.tasks[j].id):i=j:=by
 rcases Sb i j with c|c|c
 ·obtain⟨d,rfl⟩:∃d,j=i+d+1:=⟨j-i-1,by omega⟩;have:=Hv h d i hj;omega
 ·exact c
 ·obtain⟨d,rfl⟩:∃d,i=j+d+1:=⟨i-j-1,by omega⟩;have:=Hv h d j hi;omega
theorem Cp {s:aj} (h:gd s=true) {i:Nat} (hi:i<s.tasks.length):(s.tasks.findIdx? λt=>t.id==s.tasks[i].id)=some i:=by
 cases e:s.tasks.findIdx? λt=>t.id==s.tasks[i].id with
 |none=>
  rw[RI]at e;have:=e _ (Qs hi)
  simp at this
 |some j=>
  obtain⟨hj,hp,_⟩:=Rm.1 e;rw[K8 h hj hi (by simpa using hp)]
theorem pI {ts:List Task} {id:Int} {i:Nat} (h:(ts.findIdx? λt=>t.id==id)=some i):∃hi:i<ts.length,ts[i].id=id:=by
 obtain⟨hi,hp,_⟩:=Rm.1 h;exact⟨hi,by simpa using hp⟩
theorem Hw {s:aj} (h:gd s=true) (i:Nat) (hi:(s.tasks.findIdx? λt=>t.id==s.run)=some i):
  ((idx s.tasks (i:Int)).bind λe8=>(idx s.tasks (i:Int)).bind λe9=>(idx e8.aq e9.at_).bind λe10=>some (inB s.left (1:Int) e10))=
  some ((s.tasks[i]?).elim false λt=>(idx t.aq t.at_).elim false λc=>inB s.left 1 c):=by
 obtain⟨hl,_⟩:=pI hi;have ht:=b8 (ca h hl).1;rw[aE,ai hl,aa,aa,Qo]
 have:idx s.tasks[i].aq s.tasks[i].at_=some (s.tasks[i].aq[s.tasks[i].at_.toNat]'(by omega)):=by
  rw[rv _ ht.2.2.1.1];exact ai _
 rw[this,aa,Qo]
theorem gW {ts:List Task} {id:Int} {i:Nat} (h:(ts.findIdx? λt=>t.id==id)=some i):jX ts id=(i:Int):=by unfold jX;rw[h];rfl
theorem uH {ts:List Task} {id:Int} (h:(ts.findIdx? λt=>t.id==id)=none):jX ts id=-1:=by unfold jX;rw[h];rfl
theorem AE {R:Type} {s:aj} {i:Nat} (hi:i<s.tasks.length) (hN:s.tasks.length<=aU) {next no:Option R}:
  (cond (!gY s.tasks[i]) no (cond (decide (s.tasks[i].id>=s.next)) no (cond (decide (s.tasks[i].born>s.now)) no (cond (decide ((i:Int)>(0:Int))) ((idx s.tasks (IntKind.i64.wrap ((i:Int)-(1:Int)))).bind λe8=>cond (decide (e8.id>=s.tasks[i].id)) no next) next))))=
  cond ((s.tasks[i]?).elim false λt=>gY t&&(decide (t.id<s.next)&&(decide (t.born<=s.now)&&(cond (decide (0<i)) ((s.tasks[i-1]?).elim false λu=>decide (u.id<t.id)) true)))) next no:=by
 have hM:=ar;rw[ai hi,Qo,Nk s.tasks[i].id s.next,K7 s.tasks[i].born s.now];simp only[cond_not]
 cases i with
 |zero=>
  rw[decide_eq_false (show¬(((0:Nat):Int)>0) by omega),decide_eq_false (show¬(0<0) by omega)];simp only[cond_false,Sm]
  cases gY s.tasks[0]<;>cases decide (s.tasks[0].id<s.next)<;>cases decide (s.tasks[0].born<=s.now)<;>rfl
 |succ j=>
  rw[decide_eq_true (show(((j+1:Nat):Int)>0) by omega),decide_eq_true (show(0<j+1) by omega),aK (by omega) (by omega),show((j+1:Nat):Int)-1=(j:Int)from by omega,aE,Nat.add_sub_cancel,ai (show j<s.tasks.length by omega),aa,Qo,Nk s.tasks[j].id];simp only[cond_true,cond_not];cases gY s.tasks[j+1]<;>cases decide (s.tasks[j+1].id<s.next)<;>cases decide (s.tasks[j+1].born<=s.now)<;>cases decide (s.tasks[j].id<s.tasks[j+1].id)<;>rfl
theorem dy {k:Nat} {s:aj} (hk:s.tot<k) (hN:s.tot<=aU):eT k s=some (bC s):=by
 have hM:=ar;unfold aj.tot at hk hN;have hlen:=bm Task.tot s.tasks;unfold eT bC;rw[K7 (s.tasks.length:Int) 12];simp only[cr,pH,aa,cond_not]
 rw[Em s.tasks.length (λi=>(s.tasks[i]?).elim false λt=>gY t&&(decide (t.id<s.next)&&(decide (t.born<=s.now)&&(cond (decide (0<i)) ((s.tasks[i-1]?).elim false λu=>decide (u.id<t.id)) true)))) (λi hi next=>by
  have hm:=eE Task.tot (Qs hi);have hm0:s.tasks[i].tot=s.tasks[i].aq.length+0:=rfl;simp only[l8];rw[ab,if_pos (by omega),aE,ai hi,aa,yB (by omega) (by omega),aa,au hi (by omega)]
  exact(AE hi (by omega)).trans (by rw[ai hi])) (λnext=>by
  simp only[l8];rw[ab,if_neg (by omega)]) (by omega)]
 rw[show((List.range s.tasks.length).all λi=>(s.tasks[i]?).elim false λt=>gY t&&(decide (t.id<s.next)&&(decide (t.born<=s.now)&&(cond (decide (0<i)) ((s.tasks[i-1]?).elim false λu=>decide (u.id<t.id)) true))))=gd s from rfl]
 have hr:gd s=true->cond (s.run==(0:Int)) (some (s.left==(0:Int))) (cond (decide (jX s.tasks s.run>=(0:Int))) ((idx s.tasks (jX s.tasks s.run)).bind λe11=>(idx s.tasks (jX s.tasks s.run)).bind λe12=>(idx e11.aq e12.at_).bind λe13=>some (inB s.left (1:Int) e13)) (some false))=some (Jg s):=by
  intro h;unfold Jg;cases s.run==0
  ·simp only[cond_false]
   cases hf:s.tasks.findIdx? λt=>t.id==s.run with
   |none=>rw[uH hf];rfl
   |some i=>rw[gW hf,ab,if_pos (by omega),Hw h i hf];rfl
  ·rfl
 simp only[kS (s:=s) (id:=s.run) (k:=k) (by omega) (by omega),aa];cases h:gd s
 ·simp only[cond_false,Q9];simp only[oh,Sd]
 ·simp only[cond_true,Qr,hr h,oh]
theorem Cq {k:Nat} {s:aj} (hk:s.tot<k) (hN:s.tot<=aU):gD k s=some (gd s&&decide ((s.tasks.length:Int)<=12)):=by
 have hM:=ar;unfold aj.tot at hk hN;have hlen:=bm Task.tot s.tasks;unfold gD
 rw[Em s.tasks.length (λi=>(s.tasks[i]?).elim false λt=>gY t&&(decide (t.id<s.next)&&(decide (t.born<=s.now)&&(cond (decide (0<i)) ((s.tasks[i-1]?).elim false λu=>decide (u.id<t.id)) true)))) (λi hi next=>by
  have hm:=eE Task.tot (Qs hi);have hm0:s.tasks[i].tot=s.tasks[i].aq.length+0:=rfl;simp only[fi];rw[ab,if_pos (by omega),aE,ai hi,aa,yC (by omega) (by omega),aa,au hi (by omega)]
  exact(AE hi (by omega)).trans (by rw[ai hi])) (λnext=>by
  simp only[fi];rw[ab,if_neg (by omega)]) (by omega)]
 exact oh _ _
theorem jY {k:Nat} {s:aj} (hk:s.tot<k) (hN:s.tot<=aU):lr k s=some (bC s):=by
 have hM:=ar;have hk2:=hk;have hN2:=hN;unfold aj.tot at hk hN;have hlen:=bm Task.tot s.tasks;unfold lr bC;simp only[fB,rK,aa,cond_not,Cq hk2 hN2,tl (s:=s) (id:=s.run) (k:=k) (by omega) (by omega)]
 have hr:gd s=true->cond (s.run==(0:Int)) (cond (s.run==(0:Int)) (some (s.left==(0:Int))) (some false)) (cond (decide (jX s.tasks s.run<(0:Int))) (cond (s.run==(0:Int)) (some (s.left==(0:Int))) (some false)) ((idx s.tasks (jX s.tasks s.run)).bind λe8=>(idx s.tasks (jX s.tasks s.run)).bind λe9=>(idx e8.aq e9.at_).bind λe10=>some (inB s.left (1:Int) e10)))=some (Jg s):=by
  intro h;unfold Jg;cases s.run==0
  ·simp only[cond_false]
   cases hf:s.tasks.findIdx? λt=>t.id==s.run with
   |none=>rw[uH hf];rfl
   |some i=>rw[gW hf,ab,if_neg (by omega),Hw h i hf];rfl
  ·rfl
 cases h:gd s
 ·simp only[cond_false,Q9];simp only[oh,Sd]
 ·rw[hr h];simp only[Qr,oh]
  congr 1
  generalize inB s.now 0 1000000=a;generalize inB s.ag 0 1000=b;generalize inB s.age 0 20=c;generalize decide ((s.tasks.length:Int)<=12)=d;generalize inB s.turns 0 1000000=e;generalize inB s.next 1 1000000=f;generalize Jg s=g;cases a<;>cases b<;>cases c<;>cases d<;>cases e<;>cases f<;>cases g<;>rfl
theorem bF {s:aj} (h:bC s=true):(0<=s.now/\s.now<=1000000)/\(0<=s.ag/\s.ag<=1000)/\(0<=s.age/\s.age<=20)/\s.tasks.length<=12/\(0<=s.turns/\s.turns<=1000000)/\(1<=s.next/\s.next<=1000000)/\gd s=true/\Jg s=true:=by
 unfold bC inB at h;simp only[Qk,decide_eq_true_eq]at h;obtain⟨h1,h2,h3,h4,h5,h6,h7,h8⟩:=h;exact⟨h1,h2,h3,by omega,h5,h6,h7,h8⟩
end
section
theorem pJ {k:Nat} {s:aj} (hk:s.tot<k) (hN:s.tot<=aU):ln k s=some s:=by
 have hM:=ar;unfold aj.tot at hk hN;have hlen:=bm Task.tot s.tasks;unfold ln
 refine(sC s.tasks (λt=>t) (g:=λu4 n4=>jL k (s.now,s.ag,s.age,s.tasks,s.run,s.left,s.turns,s.next,(0:Int),(0:Int),(0:Int),(0:Int),(0:Int),(0:Int),(0:Int),s.now,s.ag,s.age,s.run,s.left,s.turns,s.next) u4 n4 (λy3=>some (⟨s.now,s.ag,s.age,y3,s.run,s.left,s.turns,s.next⟩:aj)))
  (fin:=λy3=>some (⟨s.now,s.ag,s.age,y3,s.run,s.left,s.turns,s.next⟩:aj)) (λi ys hi next hl=>by
  have hm:=eE Task.tot (Qs hi);have hm0:s.tasks[i].tot=s.tasks[i].aq.length+0:=rfl;simp only[jL]
  rw[ab,if_pos (by omega),aE,ai hi,aa,jT (by omega) (by omega),aa,cX (by omega),au hi (by omega)]) (λys next=>by
  simp only[jL];rw[ab,if_neg (by omega)]) (by omega)).trans ?_
 simp
theorem jc {k:Nat} {s:aj} (hk:s.tot<k) (hN:s.tot<=aU):fA k s=some s:=by
 have hM:=ar;unfold aj.tot at hk hN;have hlen:=bm Task.tot s.tasks;unfold fA
 refine(sC s.tasks (λt=>t) (g:=λu4 n4=>eU k (s.tasks,(s.tasks.length:Int),s.now,s.ag,s.age,s.run,s.left,s.turns,s.next,(0:Int),(0:Int),(0:Int),(0:Int),(0:Int),(0:Int),(0:Int)) u4 n4 (λy3=>some (⟨s.now,s.ag,s.age,y3,s.run,s.left,s.turns,s.next⟩:aj)))
  (fin:=λy3=>some (⟨s.now,s.ag,s.age,y3,s.run,s.left,s.turns,s.next⟩:aj)) (λi ys hi next hl=>by
  have hm:=eE Task.tot (Qs hi);have hm0:s.tasks[i].tot=s.tasks[i].aq.length+0:=rfl;simp only[eU]
  rw[ab,if_pos (by omega),aE,ai hi,aa,cI (by omega),aa,cX (by omega),au hi (by omega)]) (λys next=>by
  simp only[eU];rw[ab,if_neg (by omega)]) (by omega)).trans ?_
 simp
def gf (t:Task):Int:=(t.aq.drop t.at_.toNat).sum
def fa (t:Task):Int:=(idx t.aq t.at_).getD 0
def dO (s:aj) (t:Task):Int:=cond (s.run==t.id) (gf t-fa t+s.left) (gf t)
theorem fb {t:Task} (h:gY t=true):idx t.aq t.at_=some (fa t)/\1<=fa t/\fa t<=1000:=by
 have ht:=b8 h
 have hlt:t.at_.toNat<t.aq.length:=by omega
 have e:idx t.aq t.at_=some t.aq[t.at_.toNat]:=by rw[rv _ ht.2.2.1.1];exact ai hlt
 unfold fa;rw[e,RC];exact⟨rfl,ht.2.2.2.2.2 _ (Qs hlt)⟩
theorem yD {t:Task} (h:gY t=true):fa t<=gf t/\gf t-fa t<=5000/\0<=gf t-fa t:=by
 have ht:=b8 h
 have hlt:t.at_.toNat<t.aq.length:=by omega
 have e:idx t.aq t.at_=some t.aq[t.at_.toNat]:=by rw[rv _ ht.2.2.1.1];exact ai hlt
 have hc:fa t=t.aq[t.at_.toNat]:=by unfold fa;rw[e];rfl
 have hb:=yA (f:=λx:Int=>x) (B:=1000) (t.aq.drop (t.at_.toNat+1)) (λx hx=>by have:=ht.2.2.2.2.2 x (List.mem_of_mem_drop hx);omega);rw[SC,Rn]at hb;unfold gf;rw[gv hlt,RD,hc];omega
theorem qC {s:aj} (h:bC s=true) {t:Task} (hm:t∈s.tasks) (hr:s.run=t.id):1<=s.left/\s.left<=fa t:=by
 have hs:=bF h;obtain⟨i,hi,rfl⟩:=QU.1 hm;have hT:=(ca hs.2.2.2.2.2.2.1 hi).1;have ht:=b8 hT;have hrun:=hs.2.2.2.2.2.2.2;unfold Jg at hrun
 have h0:(s.run==0)=false:=by rw[hr];simp;omega
 rw[h0,cond_false,hr,Cp hs.2.2.2.2.2.2.1 hi,Qo,ai hi,Qo,(fb hT).1,Qo]at hrun;exact of_decide_eq_true hrun
theorem yE {s:aj} (h:bC s=true) {t:Task} (hm:t∈s.tasks):0<=dO s t/\dO s t<=6000:=by
 have hs:=bF h;obtain⟨i,hi,e⟩:=QU.1 hm;have hT:gY t=true:=e▸(ca hs.2.2.2.2.2.2.1 hi).1;have hc:=fb hT;have hb:=yD hT;unfold dO;cases hr:s.run==t.id
 ·simp only[cond_false];omega
 ·have:=qC h hm (by simpa using hr);simp only[cond_true];omega
theorem Cr {k:Nat} {s:aj} (hk:s.tot<k) (hN:s.tot<=aU) (h:bC s=true) {t:Task} (hm:t∈s.tasks):ql k s t.id=some (dO s t):=by
  have hM:=ar;have hs:=bF h;obtain⟨i,hi,rfl⟩:=QU.1 hm;have hT:=(ca hs.2.2.2.2.2.2.1 hi).1;have ht:=b8 hT;have hlen:=bm Task.tot s.tasks;have htm:=eE Task.tot hm;have hm0:s.tasks[i].tot=s.tasks[i].aq.length+0:=rfl;have hst:s.tot=eu Task.tot s.tasks+0:=rfl;have hc:=fb hT;have hb:=yD hT;unfold ql;rw[kS (by omega) (by omega),aa,dy hk hN,aa,h,gW (Cp hs.2.2.2.2.2.2.1 hi)];simp only[Qq,cond_false];rw[ab,if_neg (by omega),aE,ai hi,aa]
  have hat:s.tasks[i].at_=((s.tasks[i].at_.toNat:Nat):Int):=by omega
  have e:=En (R:=Int) s.tasks[i].aq s.tasks[i].at_.toNat (by omega) (B:=1000) (by omega) (λx hx=>by have:=ht.2.2.2.2.2 x hx;omega)
    (g:=λu7 n7=>iv k (s.tasks[i].id,s.now,s.ag,s.age,s.tasks,s.run,s.left,s.turns,s.next,s.tasks[i].id,s.tasks[i].aq,s.tasks[i].at_,s.tasks[i].due,s.tasks[i].born) u7 n7 (λy5=>cond (s.run==s.tasks[i].id) ((idx s.tasks[i].aq s.tasks[i].at_).bind λe6=>some (IntKind.i64.wrap ((IntKind.i64.wrap (y5-e6))+s.left))) (some y5)))
    (fin:=λy5=>cond (s.run==s.tasks[i].id) ((idx s.tasks[i].aq s.tasks[i].at_).bind λe6=>some (IntKind.i64.wrap ((IntKind.i64.wrap (y5-e6))+s.left))) (some y5))
    (λj z hj next h0 h1=>by
      have:=ht.2.2.2.2.2 _ (Qs hj);simp only[iv]
      rw[ab,if_pos (by omega),aE,ai hj,aa,aK (by omega) (by omega),au hj (by omega)])
    (λz next=>by simp only[iv];rw[ab,if_neg (by omega)]) (k:=k) (by omega)
  rw[<-hat]at e;refine e.trans ?_;show cond _ _ _=some (dO s s.tasks[i]);unfold dO;rw[hc.1,aa];cases hr:s.run==s.tasks[i].id
  · rfl
  · have:=qC h hm (by simpa using hr);simp only[cond_true];have e2:(s.tasks[i].aq.drop s.tasks[i].at_.toNat).sum=gf s.tasks[i]:=rfl;rw[e2,aK (n:=gf s.tasks[i]-fa s.tasks[i]) (by omega) (by omega),aK (by omega) (by omega)]
theorem Hx {B:Int}:∀(xs:List Int) (s:Int) (hf:∀x∈xs,0<=x/\x<=B) (h0:0<=s) (h1:s+B*xs.length<=9223372036854775807),xs.foldl (λs x=>IntKind.i64.wrap (s+x)) s=s+xs.sum
 |[],s,_,_,_=>by simp
 |x::xs,s,hf,h0,h1=>by
  have hx:=hf x (by simp);rw[Qy,Int.natCast_add,Int.mul_add]at h1;have h2:0<=B*(xs.length:Int):=R6 (by omega) (by omega);rw[R2,RD,aK (by omega) (by omega),Hx xs (s+x) (λy hy=>hf y (by simp[hy])) (by omega) (by omega)];omega
theorem Ge {k:Nat} {s:aj} (hk:s.tot<k) (hN:s.tot<=aU) (h:bC s=true) {t:Task} (hm:t∈s.tasks):jl k s t=some (dO s t):=by
 have hM:=ar;have hs:=bF h;obtain⟨i,hi,rfl⟩:=QU.1 hm;have hT:=(ca hs.2.2.2.2.2.2.1 hi).1;have ht:=b8 hT;have htm:=eE Task.tot hm;have hm0:s.tasks[i].tot=s.tasks[i].aq.length+0:=rfl;have hst:s.tot=eu Task.tot s.tasks+0:=rfl;have hc:=fb hT;have hb:=yD hT;unfold jl;rw[ab,if_pos (by omega),RE (QE _),B4 (by simp;omega) (by simp;omega),aa,Hx (B:=1000) _ 0 (λx hx=>by have:=ht.2.2.2.2.2 x (List.mem_of_mem_drop hx);omega) (by omega) (by simp;omega),hc.1,aa,Int.zero_add];have e2:(s.tasks[i].aq.drop s.tasks[i].at_.toNat).sum=gf s.tasks[i]:=rfl;rw[e2];unfold dO;cases hr:s.run==s.tasks[i].id
 ·rfl
 ·have:=qC h hm (by simpa using hr);simp only[cond_true];rw[aK (n:=s.left-fa s.tasks[i]) (by omega) (by omega),aK (by omega) (by omega)]
  congr 1;omega
def tn (s:aj) (d:Int):Int:=(s.tasks.map λt=>cond (decide (t.due<=d)) (dO s t) 0).sum
def block (s:aj) (d:Int):Int:=(s.tasks.findIdx? λt=>t.id==s.run).elim 0 λi=>(s.tasks[i]?).elim 0 λt=>cond (decide (t.due>d)) s.left 0
theorem uI {s:aj} (h:bC s=true) (d:Int):∀t∈s.tasks,0<=cond (decide (t.due<=d)) (dO s t) 0/\cond (decide (t.due<=d)) (dO s t) 0<=6000:=λt ht=>by
 have:=yE h ht;cases decide (t.due<=d)
 ·simp
 ·simpa using this
theorem K9 {s:aj} (h:bC s=true) (d:Int):0<=tn s d/\tn s d<=72000:=by
 have hs:=bF h;have:=yA (B:=6000) s.tasks (uI h d);unfold tn;omega
theorem Cs {k:Nat} {s:aj} {d:Int} (hk:s.tot<k) (hN:s.tot<=aU) (h:bC s=true):qm k s d=some (tn s d):=by
  have hM:=ar;have hs:=bF h;have hlen:=bm Task.tot s.tasks;have hst:s.tot=eu Task.tot s.tasks+0:=rfl;unfold qm;rw[dy hk hN,aa,h];simp only[Qq,cond_false]
  exact Hu s.tasks (λt=>cond (decide (t.due<=d)) (dO s t) 0) (B:=6000) (uI h d) (g:=λu6 n6=>iw k (d,s.now,s.ag,s.age,s.tasks,s.run,s.left,s.turns,s.next) u6 n6 (λy5=>some y5)) (fin:=some)
    (λi z hi next h0 h1=>by
      have hr:=yE h (Qs hi);have e:=Cr hk hN h (Qs hi);simp only[iw];rw[ab,if_pos (by omega),aE,ai hi,aa,au hi (by omega),aa];by_cases c:s.tasks[i].due<=d
      · rw[decide_eq_true c,cond_true,cond_true,show(⟨s.now,s.ag,s.age,s.tasks,s.run,s.left,s.turns,s.next⟩:aj)=s from rfl,e,aa,aK (by omega) (by omega)]
      · rw[decide_eq_false c,cond_false,cond_false,Int.add_zero])
    (λz next=>by simp only[iw];rw[ab,if_neg (by omega)]) (by omega)
theorem Gf {k:Nat} {s:aj} {d:Int} (hk:s.tot<k) (hN:s.tot<=aU) (h:bC s=true):jm k s d=some (tn s d):=by
  have hM:=ar;have hs:=bF h;have hlen:=bm Task.tot s.tasks;have hst:s.tot=eu Task.tot s.tasks+0:=rfl;unfold jm
  exact Hu s.tasks (λt=>cond (decide (t.due<=d)) (dO s t) 0) (B:=6000) (uI h d) (g:=λu4 n4=>eV k (d,s.tasks,(s.tasks.length:Int),s.now,s.ag,s.age,s.tasks,s.run,s.left,s.turns,s.next) u4 n4 (λy3=>some y3)) (fin:=some)
    (λi z hi next h0 h1=>by
      have hr:=yE h (Qs hi);have e:=Ge hk hN h (Qs hi);simp only[eV];rw[ab,if_pos (by omega),aE,ai hi,aa,au hi (by omega)];by_cases c:s.tasks[i].due<=d
      · rw[decide_eq_true c,cond_true,cond_true,show(⟨s.now,s.ag,s.age,s.tasks,s.run,s.left,s.turns,s.next⟩:aj)=s from rfl,e,aa,aK (by omega) (by omega)]
      · rw[decide_eq_false c,cond_false,cond_false,Int.add_zero])
    (λz next=>by simp only[eV];rw[ab,if_neg (by omega)]) (by omega)
theorem MT {s:aj} (h:bC s=true) (d:Int):0<=block s d/\block s d<=1000:=by
 have hs:=bF h;unfold block
 cases hf:s.tasks.findIdx? λt=>t.id==s.run with
 |none=>exact⟨Int.le_refl _,by show(0:Int)<=1000;omega⟩
 |some i=>
  obtain⟨hi,hid⟩:=pI hf;have hT:=(ca hs.2.2.2.2.2.2.1 hi).1;have:=qC h (Qs hi) hid.symm;have:=fb hT;rw[Qo,ai hi,Qo];cases decide (s.tasks[i].due>d)
  ·exact⟨Int.le_refl _,by show(0:Int)<=1000;omega⟩
  ·simp only[cond_true];omega
theorem AF {s:aj} {d:Int} (h:bC s=true):cond (decide (jX s.tasks s.run>=(0:Int))) ((idx s.tasks (jX s.tasks s.run)).bind λe3=>cond (decide (e3.due>d)) (some s.left) (some (0:Int))) (some (0:Int))=some (block s d):=by
 unfold block
 cases hf:s.tasks.findIdx? λt=>t.id==s.run with
 |none=>rw[uH hf];rfl
 |some i=>
  obtain⟨hi,_⟩:=pI hf;rw[gW hf,ab,if_pos (by omega),aE,ai hi,aa,Qo,ai hi,Qo];cases decide (s.tasks[i].due>d)<;>rfl
theorem Eo {k:Nat} {s:aj} {d:Int} (hk:s.tot<k) (hN:s.tot<=aU) (h:bC s=true):sW k s d=some (block s d):=by
 have hlen:=bm Task.tot s.tasks;have hst:s.tot=eu Task.tot s.tasks+0:=rfl;unfold sW;rw[dy hk hN,aa,h];simp only[Qq,cond_false];rw[kS (by omega) (by omega),aa,AF h]
theorem I0 {k:Nat} {s:aj} {d:Int} (hk:s.tot<k) (hN:s.tot<=aU) (h:bC s=true):ku k s d=some (block s d):=by
 have hlen:=bm Task.tot s.tasks;have hst:s.tot=eu Task.tot s.tasks+0:=rfl;unfold ku;rw[tl (by omega) (by omega),aa,AF h]
def dS (s:aj) (t:Task):Bool:=decide (t.due<=s.now)
def Gg (s:aj) (t:Task):Bool:=decide (tn s t.due+block s t.due+s.ag<=t.due-s.now)
def yF (s:aj):Bool:=bC s&&s.tasks.all λt=>!dS s t&&Gg s t
theorem La {α:Type} (p q:α->Bool):∀xs:List α,(xs.all p&&xs.all q)=xs.all λx=>p x&&q x
 |[]=>rfl
 |x::xs=>by
  rw[SL,SL,SL,<-La p q xs];cases p x<;>cases q x<;>cases xs.all p<;>cases xs.all q<;>rfl
theorem Gh {k:Nat} {s:aj} (hk:s.tot<k) (hN:s.tot<=aU) (h:bC s=true):vZ k s=some ((s.tasks.filter (dS s)).map (·.id)):=by
  have hM:=ar;have hlen:=bm Task.tot s.tasks;have hst:s.tot=eu Task.tot s.tasks+0:=rfl;unfold vZ;rw[dy hk hN,aa,h];simp only[Qq,cond_false]
  exact om s.tasks (dS s) (·.id) (g:=λu5 n5=>lq k (s.now,s.ag,s.age,s.tasks,s.run,s.left,s.turns,s.next) u5 n5 (λy4=>some y4)) (fin:=some)
    (λi ys hi next hl=>by
      simp only[lq];rw[ab,if_pos (by omega),aE,ai hi,aa,au hi (by omega),aa,cX (by simp;omega)]
      rfl)
    (λys next=>by simp only[lq];rw[ab,if_neg (by omega)]) (by omega)
theorem Lb {s:aj} (h:bC s=true) {t:Task} (hm:t∈s.tasks):decide ((IntKind.i64.wrap ((IntKind.i64.wrap (tn s t.due+block s t.due))+s.ag))>(IntKind.i64.wrap (t.due-s.now)))=!Gg s t:=by
 have hs:=bF h;have hd:=K9 h t.due;have hb:=MT h t.due;obtain⟨i,hi,e⟩:=QU.1 hm;have ht:=b8 (t:=t) (e▸(ca hs.2.2.2.2.2.2.1 hi).1);rw[aK (n:=tn s t.due+block s t.due) (by omega) (by omega),aK (n:=tn s t.due+block s t.due+s.ag) (by omega) (by omega),aK (by omega) (by omega),K7];rfl
theorem Gi {k:Nat} {s:aj} (hk:s.tot<k) (hN:s.tot<=aU):v3 k s=some (yF s):=by
 have hM:=ar;have hlen:=bm Task.tot s.tasks;have hst:s.tot=eu Task.tot s.tasks+0:=rfl;unfold v3 yF;rw[dy hk hN,aa];cases h:bC s
 ·rfl
 simp only[Qq,cond_false,Qr]
 rw[Gh hk hN h,aa,nK s.tasks (Gg s) (yes:=some true) (no:=some false) (λi hi next=>by
  simp only[nV]
  rw[ab,if_pos (by omega),aE,ai hi,aa,show(⟨s.now,s.ag,s.age,s.tasks,s.run,s.left,s.turns,s.next⟩:aj)=s from rfl,Cs hk hN h,aa,Eo hk hN h,aa,Lb h (Qs hi),cond_not,au hi (by omega)]) (λnext=>by
  simp only[nV];rw[ab,if_neg (by omega)]) (by omega)]
 rw[<-La,List.length_map]
 have hz:decide (((s.tasks.filter (dS s)).length:Int)>0)=!(s.tasks.all λt=>!dS s t):=by
  cases ha:s.tasks.all λt=>!dS s t
  ·rw[List.all_eq_false]at ha;obtain⟨t,ht,hl⟩:=ha;have:0<(s.tasks.filter (dS s)).length:=List.length_pos_of_mem (Rk.2 ⟨ht,by simpa using hl⟩);rw[decide_eq_true (by omega)];rfl
  ·rw[RJ]at ha
   have:s.tasks.filter (dS s)=[]:=List.filter_eq_nil_iff.2 λt ht=>by simpa using ha t ht
   rw[this];rfl
 rw[hz];cases s.tasks.all λt=>!dS s t
 ·rfl
 ·simp only[Qq,cond_false,Qr];cases s.tasks.all (Gg s)<;>rfl
theorem Gj {k:Nat} {s:aj} (hk:s.tot<k) (hN:s.tot<=aU):v5 k s=some (yF s):=by
  have hM:=ar;have hlen:=bm Task.tot s.tasks;have hst:s.tot=eu Task.tot s.tasks+0:=rfl;unfold v5 yF;rw[jY hk hN,aa];cases h:bC s
  · rfl
  simp only[cond_true,Qr];unfold cw cL;simp only[decide_true,cond_true]
  rw [eM s.tasks (λ t => !(!dS s t && Gg s t)) (yes := some (-1)) (no := some) (λ i hi next => by
    simp only[bJ,decide_true,cond_true];rw[ab,if_pos (by omega),aE,ai hi,aa,show(⟨s.now,s.ag,s.age,s.tasks,s.run,s.left,s.turns,s.next⟩:aj)=s from rfl]
    have e:kv k s.tasks[i] s=some (!(!dS s s.tasks[i]&&Gg s s.tasks[i])):=by
      unfold kv cO;rw[aa,Gf hk hN h,I0 hk hN h];simp only[decide_true,cond_true,aa,Lb h (Qs hi)];unfold dS;cases decide (s.tasks[i].due<=s.now)<;>cases Gg s s.tasks[i]<;>rfl
    rw[e,aa,au hi (by omega)]) (λnext=>by
    simp only[bJ,decide_true,cond_true];rw[ab,if_neg (by omega)]) (by omega)]
  rw[cH];simp only[aa,ng];rw[RQ];simp only[SA]
def fD (s:aj) (aq:List Int) (due:Int):aj× Int× Int:=
  cond (bC s&&gY ⟨s.next,aq,0,due,s.now⟩)
    (cond ((s.tasks.length:Int)==12||s.next==1000000) (s,0,2)
      (cond (yF ⟨s.now,s.ag,s.age,s.tasks++[⟨s.next,aq,0,due,s.now⟩],s.run,s.left,s.turns,s.next+1⟩)
        (⟨s.now,s.ag,s.age,s.tasks++[⟨s.next,aq,0,due,s.now⟩],s.run,s.left,s.turns,s.next+1⟩,s.next,0) (s,0,3))) (s,0,1)
theorem I1 {k:Nat} {s:aj} {aq:List Int} {due:Int} (hk:s.tot+aq.length+1<k) (hN:s.tot+aq.length+1<=aU):BW k s aq due=some (fD s aq due):=by
 have hM:=ar;have hlen:=bm Task.tot s.tasks;have hst:s.tot=eu Task.tot s.tasks+0:=rfl;have hT:Task.tot ⟨s.next,aq,0,due,s.now⟩=aq.length+0:=rfl;unfold BW fD;rw[pJ (by omega) (by omega),aa,jT (by omega) (by omega),aa,dy (by omega) (by omega),aa,yB (t:=⟨s.next,aq,0,due,s.now⟩) (by show aq.length<k;omega) (by show aq.length<=aU;omega),aa];cases h:bC s
 ·rfl
 have hs:=bF h;simp only[Qq,cond_false,Qr];cases gY ⟨s.next,aq,0,due,s.now⟩
 ·rfl
 simp only[Qq,cond_false,cond_true];cases((s.tasks.length:Int)==12)
 case true=>rfl
 cases(s.next==(1000000:Int))
 case true=>rfl
 simp only[cond_false,Bool.or_false]
 have ht2:aj.tot ⟨s.now,s.ag,s.age,s.tasks++[⟨s.next,aq,0,due,s.now⟩],s.run,s.left,s.turns,s.next+1⟩=s.tot+(aq.length+1):=by
  unfold aj.tot;simp only[ry,pn,hT];simp[eu]
 rw[cX (by omega),aK (by omega) (by omega),Gi (by omega) (by omega),aa,cond_not];cases yF _<;>rfl
theorem I2 {k:Nat} {s:aj} {aq:List Int} {due:Int} (hk:s.tot+aq.length+1<k) (hN:s.tot+aq.length+1<=aU):BX k s aq due=some (fD s aq due):=by
 have hM:=ar;have hlen:=bm Task.tot s.tasks;have hst:s.tot=eu Task.tot s.tasks+0:=rfl;have hT:Task.tot ⟨s.next,aq,0,due,s.now⟩=aq.length+0:=rfl;unfold BX fD;rw[cI (by omega),aa,jc (by omega) (by omega),aa,jY (by omega) (by omega),aa,yC (t:=⟨s.next,aq,0,due,s.now⟩) (by show aq.length<k;omega) (by show aq.length<=aU;omega),aa];cases h:bC s
 ·rfl
 have hs:=bF h;simp only[Qq,cond_false,Qr];cases gY ⟨s.next,aq,0,due,s.now⟩
 ·rfl
 simp only[Qq,cond_false,cond_true];cases((s.tasks.length:Int)==12)
 case true=>rfl
 cases(s.next==(1000000:Int))
 case true=>rfl
 simp only[cond_false,Bool.or_false]
 have ht2:aj.tot ⟨s.now,s.ag,s.age,s.tasks++[⟨s.next,aq,0,due,s.now⟩],s.run,s.left,s.turns,s.next+1⟩=s.tot+(aq.length+1):=by
  unfold aj.tot;simp only[ry,pn,hT];simp[eu]
 rw[aa,cX (by omega),aK (by omega) (by omega),Gj (by omega) (by omega),aa,cond_not];cases yF _<;>rfl
end
section
def ON (n:Nat) (t:Task):bX:=⟨t.id,n+1,t.at_,t.due,t.born⟩
def pK:Nat->List Task->List bX
 |_,[]=>[]
 |n,t::l=>ON n t::pK (n+5) l
theorem yG:∀(ts:List Task) (n:Nat),vb .task .cF n ts=some (pK n ts)
 |[],n=>rfl
 |t::l,n=>by
  have ih:=yG l (n+5);show((S.cF.eo (lP n (LC t))).bind λy=>(vb .task .cF (n+S.task.sz) l).bind λys=>some (y::ys))=_;rw[show S.task.sz=5 from rfl,ih];rfl
theorem en:∀(ts:List Task) (n:Nat),(pK n ts).length=ts.length
 |[],n=>rfl
 |t::l,n=>by simp[pK,en l]
theorem AG:∀zs:List bX,CB (c9 .cF zs)=zs.map (·.aq)
 |[]=>rfl
 |z::l=>by
  show CB (zx z++c9 .cF l)=_;rw[QT,<-AG l];rfl
theorem Ep:∀{l:List Nat},l.Nodup->gn l=true
 |[],_=>rfl
 |x::l,h=>by
  rw[Ri]at h;simp only[gn];cases hm:mem x l
  ·exact Ep h.2
  ·exact(h.1 ((mem_iff x l).1 hm)).elim
theorem AH:∀(ts:List Task) (n:Nat),(∀z∈pK n ts,n<z.aq)/\(pK n ts).Pairwise λa b=>a.aq<b.aq
 |[],n=>⟨(λz hz=>by simp[pK]at hz),List.Pairwise.nil⟩
 |t::l,n=>by
  obtain⟨h1,h2⟩:=AH l (n+5);refine⟨λz hz=>?_,List.Pairwise.cons (λz hz=>?_) h2⟩
  ·rcases QG.1 hz with rfl|hz
   ·show n<n+1;omega
   ·have:=h1 z hz;omega
  ·have:=h1 z hz;show n+1<z.aq;omega
theorem mi {ts:List Task} {n:Nat} (q:bX->Bool):iW ((pK n ts).filter q)=true:=by
 have h:=((AH ts n).2.filter q)
 have h2:gn (((pK n ts).filter q).map (·.aq))=true:=by
  refine Ep ?_;rw[List.Nodup,List.pairwise_map]
  exact h.imp λh e=>by omega
 unfold iW;exact(congrArg gn (AG ((pK n ts).filter q))).trans h2
theorem I3 (C:List R) (y:bX) (l:List bX):vA .task .cF C (y::l)=(ug C (zx y)).bind λc=>(S.task.eo c).bind λx=>(vA .task .cF C l).bind λxs=>some (x::xs):=rfl
theorem AJ (p:Task->Bool) (q:bX->Bool) (hq:∀n t,q (ON n t)=p t) (C:List R):∀(ts:List Task) (n:Nat),(∀(i:Nat) (h:i<ts.length),C[n+5*i]? =some (.ints ts[i].aq))->
  vA .task .cF C ((pK n ts).filter q)=some (ts.filter p)
 |[],n,_=>rfl
 |t::l,n,hC=>by
  have ih:=AJ p q hq C l (n+5) λi hi=>by
   have:=hC (i+1) (by simpa using hi);rw[show n+5+5*i=n+5*(i+1)from by omega,this];rfl
  have h0:C[n]? =some (.ints t.aq):=by
   have:=hC 0 (by simp);simpa using this
  have e1:(pK n (t::l)).filter q=cond (p t) (ON n t::(pK (n+5) l).filter q) ((pK (n+5) l).filter q):=by
   simp only[pK,RK,hq];cases p t<;>rfl
  have e2:(t::l).filter p=cond (p t) (t::l.filter p) (l.filter p):=by
   rw[RK];cases p t<;>rfl
  refine(congrArg (vA .task .cF C) e1).trans (Eq.trans ?_ (congrArg some e2.symm));clear e1 e2;cases p t
  ·exact ih
  ·have hc:ug C (zx (ON n t))=some (LC t):=by
    have hu:pe C (.tok (n+1))=some (.ints t.aq):=by
     show(match C[n]? with|some (.sl t xs)=>some (R.sl t xs)|_=>none)=_;rw[h0]
    show((pe C (.i t.id)).bind λx=>((pe C (.tok (n+1))).bind λx=>((pe C (.i t.at_)).bind λx=>((pe C (.i t.due)).bind λx=>((pe C (.i t.born)).bind λx=>(some []).bind λxs=>some (x::xs)).bind λxs=>some (x::xs)).bind λxs=>some (x::xs)).bind λxs=>some (x::xs)).bind λxs=>some (x::xs))=_;rw[hu];rfl
   refine(I3 C (ON n t) _).trans ?_;rw[hc];exact congrArg (λr:Option (List Task)=>r.bind λxs=>some (t::xs)) ih
theorem Ct (ts:List Task) (i:Nat) (h:i<ts.length):(c9 .task ts)[1+5*i]? =some (.ints ts[i].aq):=by
 have:=nI (s:=.task) (xs:=ts) (i:=i) (j:=1) (r:=.ints ts[i].aq) ⟨ts[i],ai h,rfl⟩;rw[show S.task.sz=5 from rfl]at this;rw[show 1+5*i=i*5+1 from by omega];exact this
theorem qD (ts:List Task):j9 ts=some (pK 1 ts):=yG ts 1
theorem oo (ts:List Task) (p:Task->Bool) (q:bX->Bool) (hq:∀n t,q (ON n t)=p t):oz ts ((pK 1 ts).filter q)=some (ts.filter p):=
 AJ p q hq _ ts 1 λi hi=>Ct ts i hi
theorem jd {α R:Type} (xs:List α) (p:α->Bool) {g:Int× Int× List α->(Int× Int× List α->Option R)->Option R} {fin:Int× List α->Option R}
    (h:∀(i j:Nat) (ys:List α) (hj:j<xs.length) (next:Int× Int× List α->Option R),i<=j->ys.length=xs.length->ys[j]? =some xs[j]->
      g ((i:Int),(j:Int),ys) next=cond (p xs[j]) (next ((i:Int),((j+1:Nat):Int),ys)) (next (((i+1:Nat):Int),((j+1:Nat):Int),ys.set i xs[j])))
    (hn:∀(i:Nat) (ys:List α) next,ys.length=xs.length->g ((i:Int),(xs.length:Int),ys) next=fin ((i:Int),ys)):
    ∀ (d i j : Nat) (ys : List α) (k : Nat), j + d = xs.length -> d < k -> i <= j -> ys.length = xs.length -> ys.drop j = xs.drop j -> ys.take i = (xs.take j).filter (λ x => !p x) ->
      ∃(i':Nat) (ys':List α),i'<=xs.length/\ys'.length=xs.length/\ys'.take i'=xs.filter (λx=>!p x)/\iter g k ((i:Int),(j:Int),ys)=fin ((i':Int),ys')
  |d,i,j,ys,0,_,h2,_,_,_,_=>by omega
  | 0, i, j, ys, k + 1, h1, _, h3, h4, _, h6 => by
    have hj:j=xs.length:=by omega
    subst hj;refine⟨i,ys,h3,h4,by rw[h6,Ra],?_⟩
    rw[aS];exact hn i ys _ h4
  | d + 1, i, j, ys, k + 1, h1, h2, h3, h4, h5, h6 => by
    have hj:j<xs.length:=by omega
    have hg:ys[j]? =some xs[j]:=by
      have:(ys.drop j)[0]? =(xs.drop j)[0]? :=by rw[h5]
      rw[Qx,Qx,QQ]at this;rw[this];exact ai hj
    rw[aS,h i j ys hj _ h3 h4 hg]
    have hdrop:∀zs:List α,(∀m,j<m->zs[m]? =ys[m]?)->zs.drop (j+1)=xs.drop (j+1):=λzs hz=>by
      apply List.ext_getElem?;intro m;rw[Qx,Qx,hz _ (by omega)]
      have:(ys.drop j)[m+1]? =(xs.drop j)[m+1]? :=by rw[h5]
      rw[Qx,Qx]at this;rw[show j+1+m=j+(m+1)from by omega];exact this
    cases hp:p xs[j]
    · simp only[cond_false];refine jd xs p h hn d (i+1) (j+1) (ys.set i xs[j]) k (by omega) (by omega) (by omega) (by simp[h4]) (hdrop _ λm hm=>RN (by omega)) ?_;rw[dq hj,RW,<-h6]
      have hi:i<ys.length:=by omega
      rw[dq (show i<(ys.set i xs[j]).length by simp;omega),List.take_set_of_le (QE _)];simp[hp]
    · simp only[cond_true];refine jd xs p h hn d i (j+1) ys k (by omega) (by omega) (by omega) h4 (hdrop _ λm hm=>rfl) ?_;rw[dq hj,RW,<-h6];simp[hp]
theorem filter_none {α:Type} {p:α->Bool} {xs:List α} (h:xs.findIdx? p=none):xs.filter (λx=>!p x)=xs:=by
 rw[RI]at h
 exact Rr.2 λx hx=>by rw[h x hx];rfl
theorem mj {α:Type} {p:α->Bool} {xs:List α} {i:Nat} (h:xs.findIdx? p=some i):i<xs.length/\xs.take i=(xs.take (i+1)).filter (λx=>!p x):=by
 obtain⟨hi,hp,hlt⟩:=Rm.1 h;refine⟨hi,?_⟩;rw[dq hi,RW]
 have h1:(xs.take i).filter (λx=>!p x)=xs.take i:=Rr.2 λx hx=>by
  obtain⟨j,hj,rfl⟩:=QU.1 hx
  have hj':j<i:=by simp at hj;omega
  rw[List.getElem_take];have:=hlt j hj';simpa using this
 rw[h1];simp[hp]
theorem qE {α:Type} {ys:List α} {i n:Nat} (z:α) (hi:i<=n) (hy:ys.length=n):((ys.take i++List.replicate (n-i) z++ys.drop (i+(n-i))).take (i-0))=ys.take i/\(ys.take i++List.replicate (n-i) z++ys.drop (i+(n-i))).length=n:=by
 refine⟨?_,by simp;omega⟩;rw[Q1,QF,Rs (by simp;omega),List.take_take,Nat.min_self]
theorem yH {k:Nat} {zs:List bX} {id:Int} (hk:zs.length<k) (hN:zs.length<=aU):bZ k zs id=some ((zs.findIdx? λz=>z.id==id).elim (-1) λi=>(i:Int)):=by
 have hM:=ar;unfold bZ
 rw[eM zs (λt=>t.id==id) (yes:=some (-1)) (no:=some) (λi hi next=>by
  simp only[bK,dH,decide_true,cond_true,aa]
  rw[ab,if_pos (by omega),aE,ai hi,aa,au hi (by omega)]) (λnext=>by
  simp only[bK,decide_true,cond_true];rw[ab,if_neg (by omega)]) hk]
 exact cH _
theorem oB {k:Nat} {zs:List bX} {id:Int} (hk:zs.length<k) (hN:zs.length<=aU):bg k zs id=some (zs.filter λz=>!(z.id==id)):=by
  have hM:=ar;unfold bg;rw[yH hk hN,aa]
  cases hf:zs.findIdx? λz=>z.id==id with
  | none =>
    rw[RU,filter_none hf]
    simp
  | some i =>
    obtain⟨hi,hfi⟩:=mj hf;rw[Qo,dP,if_neg (by omega),au hi (by omega)];simp only[decide_true,cond_true]
    obtain⟨i',ys',h1,h2,h3,h4⟩:=jd zs (λz=>z.id==id) (R:=List bX) (g:=λu5 n5=>aX k id u5 n5 (λy4=>cond (decide (0<=y4.1/\y4.1<=(y4.2.length:Int))) (cond (decide (0<=y4.1/\y4.1<=(((y4.2).take y4.1.toNat++List.replicate (y4.2.length-y4.1.toNat) (⟨(0:Int),(0:Nat),(0:Int),(0:Int),(0:Int)⟩:bX)++(y4.2).drop (y4.1.toNat+(y4.2.length-y4.1.toNat))).length:Int))) (some (((y4.2).take y4.1.toNat++List.replicate (y4.2.length-y4.1.toNat) (⟨(0:Int),(0:Nat),(0:Int),(0:Int),(0:Int)⟩:bX)++(y4.2).drop (y4.1.toNat+(y4.2.length-y4.1.toNat))).take (y4.1.toNat-0))) none) none))
      (fin:=λy4=>cond (decide (0<=y4.1/\y4.1<=(y4.2.length:Int))) (cond (decide (0<=y4.1/\y4.1<=(((y4.2).take y4.1.toNat++List.replicate (y4.2.length-y4.1.toNat) (⟨(0:Int),(0:Nat),(0:Int),(0:Int),(0:Int)⟩:bX)++(y4.2).drop (y4.1.toNat+(y4.2.length-y4.1.toNat))).length:Int))) (some (((y4.2).take y4.1.toNat++List.replicate (y4.2.length-y4.1.toNat) (⟨(0:Int),(0:Nat),(0:Int),(0:Int),(0:Int)⟩:bX)++(y4.2).drop (y4.1.toNat+(y4.2.length-y4.1.toNat))).take (y4.1.toNat-0))) none) none)
      (λi j ys hj next hij hl hg=>by
        simp only[aX,dH,decide_true,cond_true,aa,hl]
        rw[ab,if_pos (by omega),ab,if_pos (by omega),Ql,hg,aa,cond_not,ab,if_pos (by omega),au hj (by omega),au (show i<zs.length by omega) (by omega),Ql])
      (λi ys next hl=>by simp only[aX,hl];rw[ab,if_neg (by omega)])
      (zs.length-(i+1)) i (i+1) zs k (by omega) (by omega) (by omega) rfl rfl hfi
    refine h4.trans ?_;obtain⟨c1,c2⟩:=qE (⟨0,0,0,0,0⟩:bX) h1 h2;simp only[Ql,h2];rw[c2,c1,ab,if_pos (by omega),ab,if_pos (by omega),h3]
theorem vr {k:Nat} {zs:List bX} {a b c d e f g id:Int} (hk:zs.length<k) (hN:zs.length<=aU):fj k a b c zs d e f g id=some (zs.filter λz=>!(z.id==id)):=by
 have hM:=ar;unfold fj;simp only[decide_true,cond_true]
 refine(om zs (λz=>!(z.id==id)) (λz=>z) (g:=λu4 n4=>ez k (id,a,b,c,d,e,f,g,zs) u4 n4 (λy3=>some y3)) (fin:=some) (λi ys hi next hl=>by
  simp only[ez];rw[ab,if_pos (by omega),ab,if_pos (by omega),Ql,ai hi,aa,ab,if_pos (by omega),aa,cX (by simp;omega),au hi (by omega)]
  rfl) (λys next=>by
  simp only[ez];rw[ab,if_neg (by omega)]) hk).trans ?_
 simp
def Jh (ts:List Task) (id:Int):List Task:=ts.filter λt=>!(t.id==id)
def pL (s:aj) (id:Int):aj× Bool:=
 cond (bC s&&decide (0<=jX s.tasks id)) (⟨s.now,s.ag,s.age,Jh s.tasks id,cond (s.run==id) 0 s.run,cond (s.run==id) 0 s.left,s.turns,s.next⟩,true) (s,false)
theorem I4 {k:Nat} {zs:List bX} {a b c d e f g id:Int} (hk:zs.length<k) (hN:zs.length<=aU):di k a b c zs d e f g id=some (zs.filter λz=>!(z.id==id),cond (d==id) 0 d,cond (d==id) 0 e):=by
 unfold di;rw[oB hk hN,aa];simp only[decide_true,cond_true];cases d==id<;>rfl
theorem pM {k:Nat} {s:aj} {id:Int} (hk:s.tot<k) (hN:s.tot<=aU):jN k s id=some (pL s id):=by
 have hlen:=bm Task.tot s.tasks;have hst:s.tot=eu Task.tot s.tasks+0:=rfl;unfold jN pL;rw[pJ hk hN,aa,dy hk hN,aa];cases bC s
 ·rfl
 simp only[Qq,cond_false,Qr];rw[kS (by omega) (by omega),aa];by_cases c:jX s.tasks id<0
 ·rw[decide_eq_true c,decide_eq_false (by omega)];rfl
 rw[decide_eq_false c,decide_eq_true (by omega)];simp only[cond_false,cond_true];rw[qD,aa,vr (by rw[en];omega) (by rw[en];omega),aa,mi,cond_true,oo s.tasks (λt=>!(t.id==id)) (λz=>!(z.id==id)) (λn t=>rfl),aa];unfold Jh;cases s.run==id<;>rfl
end
section
def Er (key:Task->Int):List Task->Option Task
 |[]=>none
 |x::xs=>some (xs.foldl (λm t=>cond (decide (key t<key m)) t m) x)
theorem qW (k:Nat) (a b:Int):dI k a b=some (cond (decide (a<b)) (-1) (cond (decide (a>b)) 1 0)):=by
 unfold dI ky;simp only[aa,bne_self_eq_false,cond_false];cases decide (a<b)<;>cases decide (a>b)<;>rfl
theorem Es {k:Nat} {a b:Int} (hk:3<k):nd k [a,b]=some (cond (a !=0) a b):=by
 obtain⟨k,rfl⟩:∃k',k=k'+3:=⟨k-3,by omega⟩;unfold nd;show cond (a !=0) (some a) (iter (λu4 n4=>kz (k+3) ((0:Int),[a,b],(([a,b]:List Int).length:Int)) u4 n4 (λy2=>some (0:Int)) (λy3=>some y3)) (k+2) (IntKind.i64.wrap (0+1)))=_;cases h:a !=0
 ·rw[aK (n:=0+1) (by omega) (by omega)];show cond (b !=0) (some b) (iter (λu4 n4=>kz (k+3) ((0:Int),[a,b],(([a,b]:List Int).length:Int)) u4 n4 (λy2=>some (0:Int)) (λy3=>some y3)) (k+1) (IntKind.i64.wrap (1+1)))=_;cases hb:b !=0
  ·have:b=0:=by simpa using hb
   subst this;rw[aK (n:=1+1) (by omega) (by omega)];rfl
  ·rfl
 ·rfl
theorem Hy {a b i j:Int} (h:j<i):decide (cond (cond (decide (a<b)) (-1) (cond (decide (a>b)) 1 0) !=(0:Int)) (cond (decide (a<b)) (-1) (cond (decide (a>b)) 1 0)) (cond (decide (i<j)) (-1) (cond (decide (i>j)) 1 0))<(0:Int))=decide (a<b):=by
 by_cases h1:a<b
 ·simp[h1]
 ·by_cases h2:a>b
  ·simp[h1,h2]
  ·simp[h1,h2,show¬i<j by omega,h]
theorem wc (key:Task->Int):∀(xs:List Task) (x:Task),xs.foldl (λm t=>cond (decide (key t<key m)) t m) x∈x::xs
 |[],x=>by simp
 |y::xs,x=>by
  rw[R2];have:=wc key xs (cond (decide (key y<key x)) y x);cases h:decide (key y<key x)
  ·rw[h]at this;simp only[cond_false]at this⊢
   rcases QG.1 this with h|h
   ·rw[h];simp
   ·simp[h]
  ·rw[h]at this;simp only[cond_true]at this⊢
   rcases QG.1 this with h|h
   ·rw[h];simp
   ·simp[h]
theorem Lc {x:Task} {xs:List Task} (hp:(x::xs).Pairwise λa b=>a.id<b.id) {i:Nat} (hi:i<xs.length) {m:Task} (hm:m∈x::xs.take i):m.id<xs[i].id:=by
 rw[Sr]at hp
 rcases QG.1 hm with rfl|hm
 ·exact hp.1 _ (Qs hi)
 ·obtain⟨j,hj,rfl⟩:=QU.1 hm
  have hj':j<i:=by simp at hj;omega
  rw[List.getElem_take];exact(List.pairwise_iff_getElem.1 hp.2) j i (by omega) hi hj'
theorem Et {k:Nat} {x:Task} {xs:List Task} (hk:xs.length+2<k) (hN:xs.length<aU) (hp:(x::xs).Pairwise λa b=>a.id<b.id):cl k (x::xs)=some (xs.foldl (λm t=>cond (decide (Task.born t<Task.born m)) t m) x):=by
 have hM:=ar;unfold cl;rw[ab,if_neg (by simp;omega),vS,ai (by simp),aa]
 have:=fg (g:=λu6 n6=>bu k (x::xs,(0:Int),(0:Int),(0:Int),(0:Int)) u6 n6 (λy5=>some (⟨y5.1,y5.2.1,y5.2.2.1,y5.2.2.2.1,y5.2.2.2.2⟩:Task)))
  (st:=λi=>let m:=(xs.take i).foldl (λm t=>cond (decide (Task.born t<Task.born m)) t m) x;(((i+1:Nat):Int),m.id,m.aq,m.at_,m.due,m.born)) (n:=xs.length) (r:=some (xs.foldl (λm t=>cond (decide (Task.born t<Task.born m)) t m) x)) (λi hi next=>by
  have hmem:=wc Task.born (xs.take i) x;have hlt:=Lc hp hi hmem;rw[dq hi,Ro];generalize (xs.take i).foldl (λm t=>cond (decide (Task.born t<Task.born m)) t m) x=m at hlt;simp only[bu,iz,iy,aa,qW,Es (show 3<k by omega)];rw[ab,if_pos (by simp;omega),aE,RP,ai hi,aa,aa,aK (by omega) (by omega),Hy hlt];simp only[R2,List.foldl_nil]
  cases decide (Task.born xs[i]<Task.born m)<;>rfl) (λnext=>by
  rw[Ra];simp only[bu]
  rw[ab,if_neg (by simp)]) (k:=k) (by omega)
 exact this
theorem Cu {k:Nat} {x:Task} {xs:List Task} (hk:xs.length+2<k) (hN:xs.length<aU) (hp:(x::xs).Pairwise λa b=>a.id<b.id):cf k (x::xs)=some (xs.foldl (λm t=>cond (decide (Task.due t<Task.due m)) t m) x):=by
 have hM:=ar;unfold cf;rw[ab,if_neg (by simp;omega),vS,ai (by simp),aa]
 have:=fg (g:=λu6 n6=>bh k (x::xs,(0:Int),(0:Int),(0:Int),(0:Int)) u6 n6 (λy5=>some (⟨y5.1,y5.2.1,y5.2.2.1,y5.2.2.2.1,y5.2.2.2.2⟩:Task)))
  (st:=λi=>let m:=(xs.take i).foldl (λm t=>cond (decide (Task.due t<Task.due m)) t m) x;(((i+1:Nat):Int),m.id,m.aq,m.at_,m.due,m.born)) (n:=xs.length) (r:=some (xs.foldl (λm t=>cond (decide (Task.due t<Task.due m)) t m) x)) (λi hi next=>by
  have hmem:=wc Task.due (xs.take i) x;have hlt:=Lc hp hi hmem;rw[dq hi,Ro];generalize (xs.take i).foldl (λm t=>cond (decide (Task.due t<Task.due m)) t m) x=m at hlt;simp only[bh,gK,iB,aa,qW,Es (show 3<k by omega)];rw[ab,if_pos (by simp;omega),aE,RP,ai hi,aa,aa,aK (by omega) (by omega),Hy hlt];simp only[R2,List.foldl_nil]
  cases decide (Task.due xs[i]<Task.due m)<;>rfl) (λnext=>by
  rw[Ra];simp only[bh]
  rw[ab,if_neg (by simp)]) (k:=k) (by omega)
 exact this
theorem yI {k:Nat} {xs:List Task} {s:aj} (hk:xs.length<k) (hN:xs.length<=aU):b6 k xs s=some ((xs.findIdx? λt=>!dS s t).elim (-1) λi=>(i:Int)):=by
 have hM:=ar;unfold b6;simp only[decide_true,cond_true]
 rw[eM xs (λt=>!dS s t) (yes:=some (-1)) (no:=some) (λi hi next=>by
  simp only[bL,ix,cO,decide_true,cond_true,aa];rw[ab,if_pos (by omega),ab,if_pos (by omega),Ql,ai hi,aa,au hi (by omega)]
  rfl) (λnext=>by
  simp only[bL,decide_true,cond_true];rw[ab,if_neg (by omega)]) hk]
 exact cH _
theorem vH {k:Nat} {xs:List Task} {s:aj} (hk:xs.length<k) (hN:xs.length<=aU):bU k xs s=some (xs.filter λt=>!(!dS s t)):=by
  have hM:=ar;unfold bU;rw[yI hk hN,aa]
  cases hf:xs.findIdx? λt=>!dS s t with
  | none =>
    rw[RU,filter_none hf]
    simp
  | some i =>
    obtain⟨hi,hfi⟩:=mj hf;rw[Qo,dP,if_neg (by omega),au hi (by omega)];simp only[decide_true,cond_true]
    obtain⟨i',ys',h1,h2,h3,h4⟩:=jd xs (λt=>!dS s t) (R:=List Task) (g:=λu5 n5=>aY k (s.now,s.ag,s.age,s.tasks,s.run,s.left,s.turns,s.next) u5 n5 (λy4=>cond (decide (0<=y4.1/\y4.1<=(y4.2.length:Int))) (cond (decide (0<=y4.1/\y4.1<=(((y4.2).take y4.1.toNat++List.replicate (y4.2.length-y4.1.toNat) (⟨(0:Int),([]:List Int),(0:Int),(0:Int),(0:Int)⟩:Task)++(y4.2).drop (y4.1.toNat+(y4.2.length-y4.1.toNat))).length:Int))) (some (((y4.2).take y4.1.toNat++List.replicate (y4.2.length-y4.1.toNat) (⟨(0:Int),([]:List Int),(0:Int),(0:Int),(0:Int)⟩:Task)++(y4.2).drop (y4.1.toNat+(y4.2.length-y4.1.toNat))).take (y4.1.toNat-0))) none) none))
      (fin:=λy4=>cond (decide (0<=y4.1/\y4.1<=(y4.2.length:Int))) (cond (decide (0<=y4.1/\y4.1<=(((y4.2).take y4.1.toNat++List.replicate (y4.2.length-y4.1.toNat) (⟨(0:Int),([]:List Int),(0:Int),(0:Int),(0:Int)⟩:Task)++(y4.2).drop (y4.1.toNat+(y4.2.length-y4.1.toNat))).length:Int))) (some (((y4.2).take y4.1.toNat++List.replicate (y4.2.length-y4.1.toNat) (⟨(0:Int),([]:List Int),(0:Int),(0:Int),(0:Int)⟩:Task)++(y4.2).drop (y4.1.toNat+(y4.2.length-y4.1.toNat))).take (y4.1.toNat-0))) none) none)
      (λi j ys hj next hij hl hg=>by
        simp only[aY,gI,cO,decide_true,cond_true,aa,hl];rw[ab,if_pos (by omega),ab,if_pos (by omega),Ql,hg,aa,cond_not,ab,if_pos (by omega),au hj (by omega),au (show i<xs.length by omega) (by omega),Ql]
        rfl)
      (λi ys next hl=>by simp only[aY,hl];rw[ab,if_neg (by omega)])
      (xs.length-(i+1)) i (i+1) xs k (by omega) (by omega) (by omega) rfl rfl hfi
    refine h4.trans ?_;obtain⟨c1,c2⟩:=qE ((⟨(0:Int),([]:List Int),(0:Int),(0:Int),(0:Int)⟩:Task)) h1 h2;simp only[Ql,h2];rw[c2,c1,ab,if_pos (by omega),ab,if_pos (by omega),h3]
theorem yJ {k:Nat} {xs:List Task} {s:aj} (hk:xs.length<k) (hN:xs.length<=aU):b7 k xs s=some ((xs.findIdx? λt=>!(!dS s t)).elim (-1) λi=>(i:Int)):=by
 have hM:=ar;unfold b7;simp only[decide_true,cond_true]
 rw[eM xs (λt=>!(!dS s t)) (yes:=some (-1)) (no:=some) (λi hi next=>by
  simp only[bM,gJ,dJ,eW,cO,decide_true,cond_true,aa];rw[ab,if_pos (by omega),ab,if_pos (by omega),Ql,ai hi,aa,au hi (by omega)]
  rfl) (λnext=>by
  simp only[bM,decide_true,cond_true];rw[ab,if_neg (by omega)]) hk]
 exact cH _
theorem vI {k:Nat} {xs:List Task} {s:aj} (hk:xs.length<k) (hN:xs.length<=aU):bV k xs s=some (xs.filter λt=>!(!(!dS s t))):=by
  have hM:=ar;unfold bV;rw[yJ hk hN,aa]
  cases hf:xs.findIdx? λt=>!(!dS s t)with
  | none =>
    rw[RU,filter_none hf]
    simp
  | some i =>
    obtain⟨hi,hfi⟩:=mj hf;rw[Qo,dP,if_neg (by omega),au hi (by omega)];simp only[decide_true,cond_true]
    obtain⟨i',ys',h1,h2,h3,h4⟩:=jd xs (λt=>!(!dS s t)) (R:=List Task) (g:=λu5 n5=>aZ k (s.now,s.ag,s.age,s.tasks,s.run,s.left,s.turns,s.next) u5 n5 (λy4=>cond (decide (0<=y4.1/\y4.1<=(y4.2.length:Int))) (cond (decide (0<=y4.1/\y4.1<=(((y4.2).take y4.1.toNat++List.replicate (y4.2.length-y4.1.toNat) (⟨(0:Int),([]:List Int),(0:Int),(0:Int),(0:Int)⟩:Task)++(y4.2).drop (y4.1.toNat+(y4.2.length-y4.1.toNat))).length:Int))) (some (((y4.2).take y4.1.toNat++List.replicate (y4.2.length-y4.1.toNat) (⟨(0:Int),([]:List Int),(0:Int),(0:Int),(0:Int)⟩:Task)++(y4.2).drop (y4.1.toNat+(y4.2.length-y4.1.toNat))).take (y4.1.toNat-0))) none) none))
      (fin:=λy4=>cond (decide (0<=y4.1/\y4.1<=(y4.2.length:Int))) (cond (decide (0<=y4.1/\y4.1<=(((y4.2).take y4.1.toNat++List.replicate (y4.2.length-y4.1.toNat) (⟨(0:Int),([]:List Int),(0:Int),(0:Int),(0:Int)⟩:Task)++(y4.2).drop (y4.1.toNat+(y4.2.length-y4.1.toNat))).length:Int))) (some (((y4.2).take y4.1.toNat++List.replicate (y4.2.length-y4.1.toNat) (⟨(0:Int),([]:List Int),(0:Int),(0:Int),(0:Int)⟩:Task)++(y4.2).drop (y4.1.toNat+(y4.2.length-y4.1.toNat))).take (y4.1.toNat-0))) none) none)
      (λi j ys hj next hij hl hg=>by
        simp only[aZ,dJ,dJ,eW,cO,decide_true,cond_true,aa,hl];rw[ab,if_pos (by omega),ab,if_pos (by omega),Ql,hg,aa,cond_not,ab,if_pos (by omega),au hj (by omega),au (show i<xs.length by omega) (by omega),Ql]
        rfl)
      (λi ys next hl=>by simp only[aZ,hl];rw[ab,if_neg (by omega)])
      (xs.length-(i+1)) i (i+1) xs k (by omega) (by omega) (by omega) rfl rfl hfi
    refine h4.trans ?_;obtain⟨c1,c2⟩:=qE ((⟨(0:Int),([]:List Int),(0:Int),(0:Int),(0:Int)⟩:Task)) h1 h2;simp only[Ql,h2];rw[c2,c1,ab,if_pos (by omega),ab,if_pos (by omega),h3]
theorem qX {k:Nat} {xs:List Task} (hx:xs.length<=aU):cj k xs=some xs:=by
 unfold cj;rw[cX (by simpa using hx)]
 cases xs with
 |nil=>simp only[isNil,cond_true,QV];exact xB _
 |cons x l=>rfl
theorem Cv {s:aj} (h:gd s=true):s.tasks.Pairwise λa b=>a.id<b.id:=by
 rw[List.pairwise_iff_getElem];intro i j hi hj hij;obtain⟨d,rfl⟩:∃d,j=i+d+1:=⟨j-i-1,by omega⟩;exact Hv h d i hj
def zq (s:aj):Option Task:=Er Task.born (s.tasks.filter (dS s))
def nm (s:aj):Option Task:=Er Task.due (s.tasks.filter λt=>!dS s t)
theorem I5 {k:Nat} {s:aj} (hk:s.tot+2<k) (hN:s.tot<aU) (h:gd s=true):iA k s s=some ((zq s).elim 0 Task.id):=by
 have hM:=ar;have hlen:=bm Task.tot s.tasks;have hst:s.tot=eu Task.tot s.tasks+0:=rfl;have hf:=RZ (dS s) s.tasks;unfold iA zq;rw[qX (by omega),aa,vH (by omega) (by omega),aa];simp only[SA]
 cases hq:s.tasks.filter (dS s)with
 |nil=>rfl
 |cons x xs=>
  rw[hq]at hf;have hp:=(Cv h).filter (dS s);rw[hq]at hp;rw[dP,if_neg (by simp;omega),Et (by simp at hf;omega) (by simp at hf;omega) hp,aa];rfl
theorem Gk {k:Nat} {s:aj} (hk:s.tot+2<k) (hN:s.tot<aU) (h:gd s=true):fu k s s=some ((nm s).elim 0 Task.id):=by
 have hM:=ar;have hlen:=bm Task.tot s.tasks;have hst:s.tot=eu Task.tot s.tasks+0:=rfl;have hf:=RZ (λt=>!dS s t) s.tasks;unfold fu nm;rw[qX (by omega),aa,vI (by omega) (by omega),aa];simp only[SA,decide_true,cond_true]
 cases hq:s.tasks.filter λt=>!dS s t with
 |nil=>rfl
 |cons x xs=>
  rw[hq]at hf;have hp:=(Cv h).filter λt=>!dS s t;rw[hq]at hp;rw[dP,if_neg (by simp;omega),Cu (by simp at hf;omega) (by simp at hf;omega) hp,aa];rfl
def jZ (s:aj):Int:=
 cond ((zq s).isSome&&(!(nm s).isSome||(decide (s.age>0)&&(s.turns.tmod s.age==0)))) ((zq s).elim 0 Task.id) ((nm s).elim 0 Task.id)
theorem np {key:Task->Int} {xs:List Task} {t:Task} (h:Er key xs=some t):t∈xs:=by
 cases xs with
 |nil=>exact nomatch h
 |cons x xs=>
  simp only[Er,It]at h;rw[<-h];exact wc key xs x
theorem Ld {s:aj} (h:gd s=true) {t:Task} (ht:zq s=some t):1<=t.id:=by
 have:=(Rk.1 (np ht)).1;obtain⟨i,hi,rfl⟩:=QU.1 this;exact(b8 (ca h hi).1).1.1
theorem we {s:aj} (h:gd s=true) {t:Task} (ht:nm s=some t):1<=t.id:=by
 have:=(Rk.1 (np ht)).1;obtain⟨i,hi,rfl⟩:=QU.1 this;exact(b8 (ca h hi).1).1.1
theorem Lf {k:Nat} {s:aj} (hk:s.tot+2<k) (hN:s.tot<aU) (h:gd s=true):jO k s=some (jZ s):=by
 unfold jO jZ;rw[I5 hk hN h,aa,Gk hk hN h,aa]
 have hage:∀X:Option Int,(cond (decide (s.age>0)) (cond (decide (s.age=0)) none X) X)=X:=λX=>by
  by_cases c:s.age>0
  ·rw[decide_eq_true c,decide_eq_false (by omega)];rfl
  ·rw[decide_eq_false c];rfl
 cases hl:zq s with
 |none=>
  cases he:nm s with
  |none=>
   simp only[RU,Re,Q9,cond_false,bne_self_eq_false,beq_self_eq_true,cond_true];by_cases c:s.age>0
   ·rw[decide_eq_true c,decide_eq_false (by omega)];cases s.turns.tmod s.age==0<;>rfl
   ·rw[decide_eq_false c];rfl
  |some e=>
   have h2:=we h he;simp only[RU,Qo,Re,Q9,cond_false,bne_self_eq_false,show(e.id==0)=false by simp;omega];by_cases c:s.age>0
   ·rw[decide_eq_true c,decide_eq_false (by omega)];cases s.turns.tmod s.age==0<;>rfl
   ·rw[decide_eq_false c];rfl
 |some l=>
  have h1:=Ld h hl
  cases he:nm s with
  |none=>
   simp only[RU,Qo,Re,RX,QI,Bool.true_or,Qr,cond_true,beq_self_eq_true,show(l.id !=0)=true by simp;omega];by_cases c:s.age>0
   ·rw[decide_eq_true c,decide_eq_false (by omega)];cases s.turns.tmod s.age==0<;>rfl
   ·rw[decide_eq_false c];rfl
  |some e=>
   have h2:=we h he;simp only[Qo,RX,Qq,SK,Qr,show(l.id !=0)=true by simp;omega,show(e.id==0)=false by simp;omega,cond_true,cond_false];by_cases c:s.age>0
   ·rw[decide_eq_true c,decide_eq_false (by omega)];cases s.turns.tmod s.age==0<;>rfl
   ·rw[decide_eq_false c];rfl
def better (key:Task->Int) (m:Option Task) (t:Task):Option Task:=m.elim (some t) λu=>cond (decide (key t<key u)) (some t) (some u)
theorem yK (key:Task->Int):∀(xs:List Task) (m:Task),xs.foldl (better key) (some m)=some (xs.foldl (λm t=>cond (decide (key t<key m)) t m) m)
 |[],m=>rfl
 |x::xs,m=>by
  rw[R2,R2,<-yK key xs]
  congr 1
  show cond (decide (key x<key m)) (some x) (some m)=_;cases decide (key x<key m)<;>rfl
theorem I6 (key:Task->Int) (xs:List Task):xs.foldl (better key) none=Er key xs:=by
 cases xs with
 |nil=>rfl
 |cons x xs=>exact yK key xs x
def AtT (ts:List Task) (l:Int) (m:Option Task):Prop:=(m=none/\l=-1)\/∃(j:Nat) (hj:j<ts.length),l=(j:Int)/\m=some ts[j]
theorem Eu {R:Type} {k:Nat} {s:aj} {fin:Int× Int->Option R} (hN:s.tasks.length<=aU):∀(d i:Nat) (l e:Int) (ml me:Option Task) (kf:Nat),i+d=s.tasks.length->d<kf->AtT s.tasks l ml->AtT s.tasks e me->
  ∃l' e',AtT s.tasks l' (((s.tasks.drop i).filter (dS s)).foldl (better Task.born) ml)/\AtT s.tasks e' (((s.tasks.drop i).filter λt=>!dS s t).foldl (better Task.due) me)/\
   iter (λu11 n11=>dZ k (s.now,s.ag,s.age,s.tasks,s.run,s.left,s.turns,s.next) u11 n11 fin) kf (l,e,(i:Int))=fin (l',e')
 |d,i,l,e,ml,me,0,_,h,_,_=>by omega
 |0,i,l,e,ml,me,kf+1,hi,_,hl,he=>by
  have:i=s.tasks.length:=by omega
  subst this;refine⟨l,e,by simpa using hl,by simpa using he,?_⟩;rw[aS];simp only[dZ]
  rw[ab,if_neg (by omega)]
 |d+1,i,l,e,ml,me,kf+1,hi,h,hl,he=>by
  have hM:=ar
  have hlt:i<s.tasks.length:=by omega
  have hself:AtT s.tasks (i:Int) (some s.tasks[i]):=.inr ⟨i,hlt,rfl,rfl⟩
  have hstep:∀(l2 e2:Int) (ml2 me2:Option Task),AtT s.tasks l2 ml2->AtT s.tasks e2 me2->ml2=cond (dS s s.tasks[i]) (better Task.born ml s.tasks[i]) ml->me2=cond (dS s s.tasks[i]) me (better Task.due me s.tasks[i])->
    (∀next:Int× Int× Int->Option R,dZ k (s.now,s.ag,s.age,s.tasks,s.run,s.left,s.turns,s.next) (l,e,(i:Int)) next fin=next (l2,e2,((i+1:Nat):Int)))->
    ∃l' e',AtT s.tasks l' (((s.tasks.drop i).filter (dS s)).foldl (better Task.born) ml)/\AtT s.tasks e' (((s.tasks.drop i).filter λt=>!dS s t).foldl (better Task.due) me)/\
     iter (λu11 n11=>dZ k (s.now,s.ag,s.age,s.tasks,s.run,s.left,s.turns,s.next) u11 n11 fin) (kf+1) (l,e,(i:Int))=fin (l',e'):=λl2 e2 ml2 me2 h1 h2 e1 e2' hg=>by
   obtain⟨l',e',g1,g2,g3⟩:=Eu (k:=k) (fin:=fin) hN d (i+1) l2 e2 ml2 me2 kf (by omega) (by omega) h1 h2;refine⟨l',e',?_,?_,?_⟩
   ·rw[gv hlt,RK];rw[e1]at g1;cases hb:dS s s.tasks[i]
    ·rw[hb]at g1;exact g1
    ·rw[hb]at g1;exact g1
   ·rw[gv hlt,RK];rw[e2']at g2;cases hb:dS s s.tasks[i]
    ·rw[hb]at g2;exact g2
    ·rw[hb]at g2;exact g2
   ·rw[aS,hg];exact g3
  have e0:∀next:Int× Int× Int->Option R,dZ k (s.now,s.ag,s.age,s.tasks,s.run,s.left,s.turns,s.next) (l,e,(i:Int)) next fin=
    cond (dS s s.tasks[i]) (cond (decide (l<(0:Int))) (next ((i:Int),e,((i+1:Nat):Int))) ((idx s.tasks l).bind λe3=>cond (decide (s.tasks[i].born<e3.born)) (next ((i:Int),e,((i+1:Nat):Int))) (next (l,e,((i+1:Nat):Int)))))
     (cond (decide (e<(0:Int))) (next (l,(i:Int),((i+1:Nat):Int))) ((idx s.tasks e).bind λe4=>cond (decide (s.tasks[i].due<e4.due)) (next (l,(i:Int),((i+1:Nat):Int))) (next (l,e,((i+1:Nat):Int))))):=λnext=>by
   simp only[dZ];rw[ab,if_pos (by omega),aE,ai hlt,aa,au hlt (by omega)];rfl
  cases hb:dS s s.tasks[i]
  ·rcases he with⟨rfl,rfl⟩|⟨j,hj,rfl,rfl⟩
   ·exact hstep l (i:Int) ml (some s.tasks[i]) hl hself (by rw[hb];rfl) (by rw[hb];rfl) λnext=>by rw[e0,hb];rfl
   ·by_cases c:s.tasks[i].due<s.tasks[j].due
    ·exact hstep l (i:Int) ml (some s.tasks[i]) hl hself (by rw[hb];rfl) (by rw[hb];show _=cond (decide (s.tasks[i].due<s.tasks[j].due)) _ _;rw[decide_eq_true c];rfl) λnext=>by
      rw[e0,hb,cond_false,ab,if_neg (by omega),aE,ai hj,aa,decide_eq_true c];rfl
    ·exact hstep l (j:Int) ml (some s.tasks[j]) hl (.inr ⟨j,hj,rfl,rfl⟩) (by rw[hb];rfl) (by rw[hb];show _=cond (decide (s.tasks[i].due<s.tasks[j].due)) _ _;rw[decide_eq_false c];rfl) λnext=>by
      rw[e0,hb,cond_false,ab,if_neg (by omega),aE,ai hj,aa,decide_eq_false c];rfl
  ·rcases hl with⟨rfl,rfl⟩|⟨j,hj,rfl,rfl⟩
   ·exact hstep (i:Int) e (some s.tasks[i]) me hself he (by rw[hb];rfl) (by rw[hb];rfl) λnext=>by rw[e0,hb];rfl
   ·by_cases c:s.tasks[i].born<s.tasks[j].born
    ·exact hstep (i:Int) e (some s.tasks[i]) me hself he (by rw[hb];show _=cond (decide (s.tasks[i].born<s.tasks[j].born)) _ _;rw[decide_eq_true c];rfl) (by rw[hb];rfl) λnext=>by
      rw[e0,hb,cond_true,ab,if_neg (by omega),aE,ai hj,aa,decide_eq_true c];rfl
    ·exact hstep (j:Int) e (some s.tasks[j]) me (.inr ⟨j,hj,rfl,rfl⟩) he (by rw[hb];show _=cond (decide (s.tasks[i].born<s.tasks[j].born)) _ _;rw[decide_eq_false c];rfl) (by rw[hb];rfl) λnext=>by
      rw[e0,hb,cond_true,ab,if_neg (by omega),aE,ai hj,aa,decide_eq_false c];rfl
theorem Cw {k:Nat} {s:aj} (hk:s.tot<k) (hN:s.tot<=aU) (h:bC s=true):qn k s=some (jZ s):=by
 have hM:=ar;have hs:=bF h;have hlen:=bm Task.tot s.tasks;have hst:s.tot=eu Task.tot s.tasks+0:=rfl;unfold qn;rw[dy hk hN,aa,h];simp only[Qq,cond_false];obtain⟨l,e,hl,he,hi⟩:=Eu (R:=Int) (k:=k) (s:=s) (fin:=λy5=>cond (decide (y5.1>=(0:Int))) (cond (decide (y5.2<(0:Int))) ((idx s.tasks y5.1).bind λe6=>some e6.id) (cond (decide (s.age>(0:Int))) (cond (decide (s.age=0)) none (cond ((s.turns.tmod s.age)==(0:Int)) ((idx s.tasks y5.1).bind λe7=>some e7.id) (cond (decide (y5.2>=(0:Int))) ((idx s.tasks y5.2).bind λe8=>some e8.id) (some (0:Int))))) (cond (decide (y5.2>=(0:Int))) ((idx s.tasks y5.2).bind λe9=>some e9.id) (some (0:Int))))) (cond (decide (y5.2>=(0:Int))) ((idx s.tasks y5.2).bind λe10=>some e10.id) (some (0:Int)))) (by omega) s.tasks.length 0 (-1) (-1) none none k (by omega) (by omega) (.inl ⟨rfl,rfl⟩) (.inl ⟨rfl,rfl⟩);refine hi.trans ?_;rw[Sv,I6]at hl he;unfold jZ;have el:zq s=Er Task.born (s.tasks.filter (dS s)):=rfl;have ee:nm s=Er Task.due (s.tasks.filter λt=>!dS s t):=rfl;rw[<-el]at hl;rw[<-ee]at he
 rcases hl with⟨hl,rfl⟩|⟨j,hj,rfl,hl⟩
 ·rcases he with⟨he,rfl⟩|⟨j2,hj2,rfl,he⟩
  ·rw[hl,he];rfl
  ·rw[hl,he];simp only[Re,Q9,cond_false,Qo];rw[decide_eq_false (show¬((-1:Int)>=0) by omega),decide_eq_true (show((j2:Int)>=0) by omega),aE,ai hj2];rfl
 ·rcases he with⟨he,rfl⟩|⟨j2,hj2,rfl,he⟩
  ·rw[hl,he];rw[decide_eq_true (show((j:Int)>=0) by omega),aE,ai hj];rfl
  ·rw[hl,he];simp only[RX,Qq,SK,Qr,Qo];rw[decide_eq_true (show((j:Int)>=0) by omega),decide_eq_false (show¬((j2:Int)<0) by omega),decide_eq_true (show((j2:Int)>=0) by omega),aE,ai hj,aE,ai hj2];by_cases c:s.age>0
   ·rw[decide_eq_true c,decide_eq_false (show¬s.age=0 by omega)];cases s.turns.tmod s.age==0<;>rfl
   ·rw[decide_eq_false c];rfl
def tB (s:aj) (run left turns:Int):aj× Int× Bool:=
  cond (decide (left-1>0)) (⟨s.now+1,s.ag,s.age,s.tasks,run,left-1,turns,s.next⟩,0,false)
    ((s.tasks.findIdx? λt=>t.id==run).elim (s,0,false) λi=>(s.tasks[i]?).elim (s,0,false) λt=>
      cond (decide (t.at_+1<t.aq.length)) (⟨s.now+1,s.ag,s.age,s.tasks.set i ⟨t.id,t.aq,t.at_+1,t.due,t.born⟩,0,left-1,turns,s.next⟩,run,false)
        (⟨s.now+1,s.ag,s.age,Jh (s.tasks.set i ⟨t.id,t.aq,t.at_+1,t.due,t.born⟩) run,0,left-1,turns,s.next⟩,run,true))
theorem yL {k:Nat} {s:aj} {run left turns:Int} (hk:s.tot<k) (hN:s.tot<=aU) (h:bC s=true) (hl:1<=left/\left<=1000) {i:Nat} (hf:(s.tasks.findIdx? λt=>t.id==run)=some i):
  (cond (decide ((IntKind.i64.wrap (left-(1:Int)))>(0:Int))) (some ((⟨(IntKind.i64.wrap (s.now+(1:Int))),s.ag,s.age,s.tasks,run,(IntKind.i64.wrap (left-(1:Int))),turns,s.next⟩:aj),(0:Int),false)) ((ka k (⟨(IntKind.i64.wrap (s.now+(1:Int))),s.ag,s.age,s.tasks,run,(IntKind.i64.wrap (left-(1:Int))),turns,s.next⟩:aj) run).bind λr23=>cond (decide (0<=r23/\r23<(s.tasks.length:Int))) ((s.tasks[r23.toNat]?).bind λe24=>cond (decide (0<=r23/\r23<(s.tasks.length:Int))) ((s.tasks[r23.toNat]?).bind λe25=>cond (decide (0<=r23/\r23<((s.tasks.set r23.toNat (⟨e25.id,e25.aq,(IntKind.i64.wrap (e24.at_+(1:Int))),e25.due,e25.born⟩:Task)).length:Int))) (((s.tasks.set r23.toNat (⟨e25.id,e25.aq,(IntKind.i64.wrap (e24.at_+(1:Int))),e25.due,e25.born⟩:Task))[r23.toNat]?).bind λe26=>cond (decide (0<=r23/\r23<((s.tasks.set r23.toNat (⟨e25.id,e25.aq,(IntKind.i64.wrap (e24.at_+(1:Int))),e25.due,e25.born⟩:Task)).length:Int))) (((s.tasks.set r23.toNat (⟨e25.id,e25.aq,(IntKind.i64.wrap (e24.at_+(1:Int))),e25.due,e25.born⟩:Task))[r23.toNat]?).bind λe27=>cond (decide (e26.at_<(e27.aq.length:Int))) (some ((⟨(IntKind.i64.wrap (s.now+(1:Int))),s.ag,s.age,(s.tasks.set r23.toNat (⟨e25.id,e25.aq,(IntKind.i64.wrap (e24.at_+(1:Int))),e25.due,e25.born⟩:Task)),(0:Int),(IntKind.i64.wrap (left-(1:Int))),turns,s.next⟩:aj),run,false)) ((j9 (s.tasks.set r23.toNat (⟨e25.id,e25.aq,(IntKind.i64.wrap (e24.at_+(1:Int))),e25.due,e25.born⟩:Task))).bind λy28=>(fj k (IntKind.i64.wrap (s.now+(1:Int))) s.ag s.age y28 (0:Int) (IntKind.i64.wrap (left-(1:Int))) turns s.next run).bind λr29=>cond (iW r29) ((oz (s.tasks.set r23.toNat (⟨e25.id,e25.aq,(IntKind.i64.wrap (e24.at_+(1:Int))),e25.due,e25.born⟩:Task)) r29).bind λz30=>some ((⟨(IntKind.i64.wrap (s.now+(1:Int))),s.ag,s.age,z30,(0:Int),(IntKind.i64.wrap (left-(1:Int))),turns,s.next⟩:aj),run,true)) none)) none) none) none) none))=some (tB s run left turns):=by
 have hM:=ar;have hs:=bF h;have hlen:=bm Task.tot s.tasks;have hst:s.tot=eu Task.tot s.tasks+0:=rfl;obtain⟨hi,hid⟩:=pI hf;have ht:=b8 (ca hs.2.2.2.2.2.2.1 hi).1;unfold tB;rw[aK (n:=left-1) (by omega) (by omega),aK (n:=s.now+1) (by omega) (by omega)];by_cases c:left-1>0
 ·rw[decide_eq_true c];rfl
 rw[decide_eq_false c,cond_false,cond_false];rw[kS (by show s.tasks.length<k;omega) (by show s.tasks.length<=aU;omega),aa];show(λr23:Int=>_) (jX s.tasks run)=_;rw[gW hf];simp only[Ql,Q4];rw[ab,if_pos (by omega),ai hi,aa,ab,if_pos (by omega),aa,ab,if_pos (by omega),Rf hi,aa,ab,if_pos (by omega),aa,hf,Qo,ai hi,Qo,aK (n:=s.tasks[i].at_+1) (by omega) (by omega)];simp only;by_cases c2:s.tasks[i].at_+1<(s.tasks[i].aq.length:Int)
 ·rw[decide_eq_true c2];rfl
 rw[decide_eq_false c2,cond_false,cond_false,qD,aa,vr (by rw[en,Q4];omega) (by rw[en,Q4];omega),aa,mi,cond_true,oo _ (λt=>!(t.id==run)) (λz=>!(z.id==run)) (λn t=>rfl),aa];rfl
theorem Ew {k:Nat} {s:aj} {run left turns:Int} (hk:s.tot<k) (hN:s.tot<=aU) (h:bC s=true) (hl:1<=left/\left<=1000) {i:Nat} (hf:(s.tasks.findIdx? λt=>t.id==run)=some i):
  (cond (decide ((IntKind.i64.wrap (left-(1:Int)))>(0:Int))) (cond (decide (s.ag=s.ag)) (cond (decide (s.age=s.age)) (cond (decide (s.next=s.next)) (some (((0:Int),false),IntKind.i64.wrap (s.now+(1:Int)),s.tasks,run,IntKind.i64.wrap (left-(1:Int)),turns)) none) none) none) ((cW k (⟨(IntKind.i64.wrap (s.now+(1:Int))),s.ag,s.age,s.tasks,run,(IntKind.i64.wrap (left-(1:Int))),turns,s.next⟩:aj) run).bind λr1=>cond (decide (0<=r1/\r1<(s.tasks.length:Int))) ((s.tasks[r1.toNat]?).bind λe2=>(s.tasks[r1.toNat]?).bind λe3=>((s.tasks.set r1.toNat (⟨e3.id,e3.aq,(IntKind.i64.wrap (e2.at_+(1:Int))),e3.due,e3.born⟩:Task))[r1.toNat]?).bind λe4=>((s.tasks.set r1.toNat (⟨e3.id,e3.aq,(IntKind.i64.wrap (e2.at_+(1:Int))),e3.due,e3.born⟩:Task))[r1.toNat]?).bind λe5=>cond (decide (e4.at_<(e5.aq.length:Int))) (cond (decide (s.ag=s.ag)) (cond (decide (s.age=s.age)) (cond (decide (s.next=s.next)) (some ((run,false),IntKind.i64.wrap (s.now+(1:Int)),s.tasks.set r1.toNat (⟨e3.id,e3.aq,(IntKind.i64.wrap (e2.at_+(1:Int))),e3.due,e3.born⟩:Task),(0:Int),IntKind.i64.wrap (left-(1:Int)),turns)) none) none) none) ((j9 (s.tasks.set r1.toNat (⟨e3.id,e3.aq,(IntKind.i64.wrap (e2.at_+(1:Int))),e3.due,e3.born⟩:Task))).bind λy6=>(di k (IntKind.i64.wrap (s.now+(1:Int))) s.ag s.age y6 (0:Int) (IntKind.i64.wrap (left-(1:Int))) turns s.next run).bind λr7=>cond (iW r7.1) ((oz (s.tasks.set r1.toNat (⟨e3.id,e3.aq,(IntKind.i64.wrap (e2.at_+(1:Int))),e3.due,e3.born⟩:Task)) r7.1).bind λz8=>cond (decide (s.ag=s.ag)) (cond (decide (s.age=s.age)) (cond (decide (s.next=s.next)) (some ((run,true),IntKind.i64.wrap (s.now+(1:Int)),z8,r7.2.1,r7.2.2,turns)) none) none) none) none)) none))=some (((tB s run left turns).2.1,(tB s run left turns).2.2),(tB s run left turns).1.now,(tB s run left turns).1.tasks,(tB s run left turns).1.run,(tB s run left turns).1.left,(tB s run left turns).1.turns):=by
 have hM:=ar;have hs:=bF h;have hlen:=bm Task.tot s.tasks;have hst:s.tot=eu Task.tot s.tasks+0:=rfl;obtain⟨hi,hid⟩:=pI hf;have ht:=b8 (ca hs.2.2.2.2.2.2.1 hi).1;unfold tB;simp only[decide_true,cond_true];rw[aK (n:=left-1) (by omega) (by omega),aK (n:=s.now+1) (by omega) (by omega)];by_cases c:left-1>0
 ·rw[decide_eq_true c];rfl
 rw[decide_eq_false c,cond_false,cond_false];rw[tl (by show s.tasks.length<k;omega) (by show s.tasks.length<=aU;omega),aa];show(λr23:Int=>_) (jX s.tasks run)=_;rw[gW hf];simp only[Ql,Q4];rw[ab,if_pos (by omega),ai hi,aa,aa,Rf hi,aa,aa,hf,Qo,ai hi,Qo,aK (n:=s.tasks[i].at_+1) (by omega) (by omega)];simp only;by_cases c2:s.tasks[i].at_+1<(s.tasks[i].aq.length:Int)
 ·rw[decide_eq_true c2];rfl
 rw[decide_eq_false c2,cond_false,cond_false,qD,aa,I4 (by rw[en,Q4];omega) (by rw[en,Q4];omega),aa];simp only;rw[mi,cond_true,oo _ (λt=>!(t.id==run)) (λz=>!(z.id==run)) (λn t=>rfl),aa]
 have hne:((0:Int)==run)=false:=by simp;omega
 rw[hne];rfl
def gO (s:aj) (stalled:Bool):aj× Int× Bool:=
  cond (bC s&&!(s.now==1000000))
    (cond stalled (⟨s.now+1,s.ag,s.age,s.tasks,s.run,s.left,s.turns,s.next⟩,0,false)
      (cond (s.run==0)
        (cond (jZ s==0) (⟨s.now+1,s.ag,s.age,s.tasks,s.run,s.left,s.turns,s.next⟩,0,false)
          ((s.tasks.findIdx? λt=>t.id==jZ s).elim (s,0,false) λi=>(s.tasks[i]?).elim (s,0,false) λt=>tB s (jZ s) (fa t) (cond (decide (s.turns+1>1000000)) 0 (s.turns+1))))
        (tB s s.run s.left s.turns))) (s,0,false)
theorem yM {s:aj} (h:bC s=true) (hp:jZ s≠0):∃(i:Nat) (hi:i<s.tasks.length),(s.tasks.findIdx? λt=>t.id==jZ s)=some i/\s.tasks[i].id=jZ s:=by
 have hs:=bF h
 have:∃t∈s.tasks,jZ s=t.id:=by
  unfold jZ at hp⊢
  cases hl:zq s with
  |none=>
   cases he:nm s with
   |none=>rw[hl,he]at hp;exact(hp rfl).elim
   |some e=>exact⟨e,(Rk.1 (np he)).1,rfl⟩
  |some l=>
   cases he:nm s with
   |none=>exact⟨l,(Rk.1 (np hl)).1,rfl⟩
   |some e=>
    simp only[RX,Qq,SK,Qr,Qo];cases(decide (s.age>0)&&(s.turns.tmod s.age==0))
    ·exact⟨e,(Rk.1 (np he)).1,rfl⟩
    ·exact⟨l,(Rk.1 (np hl)).1,rfl⟩
 obtain⟨t,ht,e⟩:=this;obtain⟨i,hi,rfl⟩:=QU.1 ht;exact⟨i,hi,by rw[e];exact Cp hs.2.2.2.2.2.2.1 hi,e.symm⟩
theorem Cx {s:aj} (h:bC s=true) (hr:(s.run==0)=false):(1<=s.left/\s.left<=1000)/\∃i,(s.tasks.findIdx? λt=>t.id==s.run)=some i:=by
 have hs:=bF h;have hrun:=hs.2.2.2.2.2.2.2;unfold Jg at hrun;rw[hr,cond_false]at hrun
 cases hf:s.tasks.findIdx? λt=>t.id==s.run with
 |none=>rw[hf]at hrun;exact nomatch hrun
 |some i=>
  obtain⟨hi,hid⟩:=pI hf;have h1:=qC h (Qs hi) hid.symm;have h2:=fb (ca hs.2.2.2.2.2.2.1 hi).1;exact⟨by omega,i,rfl⟩
theorem zr {k:Nat} {s:aj} {st:Bool} (hk:s.tot<k) (hN:s.tot<=aU):nW k s st=some (gO s st):=by
 have hM:=ar;have hlen:=bm Task.tot s.tasks;have hst:s.tot=eu Task.tot s.tasks+0:=rfl;unfold nW gO;rw[pJ hk hN,aa,dy hk hN,aa];cases h:bC s
 ·rfl
 have hs:=bF h;simp only[Qq,cond_false,Qr];cases(s.now==(1000000:Int))
 case true=>rfl
 simp only[cond_false,QI,cond_true];cases st
 case true=>rw[aK (n:=s.now+1) (by omega) (by omega)];rfl
 simp only[cond_false];cases hr:s.run==0
 ·simp only[cond_false];obtain⟨hl,i,hf⟩:=Cx h hr;exact yL hk hN h hl hf
 simp only[cond_true];rw[Cw hk hN h,aa];by_cases hp:jZ s=0
 ·rw[hp,aK (n:=s.now+1) (by omega) (by omega)];rfl
 rw[dP,if_neg hp,dP,if_neg hp];obtain⟨i,hi,hf,hid⟩:=yM h hp;have hc:=fb (ca hs.2.2.2.2.2.2.1 hi).1;rw[kS (by show s.tasks.length<k;omega) (by show s.tasks.length<=aU;omega),aa];show(λr4:Int=>_) (jX s.tasks (jZ s))=_;rw[gW hf];simp only[Ql];rw[ab,if_pos (by omega),ai hi,aa,hc.1,aa,hf,Qo,ai hi,Qo,aK (n:=s.turns+1) (by omega) (by omega)];by_cases ct:s.turns+1>1000000
 ·rw[decide_eq_true ct,cond_true,cond_true];exact yL hk hN h ⟨hc.2.1,hc.2.2⟩ hf
 ·rw[decide_eq_false ct,cond_false,cond_false];exact yL hk hN h ⟨hc.2.1,hc.2.2⟩ hf
theorem I7 {k:Nat} {s:aj} (hk:s.tot+2<k) (hN:s.tot<aU) (h:bC s=true):
  (jZ s=0/\dU k s=some (false,s.run,s.left,s.turns))\/
  ∃(i:Nat) (hi:i<s.tasks.length),jZ s≠0/\(s.tasks.findIdx? λt=>t.id==jZ s)=some i/\dU k s=some (true,jZ s,fa s.tasks[i],cond (decide (s.turns+1>1000000)) 0 (s.turns+1)):=by
 have hM:=ar;have hs:=bF h;have hlen:=bm Task.tot s.tasks;have hst:s.tot=eu Task.tot s.tasks+0:=rfl;unfold dU;rw[Lf hk hN hs.2.2.2.2.2.2.1,aa];simp only[decide_true,cond_true];by_cases hp:jZ s=0
 ·exact .inl ⟨hp,by rw[hp];rfl⟩
 ·obtain⟨i,hi,hf,hid⟩:=yM h hp;have hc:=fb (ca hs.2.2.2.2.2.2.1 hi).1;refine .inr ⟨i,hi,hp,hf,?_⟩;rw[dP,if_neg hp,tl (by omega) (by omega),aa,gW hf,Ql,ab,if_pos (by omega),ai hi,aa,hc.1,aa,aK (n:=s.turns+1) (by omega) (by omega)];cases decide (s.turns+1>1000000)<;>rfl
theorem MU (s:aj) (run left turns:Int) {i:Nat} (hf:(s.tasks.findIdx? λt=>t.id==run)=some i):(tB s run left turns).1.ag=s.ag/\(tB s run left turns).1.age=s.age/\(tB s run left turns).1.next=s.next:=by
 obtain⟨hi,_⟩:=pI hf;unfold tB;cases decide (left-1>0)
 ·rw[hf,cond_false,Qo,ai hi,Qo];cases decide (s.tasks[i].at_+1<(s.tasks[i].aq.length:Int))<;>exact⟨rfl,rfl,rfl⟩
 ·exact⟨rfl,rfl,rfl⟩
theorem zt {k:Nat} {s:aj} {st:Bool} (hk:s.tot+2<k) (hN:s.tot<aU):rB k s st=some (gO s st):=by
 have hM:=ar;have hlen:=bm Task.tot s.tasks;have hst:s.tot=eu Task.tot s.tasks+0:=rfl;unfold rB gO;rw[jc (by omega) (by omega),aa,jY (by omega) (by omega),aa];cases h:bC s
 ·rfl
 have hs:=bF h;simp only[Qq,cond_false,Qr];cases(s.now==(1000000:Int))
 case true=>rfl
 simp only[cond_false,QI,cond_true]
 have fin:∀(run left turns:Int) {i:Nat},(s.tasks.findIdx? λt=>t.id==run)=some i->(some (((tB s run left turns).2.1,(tB s run left turns).2.2),(tB s run left turns).1.now,(tB s run left turns).1.tasks,(tB s run left turns).1.run,(tB s run left turns).1.left,(tB s run left turns).1.turns)).bind (λr3:((Int× Bool)× Int× List Task× Int× Int× Int)=>some ((⟨r3.2.1,s.ag,s.age,r3.2.2.1,r3.2.2.2.1,r3.2.2.2.2.1,r3.2.2.2.2.2,s.next⟩:aj),r3.1.1,r3.1.2))=some (tB s run left turns):=λrun left turns i hf=>by
  obtain⟨g1,g2,g3⟩:=MU s run left turns hf;generalize tB s run left turns=q at g1 g2 g3⊢;obtain⟨⟨a1,a2,a3,a4,a5,a6,a7,a8⟩,b,c⟩:=q;simp only at g1 g2 g3;subst g1 g2 g3;rfl
 unfold fJ;cases st
 case true=>rw[aK (n:=s.now+1) (by omega) (by omega)];simp only[decide_true,cond_true,Qq,cond_false,aa]
 simp only[QI,cond_true,cond_false];cases hr:s.run==0
 ·rw[show(s.run !=0)=true by rw[bne,hr];rfl];simp only[cond_true,cond_false];obtain⟨hl,i,hf⟩:=Cx h hr;have e:=Ew (k:=k) (turns:=s.turns) (by omega) (by omega) h hl hf;simp only[decide_true,cond_true]at e⊢;rw[e];exact fin _ _ _ hf
 rw[show(s.run !=0)=false by rw[bne,hr];rfl];simp only[cond_true,cond_false]
 rcases I7 hk hN h with⟨hp,e⟩|⟨i,hi,hp,hf,e⟩
 ·rw[e,hp,aa,aK (n:=s.now+1) (by omega) (by omega)];simp only[decide_true,cond_true,QI,aa,beq_self_eq_true]
 ·have hc:=fb (ca hs.2.2.2.2.2.2.1 hi).1;rw[e,aa,dP,if_neg hp];have e:=Ew (k:=k) (turns:=cond (decide (s.turns+1>1000000)) 0 (s.turns+1)) (by omega) (by omega) h ⟨hc.2.1,hc.2.2⟩ hf;simp only[decide_true,cond_true,Qq,cond_false]at e⊢;rw[e,hf,Qo,ai hi,Qo];exact fin _ _ _ hf
end
section
def Pv:aj:=⟨0,0,0,[],0,0,0,0⟩
def CD (ag age:Int):aj:=⟨0,ag,age,[],0,0,0,1⟩
theorem MV {k:Nat} {a b:Int} (hk:0<k):qq k a b=some (cond (bC (CD a b)) (CD a b,true) (Pv,false)):=by
 unfold qq;rw[dy (by exact hk) (by exact QP _),aa];show cond (!(bC (CD a b))) _ _=_;cases bC (CD a b)<;>rfl
theorem MW {k:Nat} {a b:Int} (hk:0<k):qt k a b=some (cond (bC (CD a b)) (CD a b,true) (Pv,false)):=by
 unfold qt;rw[jY (by exact hk) (by exact QP _),aa];show cond (!(bC (CD a b))) _ _=_;cases bC (CD a b)<;>rfl
end
section
def mF {α:Type} (o:Option α) (Q:α->Prop):Prop:=∃r,o=some r/\Q r
theorem mF.bind {α β:Type} {o:Option α} {P:α->Prop} {f:α->Option β} {Q:β->Prop} (h:mF o P) (hf:∀a,P a->mF (f a) Q):mF (o.bind f) Q:=by
 obtain⟨r,e,hp⟩:=h;rw[e];exact hf r hp
theorem mF.some {α:Type} {a:α} {Q:α->Prop} (h:Q a):mF (some a) Q:=⟨a,rfl,h⟩
theorem mF.cond {α:Type} {b:Bool} {x y:Option α} {Q:α->Prop} (h1:b=true->mF x Q) (h2:b=false->mF y Q):mF (cond b x y) Q:=by
 cases b
 ·exact h2 rfl
 ·exact h1 rfl
theorem mF.mono {α:Type} {o:Option α} {P Q:α->Prop} (h:mF o P) (hq:∀a,P a->Q a):mF o Q:=by
 obtain⟨r,e,hp⟩:=h;exact⟨r,e,hq r hp⟩
theorem mF.iter {V R:Type} {g:V->(V->Option R)->Option R} {Inv:V->Prop} {m:V->Nat} {Q:R->Prop}
  (h:∀(v:V) (next:V->Option R),Inv v->(∀u,Inv u->m u<m v->mF (next u) Q)->mF (g v next) Q):∀(k:Nat) (v:V),Inv v->m v<k->mF (iter g k v) Q
 |0,v,_,hk=>by omega
 |k+1,v,hv,hk=>by
  rw[aS];exact h v _ hv λu hu hm=>mF.iter h k u hu (by omega)
end
section
theorem mF.ble {α:Type} {a b:Nat} {x y:Option α} {Q:α->Prop} (h:a<=b) (hx:mF x Q):mF (bif (Nat.ble a b)then x else y) Q:=by
 rw[Ru h];exact hx
end
set_option maxRecDepth 100000
section
end
set_option maxRecDepth 100000
section
theorem yN (s:aj) (aq:List Int) (due:Int):
  ((fD s aq due).2.2=0/\0<(fD s aq due).2.1/\bC s=true/\yF (fD s aq due).1=true/\(fD s aq due).1=⟨s.now,s.ag,s.age,s.tasks++[⟨s.next,aq,0,due,s.now⟩],s.run,s.left,s.turns,s.next+1⟩)\/
  ((fD s aq due).2.2≠0/\(fD s aq due).2.1=0/\(fD s aq due).1=s):=by
 unfold fD;cases h:bC s&&gY ⟨s.next,aq,0,due,s.now⟩
 ·right;simp
 have hb:=(RO.1 h).1;have hs:=bF hb;cases((s.tasks.length:Int)==12||s.next==1000000)
 ·cases hf:yF ⟨s.now,s.ag,s.age,s.tasks++[⟨s.next,aq,0,due,s.now⟩],s.run,s.left,s.turns,s.next+1⟩
  ·right;simp
  ·left;simp only[cond_true,cond_false];exact⟨trivial,by omega,hb,hf,trivial⟩
 ·right;simp
end
end Go.Proofs.Ev
