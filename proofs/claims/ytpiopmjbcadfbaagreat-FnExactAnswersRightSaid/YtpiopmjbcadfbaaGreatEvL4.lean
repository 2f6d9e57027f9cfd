/- Typed functions and what holds of them: part 4. -/
import Derived.Test.YtpiopmjbcadfbaaGreatEvL3
set_option linter.unusedVariables false
set_option linter.unusedSimpArgs false
set_option linter.unusedSectionVars false
namespace Go.Proofs.Ev
section
theorem vh {a b:Int} {x:Int} (h:a<=x/\x<=b) (h0:0<=a):∃n:Nat,x=n:=⟨x.toNat,by omega⟩
theorem vT {H W C Z S:Nat} {l:ay} {c:Int} (hz:l.size=Z) (hs:l.step=S) (s1:1<=S) (h8:H<=8) (w8:W<=8) (hzH:Z<=H) (hzW:Z<=W):
  qU ⟨H,W,C⟩ l c=⟨((H-Z)/S+1:Nat),((W-Z)/S+1:Nat),c⟩:=by
 have key:∀n:Nat,n<=8->Z<=n->IntKind.i64.wrap ((IntKind.i64.wrap ((IntKind.i64.wrap ((n:Int)-(Z:Int))).tdiv (S:Int)))+1)=(((n-Z)/S+1:Nat):Int):=λn h1 h2=>by
  have e1:((n:Int)-(Z:Int))=((n-Z:Nat):Int):=by omega
  have e2:(((n-Z:Nat):Int)).tdiv (S:Int)=(((n-Z)/S:Nat):Int):=rfl;have e3:(n-Z)/S<=n-Z:=Nat.div_le_self _ _;rw[e1,aH (n:=((n-Z:Nat):Int)) (by omega) (by omega),e2];generalize (n-Z)/S=q at e3;rw[aH (n:=((q:Nat):Int)) (by omega) (by omega),aH (by omega) (by omega)];omega
 unfold qU;rw[hz,hs];simp only[key H h8 hzH,key W w8 hzW]
theorem CO {n Z S:Nat} (h:n<=8) (h1:1<=Z) (h2:Z<=n):1<=(n-Z)/S+1/\(n-Z)/S+1<=8:=by
 have e3:(n-Z)/S<=n-Z:=Nat.div_le_self _ _;generalize (n-Z)/S=q at e3;omega
theorem LO {H W Z S h w:Nat} (z1:1<=Z) (z3:Z<=3) (s1:1<=S) (s2:S<=2) (hzH:Z<=H) (hzW:Z<=W) (hh:h<(H-Z)/S+1) (hw:w<(W-Z)/S+1):LJ H W Z S h w:=by
 have a1:h*S<=H-Z:=(Nat.le_div_iff_mul_le (by omega)).1 (by omega);have a2:w*S<=W-Z:=(Nat.le_div_iff_mul_le (by omega)).1 (by omega);exact⟨z1,z3,s2,by omega,by omega⟩
theorem EN {l:ay} (h:HX l=true):(1<=l.out/\l.out<=8)/\(l.m8.length:Int)=l.out/\∀x∈l.weights,-128<=x/\x<=127:=by
 simp only[HX,Rk,cn,decide_eq_true_eq]at h;obtain⟨h1,h2,h3,h4,h5,h6,h7⟩:=h;unfold rz at h7;rw[SB]at h7;exact⟨h1,h5,λx hx=>cn.1 (h7 x hx)⟩
theorem vi {H W C:Nat} {xs:List Int} (r:kZ H W C xs) {l:ay} (hl:gL ⟨H,W,C⟩ l=true):
  ∃Z S H' W' C':Nat,l.size=Z/\l.step=S/\shapeOf ⟨H,W,C⟩ l=⟨H',W',C'⟩/\(1<=H'/\H'<=8)/\(1<=W'/\W'<=8)/\(1<=C'/\C'<=8)/\
   ∀h w o,h<H'->w<W'->o<C'->Fits H W C xs l Z S h w o:=by
 have hr:=r;obtain⟨h1,h8,w1,w8,c1,c8,hlen,hmem⟩:=hr;have hsz:=r.size;unfold gL at hl;rw[Rk]at hl;obtain⟨-,hl⟩:=hl;unfold shapeOf;by_cases k0:l.kind=0
 ·rw[decide_eq_true k0]at hl⊢;simp only[cond_true,Rk,decide_eq_true_eq,pb]at hl;obtain⟨⟨z0,s0⟩,hn,hs,hw⟩:=hl;obtain⟨ho,hb,hi⟩:=EN hn;obtain⟨O,hO⟩:=vh ho (by omega);rw[hO]at ho hb;refine⟨0,0,1,1,O,by omega,by omega,by rw[cond_true,hO];rfl,by omega,by omega,by omega,λh w o _ _ hlt=>.NB k0 (by omega) (by omega) ?_⟩;rw[hO,hsz]at hw;have:((O:Int)*((H*W*C:Nat):Int))=((O*(H*W*C):Nat):Int):=(Sw _ _).symm;rw[this]at hw;have:(o+1)*(H*W*C)<=O*(H*W*C):=RD _ hlt;rw[RM,Nat.one_mul]at this;rw[hlen];omega
 rw[decide_eq_false k0]at hl⊢;simp only[cond_false]at hl⊢;by_cases k1:l.kind=1
 ·rw[decide_eq_true k1]at hl⊢;simp only[cond_true,Rk,decide_eq_true_eq]at hl⊢;obtain⟨hwin,hn,hw,hw6⟩:=hl;obtain⟨z1,z3,s1,s2,zh,zw⟩:=pZ hwin;obtain⟨ho,hb,hi⟩:=EN hn;obtain⟨O,hO⟩:=vh ho (by omega);obtain⟨Z,hZ⟩:=vh ⟨z1,z3⟩ (by omega);obtain⟨S,hS⟩:=vh ⟨s1,s2⟩ (by omega);rw[hO]at ho hb;rw[hZ]at z1 z3 zh zw;rw[hS]at s1 s2
  have zh:Z<=H:=by have:((Z:Nat):Int)<=(H:Int):=zh;omega
  have zw:Z<=W:=by have:((Z:Nat):Int)<=(W:Int):=zw;omega
  have d1:=CO (S:=S) h8 (show 1<=Z by omega) zh;have d2:=CO (S:=S) w8 (show 1<=Z by omega) zw;refine⟨Z,S,(H-Z)/S+1,(W-Z)/S+1,O,hZ,hS,by rw[vT hZ hS (by omega) h8 w8 zh zw,hO],d1,d2,by omega,λh w o hh hw2 hlt=>.conv k1 (by omega) (by omega) ?_ (LO (by omega) (by omega) (by omega) (by omega) zh zw hh hw2) hi⟩;rw[hO,hZ]at hw
  have:((O:Int)*(Z:Int)*(Z:Int)*(C:Int))=((O*(Z*(Z*C)):Nat):Int):=by
   rw[Sw,Sw,Sw,TW,TW]
  have hw:(l.weights.length:Int)=(O:Int)*(Z:Int)*(Z:Int)*(C:Int):=hw;rw[this]at hw;have:(o+1)*(Z*(Z*C))<=O*(Z*(Z*C)):=RD _ hlt;rw[RM,Nat.one_mul]at this;omega
 rw[decide_eq_false k1]at hl⊢;simp only[cond_false]at hl⊢;by_cases k2:l.kind=2\/l.kind=3
 ·have hk:(decide (l.kind=2)||decide (l.kind=3))=true:=by simpa using k2
  rw[hk]at hl;simp only[cond_true,Rk,decide_eq_true_eq]at hl;obtain⟨hwin,hn,hw⟩:=hl;obtain⟨z1,z3,s1,s2,zh,zw⟩:=pZ hwin;obtain⟨Z,hZ⟩:=vh ⟨z1,z3⟩ (by omega);obtain⟨S,hS⟩:=vh ⟨s1,s2⟩ (by omega);rw[hZ]at z1 z3 zh zw;rw[hS]at s1 s2
  have zh:Z<=H:=by have:((Z:Nat):Int)<=(H:Int):=zh;omega
  have zw:Z<=W:=by have:((Z:Nat):Int)<=(W:Int):=zw;omega
  have d1:=CO (S:=S) h8 (show 1<=Z by omega) zh;have d2:=CO (S:=S) w8 (show 1<=Z by omega) zw;rw[decide_eq_false (show¬l.kind=4 by omega),decide_eq_false (show¬l.kind=5 by omega)];simp only[cond_false];refine⟨Z,S,(H-Z)/S+1,(W-Z)/S+1,C,hZ,hS,vT hZ hS (by omega) h8 w8 zh zw,d1,d2,by omega,λh w o hh hw2 hlt=>?_⟩;have v:=LO (by omega) (by omega) (by omega) (by omega) zh zw hh hw2
  rcases k2 with k2|k2
  ·exact .max k2 v hlt
  ·exact .avg k2 v hlt
 have hk:(decide (l.kind=2)||decide (l.kind=3))=false:=by simpa using k2
 rw[hk]at hl;simp only[cond_false]at hl;by_cases k4:l.kind=4
 ·rw[decide_eq_true k4]at hl⊢;simp only[cond_true,Rk,decide_eq_true_eq,pb,cn]at hl⊢;obtain⟨⟨z0,s0⟩,hn,hz⟩:=hl;exact⟨0,0,H,W,C,by omega,by omega,rfl,by omega,by omega,by omega,λh w o a b c=>.QH k4 a b c hz⟩
 rw[decide_eq_false k4]at hl⊢;simp only[cond_false]at hl⊢;by_cases k5:l.kind=5
 ·rw[decide_eq_true k5]at hl⊢;simp only[cond_true,Rk,decide_eq_true_eq,pb]at hl⊢;obtain⟨⟨z0,s0⟩,hn,hz,hs⟩:=hl;have p1:1<=H*W:=R7 h1 w1;have p2:1<=H*W*C:=R7 p1 c1;rw[hsz]at hs⊢;exact⟨0,0,1,1,H*W*C,by omega,by omega,rfl,by omega,by omega,by omega,λh w o a b c=>.flat k5 (by rw[hlen];exact c)⟩
 rw[decide_eq_false k5]at hl;exact nomatch hl
theorem JE {x d:Int} (hd:1<=d) (h1:-128*d<=x) (h2:x<=127*d):-128<=gw x d/\gw x d<=127:=by
 unfold gw;by_cases c:x<0
 ·rw[if_pos c];have a1:0<=(2*-x+d)/(2*d):=Int.ediv_nonneg (by omega) (by omega);have a2:(2*-x+d)/(2*d)<129:=Int.ediv_lt_of_lt_mul (by omega) (by omega);omega
 ·rw[if_neg c];have a1:0<=(2*x+d)/(2*d):=Int.ediv_nonneg (by omega) (by omega);have a2:(2*x+d)/(2*d)<128:=Int.ediv_lt_of_lt_mul (by omega) (by omega);omega
theorem ND {H W C:Nat} {xs:List Int} (r:kZ H W C xs) {l:ay} {Z S h w o:Nat} (f:Fits H W C xs l Z S h w o):-128<=lW W C xs l Z S h w o/\lW W C xs l Z S h w o<=127:=by
 unfold lW
 cases f with
 |NB h0 hb h8 hw=>rw[h0];exact yM _
 |conv h0 hb h8 hw v hi=>rw[h0];exact yM _
 |max h0 v ho=>
  rw[h0];obtain⟨x,ys,e⟩:=yW (xs:=xs) (C:=C) (o:=o) v;show -128<=k6 (iW W C xs Z S h w o)/\k6 (iW W C xs Z S h w o)<=127;have:=wJ r v ho;rw[e]at this⊢
  exact this _ (qc ys x)
 |avg h0 v ho=>
  rw[h0];have hl:=nJ (xs:=xs) (C:=C) (o:=o) v;have hb:=yV (wJ r v ho);rw[hl.1]at hb;show -128<=gw (iW W C xs Z S h w o).sum ((Z*Z:Nat):Int)/\gw (iW W C xs Z S h w o).sum ((Z*Z:Nat):Int)<=127
  exact JE (by omega) hb.1 hb.2
 |QH h0 h1 h2 h3 hz=>
  rw[h0];have:=H3 r h1 h2 h3;show -128<=(if atN W C xs h w o<l.zero then l.zero else atN W C xs h w o)/\(if atN W C xs h w o<l.zero then l.zero else atN W C xs h w o)<=127;by_cases c:atN W C xs h w o<l.zero
  ·rw[if_pos c];exact hz
  ·rw[if_neg c];exact this
 |flat h0 ho=>rw[h0];exact r.mem _ (wI ho)
def runN (W C:Nat) (xs:List Int) (l:ay) (Z S H' W' C':Nat):List Int:=
 (List.range H').flatMap λh=>(List.range W').flatMap λw=>(List.range C').flatMap λo=>[lW W C xs l Z S h w o]
def yX (t:ak) (l:ay):ak× Bool:=
 cond (t.okB&&gL t.sh l) (⟨shapeOf t.sh l,runN t.sh.w.toNat t.sh.c.toNat t.data l l.size.toNat l.step.toNat (shapeOf t.sh l).h.toNat (shapeOf t.sh l).w.toNat (shapeOf t.sh l).c.toNat⟩,true) (⟨iR,[]⟩,false)
theorem NG (W C:Nat) (xs:List Int) (l:ay) (Z S H' W' C':Nat):(runN W C xs l Z S H' W' C').length=H'*(W'*(C'*1)):=
 gN _ _ _ λi hi=>gN _ _ _ λj hj=>gN _ _ _ λo ho=>rfl
theorem vj {t:ak} {l:ay} (h1:t.okB=true) (h2:gL t.sh l=true):(yX t l).1.okB=true/\(yX t l).1.sh=shapeOf t.sh l/\(yX t l).2=true:=by
 obtain⟨H,W,C,r,e⟩:=CM h1
 have e2:t.sh=⟨H,W,C⟩:=by rw[e];rfl
 have h2':=h2;rw[e2]at h2';obtain⟨Z,S,H',W',C',hz,hs,hsh,a1,a2,a3,hf⟩:=vi r h2';unfold yX;rw[h1,h2];simp only[Bool.and_self,cond_true];refine And.intro ?_ (by simp);rw[e2,hsh,show l.size.toNat=Z from by omega,show l.step.toNat=S from by omega];simp only[Rm];refine kZ.ok (H:=H') (W:=W') (C:=C') ⟨a1.1,a1.2,a2.1,a2.2,a3.1,a3.2,by rw[NG,Nat.mul_one,Nat.mul_assoc],λx hx=>?_⟩;unfold runN at hx;rw[Tq]at hx;obtain⟨i,hi,hx⟩:=hx;rw[Tq]at hx;obtain⟨j,hj,hx⟩:=hx;rw[Tq]at hx;obtain⟨o,ho,hx⟩:=hx;rw[List.mem_range]at hi hj ho;rw[SN]at hx;rw[hx];exact ND r (hf i j o hi hj ho)
theorem tS {k:Nat} {t:ak} {l:ay} (hk:512<k) (hd:t.data.length<k) (hdN:t.data.length<=aQ) (hl:l.tot<k) (hlN:l.tot<=aQ):ny k t l=some (yX t l):=by
 have hM:=ao;unfold ny yX;rw[gg hd (by unfold pc;omega),aa];cases h1:t.okB
 ·rfl
 simp only[Rq,cond_false,Rs];rw[oN hl hlN,aa];unfold gR;cases h2:gL t.sh l
 ·rfl
 obtain⟨H,W,C,r,e⟩:=CM h1;obtain⟨sh,xs⟩:=t;have e2:sh=⟨H,W,C⟩:=congrArg ak.sh e;subst e2;obtain⟨Z,S,H',W',C',hz,hs,hsh,a1,a2,a3,hf⟩:=vi r h2
 have hwN:l.weights.length<=aQ:=by unfold ay.tot at hlN;omega
 simp only[cond_true,Rq,cond_false];rw[hsh,show l.size.toNat=Z from by omega,show l.step.toNat=S from by omega];simp only[Rm]
 have m1:∀w:Nat,∀h:Nat,((List.range C').flatMap λo=>[lW W C xs l Z S h w o]).length<=8:=λw h=>by
  have:=kY (λo=>[lW W C xs l Z S h w o]) 1 C' (λ_ _=>RE _);omega
 have m2:∀h:Nat,((List.range W').flatMap λw=>(List.range C').flatMap λo=>[lW W C xs l Z S h w o]).length<=64:=λh=>by
  have:=kY (λw=>(List.range C').flatMap λo=>[lW W C xs l Z S h w o]) 8 W' (λw _=>m1 w h);omega
 refine(ft H' 64 (λh=>(List.range W').flatMap λw=>(List.range C').flatMap λo=>[lW W C xs l Z S h w o]) [] (fin:=λy=>some ((⟨⟨H',W',C'⟩,y⟩:ak),true)) (λh _=>m2 h) (λh ys next hi hy=>?_) (λys next=>?_) (by omega)).trans (by rw[SL];rfl)
 ·simp only[kJ];rw[ab,if_pos (by omega),aq hi (by omega)];refine ft W' 8 (λw=>(List.range C').flatMap λo=>[lW W C xs l Z S h w o]) ys (fin:=λy=>next (((h+1:Nat):Int),y)) (λw _=>m1 w h) (λw zs next2 hj hz2=>?_) (λzs next2=>?_) (by omega)
  ·simp only[kI];rw[ab,if_pos (by omega),aq hj (by omega)];refine ft C' 1 (λo=>[lW W C xs l Z S h w o]) zs (fin:=λy=>next2 (((w+1:Nat):Int),y)) (λ_ _=>RE _) (λo us next3 ho hz3=>?_) (λus next3=>?_) (by omega)
   ·simp only[kH];simp only[RY]at hy;have eq:=LN (k:=k) r (l:=l) hk hwN hz hs (hf h w o hi hj ho);rw[ab,if_pos (by omega)];refine(congrArg (λo:Option Int=>o.bind _) eq).trans ?_;rw[aa,cE (by simp;omega),aq ho (by omega)]
   ·simp only[kH];rw[ab,if_neg (by omega)]
  ·simp only[kI];rw[ab,if_neg (by omega)]
 ·simp only[kJ];rw[ab,if_neg (by omega)]
theorem oS {k:Nat} {t:ak} {l:ay} (hk:512<k) (hd:t.data.length<k) (hdN:t.data.length<=aQ) (hl:l.tot<k) (hlN:l.tot<=aQ):lj k t l=some (yX t l):=by
 have hM:=ao;unfold lj yX;rw[oO hl hlN,aa,oL hd (by unfold pc;omega)];unfold gR;cases h2:gL t.sh l
 ·cases t.okB<;>rfl
 simp only[cond_true,Rq,cond_false,aa];cases h1:t.okB
 ·rfl
 simp only[Rq,cond_false,Bool.and_self,cond_true];obtain⟨H,W,C,r,e⟩:=CM h1;obtain⟨sh,xs⟩:=t;have e2:sh=⟨H,W,C⟩:=congrArg ak.sh e;subst e2;obtain⟨Z,S,H',W',C',hz,hs,hsh,a1,a2,a3,hf⟩:=vi r h2
 have hwN:l.weights.length<=aQ:=by unfold ay.tot at hlN;omega
 rw[hsh,show l.size.toNat=Z from by omega,show l.step.toNat=S from by omega];simp only[Rm]
 have m1:∀w:Nat,∀h:Nat,((List.range C').flatMap λo=>[lW W C xs l Z S h w o]).length<=8:=λw h=>by
  have:=kY (λo=>[lW W C xs l Z S h w o]) 1 C' (λ_ _=>RE _);omega
 have m2:∀h:Nat,((List.range W').flatMap λw=>(List.range C').flatMap λo=>[lW W C xs l Z S h w o]).length<=64:=λh=>by
  have:=kY (λw=>(List.range C').flatMap λo=>[lW W C xs l Z S h w o]) 8 W' (λw _=>m1 w h);omega
 refine(ft H' 64 (λh=>(List.range W').flatMap λw=>(List.range C').flatMap λo=>[lW W C xs l Z S h w o]) [] (fin:=λy=>some ((⟨⟨H',W',C'⟩,y⟩:ak),true)) (λh _=>m2 h) (λh ys next hi hy=>?_) (λys next=>?_) (by omega)).trans (by rw[SL];rfl)
 ·simp only[kM];rw[ab,if_pos (by omega),aq hi (by omega)];refine ft W' 8 (λw=>(List.range C').flatMap λo=>[lW W C xs l Z S h w o]) ys (fin:=λy=>next (((h+1:Nat):Int),y)) (λw _=>m1 w h) (λw zs next2 hj hz2=>?_) (λzs next2=>?_) (by omega)
  ·simp only[kL];rw[ab,if_pos (by omega),aq hj (by omega)];refine ft C' 1 (λo=>[lW W C xs l Z S h w o]) zs (fin:=λy=>next2 (((w+1:Nat):Int),y)) (λ_ _=>RE _) (λo us next3 ho hz3=>?_) (λus next3=>?_) (by omega)
   ·simp only[kK];simp only[RY]at hy;have eq:=LM (k:=k) r (l:=l) hk hwN hz hs (hf h w o hi hj ho);rw[ab,if_pos (by omega)];refine(congrArg (λo:Option Int=>o.bind _) eq).trans ?_;rw[aa,cE (by simp;omega),aq ho (by omega)]
   ·simp only[kK];rw[ab,if_neg (by omega)]
  ·simp only[kL];rw[ab,if_neg (by omega)]
 ·simp only[kM];rw[ab,if_neg (by omega)]
end
section
end
section
end
section
def yY:ay:=⟨0,0,0,0,0,0,0,[],[]⟩
theorem Bh:∀(ls:List ay) (s:Shape) (t:List Shape),cg s ls=some t->∀i,i<ls.length->gL ((s::t).getD i iR) (ls.getD i yY)=true/\(s::t).getD (i+1) iR=shapeOf ((s::t).getD i iR) (ls.getD i yY)
 |[],s,t,h,i,hi=>by simp at hi
 |l::ls,s,t,h,i,hi=>by
  simp only[cg]at h;cases hb:gL s l<;>simp only[hb,cond_true,cond_false]at h
  ·exact nomatch h
  ·obtain⟨t',h1,rfl⟩:=Rt.1 h
   cases i with
   |zero=>exact⟨hb,rfl⟩
   |succ i=>exact Bh ls (shapeOf s l) t' h1 i (by simpa using hi)
theorem lk {m:Model} (h:di m=true):(1<=m.ar.length/\m.ar.length<=6)/\∀i,i<m.ar.length->gL ((cd m).getD i iR) (m.ar.getD i yY)=true/\(cd m).getD (i+1) iR=shapeOf ((cd m).getD i iR) (m.ar.getD i yY):=by
 unfold cd;rw[h,cond_true];unfold di at h;unfold dy at h⊢;cases h1:(m.inp.okB&&inB (m.ar.length:Int) 1 6)<;>rw[h1]at h
 ·exact nomatch h
 ·simp only[cond_true]at h⊢;rw[Rk,cn]at h1
  cases h2:cg m.inp m.ar with
  |none=>rw[h2]at h;exact nomatch h
  |some t=>exact⟨by omega,Bh m.ar m.inp t h2⟩
theorem iT {j:Job} (h:ua j=true):di j.model=true/\(0<=j.at_/\j.at_<=j.model.ar.length)/\j.act.okB=true/\j.act.sh=(cd j.model).getD j.at_.toNat iR/\j.iU=Q3 ((bq j.model).take j.at_.toNat):=by
 unfold ua at h;simp only[Rk,cn,decide_eq_true_eq]at h;exact h
theorem LQ {j:Job} (h:ua j=true):j.act.data.length<=512/\j.tot<=j.model.tot+512:=by
 have h1:=(iT h).2.2.1;unfold ak.okB at h1;simp only[Rk,decide_eq_true_eq]at h1;have:=Shape.Cx j.act.sh;unfold Job.tot ak.tot;omega
def yZ (j:Job):ay:=j.model.ar.getD j.at_.toNat yY
def JF (j:Job):Int:=(bq j.model).getD j.at_.toNat 0
def vk (j:Job):Job:=⟨j.model,j.at_+1,(yX j.act (yZ j)).1,IntKind.i64.wrap (j.iU+JF j)⟩
theorem LR {j:Job} (h:ua j=true) (hd:j.at_≠(j.model.ar.length:Int)):ua (vk j)=true:=by
 obtain⟨hm,hat,hok,hsh,hsp⟩:=iT h;obtain⟨hlen,hg⟩:=lk hm;obtain⟨hl,hs⟩:=hg j.at_.toNat (by omega);rw[<-hsh]at hl hs;obtain⟨r1,r2,r3⟩:=vj hok hl;have hcl:=ik hm
 have hi:j.at_.toNat<(bq j.model).length:=by omega
 have e:(j.at_+1).toNat=j.at_.toNat+1:=by omega
 unfold ua vk;simp only[Rk,cn,decide_eq_true_eq,hm,true_and,e];refine⟨by omega,r1,?_,?_⟩
 ·show(yX j.act (yZ j)).1.sh=_;rw[hs];exact r2
 ·unfold Q3 JF;rw[dq hi,Sc,bE hi,hsp];rfl
theorem Pq {V R:Type} {g:V->(V->Option R)->Option R} {fin:V->Option R} {st:Nat->V} {n:Nat} {k:Nat} (h:∀i,i<n->∀next,g (st i) next=next (st (i+1))) (hn:∀next,g (st n) next=fin (st n)) (hk:n<k):iter g k (st 0)=fin (st n):=
 ep (g:=g) (st:=st) (n:=n) (r:=fin (st n)) h hn hk
theorem GM {k:Nat} {j:Job} (hk:j.tot+8<k) (hN:j.tot<=aQ) (h:ua j=true):wC k j=some ((bq j.model).drop j.at_.toNat):=by
 have hM:=ao;obtain⟨hm,hat,hok,hsh,hsp⟩:=iT h;obtain⟨hlen,hg⟩:=lk hm;have hcl:=ik hm;have ht:j.tot=j.model.tot+(j.act.tot+0):=rfl;unfold wC;rw[qV (by omega) hN,aa,h];simp only[Rq,cond_false];rw[kg (by omega) (by omega),aa]
 have e0:(j.at_,([]:List Int))=(((j.at_.toNat+0:Nat):Int),((bq j.model).drop j.at_.toNat).take 0):=by
  rw[List.take_zero];congr 1;omega
 rw[e0];refine(Pq (g:=λu5 n5=>lL k (bq j.model) u5 n5 (λy4=>some y4)) (fin:=λv=>some v.2) (st:=λi=>(((j.at_.toNat+i:Nat):Int),((bq j.model).drop j.at_.toNat).take i)) (n:=(bq j.model).length-j.at_.toNat) (λi hi next=>?_) (λnext=>?_) (by omega)).trans ?_
 ·have hi2:j.at_.toNat+i<(bq j.model).length:=by omega
  have hi3:i<((bq j.model).drop j.at_.toNat).length:=by simp;omega
  simp only[lL];rw[ab,if_pos (by omega),ab,if_pos (by omega),Rm,ag hi2,aa,cE (by simp;omega),aq hi2 (by omega),dq hi3,List.getElem_drop];rfl
 ·simp only[lL];rw[ab,if_neg (by omega)]
 ·rw[SS (by simp)]
theorem GN {k:Nat} {j:Job} (hk:j.tot+8<k) (hN:j.tot<aQ) (h:ua j=true):wD k j=some ((bq j.model).drop j.at_.toNat):=by
 obtain⟨hm,hat,hok,hsh,hsp⟩:=iT h;have hcl:=ik hm;have ht:j.tot=j.model.tot+(j.act.tot+0):=rfl;unfold wD;rw[A8 (by omega) hN,aa,h];simp only[Rq,cond_false];rw[kh (by omega) (by omega),aa,ab,if_pos (by omega),SS (by simp)]
theorem LS (xs:List Int) (n:Nat):(xs.drop n)[0]? =if n<xs.length then some (xs.getD n 0)else none:=by
 rw[RA,RS];by_cases c:n<xs.length
 ·rw[if_pos c,ag c,bE c]
 ·rw[if_neg c,RJ (by omega)]
theorem EO {xs:List Int} {n:Nat} (h:¬n<xs.length):xs.getD n 0=0:=by
 rw[RO,RJ (by omega)];rfl
theorem CP {k:Nat} {j:Job} (hk:j.tot+8<k) (hN:j.tot<=aQ) (h:ua j=true):qH k j=some (JF j):=by
 unfold qH JF;rw[GM hk hN h,aa,Et,ab,Sy];by_cases c:j.at_.toNat<(bq j.model).length
 ·rw[if_neg (by omega),ab,if_pos (by omega)];show(((bq j.model).drop j.at_.toNat)[0]?).bind _=_;rw[LS,if_pos c,aa]
 ·rw[if_pos (by omega),EO c]
theorem CQ {k:Nat} {j:Job} (hk:j.tot+8<k) (hN:j.tot<aQ) (h:ua j=true):qI k j=some (JF j):=by
 unfold qI JF;rw[GN hk hN h,aa,Et,ab,Sy];by_cases c:j.at_.toNat<(bq j.model).length
 ·rw[if_neg (by omega),s8,LS,if_pos c,aa]
 ·rw[if_pos (by omega),EO c]
theorem EP {k:Nat} {j:Job} (hk:j.tot<k) (hN:j.tot<=aQ):tu k j=some j:=by
 have ht:j.tot=j.model.tot+(j.act.data.length+0+0):=rfl;unfold tu;rw[p7 (by omega) (by omega),aa,mE (by omega) (by omega),aa]
def NH (j:Job):Job× Bool:=cond (ua j&&!(j.at_==(j.model.ar.length:Int))) (vk j,true) (j,false)
theorem ER {k:Nat} {j:Job} (hk:j.tot<k) (hN:j.tot<=aQ) (h:ua j=true):tv k j=some (j.at_==(j.model.ar.length:Int)):=by
 unfold tv;rw[qV hk hN,aa,h];rfl
theorem ES {j:Job} (h:ua j=true) (hd:j.at_≠(j.model.ar.length:Int)):j.model.ar[j.at_.toNat]? =some (yZ j)/\(yZ j).tot<=j.model.tot:=by
 obtain⟨hm,hat,hok,hsh,hsp⟩:=iT h
 have hi:j.at_.toNat<j.model.ar.length:=by omega
 unfold yZ;rw[bE hi];have:=fc ay.tot (Rp hi);exact⟨ag hi,by unfold Model.tot;omega⟩
theorem vU {k:Nat} {j:Job} (hk:j.tot+513<k) (hN:j.tot<=aQ):tA k j=some (NH j):=by
 have hM:=ao;have ht:j.tot=j.model.tot+(j.act.data.length+0+0):=rfl;unfold tA NH;rw[EP (by omega) hN,aa,qV (by omega) hN,aa];cases h:ua j
 ·rfl
 simp only[Rq,cond_false,Rs];rw[ER (by omega) hN h,aa,Et];obtain⟨hm,hat,hok,hsh,hsp⟩:=iT h;obtain⟨hlen,_⟩:=lk hm;by_cases c:j.at_=(j.model.ar.length:Int)
 ·rw[decide_eq_true c];rfl
 rw[decide_eq_false c];simp only[cond_false,RL,cond_true];obtain⟨hl,hlt⟩:=ES h c;rw[rX _ hat.1,hl,aa,tS (by omega) (by omega) (by omega) (by omega) (by omega),aa,CP (by omega) hN h,aa,aH (n:=j.at_+1) (by omega) (by omega)];rfl
end
section
end
section
theorem oT (b c:Bool):cond b (some c) (some false)=some (b&&c):=by cases b<;>rfl
theorem Od (a b:Int):decide (a>=b)=!decide (a<b):=by rw[<-decide_not];exact decide_eq_decide.2 (by omega)
theorem LU (a b:Int):decide (a>b)=!decide (a<=b):=by rw[<-decide_not];exact decide_eq_decide.2 (by omega)
theorem za {R:Type} (n:Nat) (p:Nat->Bool) {g:Int->(Int->Option R)->Option R} {yes no:Option R}
  (h:∀(i:Nat) (hi:i<n) (next:Int->Option R),g (i:Int) next=cond (p i) (next ((i+1:Nat):Int)) no)
  (hn:∀next,g (n:Int) next=yes) {k:Nat} (hk:n<k):iter g k 0=cond ((List.range n).all p) yes no:=
 jy (List.range n) p (g:=g) (yes:=yes) (no:=no) (λi hi next=>by rw[h i (by simpa using hi)];simp) (λnext=>by simpa using hn next) (by simpa using hk)
theorem oU {α β R:Type} (xs:List α) (p:α->Bool) (f:α->β) {g:Int× List β->(Int× List β->Option R)->Option R} {fin:List β->Option R}
  (h:∀(i:Nat) (ys:List β) (hi:i<xs.length) (next:Int× List β->Option R),ys.length<=i->g ((i:Int),ys) next=cond (p xs[i]) (next (((i+1:Nat):Int),ys++[f xs[i]])) (next (((i+1:Nat):Int),ys)))
  (hn:∀ys next,g ((xs.length:Int),ys) next=fin ys) {k:Nat} (hk:xs.length<k):iter g k (0,[])=fin ((xs.filter p).map f):=by
 have:=ep (g:=g) (st:=λi=>((i:Int),((xs.take i).filter p).map f)) (n:=xs.length) (r:=fin ((xs.filter p).map f)) (λi hi next=>by
  rw[h i _ hi next (by simp only[List.length_map];exact SJ (Tb _ _) (by simp;omega)),dq hi,S8,Sv];cases hp:p xs[i]
  ·simp[hp]
  ·simp[hp]) (λnext=>by rw[Sa];exact hn _ _) hk
 simpa using this
theorem zb {α:Type} {f:α->Int} {B:Int}:∀(xs:List α) (hf:∀x∈xs,0<=f x/\f x<=B),0<=(xs.map f).sum/\(xs.map f).sum<=B*xs.length
 |[],_=>by simp
 |x::xs,hf=>by
  have:=zb xs λy hy=>hf y (by simp[hy]);have h2:=hf x (by simp);simp only[RZ,S1,Rw];rw[Int.natCast_add,Int.mul_add];omega
theorem H5 {α R:Type} (xs:List α) (f:α->Int) {B:Int} (hf:∀x∈xs,0<=f x/\f x<=B) {g:Int× Int->(Int× Int->Option R)->Option R} {fin:Int->Option R}
  (h:∀(i:Nat) (s:Int) (hi:i<xs.length) (next:Int× Int->Option R),0<=s->s<=B*i->g (s,(i:Int)) next=next (s+f xs[i],((i+1:Nat):Int)))
  (hn:∀s next,g (s,(xs.length:Int)) next=fin s) {k:Nat} (hk:xs.length<k):iter g k (0,0)=fin ((xs.map f).sum):=by
 have:=ep (g:=g) (st:=λi=>(((xs.take i).map f).sum,(i:Int))) (n:=xs.length) (r:=fin ((xs.map f).sum)) (λi hi next=>by
  have hb:=zb (f:=f) (B:=B) (xs.take i) (λx hx=>hf x (To hx));rw[R2,TB (by omega)]at hb;rw[h i _ hi next hb.1 hb.2,dq hi,Sv,Td]
  simp) (λnext=>by rw[Sa];exact hn _ _) hk
 simpa using this
theorem ET {R:Type} (xs:List Int) (a:Nat) (ha:a<=xs.length) {B:Int} (hB:0<=B) (hf:∀x∈xs,0<=x/\x<=B) {g:Int× Int->(Int× Int->Option R)->Option R} {fin:Int->Option R}
  (h:∀(i:Nat) (s:Int) (hi:i<xs.length) (next:Int× Int->Option R),0<=s->s<=B*i->g (s,(i:Int)) next=next (s+xs[i],((i+1:Nat):Int)))
  (hn:∀s next,g (s,(xs.length:Int)) next=fin s) {k:Nat} (hk:xs.length<k):iter g k (0,(a:Int))=fin ((xs.drop a).sum):=by
 have:=ep (g:=g) (st:=λi=>(((xs.drop a).take i).sum,((a+i:Nat):Int))) (n:=xs.length-a) (r:=fin ((xs.drop a).sum)) (λi hi next=>by
  have hb:=zb (f:=λx:Int=>x) (B:=B) ((xs.drop a).take i) (λx hx=>hf x (List.mem_of_mem_drop (To hx)));rw[R2,Sy,TB (by omega),TL]at hb;have hle:B*(i:Int)<=B*((a+i:Nat):Int):=Int.mul_le_mul_of_nonneg_left (by omega) hB;rw[h (a+i) _ (by omega) next hb.1 (by omega),dq (show i<(xs.drop a).length by simp;omega),Td]
  simp[Sp]) (λnext=>by
   rw[show a+(xs.length-a)=xs.length by omega,SS (by simp)];exact hn _ _) (k:=k) (by omega)
 simpa using this
def ir (t:Task):Bool:=inB t.id 1 1000000&&(inB (t.av.length:Int) 1 6&&(inB t.at_ 0 ((t.av.length:Int)-1)&&(inB t.due 0 1000000&&(inB t.born 0 1000000&&t.av.all λx=>inB x 1 1000))))
theorem b8 {t:Task} (h:ir t=true):(1<=t.id/\t.id<=1000000)/\(1<=t.av.length/\t.av.length<=6)/\(0<=t.at_/\t.at_<t.av.length)/\(0<=t.due/\t.due<=1000000)/\(0<=t.born/\t.born<=1000000)/\∀x∈t.av,1<=x/\x<=1000:=by
 unfold ir inB at h;simp only[Rk,decide_eq_true_eq,SB]at h;obtain⟨h1,h2,h3,h4,h5,h6⟩:=h;exact⟨h1,by omega,by omega,h4,h5,h6⟩
theorem qd (k:Nat) (x:Int):j3 k x=some (inB x 0 1000000):=by unfold j3;rw[cF];rfl
theorem sr (k:Nat) (x:Int):mA k x=some (inB x 0 1000000):=by unfold mA;rw[fA];rfl
theorem zc {k:Nat} {t:Task} (hk:t.av.length<k) (hN:t.av.length<=aQ):tE k t=some (ir t):=by
 have hM:=ao;unfold tE ir;simp only[cF,qd,aa,cond_not]
 rw[aH (by omega) (by omega),jy t.av (λx=>inB x 1 1000) (yes:=some true) (no:=some false) (λi hi next=>by
  simp only[oF]
  rw[ab,if_pos (by omega),aC,ag hi,aa,cF,aa,cond_not,aq hi (by omega)]) (λnext=>by
  simp only[oF];rw[ab,if_neg (by omega)]) hk]
 simp only[oT,Tz]
theorem zd {k:Nat} {t:Task} (hk:t.av.length<k) (hN:t.av.length<=aQ):tG k t=some (ir t):=by
 have hM:=ao;unfold tG ca cu ir
 rw[eO t.av (λx=>!inB x 1 1000) (λi hi next=>by
  simp only[bm,ab,sa,fA,aa]
  rw[if_pos (by omega),aC,ag hi,aa,aq hi (by omega)]) (λnext=>by
  simp only[bm,ab];rw[if_neg (by omega)]) hk]
 rw[cR];simp only[fA,sr,aa,nE];rw[aH (by omega) (by omega),S3];simp only[TJ,oT]
 congr 1
 generalize inB t.id 1 1000000=a;generalize inB (t.av.length:Int) 1 6=b;generalize inB t.at_ 0 ((t.av.length:Int)-1)=c;generalize inB t.due 0 1000000=d;generalize inB t.born 0 1000000=e;generalize (t.av.all λx=>inB x 1 1000)=f;cases a<;>cases b<;>cases c<;>cases d<;>cases e<;>cases f<;>rfl
def ki (ts:List Task) (id:Int):Int:=(ts.findIdx? λt=>t.id==id).elim (-1) λi=>(i:Int)
theorem ln {k:Nat} {s:aj} {id:Int} (hk:s.tasks.length<k) (hN:s.tasks.length<=aQ):kB k s id=some (ki s.tasks id):=by
 have hM:=ao;unfold kB ki
 rw[eO s.tasks (λt=>t.id==id) (yes:=some (-1)) (no:=some) (λi hi next=>by
  simp only[qM]
  rw[ab,if_pos (by omega),aC,ag hi,aa,aq hi (by omega)]) (λnext=>by
  simp only[qM];rw[ab,if_neg (by omega)]) hk]
 exact cR _
theorem tT {k:Nat} {s:aj} {id:Int} (hk:s.tasks.length<k) (hN:s.tasks.length<=aQ):dc k s id=some (ki s.tasks id):=by
 have hM:=ao;unfold dc c7 ki
 rw[eO s.tasks (λt=>t.id==id) (yes:=some (-1)) (no:=some) (λi hi next=>by
  simp only[bM,jm,decide_true,cond_true,aa]
  rw[ab,if_pos (by omega),aC,ag hi,aa,aq hi (by omega)]) (λnext=>by
  simp only[bM,decide_true,cond_true];rw[ab,if_neg (by omega)]) hk]
 rw[cR];rfl
def gn (s:aj):Bool:=(List.range s.tasks.length).all λi=>(s.tasks[i]?).elim false λt=>ir t&&(decide (t.id<s.next)&&(decide (t.born<=s.now)&&(cond (decide (0<i)) ((s.tasks[i-1]?).elim false λu=>decide (u.id<t.id)) true)))
def J1 (s:aj):Bool:=cond (s.run==0) (s.left==0) ((s.tasks.findIdx? λt=>t.id==s.run).elim false λi=>(s.tasks[i]?).elim false λt=>(idx t.av t.at_).elim false λc=>inB s.left 1 c)
def ba (s:aj):Bool:=inB s.now 0 1000000&&(inB s.ai 0 1000&&(inB s.age 0 20&&(decide ((s.tasks.length:Int)<=12)&&(inB s.turns 0 1000000&&(inB s.next 1 1000000&&(gn s&&J1 s))))))
theorem cc {s:aj} (h:gn s=true) {i:Nat} (hi:i<s.tasks.length):ir s.tasks[i]=true/\s.tasks[i].id<s.next/\s.tasks[i].born<=s.now/\∀j,(hj:j+1=i)->s.tasks[j].id<s.tasks[i].id:=by
 unfold gn at h;rw[SB]at h;have:=h i (by simpa using hi);rw[ag hi,Rr]at this;simp only[Rk,decide_eq_true_eq]at this;obtain⟨h1,h2,h3,h4⟩:=this;refine⟨h1,h2,h3,λj hj=>?_⟩;subst hj;rw[decide_eq_true (by omega),cond_true,Nat.add_sub_cancel,ag (show j<s.tasks.length by omega),Rr]at h4;exact of_decide_eq_true h4
theorem H6 {s:aj} (h:gn s=true):∀(d i:Nat) (hd:i+d+1<s.tasks.length),s.tasks[i].id<s.tasks[i+d+1].id
 |0,i,hd=>(cc h hd).2.2.2 i rfl
 |d+1,i,hd=>Int.lt_trans (H6 h d i (by omega)) ((cc h (i:=i+(d+1)+1) hd).2.2.2 (i+d+1) (by omega))
theorem LV {s:aj} (h:gn s=true) {i j:Nat} (hi:i<s.tasks.length) (hj:j<s.tasks.length) (e:s.tasks[i].id=s.tasks[j].id):i=j:=by
 rcases Tl i j with c|c|c
 ·obtain⟨d,rfl⟩:∃d,j=i+d+1:=⟨j-i-1,by omega⟩;have:=H6 h d i hj;omega
 ·exact c
 ·obtain⟨d,rfl⟩:∃d,i=j+d+1:=⟨i-j-1,by omega⟩;have:=H6 h d j hi;omega
theorem CS {s:aj} (h:gn s=true) {i:Nat} (hi:i<s.tasks.length):(s.tasks.findIdx? λt=>t.id==s.tasks[i].id)=some i:=by
 cases e:s.tasks.findIdx? λt=>t.id==s.tasks[i].id with
 |none=>
  rw[SX]at e;have:=e _ (Rp hi)
  simp at this
 |some j=>
  obtain⟨hj,hp,_⟩:=Sx.1 e;rw[LV h hj hi (by simpa using hp)]
theorem qe {ts:List Task} {id:Int} {i:Nat} (h:(ts.findIdx? λt=>t.id==id)=some i):∃hi:i<ts.length,ts[i].id=id:=by
 obtain⟨hi,hp,_⟩:=Sx.1 h;exact⟨hi,by simpa using hp⟩
theorem H7 {s:aj} (h:gn s=true) (i:Nat) (hi:(s.tasks.findIdx? λt=>t.id==s.run)=some i):
  ((idx s.tasks (i:Int)).bind λe8=>(idx s.tasks (i:Int)).bind λe9=>(idx e8.av e9.at_).bind λe10=>some (inB s.left (1:Int) e10))=
  some ((s.tasks[i]?).elim false λt=>(idx t.av t.at_).elim false λc=>inB s.left 1 c):=by
 obtain⟨hl,_⟩:=qe hi;have ht:=b8 (cc h hl).1;rw[aC,ag hl,aa,aa,Rr]
 have:idx s.tasks[i].av s.tasks[i].at_=some (s.tasks[i].av[s.tasks[i].at_.toNat]'(by omega)):=by
  rw[rX _ ht.2.2.1.1];exact ag _
 rw[this,aa,Rr]
theorem im {ts:List Task} {id:Int} {i:Nat} (h:(ts.findIdx? λt=>t.id==id)=some i):ki ts id=(i:Int):=by unfold ki;rw[h];rfl
theorem vl {ts:List Task} {id:Int} (h:(ts.findIdx? λt=>t.id==id)=none):ki ts id=-1:=by unfold ki;rw[h];rfl
theorem Bi {R:Type} {s:aj} {i:Nat} (hi:i<s.tasks.length) (hN:s.tasks.length<=aQ) {next no:Option R}:
  (cond (!ir s.tasks[i]) no (cond (decide (s.tasks[i].id>=s.next)) no (cond (decide (s.tasks[i].born>s.now)) no (cond (decide ((i:Int)>(0:Int))) ((idx s.tasks (IntKind.i64.wrap ((i:Int)-(1:Int)))).bind λe8=>cond (decide (e8.id>=s.tasks[i].id)) no next) next))))=
  cond ((s.tasks[i]?).elim false λt=>ir t&&(decide (t.id<s.next)&&(decide (t.born<=s.now)&&(cond (decide (0<i)) ((s.tasks[i-1]?).elim false λu=>decide (u.id<t.id)) true)))) next no:=by
 have hM:=ao;rw[ag hi,Rr,Od s.tasks[i].id s.next,LU s.tasks[i].born s.now];simp only[cond_not]
 cases i with
 |zero=>
  rw[decide_eq_false (show¬(((0:Nat):Int)>0) by omega),decide_eq_false (show¬(0<0) by omega)];simp only[cond_false,Tz]
  cases ir s.tasks[0]<;>cases decide (s.tasks[0].id<s.next)<;>cases decide (s.tasks[0].born<=s.now)<;>rfl
 |succ j=>
  rw[decide_eq_true (show(((j+1:Nat):Int)>0) by omega),decide_eq_true (show(0<j+1) by omega),aH (by omega) (by omega),show((j+1:Nat):Int)-1=(j:Int)from by omega,aC,Nat.add_sub_cancel,ag (show j<s.tasks.length by omega),aa,Rr,Od s.tasks[j].id];simp only[cond_true,cond_not];cases ir s.tasks[j+1]<;>cases decide (s.tasks[j+1].id<s.next)<;>cases decide (s.tasks[j+1].born<=s.now)<;>cases decide (s.tasks[j].id<s.tasks[j+1].id)<;>rfl
theorem dI {k:Nat} {s:aj} (hk:s.tot<k) (hN:s.tot<=aQ):eT k s=some (ba s):=by
 have hM:=ao;unfold aj.tot at hk hN;have hlen:=bu Task.tot s.tasks;unfold eT ba;rw[LU (s.tasks.length:Int) 12];simp only[cF,qd,aa,cond_not]
 rw[za s.tasks.length (λi=>(s.tasks[i]?).elim false λt=>ir t&&(decide (t.id<s.next)&&(decide (t.born<=s.now)&&(cond (decide (0<i)) ((s.tasks[i-1]?).elim false λu=>decide (u.id<t.id)) true)))) (λi hi next=>by
  have hm:=fc Task.tot (Rp hi);have hm0:s.tasks[i].tot=s.tasks[i].av.length+0:=rfl;simp only[mz];rw[ab,if_pos (by omega),aC,ag hi,aa,zc (by omega) (by omega),aa,aq hi (by omega)]
  exact(Bi hi (by omega)).trans (by rw[ag hi])) (λnext=>by
  simp only[mz];rw[ab,if_neg (by omega)]) (by omega)]
 rw[show((List.range s.tasks.length).all λi=>(s.tasks[i]?).elim false λt=>ir t&&(decide (t.id<s.next)&&(decide (t.born<=s.now)&&(cond (decide (0<i)) ((s.tasks[i-1]?).elim false λu=>decide (u.id<t.id)) true))))=gn s from rfl]
 have hr:gn s=true->cond (s.run==(0:Int)) (some (s.left==(0:Int))) (cond (decide (ki s.tasks s.run>=(0:Int))) ((idx s.tasks (ki s.tasks s.run)).bind λe11=>(idx s.tasks (ki s.tasks s.run)).bind λe12=>(idx e11.av e12.at_).bind λe13=>some (inB s.left (1:Int) e13)) (some false))=some (J1 s):=by
  intro h;unfold J1;cases s.run==0
  ·simp only[cond_false]
   cases hf:s.tasks.findIdx? λt=>t.id==s.run with
   |none=>rw[vl hf];rfl
   |some i=>rw[im hf,ab,if_pos (by omega),H7 h i hf];rfl
  ·rfl
 simp only[ln (s:=s) (id:=s.run) (k:=k) (by omega) (by omega),aa];cases h:gn s
 ·simp only[cond_false,R8];simp only[oT,Tn]
 ·simp only[cond_true,Rs,hr h,oT]
theorem CT {k:Nat} {s:aj} (hk:s.tot<k) (hN:s.tot<=aQ):gO k s=some (gn s&&decide ((s.tasks.length:Int)<=12)):=by
 have hM:=ao;unfold aj.tot at hk hN;have hlen:=bu Task.tot s.tasks;unfold gO
 rw[za s.tasks.length (λi=>(s.tasks[i]?).elim false λt=>ir t&&(decide (t.id<s.next)&&(decide (t.born<=s.now)&&(cond (decide (0<i)) ((s.tasks[i-1]?).elim false λu=>decide (u.id<t.id)) true)))) (λi hi next=>by
  have hm:=fc Task.tot (Rp hi);have hm0:s.tasks[i].tot=s.tasks[i].av.length+0:=rfl;simp only[fg];rw[ab,if_pos (by omega),aC,ag hi,aa,zd (by omega) (by omega),aa,aq hi (by omega)]
  exact(Bi hi (by omega)).trans (by rw[ag hi])) (λnext=>by
  simp only[fg];rw[ab,if_neg (by omega)]) (by omega)]
 exact oT _ _
theorem kj {k:Nat} {s:aj} (hk:s.tot<k) (hN:s.tot<=aQ):lO k s=some (ba s):=by
 have hM:=ao;have hk2:=hk;have hN2:=hN;unfold aj.tot at hk hN;have hlen:=bu Task.tot s.tasks;unfold lO ba;simp only[fA,sr,aa,cond_not,CT hk2 hN2,tT (s:=s) (id:=s.run) (k:=k) (by omega) (by omega)]
 have hr:gn s=true->cond (s.run==(0:Int)) (cond (s.run==(0:Int)) (some (s.left==(0:Int))) (some false)) (cond (decide (ki s.tasks s.run<(0:Int))) (cond (s.run==(0:Int)) (some (s.left==(0:Int))) (some false)) ((idx s.tasks (ki s.tasks s.run)).bind λe8=>(idx s.tasks (ki s.tasks s.run)).bind λe9=>(idx e8.av e9.at_).bind λe10=>some (inB s.left (1:Int) e10)))=some (J1 s):=by
  intro h;unfold J1;cases s.run==0
  ·simp only[cond_false]
   cases hf:s.tasks.findIdx? λt=>t.id==s.run with
   |none=>rw[vl hf];rfl
   |some i=>rw[im hf,ab,if_neg (by omega),H7 h i hf];rfl
  ·rfl
 cases h:gn s
 ·simp only[cond_false,R8];simp only[oT,Tn]
 ·rw[hr h];simp only[Rs,oT]
  congr 1
  generalize inB s.now 0 1000000=a;generalize inB s.ai 0 1000=b;generalize inB s.age 0 20=c;generalize decide ((s.tasks.length:Int)<=12)=d;generalize inB s.turns 0 1000000=e;generalize inB s.next 1 1000000=f;generalize J1 s=g;cases a<;>cases b<;>cases c<;>cases d<;>cases e<;>cases f<;>cases g<;>rfl
theorem bC {s:aj} (h:ba s=true):(0<=s.now/\s.now<=1000000)/\(0<=s.ai/\s.ai<=1000)/\(0<=s.age/\s.age<=20)/\s.tasks.length<=12/\(0<=s.turns/\s.turns<=1000000)/\(1<=s.next/\s.next<=1000000)/\gn s=true/\J1 s=true:=by
 unfold ba inB at h;simp only[Rk,decide_eq_true_eq]at h;obtain⟨h1,h2,h3,h4,h5,h6,h7,h8⟩:=h;exact⟨h1,h2,h3,by omega,h5,h6,h7,h8⟩
end
section
theorem qf {k:Nat} {s:aj} (hk:s.tot<k) (hN:s.tot<=aQ):lM k s=some s:=by
 have hM:=ao;unfold aj.tot at hk hN;have hlen:=bu Task.tot s.tasks;unfold lM
 refine(tb s.tasks (λt=>t) (g:=λu4 n4=>jZ k (s.now,s.ai,s.age,s.tasks,s.run,s.left,s.turns,s.next,(0:Int),(0:Int),(0:Int),(0:Int),(0:Int),(0:Int),(0:Int),s.now,s.ai,s.age,s.run,s.left,s.turns,s.next) u4 n4 (λy3=>some (⟨s.now,s.ai,s.age,y3,s.run,s.left,s.turns,s.next⟩:aj)))
  (fin:=λy3=>some (⟨s.now,s.ai,s.age,y3,s.run,s.left,s.turns,s.next⟩:aj)) (λi ys hi next hl=>by
  have hm:=fc Task.tot (Rp hi);have hm0:s.tasks[i].tot=s.tasks[i].av.length+0:=rfl;simp only[jZ]
  rw[ab,if_pos (by omega),aC,ag hi,aa,ke (by omega) (by omega),aa,cE (by omega),aq hi (by omega)]) (λys next=>by
  simp only[jZ];rw[ab,if_neg (by omega)]) (by omega)).trans ?_
 simp
theorem jr {k:Nat} {s:aj} (hk:s.tot<k) (hN:s.tot<=aQ):fv k s=some s:=by
 have hM:=ao;unfold aj.tot at hk hN;have hlen:=bu Task.tot s.tasks;unfold fv
 refine(tb s.tasks (λt=>t) (g:=λu4 n4=>eU k (s.tasks,(s.tasks.length:Int),s.now,s.ai,s.age,s.run,s.left,s.turns,s.next,(0:Int),(0:Int),(0:Int),(0:Int),(0:Int),(0:Int),(0:Int)) u4 n4 (λy3=>some (⟨s.now,s.ai,s.age,y3,s.run,s.left,s.turns,s.next⟩:aj)))
  (fin:=λy3=>some (⟨s.now,s.ai,s.age,y3,s.run,s.left,s.turns,s.next⟩:aj)) (λi ys hi next hl=>by
  have hm:=fc Task.tot (Rp hi);have hm0:s.tasks[i].tot=s.tasks[i].av.length+0:=rfl;simp only[eU]
  rw[ab,if_pos (by omega),aC,ag hi,aa,cS (by omega),aa,cE (by omega),aq hi (by omega)]) (λys next=>by
  simp only[eU];rw[ab,if_neg (by omega)]) (by omega)).trans ?_
 simp
def gp (t:Task):Int:=(t.av.drop t.at_.toNat).sum
def eY (t:Task):Int:=(idx t.av t.at_).getD 0
def dU (s:aj) (t:Task):Int:=cond (s.run==t.id) (gp t-eY t+s.left) (gp t)
theorem eZ {t:Task} (h:ir t=true):idx t.av t.at_=some (eY t)/\1<=eY t/\eY t<=1000:=by
 have ht:=b8 h
 have hlt:t.at_.toNat<t.av.length:=by omega
 have e:idx t.av t.at_=some t.av[t.at_.toNat]:=by rw[rX _ ht.2.2.1.1];exact ag hlt
 unfold eY;rw[e,SQ];exact⟨rfl,ht.2.2.2.2.2 _ (Rp hlt)⟩
theorem ze {t:Task} (h:ir t=true):eY t<=gp t/\gp t-eY t<=5000/\0<=gp t-eY t:=by
 have ht:=b8 h
 have hlt:t.at_.toNat<t.av.length:=by omega
 have e:idx t.av t.at_=some t.av[t.at_.toNat]:=by rw[rX _ ht.2.2.1.1];exact ag hlt
 have hc:eY t=t.av[t.at_.toNat]:=by unfold eY;rw[e];rfl
 have hb:=zb (f:=λx:Int=>x) (B:=1000) (t.av.drop (t.at_.toNat+1)) (λx hx=>by have:=ht.2.2.2.2.2 x (List.mem_of_mem_drop hx);omega);rw[TL,Sy]at hb;unfold gp;rw[gA hlt,S1,hc];omega
theorem qZ {s:aj} (h:ba s=true) {t:Task} (hm:t∈s.tasks) (hr:s.run=t.id):1<=s.left/\s.left<=eY t:=by
 have hs:=bC h;obtain⟨i,hi,rfl⟩:=RR.1 hm;have hT:=(cc hs.2.2.2.2.2.2.1 hi).1;have ht:=b8 hT;have hrun:=hs.2.2.2.2.2.2.2;unfold J1 at hrun
 have h0:(s.run==0)=false:=by rw[hr];simp;omega
 rw[h0,cond_false,hr,CS hs.2.2.2.2.2.2.1 hi,Rr,ag hi,Rr,(eZ hT).1,Rr]at hrun;exact of_decide_eq_true hrun
theorem zf {s:aj} (h:ba s=true) {t:Task} (hm:t∈s.tasks):0<=dU s t/\dU s t<=6000:=by
 have hs:=bC h;obtain⟨i,hi,e⟩:=RR.1 hm;have hT:ir t=true:=e▸(cc hs.2.2.2.2.2.2.1 hi).1;have hc:=eZ hT;have hb:=ze hT;unfold dU;cases hr:s.run==t.id
 ·simp only[cond_false];omega
 ·have:=qZ h hm (by simpa using hr);simp only[cond_true];omega
theorem CU {k:Nat} {s:aj} (hk:s.tot<k) (hN:s.tot<=aQ) (h:ba s=true) {t:Task} (hm:t∈s.tasks):qN k s t.id=some (dU s t):=by
  have hM:=ao;have hs:=bC h;obtain⟨i,hi,rfl⟩:=RR.1 hm;have hT:=(cc hs.2.2.2.2.2.2.1 hi).1;have ht:=b8 hT;have hlen:=bu Task.tot s.tasks;have htm:=fc Task.tot hm;have hm0:s.tasks[i].tot=s.tasks[i].av.length+0:=rfl;have hst:s.tot=fy Task.tot s.tasks+0:=rfl;have hc:=eZ hT;have hb:=ze hT;unfold qN;rw[ln (by omega) (by omega),aa,dI hk hN,aa,h,im (CS hs.2.2.2.2.2.2.1 hi)];simp only[Rq,cond_false];rw[ab,if_neg (by omega),aC,ag hi,aa]
  have hat:s.tasks[i].at_=((s.tasks[i].at_.toNat:Nat):Int):=by omega
  have e:=ET (R:=Int) s.tasks[i].av s.tasks[i].at_.toNat (by omega) (B:=1000) (by omega) (λx hx=>by have:=ht.2.2.2.2.2 x hx;omega)
    (g:=λu7 n7=>iI k (s.tasks[i].id,s.now,s.ai,s.age,s.tasks,s.run,s.left,s.turns,s.next,s.tasks[i].id,s.tasks[i].av,s.tasks[i].at_,s.tasks[i].due,s.tasks[i].born) u7 n7 (λy5=>cond (s.run==s.tasks[i].id) ((idx s.tasks[i].av s.tasks[i].at_).bind λe6=>some (IntKind.i64.wrap ((IntKind.i64.wrap (y5-e6))+s.left))) (some y5)))
    (fin:=λy5=>cond (s.run==s.tasks[i].id) ((idx s.tasks[i].av s.tasks[i].at_).bind λe6=>some (IntKind.i64.wrap ((IntKind.i64.wrap (y5-e6))+s.left))) (some y5))
    (λj z hj next h0 h1=>by
      have:=ht.2.2.2.2.2 _ (Rp hj);simp only[iI]
      rw[ab,if_pos (by omega),aC,ag hj,aa,aH (by omega) (by omega),aq hj (by omega)])
    (λz next=>by simp only[iI];rw[ab,if_neg (by omega)]) (k:=k) (by omega)
  rw[<-hat]at e;refine e.trans ?_;show cond _ _ _=some (dU s s.tasks[i]);unfold dU;rw[hc.1,aa];cases hr:s.run==s.tasks[i].id
  · rfl
  · have:=qZ h hm (by simpa using hr);simp only[cond_true];have e2:(s.tasks[i].av.drop s.tasks[i].at_.toNat).sum=gp s.tasks[i]:=rfl;rw[e2,aH (n:=gp s.tasks[i]-eY s.tasks[i]) (by omega) (by omega),aH (by omega) (by omega)]
theorem H8 {B:Int}:∀(xs:List Int) (s:Int) (hf:∀x∈xs,0<=x/\x<=B) (h0:0<=s) (h1:s+B*xs.length<=9223372036854775807),xs.foldl (λs x=>IntKind.i64.wrap (s+x)) s=s+xs.sum
 |[],s,_,_,_=>by simp
 |x::xs,s,hf,h0,h1=>by
  have hx:=hf x (by simp);rw[Rw,Int.natCast_add,Int.mul_add]at h1;have h2:0<=B*(xs.length:Int):=Tg (by omega) (by omega);rw[Sm,S1,aH (by omega) (by omega),H8 xs (s+x) (λy hy=>hf y (by simp[hy])) (by omega) (by omega)];omega
theorem GO {k:Nat} {s:aj} (hk:s.tot<k) (hN:s.tot<=aQ) (h:ba s=true) {t:Task} (hm:t∈s.tasks):jB k s t=some (dU s t):=by
 have hM:=ao;have hs:=bC h;obtain⟨i,hi,rfl⟩:=RR.1 hm;have hT:=(cc hs.2.2.2.2.2.2.1 hi).1;have ht:=b8 hT;have htm:=fc Task.tot hm;have hm0:s.tasks[i].tot=s.tasks[i].av.length+0:=rfl;have hst:s.tot=fy Task.tot s.tasks+0:=rfl;have hc:=eZ hT;have hb:=ze hT;unfold jB;rw[ab,if_pos (by omega),SS (RE _),Cz (by simp;omega) (by simp;omega),aa,H8 (B:=1000) _ 0 (λx hx=>by have:=ht.2.2.2.2.2 x (List.mem_of_mem_drop hx);omega) (by omega) (by simp;omega),hc.1,aa,Int.zero_add];have e2:(s.tasks[i].av.drop s.tasks[i].at_.toNat).sum=gp s.tasks[i]:=rfl;rw[e2];unfold dU;cases hr:s.run==s.tasks[i].id
 ·rfl
 ·have:=qZ h hm (by simpa using hr);simp only[cond_true];rw[aH (n:=s.left-eY s.tasks[i]) (by omega) (by omega),aH (by omega) (by omega)]
  congr 1;omega
def tU (s:aj) (d:Int):Int:=(s.tasks.map λt=>cond (decide (t.due<=d)) (dU s t) 0).sum
def block (s:aj) (d:Int):Int:=(s.tasks.findIdx? λt=>t.id==s.run).elim 0 λi=>(s.tasks[i]?).elim 0 λt=>cond (decide (t.due>d)) s.left 0
theorem vm {s:aj} (h:ba s=true) (d:Int):∀t∈s.tasks,0<=cond (decide (t.due<=d)) (dU s t) 0/\cond (decide (t.due<=d)) (dU s t) 0<=6000:=λt ht=>by
 have:=zf h ht;cases decide (t.due<=d)
 ·simp
 ·simpa using this
theorem LW {s:aj} (h:ba s=true) (d:Int):0<=tU s d/\tU s d<=72000:=by
 have hs:=bC h;have:=zb (B:=6000) s.tasks (vm h d);unfold tU;omega
theorem CV {k:Nat} {s:aj} {d:Int} (hk:s.tot<k) (hN:s.tot<=aQ) (h:ba s=true):qO k s d=some (tU s d):=by
  have hM:=ao;have hs:=bC h;have hlen:=bu Task.tot s.tasks;have hst:s.tot=fy Task.tot s.tasks+0:=rfl;unfold qO;rw[dI hk hN,aa,h];simp only[Rq,cond_false]
  exact H5 s.tasks (λt=>cond (decide (t.due<=d)) (dU s t) 0) (B:=6000) (vm h d) (g:=λu6 n6=>iJ k (d,s.now,s.ai,s.age,s.tasks,s.run,s.left,s.turns,s.next) u6 n6 (λy5=>some y5)) (fin:=some)
    (λi z hi next h0 h1=>by
      have hr:=zf h (Rp hi);have e:=CU hk hN h (Rp hi);simp only[iJ];rw[ab,if_pos (by omega),aC,ag hi,aa,aq hi (by omega),aa];by_cases c:s.tasks[i].due<=d
      · rw[decide_eq_true c,cond_true,cond_true,show(⟨s.now,s.ai,s.age,s.tasks,s.run,s.left,s.turns,s.next⟩:aj)=s from rfl,e,aa,aH (by omega) (by omega)]
      · rw[decide_eq_false c,cond_false,cond_false,Int.add_zero])
    (λz next=>by simp only[iJ];rw[ab,if_neg (by omega)]) (by omega)
theorem GP {k:Nat} {s:aj} {d:Int} (hk:s.tot<k) (hN:s.tot<=aQ) (h:ba s=true):jC k s d=some (tU s d):=by
  have hM:=ao;have hs:=bC h;have hlen:=bu Task.tot s.tasks;have hst:s.tot=fy Task.tot s.tasks+0:=rfl;unfold jC
  exact H5 s.tasks (λt=>cond (decide (t.due<=d)) (dU s t) 0) (B:=6000) (vm h d) (g:=λu4 n4=>eV k (d,s.tasks,(s.tasks.length:Int),s.now,s.ai,s.age,s.tasks,s.run,s.left,s.turns,s.next) u4 n4 (λy3=>some y3)) (fin:=some)
    (λi z hi next h0 h1=>by
      have hr:=zf h (Rp hi);have e:=GO hk hN h (Rp hi);simp only[eV];rw[ab,if_pos (by omega),aC,ag hi,aa,aq hi (by omega)];by_cases c:s.tasks[i].due<=d
      · rw[decide_eq_true c,cond_true,cond_true,show(⟨s.now,s.ai,s.age,s.tasks,s.run,s.left,s.turns,s.next⟩:aj)=s from rfl,e,aa,aH (by omega) (by omega)]
      · rw[decide_eq_false c,cond_false,cond_false,Int.add_zero])
    (λz next=>by simp only[eV];rw[ab,if_neg (by omega)]) (by omega)
theorem NI {s:aj} (h:ba s=true) (d:Int):0<=block s d/\block s d<=1000:=by
 have hs:=bC h;unfold block
 cases hf:s.tasks.findIdx? λt=>t.id==s.run with
 |none=>exact⟨Int.le_refl _,by show(0:Int)<=1000;omega⟩
 |some i=>
  obtain⟨hi,hid⟩:=qe hf;have hT:=(cc hs.2.2.2.2.2.2.1 hi).1;have:=qZ h (Rp hi) hid.symm;have:=eZ hT;rw[Rr,ag hi,Rr];cases decide (s.tasks[i].due>d)
  ·exact⟨Int.le_refl _,by show(0:Int)<=1000;omega⟩
  ·simp only[cond_true];omega
theorem Bj {s:aj} {d:Int} (h:ba s=true):cond (decide (ki s.tasks s.run>=(0:Int))) ((idx s.tasks (ki s.tasks s.run)).bind λe3=>cond (decide (e3.due>d)) (some s.left) (some (0:Int))) (some (0:Int))=some (block s d):=by
 unfold block
 cases hf:s.tasks.findIdx? λt=>t.id==s.run with
 |none=>rw[vl hf];rfl
 |some i=>
  obtain⟨hi,_⟩:=qe hf;rw[im hf,ab,if_pos (by omega),aC,ag hi,aa,Rr,ag hi,Rr];cases decide (s.tasks[i].due>d)<;>rfl
theorem EU {k:Nat} {s:aj} {d:Int} (hk:s.tot<k) (hN:s.tot<=aQ) (h:ba s=true):tF k s d=some (block s d):=by
 have hlen:=bu Task.tot s.tasks;have hst:s.tot=fy Task.tot s.tasks+0:=rfl;unfold tF;rw[dI hk hN,aa,h];simp only[Rq,cond_false];rw[ln (by omega) (by omega),aa,Bj h]
theorem JG {k:Nat} {s:aj} {d:Int} (hk:s.tot<k) (hN:s.tot<=aQ) (h:ba s=true):kN k s d=some (block s d):=by
 have hlen:=bu Task.tot s.tasks;have hst:s.tot=fy Task.tot s.tasks+0:=rfl;unfold kN;rw[tT (by omega) (by omega),aa,Bj h]
def dY (s:aj) (t:Task):Bool:=decide (t.due<=s.now)
def GQ (s:aj) (t:Task):Bool:=decide (tU s t.due+block s t.due+s.ai<=t.due-s.now)
def zg (s:aj):Bool:=ba s&&s.tasks.all λt=>!dY s t&&GQ s t
theorem LY {α:Type} (p q:α->Bool):∀xs:List α,(xs.all p&&xs.all q)=xs.all λx=>p x&&q x
 |[]=>rfl
 |x::xs=>by
  rw[TV,TV,TV,<-LY p q xs];cases p x<;>cases q x<;>cases xs.all p<;>cases xs.all q<;>rfl
theorem GR {k:Nat} {s:aj} (hk:s.tot<k) (hN:s.tot<=aQ) (h:ba s=true):wE k s=some ((s.tasks.filter (dY s)).map (·.id)):=by
  have hM:=ao;have hlen:=bu Task.tot s.tasks;have hst:s.tot=fy Task.tot s.tasks+0:=rfl;unfold wE;rw[dI hk hN,aa,h];simp only[Rq,cond_false]
  exact oU s.tasks (dY s) (·.id) (g:=λu5 n5=>lN k (s.now,s.ai,s.age,s.tasks,s.run,s.left,s.turns,s.next) u5 n5 (λy4=>some y4)) (fin:=some)
    (λi ys hi next hl=>by
      simp only[lN];rw[ab,if_pos (by omega),aC,ag hi,aa,aq hi (by omega),aa,cE (by simp;omega)]
      rfl)
    (λys next=>by simp only[lN];rw[ab,if_neg (by omega)]) (by omega)
theorem LZ {s:aj} (h:ba s=true) {t:Task} (hm:t∈s.tasks):decide ((IntKind.i64.wrap ((IntKind.i64.wrap (tU s t.due+block s t.due))+s.ai))>(IntKind.i64.wrap (t.due-s.now)))=!GQ s t:=by
 have hs:=bC h;have hd:=LW h t.due;have hb:=NI h t.due;obtain⟨i,hi,e⟩:=RR.1 hm;have ht:=b8 (t:=t) (e▸(cc hs.2.2.2.2.2.2.1 hi).1);rw[aH (n:=tU s t.due+block s t.due) (by omega) (by omega),aH (n:=tU s t.due+block s t.due+s.ai) (by omega) (by omega),aH (by omega) (by omega),LU];rfl
theorem GS {k:Nat} {s:aj} (hk:s.tot<k) (hN:s.tot<=aQ):wF k s=some (zg s):=by
 have hM:=ao;have hlen:=bu Task.tot s.tasks;have hst:s.tot=fy Task.tot s.tasks+0:=rfl;unfold wF zg;rw[dI hk hN,aa];cases h:ba s
 ·rfl
 simp only[Rq,cond_false,Rs]
 rw[GR hk hN h,aa,jy s.tasks (GQ s) (yes:=some true) (no:=some false) (λi hi next=>by
  simp only[oG]
  rw[ab,if_pos (by omega),aC,ag hi,aa,show(⟨s.now,s.ai,s.age,s.tasks,s.run,s.left,s.turns,s.next⟩:aj)=s from rfl,CV hk hN h,aa,EU hk hN h,aa,LZ h (Rp hi),cond_not,aq hi (by omega)]) (λnext=>by
  simp only[oG];rw[ab,if_neg (by omega)]) (by omega)]
 rw[<-LY,List.length_map]
 have hz:decide (((s.tasks.filter (dY s)).length:Int)>0)=!(s.tasks.all λt=>!dY s t):=by
  cases ha:s.tasks.all λt=>!dY s t
  ·rw[List.all_eq_false]at ha;obtain⟨t,ht,hl⟩:=ha;have:0<(s.tasks.filter (dY s)).length:=List.length_pos_of_mem (Sd.2 ⟨ht,by simpa using hl⟩);rw[decide_eq_true (by omega)];rfl
  ·rw[SB]at ha
   have:s.tasks.filter (dY s)=[]:=List.filter_eq_nil_iff.2 λt ht=>by simpa using ha t ht
   rw[this];rfl
 rw[hz];cases s.tasks.all λt=>!dY s t
 ·rfl
 ·simp only[Rq,cond_false,Rs];cases s.tasks.all (GQ s)<;>rfl
theorem GU {k:Nat} {s:aj} (hk:s.tot<k) (hN:s.tot<=aQ):wG k s=some (zg s):=by
  have hM:=ao;have hlen:=bu Task.tot s.tasks;have hst:s.tot=fy Task.tot s.tasks+0:=rfl;unfold wG zg;rw[kj hk hN,aa];cases h:ba s
  · rfl
  simp only[cond_true,Rs];unfold cI cU;simp only[decide_true,cond_true]
  rw [eO s.tasks (λ t => !(!dY s t && GQ s t)) (yes := some (-1)) (no := some) (λ i hi next => by
    simp only[bH,decide_true,cond_true];rw[ab,if_pos (by omega),aC,ag hi,aa,show(⟨s.now,s.ai,s.age,s.tasks,s.run,s.left,s.turns,s.next⟩:aj)=s from rfl]
    have e:kO k s.tasks[i] s=some (!(!dY s s.tasks[i]&&GQ s s.tasks[i])):=by
      unfold kO cX;rw[aa,GP hk hN h,JG hk hN h];simp only[decide_true,cond_true,aa,LZ h (Rp hi)];unfold dY;cases decide (s.tasks[i].due<=s.now)<;>cases GQ s s.tasks[i]<;>rfl
    rw[e,aa,aq hi (by omega)]) (λnext=>by
    simp only[bH,decide_true,cond_true];rw[ab,if_neg (by omega)]) (by omega)]
  rw[cR];simp only[aa,nE];rw[S3];simp only[TJ]
def fa (s:aj) (av:List Int) (due:Int):aj× Int× Int:=
  cond (ba s&&ir ⟨s.next,av,0,due,s.now⟩)
    (cond ((s.tasks.length:Int)==12||s.next==1000000) (s,0,2)
      (cond (zg ⟨s.now,s.ai,s.age,s.tasks++[⟨s.next,av,0,due,s.now⟩],s.run,s.left,s.turns,s.next+1⟩)
        (⟨s.now,s.ai,s.age,s.tasks++[⟨s.next,av,0,due,s.now⟩],s.run,s.left,s.turns,s.next+1⟩,s.next,0) (s,0,3))) (s,0,1)
theorem JH {k:Nat} {s:aj} {av:List Int} {due:Int} (hk:s.tot+av.length+1<k) (hN:s.tot+av.length+1<=aQ):Cv k s av due=some (fa s av due):=by
 have hM:=ao;have hlen:=bu Task.tot s.tasks;have hst:s.tot=fy Task.tot s.tasks+0:=rfl;have hT:Task.tot ⟨s.next,av,0,due,s.now⟩=av.length+0:=rfl;unfold Cv fa;rw[qf (by omega) (by omega),aa,ke (by omega) (by omega),aa,dI (by omega) (by omega),aa,zc (t:=⟨s.next,av,0,due,s.now⟩) (by show av.length<k;omega) (by show av.length<=aQ;omega),aa];cases h:ba s
 ·rfl
 have hs:=bC h;simp only[Rq,cond_false,Rs];cases ir ⟨s.next,av,0,due,s.now⟩
 ·rfl
 simp only[Rq,cond_false,cond_true];cases((s.tasks.length:Int)==12)
 case true=>rfl
 cases(s.next==(1000000:Int))
 case true=>rfl
 simp only[cond_false,Bool.or_false]
 have ht2:aj.tot ⟨s.now,s.ai,s.age,s.tasks++[⟨s.next,av,0,due,s.now⟩],s.run,s.left,s.turns,s.next+1⟩=s.tot+(av.length+1):=by
  unfold aj.tot;simp only[rY,xO,hT];simp[fy]
 rw[cE (by omega),aH (by omega) (by omega),GS (by omega) (by omega),aa,cond_not];cases zg _<;>rfl
theorem JI {k:Nat} {s:aj} {av:List Int} {due:Int} (hk:s.tot+av.length+1<k) (hN:s.tot+av.length+1<=aQ):Cw k s av due=some (fa s av due):=by
 have hM:=ao;have hlen:=bu Task.tot s.tasks;have hst:s.tot=fy Task.tot s.tasks+0:=rfl;have hT:Task.tot ⟨s.next,av,0,due,s.now⟩=av.length+0:=rfl;unfold Cw fa;rw[cS (by omega),aa,jr (by omega) (by omega),aa,kj (by omega) (by omega),aa,zd (t:=⟨s.next,av,0,due,s.now⟩) (by show av.length<k;omega) (by show av.length<=aQ;omega),aa];cases h:ba s
 ·rfl
 have hs:=bC h;simp only[Rq,cond_false,Rs];cases ir ⟨s.next,av,0,due,s.now⟩
 ·rfl
 simp only[Rq,cond_false,cond_true];cases((s.tasks.length:Int)==12)
 case true=>rfl
 cases(s.next==(1000000:Int))
 case true=>rfl
 simp only[cond_false,Bool.or_false]
 have ht2:aj.tot ⟨s.now,s.ai,s.age,s.tasks++[⟨s.next,av,0,due,s.now⟩],s.run,s.left,s.turns,s.next+1⟩=s.tot+(av.length+1):=by
  unfold aj.tot;simp only[rY,xO,hT];simp[fy]
 rw[aa,cE (by omega),aH (by omega) (by omega),GU (by omega) (by omega),aa,cond_not];cases zg _<;>rfl
end
section
def PH (n:Nat) (t:Task):dE:=⟨t.id,n+1,t.at_,t.due,t.born⟩
def qg:Nat->List Task->List dE
 |_,[]=>[]
 |n,t::l=>PH n t::qg (n+5) l
theorem zi:∀(ts:List Task) (n:Nat),vG .task .cY n ts=some (qg n ts)
 |[],n=>rfl
 |t::l,n=>by
  have ih:=zi l (n+5);show((S.cY.eA (l9 n (Ms t))).bind λy=>(vG .task .cY (n+S.task.sz) l).bind λys=>some (y::ys))=_;rw[show S.task.sz=5 from rfl,ih];rfl
theorem ez:∀(ts:List Task) (n:Nat),(qg n ts).length=ts.length
 |[],n=>rfl
 |t::l,n=>by simp[qg,ez l]
theorem Bl:∀zs:List dE,C8 (dk .cY zs)=zs.map (·.av)
 |[]=>rfl
 |z::l=>by
  show C8 (Ab z++dk .cY l)=_;rw[RZ,<-Bl l];rfl
theorem EV:∀{l:List Nat},l.Nodup->gx l=true
 |[],_=>rfl
 |x::l,h=>by
  rw[Su]at h;simp only[gx];cases hm:mem x l
  ·exact EV h.2
  ·exact(h.1 ((mem_iff x l).1 hm)).elim
theorem Bm:∀(ts:List Task) (n:Nat),(∀z∈qg n ts,n<z.av)/\(qg n ts).Pairwise λa b=>a.av<b.av
 |[],n=>⟨(λz hz=>by simp[qg]at hz),List.Pairwise.nil⟩
 |t::l,n=>by
  obtain⟨h1,h2⟩:=Bm l (n+5);refine⟨λz hz=>?_,List.Pairwise.cons (λz hz=>?_) h2⟩
  ·rcases RI.1 hz with rfl|hz
   ·show n<n+1;omega
   ·have:=h1 z hz;omega
  ·have:=h1 z hz;show n+1<z.av;omega
theorem mJ {ts:List Task} {n:Nat} (q:dE->Bool):jk ((qg n ts).filter q)=true:=by
 have h:=((Bm ts n).2.filter q)
 have h2:gx (((qg n ts).filter q).map (·.av))=true:=by
  refine EV ?_;rw[List.Nodup,List.pairwise_map]
  exact h.imp λh e=>by omega
 unfold jk;exact(congrArg gx (Bl ((qg n ts).filter q))).trans h2
theorem JJ (C:List R) (y:dE) (l:List dE):v3 .task .cY C (y::l)=(uO C (Ab y)).bind λc=>(S.task.eA c).bind λx=>(v3 .task .cY C l).bind λxs=>some (x::xs):=rfl
theorem Bn (p:Task->Bool) (q:dE->Bool) (hq:∀n t,q (PH n t)=p t) (C:List R):∀(ts:List Task) (n:Nat),(∀(i:Nat) (h:i<ts.length),C[n+5*i]? =some (.ints ts[i].av))->
  v3 .task .cY C ((qg n ts).filter q)=some (ts.filter p)
 |[],n,_=>rfl
 |t::l,n,hC=>by
  have ih:=Bn p q hq C l (n+5) λi hi=>by
   have:=hC (i+1) (by simpa using hi);rw[show n+5+5*i=n+5*(i+1)from by omega,this];rfl
  have h0:C[n]? =some (.ints t.av):=by
   have:=hC 0 (by simp);simpa using this
  have e1:(qg n (t::l)).filter q=cond (p t) (PH n t::(qg (n+5) l).filter q) ((qg (n+5) l).filter q):=by
   simp only[qg,SY,hq];cases p t<;>rfl
  have e2:(t::l).filter p=cond (p t) (t::l.filter p) (l.filter p):=by
   rw[SY];cases p t<;>rfl
  refine(congrArg (v3 .task .cY C) e1).trans (Eq.trans ?_ (congrArg some e2.symm));clear e1 e2;cases p t
  ·exact ih
  ·have hc:uO C (Ab (PH n t))=some (Ms t):=by
    have hu:pL C (.tok (n+1))=some (.ints t.av):=by
     show(match C[n]? with|some (.sl t xs)=>some (R.sl t xs)|_=>none)=_;rw[h0]
    show((pL C (.i t.id)).bind λx=>((pL C (.tok (n+1))).bind λx=>((pL C (.i t.at_)).bind λx=>((pL C (.i t.due)).bind λx=>((pL C (.i t.born)).bind λx=>(some []).bind λxs=>some (x::xs)).bind λxs=>some (x::xs)).bind λxs=>some (x::xs)).bind λxs=>some (x::xs)).bind λxs=>some (x::xs))=_;rw[hu];rfl
   refine(JJ C (PH n t) _).trans ?_;rw[hc];exact congrArg (λr:Option (List Task)=>r.bind λxs=>some (t::xs)) ih
theorem CW (ts:List Task) (i:Nat) (h:i<ts.length):(dk .task ts)[1+5*i]? =some (.ints ts[i].av):=by
 have:=om (s:=.task) (xs:=ts) (i:=i) (j:=1) (r:=.ints ts[i].av) ⟨ts[i],ag h,rfl⟩;rw[show S.task.sz=5 from rfl]at this;rw[show 1+5*i=i*5+1 from by omega];exact this
theorem ra (ts:List Task):kA ts=some (qg 1 ts):=zi ts 1
theorem oV (ts:List Task) (p:Task->Bool) (q:dE->Bool) (hq:∀n t,q (PH n t)=p t):o5 ts ((qg 1 ts).filter q)=some (ts.filter p):=
 Bn p q hq _ ts 1 λi hi=>CW ts i hi
theorem jt {α R:Type} (xs:List α) (p:α->Bool) {g:Int× Int× List α->(Int× Int× List α->Option R)->Option R} {fin:Int× List α->Option R}
    (h:∀(i j:Nat) (ys:List α) (hj:j<xs.length) (next:Int× Int× List α->Option R),i<=j->ys.length=xs.length->ys[j]? =some xs[j]->
      g ((i:Int),(j:Int),ys) next=cond (p xs[j]) (next ((i:Int),((j+1:Nat):Int),ys)) (next (((i+1:Nat):Int),((j+1:Nat):Int),ys.set i xs[j])))
    (hn:∀(i:Nat) (ys:List α) next,ys.length=xs.length->g ((i:Int),(xs.length:Int),ys) next=fin ((i:Int),ys)):
    ∀ (d i j : Nat) (ys : List α) (k : Nat), j + d = xs.length -> d < k -> i <= j -> ys.length = xs.length -> ys.drop j = xs.drop j -> ys.take i = (xs.take j).filter (λ x => !p x) ->
      ∃(i':Nat) (ys':List α),i'<=xs.length/\ys'.length=xs.length/\ys'.take i'=xs.filter (λx=>!p x)/\iter g k ((i:Int),(j:Int),ys)=fin ((i':Int),ys')
  |d,i,j,ys,0,_,h2,_,_,_,_=>by omega
  | 0, i, j, ys, k + 1, h1, _, h3, h4, _, h6 => by
    have hj:j=xs.length:=by omega
    subst hj;refine⟨i,ys,h3,h4,by rw[h6,Sa],?_⟩
    rw[aG];exact hn i ys _ h4
  | d + 1, i, j, ys, k + 1, h1, h2, h3, h4, h5, h6 => by
    have hj:j<xs.length:=by omega
    have hg:ys[j]? =some xs[j]:=by
      have:(ys.drop j)[0]? =(xs.drop j)[0]? :=by rw[h5]
      rw[RA,RA,RS]at this;rw[this];exact ag hj
    rw[aG,h i j ys hj _ h3 h4 hg]
    have hdrop:∀zs:List α,(∀m,j<m->zs[m]? =ys[m]?)->zs.drop (j+1)=xs.drop (j+1):=λzs hz=>by
      apply List.ext_getElem?;intro m;rw[RA,RA,hz _ (by omega)]
      have:(ys.drop j)[m+1]? =(xs.drop j)[m+1]? :=by rw[h5]
      rw[RA,RA]at this;rw[show j+1+m=j+(m+1)from by omega];exact this
    cases hp:p xs[j]
    · simp only[cond_false];refine jt xs p h hn d (i+1) (j+1) (ys.set i xs[j]) k (by omega) (by omega) (by omega) (by simp[h4]) (hdrop _ λm hm=>SR (by omega)) ?_;rw[dq hj,S8,<-h6]
      have hi:i<ys.length:=by omega
      rw[dq (show i<(ys.set i xs[j]).length by simp;omega),List.take_set_of_le (RE _)];simp[hp]
    · simp only[cond_true];refine jt xs p h hn d i (j+1) ys k (by omega) (by omega) (by omega) h4 (hdrop _ λm hm=>rfl) ?_;rw[dq hj,S8,<-h6];simp[hp]
theorem filter_none {α:Type} {p:α->Bool} {xs:List α} (h:xs.findIdx? p=none):xs.filter (λx=>!p x)=xs:=by
 rw[SX]at h
 exact SC.2 λx hx=>by rw[h x hx];rfl
theorem mK {α:Type} {p:α->Bool} {xs:List α} {i:Nat} (h:xs.findIdx? p=some i):i<xs.length/\xs.take i=(xs.take (i+1)).filter (λx=>!p x):=by
 obtain⟨hi,hp,hlt⟩:=Sx.1 h;refine⟨hi,?_⟩;rw[dq hi,S8]
 have h1:(xs.take i).filter (λx=>!p x)=xs.take i:=SC.2 λx hx=>by
  obtain⟨j,hj,rfl⟩:=RR.1 hx
  have hj':j<i:=by simp at hj;omega
  rw[List.getElem_take];have:=hlt j hj';simpa using this
 rw[h1];simp[hp]
theorem rb {α:Type} {ys:List α} {i n:Nat} (z:α) (hi:i<=n) (hy:ys.length=n):((ys.take i++List.replicate (n-i) z++ys.drop (i+(n-i))).take (i-0))=ys.take i/\(ys.take i++List.replicate (n-i) z++ys.drop (i+(n-i))).length=n:=by
 refine⟨?_,by simp;omega⟩;rw[R5,RH,SD (by simp;omega),List.take_take,Nat.min_self]
theorem zj {k:Nat} {zs:List dE} {id:Int} (hk:zs.length<k) (hN:zs.length<=aQ):bX k zs id=some ((zs.findIdx? λz=>z.id==id).elim (-1) λi=>(i:Int)):=by
 have hM:=ao;unfold bX
 rw[eO zs (λt=>t.id==id) (yes:=some (-1)) (no:=some) (λi hi next=>by
  simp only[bI,dQ,decide_true,cond_true,aa]
  rw[ab,if_pos (by omega),aC,ag hi,aa,aq hi (by omega)]) (λnext=>by
  simp only[bI,decide_true,cond_true];rw[ab,if_neg (by omega)]) hk]
 exact cR _
theorem o7 {k:Nat} {zs:List dE} {id:Int} (hk:zs.length<k) (hN:zs.length<=aQ):bf k zs id=some (zs.filter λz=>!(z.id==id)):=by
  have hM:=ao;unfold bf;rw[zj hk hN,aa]
  cases hf:zs.findIdx? λz=>z.id==id with
  | none =>
    rw[S6,filter_none hf]
    simp
  | some i =>
    obtain⟨hi,hfi⟩:=mK hf;rw[Rr,bG,if_neg (by omega),aq hi (by omega)];simp only[decide_true,cond_true]
    obtain⟨i',ys',h1,h2,h3,h4⟩:=jt zs (λz=>z.id==id) (R:=List dE) (g:=λu5 n5=>aS k id u5 n5 (λy4=>cond (decide (0<=y4.1/\y4.1<=(y4.2.length:Int))) (cond (decide (0<=y4.1/\y4.1<=(((y4.2).take y4.1.toNat++List.replicate (y4.2.length-y4.1.toNat) (⟨(0:Int),(0:Nat),(0:Int),(0:Int),(0:Int)⟩:dE)++(y4.2).drop (y4.1.toNat+(y4.2.length-y4.1.toNat))).length:Int))) (some (((y4.2).take y4.1.toNat++List.replicate (y4.2.length-y4.1.toNat) (⟨(0:Int),(0:Nat),(0:Int),(0:Int),(0:Int)⟩:dE)++(y4.2).drop (y4.1.toNat+(y4.2.length-y4.1.toNat))).take (y4.1.toNat-0))) none) none))
      (fin:=λy4=>cond (decide (0<=y4.1/\y4.1<=(y4.2.length:Int))) (cond (decide (0<=y4.1/\y4.1<=(((y4.2).take y4.1.toNat++List.replicate (y4.2.length-y4.1.toNat) (⟨(0:Int),(0:Nat),(0:Int),(0:Int),(0:Int)⟩:dE)++(y4.2).drop (y4.1.toNat+(y4.2.length-y4.1.toNat))).length:Int))) (some (((y4.2).take y4.1.toNat++List.replicate (y4.2.length-y4.1.toNat) (⟨(0:Int),(0:Nat),(0:Int),(0:Int),(0:Int)⟩:dE)++(y4.2).drop (y4.1.toNat+(y4.2.length-y4.1.toNat))).take (y4.1.toNat-0))) none) none)
      (λi j ys hj next hij hl hg=>by
        simp only[aS,dQ,decide_true,cond_true,aa,hl]
        rw[ab,if_pos (by omega),ab,if_pos (by omega),Rm,hg,aa,cond_not,ab,if_pos (by omega),aq hj (by omega),aq (show i<zs.length by omega) (by omega),Rm])
      (λi ys next hl=>by simp only[aS,hl];rw[ab,if_neg (by omega)])
      (zs.length-(i+1)) i (i+1) zs k (by omega) (by omega) (by omega) rfl rfl hfi
    refine h4.trans ?_;obtain⟨c1,c2⟩:=rb (⟨0,0,0,0,0⟩:dE) h1 h2;simp only[Rm,h2];rw[c2,c1,ab,if_pos (by omega),ab,if_pos (by omega),h3]
theorem vV {k:Nat} {zs:List dE} {a b c d e f g id:Int} (hk:zs.length<k) (hN:zs.length<=aQ):fI k a b c zs d e f g id=some (zs.filter λz=>!(z.id==id)):=by
 have hM:=ao;unfold fI;simp only[decide_true,cond_true]
 refine(oU zs (λz=>!(z.id==id)) (λz=>z) (g:=λu4 n4=>gI k (id,a,b,c,d,e,f,g,zs) u4 n4 (λy3=>some y3)) (fin:=some) (λi ys hi next hl=>by
  simp only[gI];rw[ab,if_pos (by omega),ab,if_pos (by omega),Rm,ag hi,aa,ab,if_pos (by omega),aa,cE (by simp;omega),aq hi (by omega)]
  rfl) (λys next=>by
  simp only[gI];rw[ab,if_neg (by omega)]) hk).trans ?_
 simp
def J2 (ts:List Task) (id:Int):List Task:=ts.filter λt=>!(t.id==id)
def qh (s:aj) (id:Int):aj× Bool:=
 cond (ba s&&decide (0<=ki s.tasks id)) (⟨s.now,s.ai,s.age,J2 s.tasks id,cond (s.run==id) 0 s.run,cond (s.run==id) 0 s.left,s.turns,s.next⟩,true) (s,false)
theorem JK {k:Nat} {zs:List dE} {a b c d e f g id:Int} (hk:zs.length<k) (hN:zs.length<=aQ):dv k a b c zs d e f g id=some (zs.filter λz=>!(z.id==id),cond (d==id) 0 d,cond (d==id) 0 e):=by
 unfold dv;rw[o7 hk hN,aa];simp only[decide_true,cond_true];cases d==id<;>rfl
theorem qi {k:Nat} {s:aj} {id:Int} (hk:s.tot<k) (hN:s.tot<=aQ):j4 k s id=some (qh s id):=by
 have hlen:=bu Task.tot s.tasks;have hst:s.tot=fy Task.tot s.tasks+0:=rfl;unfold j4 qh;rw[qf hk hN,aa,dI hk hN,aa];cases ba s
 ·rfl
 simp only[Rq,cond_false,Rs];rw[ln (by omega) (by omega),aa];by_cases c:ki s.tasks id<0
 ·rw[decide_eq_true c,decide_eq_false (by omega)];rfl
 rw[decide_eq_false c,decide_eq_true (by omega)];simp only[cond_false,cond_true];rw[ra,aa,vV (by rw[ez];omega) (by rw[ez];omega),aa,mJ,cond_true,oV s.tasks (λt=>!(t.id==id)) (λz=>!(z.id==id)) (λn t=>rfl),aa];unfold J2;cases s.run==id<;>rfl
end
section
def EW (key:Task->Int):List Task->Option Task
 |[]=>none
 |x::xs=>some (xs.foldl (λm t=>cond (decide (key t<key m)) t m) x)
theorem rB (k:Nat) (a b:Int):dR k a b=some (cond (decide (a<b)) (-1) (cond (decide (a>b)) 1 0)):=by
 unfold dR kP;simp only[aa,bne_self_eq_false,cond_false];cases decide (a<b)<;>cases decide (a>b)<;>rfl
theorem EX {k:Nat} {a b:Int} (hk:3<k):nC k [a,b]=some (cond (a !=0) a b):=by
 obtain⟨k,rfl⟩:∃k',k=k'+3:=⟨k-3,by omega⟩;unfold nC;show cond (a !=0) (some a) (iter (λu4 n4=>kQ (k+3) ((0:Int),[a,b],(([a,b]:List Int).length:Int)) u4 n4 (λy2=>some (0:Int)) (λy3=>some y3)) (k+2) (IntKind.i64.wrap (0+1)))=_;cases h:a !=0
 ·rw[aH (n:=0+1) (by omega) (by omega)];show cond (b !=0) (some b) (iter (λu4 n4=>kQ (k+3) ((0:Int),[a,b],(([a,b]:List Int).length:Int)) u4 n4 (λy2=>some (0:Int)) (λy3=>some y3)) (k+1) (IntKind.i64.wrap (1+1)))=_;cases hb:b !=0
  ·have:b=0:=by simpa using hb
   subst this;rw[aH (n:=1+1) (by omega) (by omega)];rfl
  ·rfl
 ·rfl
theorem H9 {a b i j:Int} (h:j<i):decide (cond (cond (decide (a<b)) (-1) (cond (decide (a>b)) 1 0) !=(0:Int)) (cond (decide (a<b)) (-1) (cond (decide (a>b)) 1 0)) (cond (decide (i<j)) (-1) (cond (decide (i>j)) 1 0))<(0:Int))=decide (a<b):=by
 by_cases h1:a<b
 ·simp[h1]
 ·by_cases h2:a>b
  ·simp[h1,h2]
  ·simp[h1,h2,show¬i<j by omega,h]
theorem wK (key:Task->Int):∀(xs:List Task) (x:Task),xs.foldl (λm t=>cond (decide (key t<key m)) t m) x∈x::xs
 |[],x=>by simp
 |y::xs,x=>by
  rw[Sm];have:=wK key xs (cond (decide (key y<key x)) y x);cases h:decide (key y<key x)
  ·rw[h]at this;simp only[cond_false]at this⊢
   rcases RI.1 this with h|h
   ·rw[h];simp
   ·simp[h]
  ·rw[h]at this;simp only[cond_true]at this⊢
   rcases RI.1 this with h|h
   ·rw[h];simp
   ·simp[h]
theorem L0 {x:Task} {xs:List Task} (hp:(x::xs).Pairwise λa b=>a.id<b.id) {i:Nat} (hi:i<xs.length) {m:Task} (hm:m∈x::xs.take i):m.id<xs[i].id:=by
 rw[TE]at hp
 rcases RI.1 hm with rfl|hm
 ·exact hp.1 _ (Rp hi)
 ·obtain⟨j,hj,rfl⟩:=RR.1 hm
  have hj':j<i:=by simp at hj;omega
  rw[List.getElem_take];exact(List.pairwise_iff_getElem.1 hp.2) j i (by omega) hi hj'
theorem EY {k:Nat} {x:Task} {xs:List Task} (hk:xs.length+2<k) (hN:xs.length<aQ) (hp:(x::xs).Pairwise λa b=>a.id<b.id):cw k (x::xs)=some (xs.foldl (λm t=>cond (decide (Task.born t<Task.born m)) t m) x):=by
 have hM:=ao;unfold cw;rw[ab,if_neg (by simp;omega),s8,ag (by simp),aa]
 have:=ep (g:=λu6 n6=>br k (x::xs,(0:Int),(0:Int),(0:Int),(0:Int)) u6 n6 (λy5=>some (⟨y5.1,y5.2.1,y5.2.2.1,y5.2.2.2.1,y5.2.2.2.2⟩:Task)))
  (st:=λi=>let m:=(xs.take i).foldl (λm t=>cond (decide (Task.born t<Task.born m)) t m) x;(((i+1:Nat):Int),m.id,m.av,m.at_,m.due,m.born)) (n:=xs.length) (r:=some (xs.foldl (λm t=>cond (decide (Task.born t<Task.born m)) t m) x)) (λi hi next=>by
  have hmem:=wK Task.born (xs.take i) x;have hlt:=L0 hp hi hmem;rw[dq hi,Sc];generalize (xs.take i).foldl (λm t=>cond (decide (Task.born t<Task.born m)) t m) x=m at hlt;simp only[br,iM,iL,aa,rB,EX (show 3<k by omega)];rw[ab,if_pos (by simp;omega),aC,S2,ag hi,aa,aa,aH (by omega) (by omega),H9 hlt];simp only[Sm,List.foldl_nil]
  cases decide (Task.born xs[i]<Task.born m)<;>rfl) (λnext=>by
  rw[Sa];simp only[br]
  rw[ab,if_neg (by simp)]) (k:=k) (by omega)
 exact this
theorem CX {k:Nat} {x:Task} {xs:List Task} (hk:xs.length+2<k) (hN:xs.length<aQ) (hp:(x::xs).Pairwise λa b=>a.id<b.id):cl k (x::xs)=some (xs.foldl (λm t=>cond (decide (Task.due t<Task.due m)) t m) x):=by
 have hM:=ao;unfold cl;rw[ab,if_neg (by simp;omega),s8,ag (by simp),aa]
 have:=ep (g:=λu6 n6=>bg k (x::xs,(0:Int),(0:Int),(0:Int),(0:Int)) u6 n6 (λy5=>some (⟨y5.1,y5.2.1,y5.2.2.1,y5.2.2.2.1,y5.2.2.2.2⟩:Task)))
  (st:=λi=>let m:=(xs.take i).foldl (λm t=>cond (decide (Task.due t<Task.due m)) t m) x;(((i+1:Nat):Int),m.id,m.av,m.at_,m.due,m.born)) (n:=xs.length) (r:=some (xs.foldl (λm t=>cond (decide (Task.due t<Task.due m)) t m) x)) (λi hi next=>by
  have hmem:=wK Task.due (xs.take i) x;have hlt:=L0 hp hi hmem;rw[dq hi,Sc];generalize (xs.take i).foldl (λm t=>cond (decide (Task.due t<Task.due m)) t m) x=m at hlt;simp only[bg,gY,iO,aa,rB,EX (show 3<k by omega)];rw[ab,if_pos (by simp;omega),aC,S2,ag hi,aa,aa,aH (by omega) (by omega),H9 hlt];simp only[Sm,List.foldl_nil]
  cases decide (Task.due xs[i]<Task.due m)<;>rfl) (λnext=>by
  rw[Sa];simp only[bg]
  rw[ab,if_neg (by simp)]) (k:=k) (by omega)
 exact this
theorem zk {k:Nat} {xs:List Task} {s:aj} (hk:xs.length<k) (hN:xs.length<=aQ):bY k xs s=some ((xs.findIdx? λt=>!dY s t).elim (-1) λi=>(i:Int)):=by
 have hM:=ao;unfold bY;simp only[decide_true,cond_true]
 rw[eO xs (λt=>!dY s t) (yes:=some (-1)) (no:=some) (λi hi next=>by
  simp only[bJ,iK,cX,decide_true,cond_true,aa];rw[ab,if_pos (by omega),ab,if_pos (by omega),Rm,ag hi,aa,aq hi (by omega)]
  rfl) (λnext=>by
  simp only[bJ,decide_true,cond_true];rw[ab,if_neg (by omega)]) hk]
 exact cR _
theorem wc {k:Nat} {xs:List Task} {s:aj} (hk:xs.length<k) (hN:xs.length<=aQ):bS k xs s=some (xs.filter λt=>!(!dY s t)):=by
  have hM:=ao;unfold bS;rw[zk hk hN,aa]
  cases hf:xs.findIdx? λt=>!dY s t with
  | none =>
    rw[S6,filter_none hf]
    simp
  | some i =>
    obtain⟨hi,hfi⟩:=mK hf;rw[Rr,bG,if_neg (by omega),aq hi (by omega)];simp only[decide_true,cond_true]
    obtain⟨i',ys',h1,h2,h3,h4⟩:=jt xs (λt=>!dY s t) (R:=List Task) (g:=λu5 n5=>aT k (s.now,s.ai,s.age,s.tasks,s.run,s.left,s.turns,s.next) u5 n5 (λy4=>cond (decide (0<=y4.1/\y4.1<=(y4.2.length:Int))) (cond (decide (0<=y4.1/\y4.1<=(((y4.2).take y4.1.toNat++List.replicate (y4.2.length-y4.1.toNat) (⟨(0:Int),([]:List Int),(0:Int),(0:Int),(0:Int)⟩:Task)++(y4.2).drop (y4.1.toNat+(y4.2.length-y4.1.toNat))).length:Int))) (some (((y4.2).take y4.1.toNat++List.replicate (y4.2.length-y4.1.toNat) (⟨(0:Int),([]:List Int),(0:Int),(0:Int),(0:Int)⟩:Task)++(y4.2).drop (y4.1.toNat+(y4.2.length-y4.1.toNat))).take (y4.1.toNat-0))) none) none))
      (fin:=λy4=>cond (decide (0<=y4.1/\y4.1<=(y4.2.length:Int))) (cond (decide (0<=y4.1/\y4.1<=(((y4.2).take y4.1.toNat++List.replicate (y4.2.length-y4.1.toNat) (⟨(0:Int),([]:List Int),(0:Int),(0:Int),(0:Int)⟩:Task)++(y4.2).drop (y4.1.toNat+(y4.2.length-y4.1.toNat))).length:Int))) (some (((y4.2).take y4.1.toNat++List.replicate (y4.2.length-y4.1.toNat) (⟨(0:Int),([]:List Int),(0:Int),(0:Int),(0:Int)⟩:Task)++(y4.2).drop (y4.1.toNat+(y4.2.length-y4.1.toNat))).take (y4.1.toNat-0))) none) none)
      (λi j ys hj next hij hl hg=>by
        simp only[aT,gW,cX,decide_true,cond_true,aa,hl];rw[ab,if_pos (by omega),ab,if_pos (by omega),Rm,hg,aa,cond_not,ab,if_pos (by omega),aq hj (by omega),aq (show i<xs.length by omega) (by omega),Rm]
        rfl)
      (λi ys next hl=>by simp only[aT,hl];rw[ab,if_neg (by omega)])
      (xs.length-(i+1)) i (i+1) xs k (by omega) (by omega) (by omega) rfl rfl hfi
    refine h4.trans ?_;obtain⟨c1,c2⟩:=rb ((⟨(0:Int),([]:List Int),(0:Int),(0:Int),(0:Int)⟩:Task)) h1 h2;simp only[Rm,h2];rw[c2,c1,ab,if_pos (by omega),ab,if_pos (by omega),h3]
theorem zl {k:Nat} {xs:List Task} {s:aj} (hk:xs.length<k) (hN:xs.length<=aQ):bZ k xs s=some ((xs.findIdx? λt=>!(!dY s t)).elim (-1) λi=>(i:Int)):=by
 have hM:=ao;unfold bZ;simp only[decide_true,cond_true]
 rw[eO xs (λt=>!(!dY s t)) (yes:=some (-1)) (no:=some) (λi hi next=>by
  simp only[bK,gX,dS,eW,cX,decide_true,cond_true,aa];rw[ab,if_pos (by omega),ab,if_pos (by omega),Rm,ag hi,aa,aq hi (by omega)]
  rfl) (λnext=>by
  simp only[bK,decide_true,cond_true];rw[ab,if_neg (by omega)]) hk]
 exact cR _
theorem we {k:Nat} {xs:List Task} {s:aj} (hk:xs.length<k) (hN:xs.length<=aQ):bT k xs s=some (xs.filter λt=>!(!(!dY s t))):=by
  have hM:=ao;unfold bT;rw[zl hk hN,aa]
  cases hf:xs.findIdx? λt=>!(!dY s t)with
  | none =>
    rw[S6,filter_none hf]
    simp
  | some i =>
    obtain⟨hi,hfi⟩:=mK hf;rw[Rr,bG,if_neg (by omega),aq hi (by omega)];simp only[decide_true,cond_true]
    obtain⟨i',ys',h1,h2,h3,h4⟩:=jt xs (λt=>!(!dY s t)) (R:=List Task) (g:=λu5 n5=>aU k (s.now,s.ai,s.age,s.tasks,s.run,s.left,s.turns,s.next) u5 n5 (λy4=>cond (decide (0<=y4.1/\y4.1<=(y4.2.length:Int))) (cond (decide (0<=y4.1/\y4.1<=(((y4.2).take y4.1.toNat++List.replicate (y4.2.length-y4.1.toNat) (⟨(0:Int),([]:List Int),(0:Int),(0:Int),(0:Int)⟩:Task)++(y4.2).drop (y4.1.toNat+(y4.2.length-y4.1.toNat))).length:Int))) (some (((y4.2).take y4.1.toNat++List.replicate (y4.2.length-y4.1.toNat) (⟨(0:Int),([]:List Int),(0:Int),(0:Int),(0:Int)⟩:Task)++(y4.2).drop (y4.1.toNat+(y4.2.length-y4.1.toNat))).take (y4.1.toNat-0))) none) none))
      (fin:=λy4=>cond (decide (0<=y4.1/\y4.1<=(y4.2.length:Int))) (cond (decide (0<=y4.1/\y4.1<=(((y4.2).take y4.1.toNat++List.replicate (y4.2.length-y4.1.toNat) (⟨(0:Int),([]:List Int),(0:Int),(0:Int),(0:Int)⟩:Task)++(y4.2).drop (y4.1.toNat+(y4.2.length-y4.1.toNat))).length:Int))) (some (((y4.2).take y4.1.toNat++List.replicate (y4.2.length-y4.1.toNat) (⟨(0:Int),([]:List Int),(0:Int),(0:Int),(0:Int)⟩:Task)++(y4.2).drop (y4.1.toNat+(y4.2.length-y4.1.toNat))).take (y4.1.toNat-0))) none) none)
      (λi j ys hj next hij hl hg=>by
        simp only[aU,dS,dS,eW,cX,decide_true,cond_true,aa,hl];rw[ab,if_pos (by omega),ab,if_pos (by omega),Rm,hg,aa,cond_not,ab,if_pos (by omega),aq hj (by omega),aq (show i<xs.length by omega) (by omega),Rm]
        rfl)
      (λi ys next hl=>by simp only[aU,hl];rw[ab,if_neg (by omega)])
      (xs.length-(i+1)) i (i+1) xs k (by omega) (by omega) (by omega) rfl rfl hfi
    refine h4.trans ?_;obtain⟨c1,c2⟩:=rb ((⟨(0:Int),([]:List Int),(0:Int),(0:Int),(0:Int)⟩:Task)) h1 h2;simp only[Rm,h2];rw[c2,c1,ab,if_pos (by omega),ab,if_pos (by omega),h3]
theorem rC {k:Nat} {xs:List Task} (hx:xs.length<=aQ):cq k xs=some xs:=by
 unfold cq;rw[cE (by simpa using hx)]
 cases xs with
 |nil=>simp only[isNil,cond_true,RU];exact xZ _
 |cons x l=>rfl
theorem CY {s:aj} (h:gn s=true):s.tasks.Pairwise λa b=>a.id<b.id:=by
 rw[List.pairwise_iff_getElem];intro i j hi hj hij;obtain⟨d,rfl⟩:∃d,j=i+d+1:=⟨j-i-1,by omega⟩;exact H6 h d i hj
def zU (s:aj):Option Task:=EW Task.born (s.tasks.filter (dY s))
def nK (s:aj):Option Task:=EW Task.due (s.tasks.filter λt=>!dY s t)
theorem JL {k:Nat} {s:aj} (hk:s.tot+2<k) (hN:s.tot<aQ) (h:gn s=true):iN k s s=some ((zU s).elim 0 Task.id):=by
 have hM:=ao;have hlen:=bu Task.tot s.tasks;have hst:s.tot=fy Task.tot s.tasks+0:=rfl;have hf:=Tb (dY s) s.tasks;unfold iN zU;rw[rC (by omega),aa,wc (by omega) (by omega),aa];simp only[TJ]
 cases hq:s.tasks.filter (dY s)with
 |nil=>rfl
 |cons x xs=>
  rw[hq]at hf;have hp:=(CY h).filter (dY s);rw[hq]at hp;rw[bG,if_neg (by simp;omega),EY (by simp at hf;omega) (by simp at hf;omega) hp,aa];rfl
theorem GV {k:Nat} {s:aj} (hk:s.tot+2<k) (hN:s.tot<aQ) (h:gn s=true):gP k s s=some ((nK s).elim 0 Task.id):=by
 have hM:=ao;have hlen:=bu Task.tot s.tasks;have hst:s.tot=fy Task.tot s.tasks+0:=rfl;have hf:=Tb (λt=>!dY s t) s.tasks;unfold gP nK;rw[rC (by omega),aa,we (by omega) (by omega),aa];simp only[TJ,decide_true,cond_true]
 cases hq:s.tasks.filter λt=>!dY s t with
 |nil=>rfl
 |cons x xs=>
  rw[hq]at hf;have hp:=(CY h).filter λt=>!dY s t;rw[hq]at hp;rw[bG,if_neg (by simp;omega),CX (by simp at hf;omega) (by simp at hf;omega) hp,aa];rfl
def kn (s:aj):Int:=
 cond ((zU s).isSome&&(!(nK s).isSome||(decide (s.age>0)&&(s.turns.tmod s.age==0)))) ((zU s).elim 0 Task.id) ((nK s).elim 0 Task.id)
theorem nL {key:Task->Int} {xs:List Task} {t:Task} (h:EW key xs=some t):t∈xs:=by
 cases xs with
 |nil=>exact nomatch h
 |cons x xs=>
  simp only[EW,It]at h;rw[<-h];exact wK key xs x
theorem L3 {s:aj} (h:gn s=true) {t:Task} (ht:zU s=some t):1<=t.id:=by
 have:=(Sd.1 (nL ht)).1;obtain⟨i,hi,rfl⟩:=RR.1 this;exact(b8 (cc h hi).1).1.1
theorem wL {s:aj} (h:gn s=true) {t:Task} (ht:nK s=some t):1<=t.id:=by
 have:=(Sd.1 (nL ht)).1;obtain⟨i,hi,rfl⟩:=RR.1 this;exact(b8 (cc h hi).1).1.1
theorem L4 {k:Nat} {s:aj} (hk:s.tot+2<k) (hN:s.tot<aQ) (h:gn s=true):j5 k s=some (kn s):=by
 unfold j5 kn;rw[JL hk hN h,aa,GV hk hN h,aa]
 have hage:∀X:Option Int,(cond (decide (s.age>0)) (cond (decide (s.age=0)) none X) X)=X:=λX=>by
  by_cases c:s.age>0
  ·rw[decide_eq_true c,decide_eq_false (by omega)];rfl
  ·rw[decide_eq_false c];rfl
 cases hl:zU s with
 |none=>
  cases he:nK s with
  |none=>
   simp only[S6,Sq,R8,cond_false,bne_self_eq_false,beq_self_eq_true,cond_true];by_cases c:s.age>0
   ·rw[decide_eq_true c,decide_eq_false (by omega)];cases s.turns.tmod s.age==0<;>rfl
   ·rw[decide_eq_false c];rfl
  |some e=>
   have h2:=wL h he;simp only[S6,Rr,Sq,R8,cond_false,bne_self_eq_false,show(e.id==0)=false by simp;omega];by_cases c:s.age>0
   ·rw[decide_eq_true c,decide_eq_false (by omega)];cases s.turns.tmod s.age==0<;>rfl
   ·rw[decide_eq_false c];rfl
 |some l=>
  have h1:=L3 h hl
  cases he:nK s with
  |none=>
   simp only[S6,Rr,Sq,S9,RL,Bool.true_or,Rs,cond_true,beq_self_eq_true,show(l.id !=0)=true by simp;omega];by_cases c:s.age>0
   ·rw[decide_eq_true c,decide_eq_false (by omega)];cases s.turns.tmod s.age==0<;>rfl
   ·rw[decide_eq_false c];rfl
  |some e=>
   have h2:=wL h he;simp only[Rr,S9,Rq,TU,Rs,show(l.id !=0)=true by simp;omega,show(e.id==0)=false by simp;omega,cond_true,cond_false];by_cases c:s.age>0
   ·rw[decide_eq_true c,decide_eq_false (by omega)];cases s.turns.tmod s.age==0<;>rfl
   ·rw[decide_eq_false c];rfl
def better (key:Task->Int) (m:Option Task) (t:Task):Option Task:=m.elim (some t) λu=>cond (decide (key t<key u)) (some t) (some u)
theorem zm (key:Task->Int):∀(xs:List Task) (m:Task),xs.foldl (better key) (some m)=some (xs.foldl (λm t=>cond (decide (key t<key m)) t m) m)
 |[],m=>rfl
 |x::xs,m=>by
  rw[Sm,Sm,<-zm key xs]
  congr 1
  show cond (decide (key x<key m)) (some x) (some m)=_;cases decide (key x<key m)<;>rfl
theorem JM (key:Task->Int) (xs:List Task):xs.foldl (better key) none=EW key xs:=by
 cases xs with
 |nil=>rfl
 |cons x xs=>exact zm key xs x
def AtT (ts:List Task) (l:Int) (m:Option Task):Prop:=(m=none/\l=-1)\/∃(j:Nat) (hj:j<ts.length),l=(j:Int)/\m=some ts[j]
theorem EZ {R:Type} {k:Nat} {s:aj} {fin:Int× Int->Option R} (hN:s.tasks.length<=aQ):∀(d i:Nat) (l e:Int) (ml me:Option Task) (kf:Nat),i+d=s.tasks.length->d<kf->AtT s.tasks l ml->AtT s.tasks e me->
  ∃l' e',AtT s.tasks l' (((s.tasks.drop i).filter (dY s)).foldl (better Task.born) ml)/\AtT s.tasks e' (((s.tasks.drop i).filter λt=>!dY s t).foldl (better Task.due) me)/\
   iter (λu11 n11=>et k (s.now,s.ai,s.age,s.tasks,s.run,s.left,s.turns,s.next) u11 n11 fin) kf (l,e,(i:Int))=fin (l',e')
 |d,i,l,e,ml,me,0,_,h,_,_=>by omega
 |0,i,l,e,ml,me,kf+1,hi,_,hl,he=>by
  have:i=s.tasks.length:=by omega
  subst this;refine⟨l,e,by simpa using hl,by simpa using he,?_⟩;rw[aG];simp only[et]
  rw[ab,if_neg (by omega)]
 |d+1,i,l,e,ml,me,kf+1,hi,h,hl,he=>by
  have hM:=ao
  have hlt:i<s.tasks.length:=by omega
  have hself:AtT s.tasks (i:Int) (some s.tasks[i]):=.inr ⟨i,hlt,rfl,rfl⟩
  have hstep:∀(l2 e2:Int) (ml2 me2:Option Task),AtT s.tasks l2 ml2->AtT s.tasks e2 me2->ml2=cond (dY s s.tasks[i]) (better Task.born ml s.tasks[i]) ml->me2=cond (dY s s.tasks[i]) me (better Task.due me s.tasks[i])->
    (∀next:Int× Int× Int->Option R,et k (s.now,s.ai,s.age,s.tasks,s.run,s.left,s.turns,s.next) (l,e,(i:Int)) next fin=next (l2,e2,((i+1:Nat):Int)))->
    ∃l' e',AtT s.tasks l' (((s.tasks.drop i).filter (dY s)).foldl (better Task.born) ml)/\AtT s.tasks e' (((s.tasks.drop i).filter λt=>!dY s t).foldl (better Task.due) me)/\
     iter (λu11 n11=>et k (s.now,s.ai,s.age,s.tasks,s.run,s.left,s.turns,s.next) u11 n11 fin) (kf+1) (l,e,(i:Int))=fin (l',e'):=λl2 e2 ml2 me2 h1 h2 e1 e2' hg=>by
   obtain⟨l',e',g1,g2,g3⟩:=EZ (k:=k) (fin:=fin) hN d (i+1) l2 e2 ml2 me2 kf (by omega) (by omega) h1 h2;refine⟨l',e',?_,?_,?_⟩
   ·rw[gA hlt,SY];rw[e1]at g1;cases hb:dY s s.tasks[i]
    ·rw[hb]at g1;exact g1
    ·rw[hb]at g1;exact g1
   ·rw[gA hlt,SY];rw[e2']at g2;cases hb:dY s s.tasks[i]
    ·rw[hb]at g2;exact g2
    ·rw[hb]at g2;exact g2
   ·rw[aG,hg];exact g3
  have e0:∀next:Int× Int× Int->Option R,et k (s.now,s.ai,s.age,s.tasks,s.run,s.left,s.turns,s.next) (l,e,(i:Int)) next fin=
    cond (dY s s.tasks[i]) (cond (decide (l<(0:Int))) (next ((i:Int),e,((i+1:Nat):Int))) ((idx s.tasks l).bind λe3=>cond (decide (s.tasks[i].born<e3.born)) (next ((i:Int),e,((i+1:Nat):Int))) (next (l,e,((i+1:Nat):Int)))))
     (cond (decide (e<(0:Int))) (next (l,(i:Int),((i+1:Nat):Int))) ((idx s.tasks e).bind λe4=>cond (decide (s.tasks[i].due<e4.due)) (next (l,(i:Int),((i+1:Nat):Int))) (next (l,e,((i+1:Nat):Int))))):=λnext=>by
   simp only[et];rw[ab,if_pos (by omega),aC,ag hlt,aa,aq hlt (by omega)];rfl
  cases hb:dY s s.tasks[i]
  ·rcases he with⟨rfl,rfl⟩|⟨j,hj,rfl,rfl⟩
   ·exact hstep l (i:Int) ml (some s.tasks[i]) hl hself (by rw[hb];rfl) (by rw[hb];rfl) λnext=>by rw[e0,hb];rfl
   ·by_cases c:s.tasks[i].due<s.tasks[j].due
    ·exact hstep l (i:Int) ml (some s.tasks[i]) hl hself (by rw[hb];rfl) (by rw[hb];show _=cond (decide (s.tasks[i].due<s.tasks[j].due)) _ _;rw[decide_eq_true c];rfl) λnext=>by
      rw[e0,hb,cond_false,ab,if_neg (by omega),aC,ag hj,aa,decide_eq_true c];rfl
    ·exact hstep l (j:Int) ml (some s.tasks[j]) hl (.inr ⟨j,hj,rfl,rfl⟩) (by rw[hb];rfl) (by rw[hb];show _=cond (decide (s.tasks[i].due<s.tasks[j].due)) _ _;rw[decide_eq_false c];rfl) λnext=>by
      rw[e0,hb,cond_false,ab,if_neg (by omega),aC,ag hj,aa,decide_eq_false c];rfl
  ·rcases hl with⟨rfl,rfl⟩|⟨j,hj,rfl,rfl⟩
   ·exact hstep (i:Int) e (some s.tasks[i]) me hself he (by rw[hb];rfl) (by rw[hb];rfl) λnext=>by rw[e0,hb];rfl
   ·by_cases c:s.tasks[i].born<s.tasks[j].born
    ·exact hstep (i:Int) e (some s.tasks[i]) me hself he (by rw[hb];show _=cond (decide (s.tasks[i].born<s.tasks[j].born)) _ _;rw[decide_eq_true c];rfl) (by rw[hb];rfl) λnext=>by
      rw[e0,hb,cond_true,ab,if_neg (by omega),aC,ag hj,aa,decide_eq_true c];rfl
    ·exact hstep (j:Int) e (some s.tasks[j]) me (.inr ⟨j,hj,rfl,rfl⟩) he (by rw[hb];show _=cond (decide (s.tasks[i].born<s.tasks[j].born)) _ _;rw[decide_eq_false c];rfl) (by rw[hb];rfl) λnext=>by
      rw[e0,hb,cond_true,ab,if_neg (by omega),aC,ag hj,aa,decide_eq_false c];rfl
theorem CZ {k:Nat} {s:aj} (hk:s.tot<k) (hN:s.tot<=aQ) (h:ba s=true):qP k s=some (kn s):=by
 have hM:=ao;have hs:=bC h;have hlen:=bu Task.tot s.tasks;have hst:s.tot=fy Task.tot s.tasks+0:=rfl;unfold qP;rw[dI hk hN,aa,h];simp only[Rq,cond_false];obtain⟨l,e,hl,he,hi⟩:=EZ (R:=Int) (k:=k) (s:=s) (fin:=λy5=>cond (decide (y5.1>=(0:Int))) (cond (decide (y5.2<(0:Int))) ((idx s.tasks y5.1).bind λe6=>some e6.id) (cond (decide (s.age>(0:Int))) (cond (decide (s.age=0)) none (cond ((s.turns.tmod s.age)==(0:Int)) ((idx s.tasks y5.1).bind λe7=>some e7.id) (cond (decide (y5.2>=(0:Int))) ((idx s.tasks y5.2).bind λe8=>some e8.id) (some (0:Int))))) (cond (decide (y5.2>=(0:Int))) ((idx s.tasks y5.2).bind λe9=>some e9.id) (some (0:Int))))) (cond (decide (y5.2>=(0:Int))) ((idx s.tasks y5.2).bind λe10=>some e10.id) (some (0:Int)))) (by omega) s.tasks.length 0 (-1) (-1) none none k (by omega) (by omega) (.inl ⟨rfl,rfl⟩) (.inl ⟨rfl,rfl⟩);refine hi.trans ?_;rw[TG,JM]at hl he;unfold kn;have el:zU s=EW Task.born (s.tasks.filter (dY s)):=rfl;have ee:nK s=EW Task.due (s.tasks.filter λt=>!dY s t):=rfl;rw[<-el]at hl;rw[<-ee]at he
 rcases hl with⟨hl,rfl⟩|⟨j,hj,rfl,hl⟩
 ·rcases he with⟨he,rfl⟩|⟨j2,hj2,rfl,he⟩
  ·rw[hl,he];rfl
  ·rw[hl,he];simp only[Sq,R8,cond_false,Rr];rw[decide_eq_false (show¬((-1:Int)>=0) by omega),decide_eq_true (show((j2:Int)>=0) by omega),aC,ag hj2];rfl
 ·rcases he with⟨he,rfl⟩|⟨j2,hj2,rfl,he⟩
  ·rw[hl,he];rw[decide_eq_true (show((j:Int)>=0) by omega),aC,ag hj];rfl
  ·rw[hl,he];simp only[S9,Rq,TU,Rs,Rr];rw[decide_eq_true (show((j:Int)>=0) by omega),decide_eq_false (show¬((j2:Int)<0) by omega),decide_eq_true (show((j2:Int)>=0) by omega),aC,ag hj,aC,ag hj2];by_cases c:s.age>0
   ·rw[decide_eq_true c,decide_eq_false (show¬s.age=0 by omega)];cases s.turns.tmod s.age==0<;>rfl
   ·rw[decide_eq_false c];rfl
def ub (s:aj) (run left turns:Int):aj× Int× Bool:=
  cond (decide (left-1>0)) (⟨s.now+1,s.ai,s.age,s.tasks,run,left-1,turns,s.next⟩,0,false)
    ((s.tasks.findIdx? λt=>t.id==run).elim (s,0,false) λi=>(s.tasks[i]?).elim (s,0,false) λt=>
      cond (decide (t.at_+1<t.av.length)) (⟨s.now+1,s.ai,s.age,s.tasks.set i ⟨t.id,t.av,t.at_+1,t.due,t.born⟩,0,left-1,turns,s.next⟩,run,false)
        (⟨s.now+1,s.ai,s.age,J2 (s.tasks.set i ⟨t.id,t.av,t.at_+1,t.due,t.born⟩) run,0,left-1,turns,s.next⟩,run,true))
theorem zn {k:Nat} {s:aj} {run left turns:Int} (hk:s.tot<k) (hN:s.tot<=aQ) (h:ba s=true) (hl:1<=left/\left<=1000) {i:Nat} (hf:(s.tasks.findIdx? λt=>t.id==run)=some i):
  (cond (decide ((IntKind.i64.wrap (left-(1:Int)))>(0:Int))) (some ((⟨(IntKind.i64.wrap (s.now+(1:Int))),s.ai,s.age,s.tasks,run,(IntKind.i64.wrap (left-(1:Int))),turns,s.next⟩:aj),(0:Int),false)) ((kB k (⟨(IntKind.i64.wrap (s.now+(1:Int))),s.ai,s.age,s.tasks,run,(IntKind.i64.wrap (left-(1:Int))),turns,s.next⟩:aj) run).bind λr23=>cond (decide (0<=r23/\r23<(s.tasks.length:Int))) ((s.tasks[r23.toNat]?).bind λe24=>cond (decide (0<=r23/\r23<(s.tasks.length:Int))) ((s.tasks[r23.toNat]?).bind λe25=>cond (decide (0<=r23/\r23<((s.tasks.set r23.toNat (⟨e25.id,e25.av,(IntKind.i64.wrap (e24.at_+(1:Int))),e25.due,e25.born⟩:Task)).length:Int))) (((s.tasks.set r23.toNat (⟨e25.id,e25.av,(IntKind.i64.wrap (e24.at_+(1:Int))),e25.due,e25.born⟩:Task))[r23.toNat]?).bind λe26=>cond (decide (0<=r23/\r23<((s.tasks.set r23.toNat (⟨e25.id,e25.av,(IntKind.i64.wrap (e24.at_+(1:Int))),e25.due,e25.born⟩:Task)).length:Int))) (((s.tasks.set r23.toNat (⟨e25.id,e25.av,(IntKind.i64.wrap (e24.at_+(1:Int))),e25.due,e25.born⟩:Task))[r23.toNat]?).bind λe27=>cond (decide (e26.at_<(e27.av.length:Int))) (some ((⟨(IntKind.i64.wrap (s.now+(1:Int))),s.ai,s.age,(s.tasks.set r23.toNat (⟨e25.id,e25.av,(IntKind.i64.wrap (e24.at_+(1:Int))),e25.due,e25.born⟩:Task)),(0:Int),(IntKind.i64.wrap (left-(1:Int))),turns,s.next⟩:aj),run,false)) ((kA (s.tasks.set r23.toNat (⟨e25.id,e25.av,(IntKind.i64.wrap (e24.at_+(1:Int))),e25.due,e25.born⟩:Task))).bind λy28=>(fI k (IntKind.i64.wrap (s.now+(1:Int))) s.ai s.age y28 (0:Int) (IntKind.i64.wrap (left-(1:Int))) turns s.next run).bind λr29=>cond (jk r29) ((o5 (s.tasks.set r23.toNat (⟨e25.id,e25.av,(IntKind.i64.wrap (e24.at_+(1:Int))),e25.due,e25.born⟩:Task)) r29).bind λz30=>some ((⟨(IntKind.i64.wrap (s.now+(1:Int))),s.ai,s.age,z30,(0:Int),(IntKind.i64.wrap (left-(1:Int))),turns,s.next⟩:aj),run,true)) none)) none) none) none) none))=some (ub s run left turns):=by
 have hM:=ao;have hs:=bC h;have hlen:=bu Task.tot s.tasks;have hst:s.tot=fy Task.tot s.tasks+0:=rfl;obtain⟨hi,hid⟩:=qe hf;have ht:=b8 (cc hs.2.2.2.2.2.2.1 hi).1;unfold ub;rw[aH (n:=left-1) (by omega) (by omega),aH (n:=s.now+1) (by omega) (by omega)];by_cases c:left-1>0
 ·rw[decide_eq_true c];rfl
 rw[decide_eq_false c,cond_false,cond_false];rw[ln (by show s.tasks.length<k;omega) (by show s.tasks.length<=aQ;omega),aa];show(λr23:Int=>_) (ki s.tasks run)=_;rw[im hf];simp only[Rm,R6];rw[ab,if_pos (by omega),ag hi,aa,ab,if_pos (by omega),aa,ab,if_pos (by omega),Sj hi,aa,ab,if_pos (by omega),aa,hf,Rr,ag hi,Rr,aH (n:=s.tasks[i].at_+1) (by omega) (by omega)];simp only;by_cases c2:s.tasks[i].at_+1<(s.tasks[i].av.length:Int)
 ·rw[decide_eq_true c2];rfl
 rw[decide_eq_false c2,cond_false,cond_false,ra,aa,vV (by rw[ez,R6];omega) (by rw[ez,R6];omega),aa,mJ,cond_true,oV _ (λt=>!(t.id==run)) (λz=>!(z.id==run)) (λn t=>rfl),aa];rfl
theorem E0 {k:Nat} {s:aj} {run left turns:Int} (hk:s.tot<k) (hN:s.tot<=aQ) (h:ba s=true) (hl:1<=left/\left<=1000) {i:Nat} (hf:(s.tasks.findIdx? λt=>t.id==run)=some i):
  (cond (decide ((IntKind.i64.wrap (left-(1:Int)))>(0:Int))) (cond (decide (s.ai=s.ai)) (cond (decide (s.age=s.age)) (cond (decide (s.next=s.next)) (some (((0:Int),false),IntKind.i64.wrap (s.now+(1:Int)),s.tasks,run,IntKind.i64.wrap (left-(1:Int)),turns)) none) none) none) ((dc k (⟨(IntKind.i64.wrap (s.now+(1:Int))),s.ai,s.age,s.tasks,run,(IntKind.i64.wrap (left-(1:Int))),turns,s.next⟩:aj) run).bind λr1=>cond (decide (0<=r1/\r1<(s.tasks.length:Int))) ((s.tasks[r1.toNat]?).bind λe2=>(s.tasks[r1.toNat]?).bind λe3=>((s.tasks.set r1.toNat (⟨e3.id,e3.av,(IntKind.i64.wrap (e2.at_+(1:Int))),e3.due,e3.born⟩:Task))[r1.toNat]?).bind λe4=>((s.tasks.set r1.toNat (⟨e3.id,e3.av,(IntKind.i64.wrap (e2.at_+(1:Int))),e3.due,e3.born⟩:Task))[r1.toNat]?).bind λe5=>cond (decide (e4.at_<(e5.av.length:Int))) (cond (decide (s.ai=s.ai)) (cond (decide (s.age=s.age)) (cond (decide (s.next=s.next)) (some ((run,false),IntKind.i64.wrap (s.now+(1:Int)),s.tasks.set r1.toNat (⟨e3.id,e3.av,(IntKind.i64.wrap (e2.at_+(1:Int))),e3.due,e3.born⟩:Task),(0:Int),IntKind.i64.wrap (left-(1:Int)),turns)) none) none) none) ((kA (s.tasks.set r1.toNat (⟨e3.id,e3.av,(IntKind.i64.wrap (e2.at_+(1:Int))),e3.due,e3.born⟩:Task))).bind λy6=>(dv k (IntKind.i64.wrap (s.now+(1:Int))) s.ai s.age y6 (0:Int) (IntKind.i64.wrap (left-(1:Int))) turns s.next run).bind λr7=>cond (jk r7.1) ((o5 (s.tasks.set r1.toNat (⟨e3.id,e3.av,(IntKind.i64.wrap (e2.at_+(1:Int))),e3.due,e3.born⟩:Task)) r7.1).bind λz8=>cond (decide (s.ai=s.ai)) (cond (decide (s.age=s.age)) (cond (decide (s.next=s.next)) (some ((run,true),IntKind.i64.wrap (s.now+(1:Int)),z8,r7.2.1,r7.2.2,turns)) none) none) none) none)) none))=some (((ub s run left turns).2.1,(ub s run left turns).2.2),(ub s run left turns).1.now,(ub s run left turns).1.tasks,(ub s run left turns).1.run,(ub s run left turns).1.left,(ub s run left turns).1.turns):=by
 have hM:=ao;have hs:=bC h;have hlen:=bu Task.tot s.tasks;have hst:s.tot=fy Task.tot s.tasks+0:=rfl;obtain⟨hi,hid⟩:=qe hf;have ht:=b8 (cc hs.2.2.2.2.2.2.1 hi).1;unfold ub;simp only[decide_true,cond_true];rw[aH (n:=left-1) (by omega) (by omega),aH (n:=s.now+1) (by omega) (by omega)];by_cases c:left-1>0
 ·rw[decide_eq_true c];rfl
 rw[decide_eq_false c,cond_false,cond_false];rw[tT (by show s.tasks.length<k;omega) (by show s.tasks.length<=aQ;omega),aa];show(λr23:Int=>_) (ki s.tasks run)=_;rw[im hf];simp only[Rm,R6];rw[ab,if_pos (by omega),ag hi,aa,aa,Sj hi,aa,aa,hf,Rr,ag hi,Rr,aH (n:=s.tasks[i].at_+1) (by omega) (by omega)];simp only;by_cases c2:s.tasks[i].at_+1<(s.tasks[i].av.length:Int)
 ·rw[decide_eq_true c2];rfl
 rw[decide_eq_false c2,cond_false,cond_false,ra,aa,JK (by rw[ez,R6];omega) (by rw[ez,R6];omega),aa];simp only;rw[mJ,cond_true,oV _ (λt=>!(t.id==run)) (λz=>!(z.id==run)) (λn t=>rfl),aa]
 have hne:((0:Int)==run)=false:=by simp;omega
 rw[hne];rfl
def fj (s:aj) (GW:Bool):aj× Int× Bool:=
  cond (ba s&&!(s.now==1000000))
    (cond GW (⟨s.now+1,s.ai,s.age,s.tasks,s.run,s.left,s.turns,s.next⟩,0,false)
      (cond (s.run==0)
        (cond (kn s==0) (⟨s.now+1,s.ai,s.age,s.tasks,s.run,s.left,s.turns,s.next⟩,0,false)
          ((s.tasks.findIdx? λt=>t.id==kn s).elim (s,0,false) λi=>(s.tasks[i]?).elim (s,0,false) λt=>ub s (kn s) (eY t) (cond (decide (s.turns+1>1000000)) 0 (s.turns+1))))
        (ub s s.run s.left s.turns))) (s,0,false)
theorem zo {s:aj} (h:ba s=true) (hp:kn s≠0):∃(i:Nat) (hi:i<s.tasks.length),(s.tasks.findIdx? λt=>t.id==kn s)=some i/\s.tasks[i].id=kn s:=by
 have hs:=bC h
 have:∃t∈s.tasks,kn s=t.id:=by
  unfold kn at hp⊢
  cases hl:zU s with
  |none=>
   cases he:nK s with
   |none=>rw[hl,he]at hp;exact(hp rfl).elim
   |some e=>exact⟨e,(Sd.1 (nL he)).1,rfl⟩
  |some l=>
   cases he:nK s with
   |none=>exact⟨l,(Sd.1 (nL hl)).1,rfl⟩
   |some e=>
    simp only[S9,Rq,TU,Rs,Rr];cases(decide (s.age>0)&&(s.turns.tmod s.age==0))
    ·exact⟨e,(Sd.1 (nL he)).1,rfl⟩
    ·exact⟨l,(Sd.1 (nL hl)).1,rfl⟩
 obtain⟨t,ht,e⟩:=this;obtain⟨i,hi,rfl⟩:=RR.1 ht;exact⟨i,hi,by rw[e];exact CS hs.2.2.2.2.2.2.1 hi,e.symm⟩
theorem C0 {s:aj} (h:ba s=true) (hr:(s.run==0)=false):(1<=s.left/\s.left<=1000)/\∃i,(s.tasks.findIdx? λt=>t.id==s.run)=some i:=by
 have hs:=bC h;have hrun:=hs.2.2.2.2.2.2.2;unfold J1 at hrun;rw[hr,cond_false]at hrun
 cases hf:s.tasks.findIdx? λt=>t.id==s.run with
 |none=>rw[hf]at hrun;exact nomatch hrun
 |some i=>
  obtain⟨hi,hid⟩:=qe hf;have h1:=qZ h (Rp hi) hid.symm;have h2:=eZ (cc hs.2.2.2.2.2.2.1 hi).1;exact⟨by omega,i,rfl⟩
theorem zV {k:Nat} {s:aj} {st:Bool} (hk:s.tot<k) (hN:s.tot<=aQ):oH k s st=some (fj s st):=by
 have hM:=ao;have hlen:=bu Task.tot s.tasks;have hst:s.tot=fy Task.tot s.tasks+0:=rfl;unfold oH fj;rw[qf hk hN,aa,dI hk hN,aa];cases h:ba s
 ·rfl
 have hs:=bC h;simp only[Rq,cond_false,Rs];cases(s.now==(1000000:Int))
 case true=>rfl
 simp only[cond_false,RL,cond_true];cases st
 case true=>rw[aH (n:=s.now+1) (by omega) (by omega)];rfl
 simp only[cond_false];cases hr:s.run==0
 ·simp only[cond_false];obtain⟨hl,i,hf⟩:=C0 h hr;exact zn hk hN h hl hf
 simp only[cond_true];rw[CZ hk hN h,aa];by_cases hp:kn s=0
 ·rw[hp,aH (n:=s.now+1) (by omega) (by omega)];rfl
 rw[bG,if_neg hp,bG,if_neg hp];obtain⟨i,hi,hf,hid⟩:=zo h hp;have hc:=eZ (cc hs.2.2.2.2.2.2.1 hi).1;rw[ln (by show s.tasks.length<k;omega) (by show s.tasks.length<=aQ;omega),aa];show(λr4:Int=>_) (ki s.tasks (kn s))=_;rw[im hf];simp only[Rm];rw[ab,if_pos (by omega),ag hi,aa,hc.1,aa,hf,Rr,ag hi,Rr,aH (n:=s.turns+1) (by omega) (by omega)];by_cases ct:s.turns+1>1000000
 ·rw[decide_eq_true ct,cond_true,cond_true];exact zn hk hN h ⟨hc.2.1,hc.2.2⟩ hf
 ·rw[decide_eq_false ct,cond_false,cond_false];exact zn hk hN h ⟨hc.2.1,hc.2.2⟩ hf
theorem JN {k:Nat} {s:aj} (hk:s.tot+2<k) (hN:s.tot<aQ) (h:ba s=true):
  (kn s=0/\ed k s=some (false,s.run,s.left,s.turns))\/
  ∃(i:Nat) (hi:i<s.tasks.length),kn s≠0/\(s.tasks.findIdx? λt=>t.id==kn s)=some i/\ed k s=some (true,kn s,eY s.tasks[i],cond (decide (s.turns+1>1000000)) 0 (s.turns+1)):=by
 have hM:=ao;have hs:=bC h;have hlen:=bu Task.tot s.tasks;have hst:s.tot=fy Task.tot s.tasks+0:=rfl;unfold ed;rw[L4 hk hN hs.2.2.2.2.2.2.1,aa];simp only[decide_true,cond_true];by_cases hp:kn s=0
 ·exact .inl ⟨hp,by rw[hp];rfl⟩
 ·obtain⟨i,hi,hf,hid⟩:=zo h hp;have hc:=eZ (cc hs.2.2.2.2.2.2.1 hi).1;refine .inr ⟨i,hi,hp,hf,?_⟩;rw[bG,if_neg hp,tT (by omega) (by omega),aa,im hf,Rm,ab,if_pos (by omega),ag hi,aa,hc.1,aa,aH (n:=s.turns+1) (by omega) (by omega)];cases decide (s.turns+1>1000000)<;>rfl
theorem NJ (s:aj) (run left turns:Int) {i:Nat} (hf:(s.tasks.findIdx? λt=>t.id==run)=some i):(ub s run left turns).1.ai=s.ai/\(ub s run left turns).1.age=s.age/\(ub s run left turns).1.next=s.next:=by
 obtain⟨hi,_⟩:=qe hf;unfold ub;cases decide (left-1>0)
 ·rw[hf,cond_false,Rr,ag hi,Rr];cases decide (s.tasks[i].at_+1<(s.tasks[i].av.length:Int))<;>exact⟨rfl,rfl,rfl⟩
 ·exact⟨rfl,rfl,rfl⟩
theorem zW {k:Nat} {s:aj} {st:Bool} (hk:s.tot+2<k) (hN:s.tot<aQ):sb k s st=some (fj s st):=by
 have hM:=ao;have hlen:=bu Task.tot s.tasks;have hst:s.tot=fy Task.tot s.tasks+0:=rfl;unfold sb fj;rw[jr (by omega) (by omega),aa,kj (by omega) (by omega),aa];cases h:ba s
 ·rfl
 have hs:=bC h;simp only[Rq,cond_false,Rs];cases(s.now==(1000000:Int))
 case true=>rfl
 simp only[cond_false,RL,cond_true]
 have fin:∀(run left turns:Int) {i:Nat},(s.tasks.findIdx? λt=>t.id==run)=some i->(some (((ub s run left turns).2.1,(ub s run left turns).2.2),(ub s run left turns).1.now,(ub s run left turns).1.tasks,(ub s run left turns).1.run,(ub s run left turns).1.left,(ub s run left turns).1.turns)).bind (λr3:((Int× Bool)× Int× List Task× Int× Int× Int)=>some ((⟨r3.2.1,s.ai,s.age,r3.2.2.1,r3.2.2.2.1,r3.2.2.2.2.1,r3.2.2.2.2.2,s.next⟩:aj),r3.1.1,r3.1.2))=some (ub s run left turns):=λrun left turns i hf=>by
  obtain⟨g1,g2,g3⟩:=NJ s run left turns hf;generalize ub s run left turns=q at g1 g2 g3⊢;obtain⟨⟨a1,a2,a3,a4,a5,a6,a7,a8⟩,b,c⟩:=q;simp only at g1 g2 g3;subst g1 g2 g3;rfl
 unfold fJ;cases st
 case true=>rw[aH (n:=s.now+1) (by omega) (by omega)];simp only[decide_true,cond_true,Rq,cond_false,aa]
 simp only[RL,cond_true,cond_false];cases hr:s.run==0
 ·rw[show(s.run !=0)=true by rw[bne,hr];rfl];simp only[cond_true,cond_false];obtain⟨hl,i,hf⟩:=C0 h hr;have e:=E0 (k:=k) (turns:=s.turns) (by omega) (by omega) h hl hf;simp only[decide_true,cond_true]at e⊢;rw[e];exact fin _ _ _ hf
 rw[show(s.run !=0)=false by rw[bne,hr];rfl];simp only[cond_true,cond_false]
 rcases JN hk hN h with⟨hp,e⟩|⟨i,hi,hp,hf,e⟩
 ·rw[e,hp,aa,aH (n:=s.now+1) (by omega) (by omega)];simp only[decide_true,cond_true,RL,aa,beq_self_eq_true]
 ·have hc:=eZ (cc hs.2.2.2.2.2.2.1 hi).1;rw[e,aa,bG,if_neg hp];have e:=E0 (k:=k) (turns:=cond (decide (s.turns+1>1000000)) 0 (s.turns+1)) (by omega) (by omega) h ⟨hc.2.1,hc.2.2⟩ hf;simp only[decide_true,cond_true,Rq,cond_false]at e⊢;rw[e,hf,Rr,ag hi,Rr];exact fin _ _ _ hf
end
section
def Qn:aj:=⟨0,0,0,[],0,0,0,0⟩
def wM (ai age:Int):aj:=⟨0,ai,age,[],0,0,0,1⟩
theorem NK {k:Nat} {a b:Int} (hk:0<k):qQ k a b=some (cond (ba (wM a b)) (wM a b,true) (Qn,false)):=by
 unfold qQ;rw[dI (by exact hk) (by exact RX _),aa];show cond (!(ba (wM a b))) _ _=_;cases ba (wM a b)<;>rfl
theorem NL {k:Nat} {a b:Int} (hk:0<k):qR k a b=some (cond (ba (wM a b)) (wM a b,true) (Qn,false)):=by
 unfold qR;rw[kj (by exact hk) (by exact RX _),aa];show cond (!(ba (wM a b))) _ _=_;cases ba (wM a b)<;>rfl
end
section
def m7 {α:Type} (o:Option α) (Q:α->Prop):Prop:=∃r,o=some r/\Q r
theorem m7.bind {α β:Type} {o:Option α} {P:α->Prop} {f:α->Option β} {Q:β->Prop} (h:m7 o P) (hf:∀a,P a->m7 (f a) Q):m7 (o.bind f) Q:=by
 obtain⟨r,e,hp⟩:=h;rw[e];exact hf r hp
theorem m7.some {α:Type} {a:α} {Q:α->Prop} (h:Q a):m7 (some a) Q:=⟨a,rfl,h⟩
theorem m7.cond {α:Type} {b:Bool} {x y:Option α} {Q:α->Prop} (h1:b=true->m7 x Q) (h2:b=false->m7 y Q):m7 (cond b x y) Q:=by
 cases b
 ·exact h2 rfl
 ·exact h1 rfl
theorem m7.mono {α:Type} {o:Option α} {P Q:α->Prop} (h:m7 o P) (hq:∀a,P a->Q a):m7 o Q:=by
 obtain⟨r,e,hp⟩:=h;exact⟨r,e,hq r hp⟩
theorem m7.iter {V R:Type} {g:V->(V->Option R)->Option R} {Inv:V->Prop} {m:V->Nat} {Q:R->Prop}
  (h:∀(v:V) (next:V->Option R),Inv v->(∀u,Inv u->m u<m v->m7 (next u) Q)->m7 (g v next) Q):∀(k:Nat) (v:V),Inv v->m v<k->m7 (iter g k v) Q
 |0,v,_,hk=>by omega
 |k+1,v,hv,hk=>by
  rw[aG];exact h v _ hv λu hu hm=>m7.iter h k u hu (by omega)
end
section
theorem m7.ble {α:Type} {a b:Nat} {x y:Option α} {Q:α->Prop} (h:a<=b) (hx:m7 x Q):m7 (bif (Nat.ble a b)then x else y) Q:=by
 rw[SF h];exact hx
end
set_option maxRecDepth 100000
section
end
set_option maxRecDepth 100000
section
theorem zp (s:aj) (av:List Int) (due:Int):
  ((fa s av due).2.2=0/\0<(fa s av due).2.1/\ba s=true/\zg (fa s av due).1=true/\(fa s av due).1=⟨s.now,s.ai,s.age,s.tasks++[⟨s.next,av,0,due,s.now⟩],s.run,s.left,s.turns,s.next+1⟩)\/
  ((fa s av due).2.2≠0/\(fa s av due).2.1=0/\(fa s av due).1=s):=by
 unfold fa;cases h:ba s&&ir ⟨s.next,av,0,due,s.now⟩
 ·right;simp
 have hb:=(Sl.1 h).1;have hs:=bC hb;cases((s.tasks.length:Int)==12||s.next==1000000)
 ·cases hf:zg ⟨s.now,s.ai,s.age,s.tasks++[⟨s.next,av,0,due,s.now⟩],s.run,s.left,s.turns,s.next+1⟩
  ·right;simp
  ·left;simp only[cond_true,cond_false];exact⟨trivial,by omega,hb,hf,trivial⟩
 ·right;simp
end
end Go.Proofs.Ev
