/- Typed functions and what holds of them: part 2. -/
import Derived.Test.YtimmojehndbiiaaEvL1
set_option linter.unusedVariables false
set_option linter.unusedSimpArgs false
set_option linter.unusedSectionVars false
namespace Go.Proofs.Ev
open IntKind(i64 u8 u64)
set_option maxRecDepth 100000
set_option maxHeartbeats 4000000
section
section
variable {ds:List Int}
theorem AF {N:Nat} (hN:N<=1000000000000):∀(L k:Nat),N+21+L<k->gO ds N L (aP k)
 |0,_,_=>λP U V Q h hu hv=>by omega
 |L+1,0,h=>by omega
 |L+1,k+1,h=>vM (by omega) hN (AF hN L k (by omega))
theorem uH {N k:Nat} (hN:N<=1000000000000) (hk:2*N+21<k) {P U V Q:List Int} (hu:1<=U.length) (hv:1<=V.length) (hn:P.length+U.length+V.length+Q.length=N) (aU:kA ds U) (aV:kA ds V) (sU:Srt (LtD ds) U) (sV:Srt (LtD ds) V) (hA:kz ds U V)
  {a m b:Int} (ha:a=P.length) (hm:m=(P.length+U.length:Nat)) (hb:b=(P.length+U.length+V.length:Nat)):uG ds P U V Q (aP k (P++(U++(V++Q))) a m b ds):=by
 subst ha hm hb;exact AF hN N k (by omega) P U V Q (by omega) hu hv hn aU aV sU sV hA
theorem uI {R:Type} {fin:List Int->Option R} {k N:Nat} {a b i:Int} {v:Int} {P Q:List Int} {Qr:R->Prop} (hN:N<=4000000000000) (hv:InD ds v) (ha:a=P.length):∀(n:Nat) (W1 W2:List Int) (kf:Nat),W1.length=n->n<kf->P.length+W1.length+1+W2.length+Q.length=N->kA ds W1->Srt (LtD ds) (W1++W2)->kz ds W1 [v]->(∀y∈W2,LtD ds v y)->
    (∀W,W.Perm (W1++W2++[v])->Srt (LtD ds) W->aM (fin (P++(W++Q))) Qr)->
    aM (iter (λu7 n7=>aF k (a,b,i,ds) u7 n7 fin) kf (((P.length+W1.length:Nat):Int),P++(W1++v::(W2++Q)))) Qr
  |_,_,_,0,_,h,_,_,_,_,_,_=>by omega
  | n, W1, W2, kf + 1, hn, hk, hl, a1, s1, hA, h2, qD => by
    rw[bA]
    have stop:(∀x∈W1,LtD ds x v)->aM (fin (P++(W1++v::(W2++Q)))) Qr:=λh=>by
      have:=qD (W1++v::W2) (by
        refine(List.perm_middle).trans ?_
        exact(F4 (l₁:=[v]))) (by
        rw[dq]at s1
        exact dq.2 ⟨s1.1,FJ.2 ⟨h2,s1.2.1⟩,λx hx y hy=>(EZ.1 hy).elim (λe=>e▸h x hx) (λhy=>s1.2.2 x hx y hy)⟩)
      rwa [EK]at this
    show aM (aF k (a,b,i,ds) _ _ fin) Qr;unfold aF;simp only
    match n,W1,hn with
    | 0, [], _ =>
      rw[decide_eq_false (by simp;omega),cond_false]
      exact stop λx hx=>nomatch hx
    | n + 1, W1, hn =>
      obtain⟨V1,y,V2,rfl,hl1⟩:=rv W1 n (by omega);have hV2:V2=[]:=EU.1 (by simp at hn;omega);subst hV2
      have hlen:(P++(V1++[y]++v::(W2++Q))).length=P.length+V1.length+2+W2.length+Q.length:=by simp;omega
      have hz:(P.length+(V1++[y]).length:Nat)=P.length+V1.length+1:=by simp;omega
      rw[hz,decide_eq_true (by omega),cond_true,bY (n:=((P.length+V1.length+1:Nat):Int)-1) (by omega) (by omega),decide_eq_true (by omega),cond_true,
        show(((P.length+V1.length+1:Nat):Int)-1).toNat=P.length+V1.length from by omega,show((P.length+V1.length+1:Nat):Int).toNat=P.length+V1.length+1 from by omega]
      have h1:(P++(V1++[y]++v::(W2++Q)))[P.length+V1.length]? =some y:=by
        rw[show P++(V1++[y]++v::(W2++Q))=(P++V1)++y::(v::(W2++Q))from by simp];exact iI (by simp)
      have h3:(P++(V1++[y]++v::(W2++Q)))[P.length+V1.length+1]? =some v:=by
        rw[show P++(V1++[y]++v::(W2++Q))=(P++V1++[y])++v::(W2++Q)from by simp];exact iI (by simp;omega)
      have h4:((P++(V1++[y]++v::(W2++Q))).set (P.length+V1.length+1) y).set (P.length+V1.length) v=P++(V1++v::(y::W2++Q)):=by
        rw[show P++(V1++[y]++v::(W2++Q))=(P++V1++[y])++v::(W2++Q)from by simp,iJ (by simp;omega),show P++V1++[y]++y::(W2++Q)=(P++V1)++y::(y::(W2++Q))from by simp,iJ (by simp)];simp
      rw[h1,h3,aa,decide_eq_true (by omega),cond_true,aa];have iy:InD ds y:=a1 y (by simp);obtain⟨r,hr,hr2⟩:=uF (ds:=ds) (k:=k) hv iy;rw[hr,aa];have a2:kA ds V1:=(kA.app.1 a1).1;have s2:=s1;rw[dq,dq]at s2;by_cases q:r<0
      · rw [decide_eq_true q];simp only[cond_true,aa,h4]
        have ih:=uI (fin:=fin) (k:=k) (N:=N) (a:=a) (b:=b) (i:=i) (v:=v) (P:=P) (Q:=Q) (Qr:=Qr) hN hv ha n V1 (y::W2) kf hl1 (by omega) (by simp;omega) a2 (by simpa using s1) (λx hx z hz=>hA x (Fl _ hx) z hz)
          (λz hz=>by
            have lvy:=ry (pos:=id) (hr2.1 q)
            rcases EZ.1 hz with rfl|hz
            · exact lvy
            · exact h2 z hz)
          (λW p s=>qD W (by simpa using p) s)
        rw[show((P.length+V1.length+1:Nat):Int)-1=((P.length+V1.length:Nat):Int)from by omega];exact ih
      · rw[decide_eq_false q];simp only[cond_false];refine stop λx hx=>?_;have lyv:LtD ds y v:=hA.lt (by simp) (by simp) (by have:=mt hr2.2 q;omega)
        rcases Fz.1 hx with hx|hx
        · exact(s2.1.2.2 x hx y (by simp)).trans lyv
        · obtain rfl:=Fb.1 hx;exact lyv
theorem oJ {R:Type} {fin:List Int->Option R} {k N:Nat} {a b:Int} {P Q:List Int} {Qr:R->Prop} (hN:N<=4000000000000) (hkN:N+10<k) (ha:a=P.length):∀(V W:List Int) (kf:Nat),V.length<kf->b=(P.length+W.length+V.length:Nat)->P.length+W.length+V.length+Q.length=N->kA ds W->kA ds V->Srt (LtD ds) W->V.Pairwise (·<·)->(∀x∈W,∀y∈V,x<y)->
    (∀W',W'.Perm (W++V)->Srt (LtD ds) W'->aM (fin (P++(W'++Q))) Qr)->
    aM (iter (λu9 n9=>ae k (a,b,ds) u9 n9 fin) kf (((P.length+W.length:Nat):Int),P++(W++(V++Q)))) Qr
  |_,_,0,h,_,_,_,_,_,_,_,_=>by omega
  | [], W, kf + 1, _, hb, hn, _, _, sW, _, _, qD => by
    rw[bA];show aM (ae k (a,b,ds) _ _ fin) Qr;unfold ae;simp only;rw[decide_eq_false (by simp at hb;omega),cond_false]
    exact qD W (by simp) sW
  | v :: V, W, kf + 1, hk, hb, hn, aW, aV, sW, iV, hWV, qD => by
    simp only[E5]at hk hb hn;rw[bA];show aM (ae k (a,b,ds) _ _ fin) Qr;unfold ae;simp only;rw[decide_eq_true (by omega),cond_true];have hi:=FJ.1 iV
    have := uI (ds := ds) (k := k) (N := N) (a := a) (b := b) (i := ((P.length + W.length : Nat) : Int)) (v := v) (P := P) (Q := V ++ Q) (Qr := Qr) (fin := λ y6 => iter (λ u9 n9 => ae k (a, b, ds) u9 n9 fin) kf (i64.wrap (((P.length + W.length : Nat) : Int) + 1), y6)) hN (aV v (by simp)) ha W.length W [] k rfl (by omega) (by simp; omega) aW (by simpa using sW) (λ x hx y hy _ => by obtain rfl := Fb.1 hy; exact hWV x hx _ (by simp)) (λ y hy => nomatch hy)
      (λW1 p1 s1=>by
        simp only[EW]at p1
        have l1:W1.length=W.length+1:=by rw[p1.length_eq];simp
        rw[bY (by omega) (by omega),show((P.length+W.length:Nat):Int)+1=((P.length+W1.length:Nat):Int)from by omega];refine oJ hN hkN ha V W1 kf (by omega) (by omega) (by omega) (λx hx=>?_) (λx hx=>aV x (Fa _ hx)) s1 hi.2 (λx hx y hy=>?_) λW' p s=>?_
        · rcases Fz.1 (p1.mem_iff.1 hx)with h|h
          · exact aW x h
          · obtain rfl:=Fb.1 h;exact aV x (by simp)
        · rcases Fz.1 (p1.mem_iff.1 hx)with h|h
          · exact hWV x h y (Fa _ hy)
          · obtain rfl:=Fb.1 h;exact hi.1 y hy
        · exact qD W' (p.trans (by simpa using p1.append_right V)) s)
    exact this
theorem lG {k N:Nat} {a b:Int} {P U Q:List Int} (hN:N<=4000000000000) (hkN:N+10<k) (hn:P.length+U.length+Q.length=N) (ha:a=P.length) (hb:b=(P.length+U.length:Nat)) (aU:kA ds U) (iU:U.Pairwise (·<·)):
  aM (aN k (P++(U++Q)) a b ds) λr=>∃W,r=P++(W++Q)/\W.Perm U/\Srt (LtD ds) W:=by
 unfold aN
 match U with
 |[]=>
  obtain⟨kf,rfl⟩:∃kf,k=kf+1:=⟨k-1,by omega⟩;rw[bA];show aM (ae _ (a,b,ds) _ _ _) _;unfold ae;simp only;rw[bY (by omega) (by omega),decide_eq_false (by simp at hb;omega),cond_false]
  exact aM.must trivial (aM.some ⟨[],rfl,.refl _,List.Pairwise.nil⟩)
 |u::U=>
  simp only[E5]at hn hb;have hi:=FJ.1 iU;rw[bY (by omega) (by omega),show a+1=((P.length+[u].length:Nat):Int)from by simp;omega]
  exact oJ (ds:=ds) (N:=N) hN hkN ha U [u] k (by omega) (by simp;omega) (by simp;omega) (λx hx=>by obtain rfl:=Fb.1 hx;exact aU x (by simp)) (λx hx=>aU x (Fa _ hx)) (List.pairwise_singleton _ _) hi.2 (λx hx y hy=>by obtain rfl:=Fb.1 hx;exact hi.1 y hy)
   λW p s=>rB ⟨W,rfl,p,s⟩
end
end
set_option maxRecDepth 100000
set_option maxHeartbeats 4000000
section
section
variable {ds:List Int}
inductive Full (ds:List Int) (bs:Nat):List Int->List Int->Prop
 |nil:Full ds bs [] []
 |snoc {O A U W:List Int}:Full ds bs O A->U.length=bs->W.Perm U->Srt (LtD ds) W->Full ds bs (O++U) (A++W)
inductive rJ (ds:List Int) (bs:Nat):List Int->List Int->Prop
 |last {O L:List Int}:O.length<=bs->L.Perm O->Srt (LtD ds) L->rJ ds bs O L
 |cons {U W O L:List Int}:U.length=bs->W.Perm U->Srt (LtD ds) W->rJ ds bs O L->rJ ds bs (U++O) (W++L)
theorem Full.runs {bs:Nat} {O A:List Int} (h:Full ds bs O A):∀{O2 L:List Int},rJ ds bs O2 L->rJ ds bs (O++O2) (A++L):=by
 induction h with
 |nil=>exactλh=>h
 |snoc _ h1 h2 h3 ih=>
  intro O2 L h;rw[EK,EK];exact ih (.cons h1 h2 h3 h)
theorem Full.perm {bs:Nat} {O A:List Int} (h:Full ds bs O A):A.Perm O:=by
 induction h with
 |nil=>exact .refl _
 |snoc _ h1 h2 h3 ih=>exact ih.append h2
theorem rJ.perm {bs:Nat} {O L:List Int} (h:rJ ds bs O L):L.Perm O:=by
 induction h with
 |last _ h _=>exact h
 |cons _ h2 _ _ ih=>exact h2.append ih
theorem rJ.all {bs:Nat} {O L:List Int} (h:rJ ds bs O L) (hs:O.length<=bs):Srt (LtD ds) L:=by
 cases h with
 |last _ _ h=>exact h
 |cons h1 h2 h3 h4=>
  rename_i U W O L;rw[EM]at hs;have hO:O=[]:=EU.1 (by omega);have hL:L=[]:=EU.1 (by rw[h4.perm.length_eq,hO];rfl);rw[hL,EW];exact h3
theorem rJ.cut {bs:Nat} {O L:List Int} (h:rJ ds bs O L) (hs:bs<=O.length):∃U W O2 L2,O=U++O2/\L=W++L2/\U.length=bs/\W.Perm U/\Srt (LtD ds) W/\rJ ds bs O2 L2:=by
 cases h with
 |last h1 h2 h3=>exact⟨O,L,[],[],by simp,by simp,by omega,h2,h3,.last (by simp) (.refl _) List.Pairwise.nil⟩
 |cons h1 h2 h3 h4=>exact⟨_,_,_,_,rfl,rfl,h1,h2,h3,h4⟩
structure rC (ds O:List Int):Prop where
 all:kA ds O
 inc:O.Pairwise (·<·)
theorem rC.right {A B:List Int} (h:rC ds (A++B)):rC ds B:=⟨(kA.app.1 h.all).2,(FX.1 h.inc).2.1⟩
theorem rC.left {A B:List Int} (h:rC ds (A++B)):rC ds A:=⟨(kA.app.1 h.all).1,(FX.1 h.inc).1⟩
theorem rC.ahead {A B W V:List Int} (h:rC ds (A++B)) (hW:W.Perm A) (hV:V.Perm B):kz ds W V:=λx hx y hy _=>(FX.1 h.inc).2.2 x (hW.mem_iff.1 hx) y (hV.mem_iff.1 hy)
theorem kA.perm {A B:List Int} (h:kA ds B) (hp:A.Perm B):kA ds A:=λx hx=>h x (hp.mem_iff.1 hx)
theorem rD {R:Type} {fin:Int× List Int->Option R} {k N:Nat} {Qr:R->Prop} {O:List Int} (hN:N<=1000000000000) (hkN:2*N+100<k) (hO:rC ds O) (hl:O.length=N)
  (qD:∀O1 A B,O=O1++B->Full ds 20 O1 A->B.length<20->aM (fin ((A.length:Int),A++B)) Qr):
  aM (iter (λu10 n10=>bo k ((N:Int),(20:Int),ds) u10 n10 fin) k ((0:Int),(20:Int),O)) Qr:=by
 refine aM.iter (Inv:=λv=>∃O1 A B,O=O1++B/\Full ds 20 O1 A/\v=((A.length:Int),(A.length:Int)+20,A++B)) (m:=λv=>N-v.1.toNat) ?_ k _ ⟨[],[],O,rfl,.nil,rfl⟩ (by simp only;omega)
 rintro v next ⟨O1,A,B,hO1,hF,rfl⟩ hn
 unfold bo;simp only;have hp:=hF.perm.length_eq
 have hN1:A.length+B.length=N:=by rw[<-hl,hO1,EM];omega
 refine aM.cond (λc=>?_) λc=>?_
 ·have c:=of_decide_eq_true c;obtain⟨U,B2,rfl,hU⟩:=ky B 20 (by omega)
  have oB:rC ds (U++B2):=by rw[hO1]at hO;exact hO.right
  rw[EM]at hN1;have:=lG (ds:=ds) (k:=k) (N:=N) (a:=(A.length:Int)) (b:=(A.length:Int)+20) (P:=A) (U:=U) (Q:=B2) (by omega) (by omega) (by omega) rfl (by omega) oB.left.all oB.left.inc;refine aM.bind this ?_
  rintro r ⟨W,rfl,h1,h2⟩
  have lW:=h1.length_eq;refine hn _ ⟨O1++U,A++W,B2,by rw[hO1];simp,.snoc hF hU h1 h2,?_⟩ (by simp only;omega);rw[bY (by omega) (by omega),EM,EK]
  congr 1
  ·omega
  ·congr 1;omega
 ·have c:=of_decide_eq_false c;exact qD O1 A B hO1 hF (by omega)
theorem vN {R:Type} {fin:Int× List Int->Option R} {k N bs:Nat} {Qr:R->Prop} {O L:List Int} (hN:N<=1000000000000) (hkN:2*N+100<k) (hO:rC ds O) (hl:O.length=N) (hb:1<=bs) (hbN:bs<=N) (hL:rJ ds bs O L)
  (qD:∀O1 A O2 B,O=O1++O2->Full ds (2*bs) O1 A->rJ ds bs O2 B->O2.length<2*bs->aM (fin ((A.length:Int),A++B)) Qr):
  aM (iter (λu7 n7=>bp k ((N:Int),(bs:Int),ds) u7 n7 fin) k ((0:Int),i64.wrap ((2:Int)*(bs:Int)),L)) Qr:=by
 rw[bY (by omega) (by omega)];refine aM.iter (Inv:=λv=>∃O1 A O2 B,O=O1++O2/\Full ds (2*bs) O1 A/\rJ ds bs O2 B/\v=((A.length:Int),(A.length:Int)+2*bs,A++B)) (m:=λv=>N-v.1.toNat) ?_ k _ ⟨[],[],O,L,rfl,.nil,hL,by simp⟩ (by simp only;omega)
 rintro v next ⟨O1,A,O2,B,hO1,hF,hR,rfl⟩ hn
 unfold bp;simp only;have hp:=hF.perm.length_eq;have hq:=hR.perm.length_eq
 have hN1:A.length+B.length=N:=by rw[<-hl,hO1,EM];omega
 refine aM.cond (λc=>?_) λc=>?_
 ·have c:=of_decide_eq_true c;obtain⟨U,W,O3,B3,rfl,rfl,hU,pU,sU,hR2⟩:=hR.cut (by omega);have hq2:=hR2.perm.length_eq;have lU:=pU.length_eq;have lB:(W++B3).length=W.length+B3.length:=EM;obtain⟨U2,W2,O4,B4,rfl,rfl,hU2,pU2,sU2,hR4⟩:=hR2.cut (by omega);have lU2:=pU2.length_eq;have lB2:(W2++B4).length=W2.length+B4.length:=EM
  have oB:rC ds (U++(U2++O4)):=by rw[hO1]at hO;exact hO.right
  have oB2:rC ds (U++U2):=by rw[<-EK]at oB;exact oB.left
  obtain⟨V,e,pV,sV⟩:=uH (ds:=ds) (k:=k) (N:=N) hN (by omega) (P:=A) (U:=W) (V:=W2) (Q:=B4) (by omega) (by omega) (by omega) (oB.left.all.perm pU) (oB.right.left.all.perm pU2) sU sU2 (oB2.ahead pU pU2) (a:=(A.length:Int)) (m:=(A.length:Int)+(bs:Int)) (b:=(A.length:Int)+2*bs) rfl (by omega) (by omega);rw[bY (n:=(A.length:Int)+(bs:Int)) (by omega) (by omega),e,aa];have lV:=pV.length_eq;rw[EM]at lV;refine hn _ ⟨O1++(U++U2),A++V,O4,B4,by rw[hO1];simp,.snoc hF (by simp;omega) (pV.trans (pU.append pU2)) sV,hR4,?_⟩ (by simp only;omega);rw[bY (n:=(2:Int)*(bs:Int)) (by omega) (by omega),bY (by omega) (by omega),EM,EK]
  congr 1
  ·omega
  ·congr 1;omega
 ·have c:=of_decide_eq_false c;have:O2.length=B.length:=hq.symm;exact qD O1 A O2 B hO1 hF hR (by omega)
theorem yG {k N:Nat} {O:List Int} (hN:N<=1000000000000) (hkN:2*N+100<k) (hO:rC ds O) (hl:O.length=N):
  aM (bG k O (N:Int) ds) λr=>r.Perm O/\Srt (LtD ds) r:=by
 unfold bG;refine rD hN hkN hO hl λO1 A B hO1 hF hB=>?_;have hp:=hF.perm.length_eq
 have hN1:A.length+B.length=N:=by rw[<-hl,hO1,EM];omega
 have oB:rC ds B:=by rw[hO1]at hO;exact hO.right
 have h1:=lG (ds:=ds) (k:=k) (N:=N) (a:=(A.length:Int)) (b:=(N:Int)) (P:=A) (U:=B) (Q:=[]) (by omega) (by omega) (by simp;omega) rfl (by omega) oB.all oB.inc;rw[EW]at h1;refine aM.bind h1 ?_
 rintro r ⟨W,rfl,pW,sW⟩
 refine aM.iter (Inv:=λv=>∃(bs:Nat) (L:List Int),v=((bs:Int),L)/\1<=bs/\rJ ds bs O L) (m:=λv=>N-v.1.toNat) ?_ k _ ⟨20,A++(W++[]),rfl,by omega,by rw[EW,hO1];exact hF.runs (.last (by omega) pW sW)⟩ (by simp only;omega)
 rintro v next ⟨bs,L,rfl,hb,hR⟩ hn
 unfold bV;simp only;refine aM.cond (λc=>?_) λc=>?_
 ·have c:=of_decide_eq_true c;refine vN hN hkN hO hl hb (by omega) hR λO1 A O2 B hO1 hF hR2 hs=>?_;have hp:=hF.perm.length_eq;have hq:=hR2.perm.length_eq
  have hN1:A.length+B.length=N:=by rw[<-hl,hO1,EM];omega
  have oB:rC ds O2:=by rw[hO1]at hO;exact hO.right
  simp only;rw[bY (n:=(A.length:Int)+(bs:Int)) (by omega) (by omega),bY (n:=(bs:Int)*2) (by omega) (by omega),show(bs:Int)*2=((2*bs:Nat):Int)from by omega];refine aM.cond (λc=>?_) λc=>?_
  ·have c:=of_decide_eq_true c;obtain⟨U,W,O3,B3,rfl,rfl,hU,pU,sU,hR3⟩:=hR2.cut (by omega);have hq2:=hR3.perm.length_eq;have lU:=pU.length_eq;have lB:(W++B3).length=W.length+B3.length:=EM;have lO:(U++O3).length=U.length+O3.length:=EM;have sB:=hR3.all (by omega);obtain⟨V,e,pV,sV⟩:=uH (ds:=ds) (k:=k) (N:=N) hN (by omega) (P:=A) (U:=W) (V:=B3) (Q:=[]) (by omega) (by omega) (by simp;omega) (oB.left.all.perm pU) (oB.right.all.perm hR3.perm) sU sB (oB.ahead pU hR3.perm) (a:=(A.length:Int)) (m:=(A.length:Int)+(bs:Int)) (b:=(N:Int)) rfl (by omega) (by omega);rw[EW]at e;rw[e,aa,EW];exact hn _ ⟨2*bs,A++V,rfl,by omega,by rw[hO1];exact hF.runs (.last (by omega) (pV.trans (pU.append hR3.perm)) sV)⟩ (by simp only;omega)
  ·have c:=of_decide_eq_false c;exact hn _ ⟨2*bs,A++B,rfl,by omega,by rw[hO1];exact hF.runs (.last (by omega) hR2.perm (hR2.all (by omega)))⟩ (by simp only;omega)
 ·have c:=of_decide_eq_false c;exact aM.must (by trivial) (aM.some ⟨hR.perm,hR.all (by omega)⟩)
def upto (n:Nat):List Int:=(List.range n).map Int.ofNat
theorem m9 (n:Nat):upto (n+1)=upto n++[(n:Int)]:=by unfold upto;rw[List.range_succ,F2];rfl
theorem kB (n:Nat):(upto n).length=n:=by simp[upto]
theorem kC {n:Nat} {x:Int}:x∈upto n↔0<=x/\x<n:=by
 unfold upto;rw[List.mem_map];constructor
 ·rintro ⟨i,hi,rfl⟩
  rw[List.mem_range]at hi;simp;omega
 ·rintro ⟨h0,h1⟩
  exact⟨x.toNat,List.mem_range.2 (by omega),by simp;omega⟩
theorem uJ:∀n,(upto n).Pairwise (·<·)
 |0=>List.Pairwise.nil
 |n+1=>by
  rw[m9,FX];exact⟨uJ n,List.pairwise_singleton _ _,λx hx y hy=>by obtain rfl:=Fb.1 hy;exact(kC.1 hx).2⟩
theorem yH:rC ds (upto ds.length):=⟨λx hx=>kC.1 hx,uJ _⟩
end
end
set_option maxRecDepth 100000
set_option maxHeartbeats 4000000
section
section
variable {ds:List Int} {k:Nat}
theorem vO {R:Type} {i:Nat} {out:List Int} {fin:Bool× List Int->Option R} {Q:R->Prop} (hi:i<ds.length) (hp:out.Perm (upto i)) (hs:Srt (LtD ds) out) (hN:ds.length<=1048576) (hk:ds.length+10<k)
    (h0:(∀x∈out,ez ds x<=ez ds i)->aM (fin (false,out)) Q) (h1:∀A B,out=A++B->(∀x∈A,ez ds x<=ez ds i)->(∀x∈B,ez ds i<ez ds x)->aM (fin (true,A++(i:Int)::B)) Q):
    aM (iter (λu8 n8=>eE k (ds,(i:Int),out) u8 n8 fin) k (false,(0:Int),([]:List Int))) Q:=by
  have hM:=dp
  have lo:out.length=i:=by rw[hp.length_eq,kB]
  refine aM.iter (Inv:=λv=>∃X Y acc,out=X++Y/\v=(v.1,(X.length:Int),acc)/\((v.1=false/\acc=X/\∀x∈X,ez ds x<=ez ds i)\/(v.1=true/\∃A B,X=A++B/\acc=A++(i:Int)::B/\(∀x∈A,ez ds x<=ez ds i)/\∀x∈B++Y,ez ds i<ez ds x)))
    (m:=λv=>out.length-v.2.1.toNat) ?_ k _ ⟨[],out,[],rfl,rfl,.inl ⟨rfl,rfl,λx hx=>nomatch hx⟩⟩ (by simp only;omega)
  rintro ⟨b,j,acc'⟩ next ⟨X,Y,acc,hXY,hv,hinv⟩ hnx
  simp only[ER,true_and]at hv hinv;obtain⟨rfl,rfl⟩:=hv;unfold eE;simp only
  have lXY:X.length+Y.length=i:=by rw[<-lo,hXY,EM]
  match Y,hXY,hinv,lXY with
  | [], hXY, hinv, lXY =>
    rw[EW]at hXY;subst hXY;rw[decide_eq_false (by omega),cond_false]
    rcases hinv with⟨rfl,rfl,h⟩|⟨rfl,A,B,rfl,rfl,hA,hB⟩
    · exact h0 h
    · rw[EW]at hB
      exact h1 A B rfl hA hB
  | y :: Y, hXY, hinv, lXY =>
    simp only[E5]at lXY
    have hj:((X.length:Int)<(out.length:Int)):=by omega
    have hy:y∈out:=by rw[hXY];simp
    have iy:InD ds y:=by have:=kC.1 (hp.mem_iff.1 hy);exact⟨this.1,by omega⟩
    have ey:out[(X.length:Int).toNat]? =some y:=by
      rw[hXY];exact iI (by omega)
    have eX:X++y::Y=(X++[y])++Y:=by simp
    have kj:i64.wrap ((X.length:Int)+1)=((X++[y]).length:Int):=by rw[bY (by omega) (by omega),EM];simp
    rw[decide_eq_true hj,cond_true,kj]
    have e1:idx ds (i:Int)=some (ez ds i):=by rw[dn,bE hi];unfold ez;rw[show((i:Int)).toNat=i from by omega,cf hi]
    have e2:idx ds y=some (ez ds y):=by
      unfold InD at iy;rw[tq _ iy.1,bE (by omega)];unfold ez;rw[cf (by omega)]
    have go:∀(b:Bool) (a2:List Int),((b=false/\a2=X++[y]/\∀x∈X++[y],ez ds x<=ez ds i)\/(b=true/\∃A B,X++[y]=A++B/\a2=A++(i:Int)::B/\(∀x∈A,ez ds x<=ez ds i)/\∀x∈B++Y,ez ds i<ez ds x))->aM (next (b,((X++[y]).length:Int),a2)) Q:=λb a2 h=>
      hnx _ ⟨X++[y],Y,a2,by rw[hXY,eX],rfl,h⟩ (by simp only[EM,E5,Ga];omega)
    rcases hinv with⟨rfl,rfl,h⟩|⟨rfl,A,B,rfl,rfl,hA,hB⟩
    · simp only[Bool.not_false,cond_true];rw[e1,aa,decide_eq_true (by omega),cond_true,ey,aa,e2,aa];refine aM.cond (λc=>?_) λc=>?_
      · have c:=of_decide_eq_true c;refine aM.ble (by simp;omega) ?_;simp only[cond_true,aa];refine aM.ble (by simp;omega) ?_;refine go _ _ (.inr ⟨rfl,acc',[y],rfl,by simp,h,λx hx=>?_⟩);have hs2:=hs;rw[hXY,dq]at hs2
        rcases EZ.1 (show x∈y::Y from hx)with rfl|hx
        · exact c
        · have:=((FJ.1 hs2.2.1).1 x hx).le;omega
      · have c:=of_decide_eq_false c;simp only[cond_true,aa];refine aM.ble (by simp;omega) ?_;refine go _ _ (.inl ⟨rfl,rfl,λx hx=>?_⟩)
        rcases Fz.1 hx with hx|hx
        · exact h x hx
        · obtain rfl:=Fb.1 hx;omega
    · simp only[Gq,cond_false];rw[decide_eq_true (by omega),cond_true,ey,aa];simp only[EM]at lXY;refine aM.ble (by simp;omega) ?_;refine go _ _ (.inr ⟨rfl,A,B++[y],by simp,by simp,hA,λx hx=>hB x (by simpa using hx)⟩)
theorem lK (hn:ds.length<=1048576) (hk:ds.length+10<k):aM (gf k ds) λr=>r.Perm (upto ds.length)/\Srt (LtD ds) r:=by
 have hM:=dp;unfold gf;refine aM.iter (Inv:=λv=>∃(i:Nat) (W:List Int),i<=ds.length/\v=((i:Int),W)/\W.Perm (upto i)/\Srt (LtD ds) W) (m:=λv=>ds.length-v.1.toNat) ?_ k _ ⟨0,[],by omega,rfl,.refl _,List.Pairwise.nil⟩ (by simp only;omega)
 rintro v next ⟨i,W,hi,rfl,hp,hs⟩ hnx
 unfold gL;simp only
 have lo:W.length=i:=by rw[hp.length_eq,kB]
 have hlt:∀x∈W,x<(i:Int):=λx hx=>(kC.1 (hp.mem_iff.1 hx)).2
 have lt1:∀x∈W,ez ds x<=ez ds i->LtD ds x i:=λx hx h=>by
  have:=hlt x hx;unfold LtD Lt;simp only[id];omega
 refine aM.cond (λc=>?_) λc=>?_
 ·have c:=of_decide_eq_true c;rw[bY (n:=(i:Int)+1) (by omega) (by omega),show(i:Int)+1=((i+1:Nat):Int)from by omega];refine vO (by omega) hp hs hn hk (λh=>?_) λA B e hA hB=>?_
  ·simp only[Bool.not_false,cond_true];refine aM.ble (by simp;omega) ?_;refine hnx _ ⟨i+1,W++[(i:Int)],by omega,rfl,by rw[m9];exact hp.append_right _,dq.2 ⟨hs,List.pairwise_singleton _ _,λx hx y hy=>?_⟩⟩ (by simp only;omega);obtain rfl:=Fb.1 hy;exact lt1 x hx (h x hx)
  ·simp only[Gq,cond_false];subst e;have hs2:=dq.1 hs;refine hnx _ ⟨i+1,A++(i:Int)::B,by omega,rfl,?_,dq.2 ⟨hs2.1,FJ.2 ⟨λy hy=>ry (hB y hy),hs2.2.1⟩,λx hx y hy=>?_⟩⟩ (by simp only;omega)
   ·rw[m9];refine(List.perm_middle).trans ?_;exact(F4 (l₁:=[(i:Int)])).trans (hp.append_right _)
   ·rcases EZ.1 hy with rfl|hy
    ·exact lt1 x (Fl _ hx) (hA x hx)
    ·exact hs2.2.2 x hx y hy
 ·have c:=of_decide_eq_false c
  obtain rfl:i=ds.length:=by omega
  exact aM.some ⟨hp,hs⟩
end
end
set_option maxRecDepth 100000
set_option maxHeartbeats 4000000
section
def Sim {α β:Type} (a:Option α) (b:Option β) (t:α->β):Prop:=∀x,a=some x->b=some (t x)
section
variable {α β γ δ:Type}
theorem Sim.none {b:Option β} {t:α->β}:Sim Option.none b t:=λx h=>nomatch h
theorem Sim.some {x:α} {y:β} {t:α->β} (h:y=t x):Sim (Option.some x) (Option.some y) t:=λ_ e=>by cases e;rw[h]
theorem Sim.cond {c c':Bool} {a a':Option α} {b b':Option β} {t:α->β} (h:c'=c) (h1:Sim a b t) (h2:Sim a' b' t):Sim (cond c a a') (cond c' b b') t:=by
 subst h;cases c'<;>assumption
theorem Sim.must {c:Bool} {a:Option α} {b:Option β} {t:α->β} (h:Sim a b t):Sim (_root_.cond c a Option.none) b t:=by
 cases c
 ·exact Sim.none
 ·exact h
theorem Sim.bind {a:Option γ} {b:Option δ} {s:γ->δ} {F:γ->Option α} {G:δ->Option β} {t:α->β} (h:Sim a b s) (g:∀x,Sim (F x) (G (s x)) t):Sim (a.bind F) (b.bind G) t:=λx e=>by
 rw[An]at e;obtain⟨y,e1,e2⟩:=e;rw[h y e1];exact g y x e2
theorem Sim.get {f:γ->δ} {l:List γ} {i:Nat} {F:γ->Option α} {G:δ->Option β} {t:α->β} (g:∀x,Sim (F x) (G (f x)) t):Sim ((l[i]?).bind F) (((l.map f)[i]?).bind G) t:=
 Sim.bind (s:=f) (λx e=>by rw[E7,e];rfl) g
theorem Sim.iter {V W:Type} (σ:V->W) {g:V->(V->Option α)->Option α} {g':W->(W->Option β)->Option β} {t:α->β} (h:∀s n m,(∀s,Sim (n s) (m (σ s)) t)->Sim (g s n) (g' (σ s) m) t):
  ∀(k:Nat) {s:V} {s':W},s'=σ s->Sim (Ev.iter g k s) (Ev.iter g' k s') t
 |0,_,_,_=>λ_ e=>nomatch e
 |k+1,s,_,rfl=>h s _ _ λs=>Sim.iter σ h k rfl
theorem Sim.bej {V W:Type} (R:V->W->Prop) {B:V->Option α} {B':W->Option β} {K:V} {K':W} {t:α->β} (hB:∀j j',R j j'->Sim (B j) (B' j') t) (hK:R K K'):Sim (Ev.bej B K) (Ev.bej B' K') t:=hB K K' hK
end
section
variable {ds:List Int} {f:Int->Wish} (hf:∀k x y,Sim (bF k x y ds) (bP k (f x) (f y)) id)
abbrev sg1 (f:Int->Wish) (v:Int× List Int):Int× List Wish:=(v.1,v.2.map f)
abbrev sg2 (f:Int->Wish) (v:Int× Int× List Int):Int× Int× List Wish:=(v.1,v.2.1,v.2.2.map f)
include hf
theorem BL (k:Nat) (L:List Int) (a b n:Int):Sim (aD k L a b n ds) (aR k (L.map f) a b n) (List.map f):=by
 refine Sim.iter (sg1 f) (λs n m hn=>?_) k rfl;unfold aQ bq;simp only
 repeat' (first
  |exact Sim.none
  |assumption
  |exact Sim.some rfl
  |(refine Sim.get λe=>?_)
  |(refine Sim.bind (hf _ _ _) λr=>?_)
  |(refine Sim.cond (by first|rfl|simp only[Fe]) ?_ ?_)
  |exact hn _
  |(simp only[<-FW];exact hn _)
  |(refine Sim.must ?_))
theorem yI (k:Nat) (L:List Int) (a b n:Int):Sim (bh k L a b n ds) (bW k (L.map f) a b n) (List.map f):=by
 have h1:=λL a b n=>BL hf k L a b n;refine Sim.iter (sg2 f) (λs n m hn=>?_) k rfl;unfold au bI;simp only
 repeat' (first
  |(refine Sim.bind (h1 _ _ _ _) λr=>?_)
  |repeat' (first
 |exact Sim.none
 |assumption
 |exact Sim.some rfl
 |(refine Sim.get λe=>?_)
 |(refine Sim.bind (hf _ _ _) λr=>?_)
 |(refine Sim.cond (by first|rfl|simp only[Fe]) ?_ ?_)
 |exact hn _
 |(simp only[<-FW];exact hn _)
 |(refine Sim.must ?_)))
theorem rE (k:Nat) (L:List Int) (a b:Int):Sim (aN k L a b ds) (aT k (L.map f) a b) (List.map f):=by
 refine Sim.iter (sg1 f) (λs n m hn=>?_) k rfl;unfold ae bf;simp only;refine Sim.cond rfl (Sim.iter (sg1 f) (λs' n' m' hn'=>?_) k rfl) (Sim.must (Sim.some rfl));unfold aF bd;simp only;have hn0:=hn;clear hn;have hn:=hn';clear hn'
 repeat' (first
  |exact Sim.none
  |assumption
  |exact Sim.some rfl
  |(refine Sim.get λe=>?_)
  |(refine Sim.bind (hf _ _ _) λr=>?_)
  |(refine Sim.cond (by first|rfl|simp only[Fe]) ?_ ?_)
  |exact hn _
  |(simp only[<-FW];exact hn _)
  |(refine Sim.must ?_))
 all_goals exact hn0 _
theorem yJ (k:Nat) {self:List Int->Int->Int->Int->List Int->Option (List Int)} {self':List Wish->Int->Int->Int->Option (List Wish)} (hs:∀L a b c,Sim (self L a b c ds) (self' (L.map f) a b c) (List.map f)) (L:List Int) (a b c:Int):
  Sim (aX k self L a b c ds) (bB k self' (L.map f) a b c) (List.map f):=by
 have hr:=λL a b n=>yI hf k L a b n;unfold aX bB;refine Sim.cond rfl ?_ (Sim.cond rfl ?_ ?_)
 ·refine Sim.iter id (λs n m hn=>?_) k rfl;unfold av aH;simp only[id]
  repeat' (first
   |exact Sim.none
   |assumption
   |exact Sim.some rfl
   |(refine Sim.get λe=>?_)
   |(refine Sim.bind (hf _ _ _) λr=>?_)
   |(refine Sim.cond (by first|rfl|simp only[Fe]) ?_ ?_)
   |exact hn _
   |(simp only[<-FW];exact hn _)
   |(refine Sim.must ?_))
  clear hn;refine Sim.iter (sg1 f) (λs n m hn=>?_) k rfl;unfold aj aI;simp only
  repeat' (first
   |exact Sim.none
   |assumption
   |exact Sim.some rfl
   |(refine Sim.get λe=>?_)
   |(refine Sim.bind (hf _ _ _) λr=>?_)
   |(refine Sim.cond (by first|rfl|simp only[Fe]) ?_ ?_)
   |exact hn _
   |(simp only[<-FW];exact hn _)
   |(refine Sim.must ?_))
 ·refine Sim.iter id (λs n m hn=>?_) k rfl;unfold ax aJ;simp only[id]
  repeat' (first
   |exact Sim.none
   |assumption
   |exact Sim.some rfl
   |(refine Sim.get λe=>?_)
   |(refine Sim.bind (hf _ _ _) λr=>?_)
   |(refine Sim.cond (by first|rfl|simp only[Fe]) ?_ ?_)
   |exact hn _
   |(simp only[<-FW];exact hn _)
   |(refine Sim.must ?_))
  clear hn;refine Sim.iter (sg1 f) (λs n m hn=>?_) k rfl;unfold ak aK;simp only
  repeat' (first
   |exact Sim.none
   |assumption
   |exact Sim.some rfl
   |(refine Sim.get λe=>?_)
   |(refine Sim.bind (hf _ _ _) λr=>?_)
   |(refine Sim.cond (by first|rfl|simp only[Fe]) ?_ ?_)
   |exact hn _
   |(simp only[<-FW];exact hn _)
   |(refine Sim.must ?_))
 ·refine Sim.bej (λ(j:Int->Int->Option (List Int)) (j':Int->Int->Option (List Wish))=>∀x y,Sim (j x y) (j' x y) (List.map f)) (λj j' hj=>Sim.cond rfl (hj _ _) (hj _ _)) λx y=>?_;refine Sim.iter id (λs n m hn=>?_) k rfl;unfold ay aL;simp only[id]
  repeat' (first
   |exact Sim.none
   |assumption
   |exact Sim.some rfl
   |(refine Sim.get λe=>?_)
   |(refine Sim.bind (hf _ _ _) λr=>?_)
   |(refine Sim.cond (by first|rfl|simp only[Fe]) ?_ ?_)
   |exact hn _
   |(simp only[<-FW];exact hn _)
   |(refine Sim.must ?_))
  all_goals repeat' (first
 |exact Sim.none
 |assumption
 |exact Sim.some rfl
 |exact hj _
 |(refine Sim.bind (hs _ _ _ _) λr=>?_)
 |(refine Sim.bind (hr _ _ _ _) λr=>?_)
 |(refine Sim.cond (by first|rfl|simp only[Fe]) ?_ ?_)
 |(refine Sim.must ?_)
 |(refine Sim.bej (λ(j:List Int->Option (List Int)) (j':List Wish->Option (List Wish))=>∀L,Sim (j L) (j' (L.map f)) (List.map f)) (λj j' hj=>?_) λL=>?_))
theorem merge_le:∀(k:Nat) (L:List Int) (a b c:Int),Sim (aP k L a b c ds) (aG k (L.map f) a b c) (List.map f)
 |0,_,_,_,_=>Sim.none
 |k+1,L,a,b,c=>yJ hf k (merge_le k) L a b c
theorem yK (k:Nat) (L:List Int) (n:Int):Sim (bG k L n ds) (bX k (L.map f) n) (List.map f):=by
 have hi:=λL a b=>rE hf k L a b;have hm:=λL a b c=>merge_le hf k L a b c;refine Sim.iter (sg2 f) (λs x m hn=>?_) k rfl;unfold bo bJ;simp only;refine Sim.cond rfl (Sim.bind (hi _ _ _) λr=>hn _) (Sim.bind (hi _ _ _) λr=>?_);clear hn;refine Sim.iter (sg1 f) (λs x m hn=>?_) k rfl;unfold bV bL;simp only;refine Sim.cond rfl ?_ (Sim.must (Sim.some rfl));refine Sim.iter (sg2 f) (λs' x' m' hn'=>?_) k rfl;unfold bp bK;simp only;refine Sim.cond rfl (Sim.bind (hm _ _ _ _) λr=>hn' _) (Sim.cond rfl (Sim.bind (hm _ _ _ _) λr=>hn _) (hn _))
theorem BM (k:Nat) (L:List Int):Sim (bc k L ds) (aE k (L.map f)) (List.map f):=by
 unfold bc aE;rw[Fe];exact Sim.bind (yK hf k L _) λr=>Sim.must (Sim.some rfl)
end
end
section
end
section
theorem vP {k:Nat} {x:Wish}:l4 k x=some x:=rfl
theorem vQ {k:Nat} {x y:Wish}:l5 k x y=some (decide (x=y)):=by
 refine(DN (DN (DN (CN)))).trans ?_
 congr 1
 rw[decide_eq_decide];cases x;cases y;simp only[Wish.mk.injEq,and_true]
theorem tw {k:Nat} {xs:List Wish} {n:Int} (hx:xs.length<=AD) (h1:0<=n) (h2:n<=1048576):Sz (kt k xs n) n xs.length:=by
 unfold AD at hx;unfold Sz kt;rw[bY (by omega) (by omega),bn];by_cases h:n<xs.length
 ·rw[if_pos (by omega),if_pos h]
 ·rw[if_neg (by omega),if_neg h]
theorem tx {k:Nat} {xs:List Wish} (hk:xs.length<k) (hN:xs.length<=fc):fb k xs=some xs:=by
 have hl:xs.length<=xs.length:=EX _
 exact BC xs _ (f:=λx=>l4 k x) (g:=λu next=>et k xs u next (λy=>some y)) (by omega) (λx hm=>vP)
  (λi ys hi next=>by simp only[et];rw[bn,if_pos (by omega),dn,bE hi,aa]) (λys next=>by simp only[et];rw[bn,if_neg (by omega)]) (by omega)
theorem tz {k:Nat} {xs ys:List Wish} (hk:xs.length<k) (hN:xs.length<=fc):kv k xs ys=some (decide (xs=ys)):=by
 have hl:xs.length<=xs.length:=EX _;have h2:=dp
 exact xZ (f:=λx y=>l5 k x y) (g:=λu next=>eu k (xs,ys) u next (λy=>some true) (λy=>some y)) (by omega) (λx hm y=>vQ)
  (λi hi hi' next=>by simp only[eu];rw[bn,if_pos (by omega),dn,dn,bE hi,bE hi',aa,aa]) (λnext=>by simp only[eu];rw[bn,if_neg (by omega)]) (by omega)
theorem lL {k:Nat} {xs:List Wish} {m:Int} (hk:xs.length<k) (hN:xs.length<=fc) (h0:0<=m) (hB:m+16*xs.length<=pR):
    ∃r ys,fK k xs m=some (r,ys)/\m<=r/\r<=m+16*xs.length/\ys.length=xs.length:=by
  have ht:ll (λ_:Wish=>0) xs=xs.length:=rp xs;have hN2:=dp;have hlen:=pQ (λ_:Wish=>0) xs;unfold pR at hB
  obtain⟨r,out,a1,a2,a3,a4⟩:=oE (t:=(λ_:Wish=>0)) (N:=xs.length) (g:=λu next=>cF k () u next (λy=>some (y.1,y.2))) (fin:=λy=>some (y.1,y.2))
    (λm ys next hl=>by simp only[cF,bn];rw[if_neg (by omega)]) xs [] m k (by simp) (by omega) h0 (by unfold pR;omega)
    (λx hm m h0 hB=>by
      have hmt:=l3 (λ_:Wish=>0) hm;rw[ht]at hmt;unfold pR at hB
      have hxk:0<k:=by omega
      have hxN:0<=fc:=by omega
      clear hmt hm;refine⟨m+1+1+1,(⟨m,m+1,m+1+1⟩:Wish),by omega,by omega,λi ys next hl hi hx=>?_⟩
      simp(disch:=first|omega|(simp only[FA];omega))only[cF,bn,if_pos,Fh,bY,FA,FQ,List.set_set,hx,aa])
  rw[ht]at a4;exact⟨r,out,a2,a3,a4,a1⟩
end
set_option maxRecDepth 100000
set_option maxHeartbeats 4000000
section
theorem lM {k:Nat} {xs:List (List Int)} {m:Int} (hk:ll List.length xs<k) (hN:ll List.length xs<=fc) (h0:0<=m) (hB:m+16*ll List.length xs<=pR):
    ∃r ys,fJ k xs m=some (r,ys)/\m<=r/\r<=m+16*ll List.length xs/\gN k ys m=some r:=by
  have hN2:=dp;have hlen:=pQ List.length xs;unfold pR at hB
  obtain⟨r,out,a1,a2,a3,a4,a5⟩:=mX (t:=List.length) (N:=xs.length) (g:=λu next=>cE k () u next (λy=>some (y.1,y.2))) (fin:=λy=>some (y.1,y.2)) (hd:=λys u next=>di k ys u next (λy=>some y) (λy=>some y))
    (λm ys next hl=>by simp only[cE,bn];rw[if_neg (by omega)]) (λys m next hl=>by simp only[di,bn];rw[if_neg (by omega)]) xs [] m k (by simp) (by omega) h0 (by unfold pR;omega)
    (λx hm m h0 hB=>by
      have hmt:=l3 List.length hm;unfold pR at hB
      have hxk:x.length<k:=by omega
      have hxN:x.length<=fc:=by omega
      clear hmt hm;obtain⟨r0,y0,e0,a0,b0,l0,h0⟩:=m7 (k:=k) (xs:=x) (m:=m) (by omega) (by omega) (by omega) (by unfold pR;omega);refine⟨r0,y0,by omega,by omega,λi ys next hl hi hx=>?_,λi ys next hl hi hy=>?_⟩
      · simp(disch:=first|omega|(simp only[FA];omega))only[cE,bn,if_pos,Fh,bY,FA,FQ,List.set_set,hx,aa,e0]
      · simp(disch:=omega)only[di,bn,if_pos,if_neg,dn,hy,aa,h0,bY])
  exact⟨r,out,a2,a3,a4,a5 k (by omega)⟩
def vW (most:Int) (x:Wish) (q:List Int× Int):Bool:=q.2==x.model&&decide ((q.1.length:Int)<most)
def tA (most:Int) (st:List (List Int)× List Int) (x:Wish):List (List Int)× List Int:=
 ((st.1.zip st.2).findIdx? (vW most x)).elim (st.1++[[x.id]],st.2++[x.model]) λj=>(st.1.set j ((st.1[j]?).getD []++[x.id]),st.2)
structure tB (most:Int) (i:Nat) (st:List (List Int)× List Int):Prop where
 len:st.1.length=st.2.length
 sum:(st.1.map List.length).sum=i
 inn:∀g∈st.1,1<=g.length/\(g.length:Int)<=most
theorem CQ {l:List (List Int)} (h:∀g∈l,1<=g.length):l.length<=(l.map List.length).sum:=by
 induction l with
 |nil=>simp
 |cons g l ih=>
  have:=h g (by simp);have:=ih λg hg=>h g (by simp[hg]);simp;omega
theorem tB.le {most:Int} {i:Nat} {st:List (List Int)× List Int} (h:tB most i st):st.1.length<=i:=by
 have:=CQ λg hg=>(h.inn g hg).1;rw[h.sum]at this;exact this
theorem yL:∀{l:List (List Int)} {j:Nat} {g:List Int} {x:Int},l[j]? =some g->((l.set j (g++[x])).map List.length).sum=(l.map List.length).sum+1
 |[],j,g,x,h=>by simp at h
 |y::l,0,g,x,h=>by simp at h;subst h;simp;omega
 |y::l,j+1,g,x,h=>by
  have:=yL (x:=x) (show l[j]? =some g from by simpa using h);simp only[List.set_cons_succ,Fi,List.sum_cons,this];omega
theorem na {most:Int} {st:List (List Int)× List Int} {x:Wish} {j:Nat} (hl:st.1.length=st.2.length) (h:(st.1.zip st.2).findIdx? (vW most x)=some j):∃g,st.1[j]? =some g/\(g.length:Int)<most/\j<st.1.length:=by
 rw[List.findIdx?_eq_some_iff_getElem]at h;obtain⟨h1,h2,_⟩:=h
 have h3:j<st.1.length:=by rw[List.length_zip]at h1;omega
 rw[List.getElem_zip]at h2;unfold vW at h2;rw[EG,decide_eq_true_eq]at h2;exact⟨_,EE h3,h2.2,h3⟩
theorem Ae {most:Int} (hm:1<=most) {i:Nat} {st:List (List Int)× List Int} (h:tB most i st) (x:Wish):tB most (i+1) (tA most st x):=by
 unfold tA
 cases hf:(st.1.zip st.2).findIdx? (vW most x)with
 |none=>
  refine⟨by simp[h.len],by simp[h.sum],λg hg=>?_⟩
  rcases Fz.1 hg with hg|hg
  ·exact h.inn g hg
  ·rw[Fb]at hg;subst hg;simp;omega
 |some j=>
  obtain⟨g,hg,hgl,hj⟩:=na h.len hf;simp only[Option.elim_some,hg,Fu];refine⟨by simp[h.len],by rw[yL hg,h.sum],λu hu=>?_⟩
  rcases List.mem_or_eq_of_mem_set hu with hu|rfl
  ·exact h.inn u hu
  ·simp;omega
theorem pX {most:Int} (hm:1<=most):∀(l:List Wish) {i:Nat} {st:List (List Int)× List Int},tB most i st->tB most (i+l.length) (l.foldl (tA most) st)
 |[],i,st,h=>h
 |x::l,i,st,h=>by
  have:=pX hm l (Ae hm h x);rw[show i+(x::l).length=i+1+l.length from by simp;omega];exact this
theorem tB.zero (most:Int):tB most 0 ([],[]):=⟨rfl,rfl,λg h=>nomatch h⟩
theorem uK {most:Int} (hm:1<=most) {l:List Wish} {i:Nat} (hi:i<=l.length):tB most i ((l.take i).foldl (tA most) ([],[])):=by
 have:=pX hm (l.take i) (tB.zero most);rwa [E0,Nat.min_eq_left hi,EL]at this
section
variable {R:Type} {k:Nat} {most:Int} {st:List (List Int)× List Int} {x:Wish}
theorem CS {a b:Int} {W:List Wish} {i:Nat} (hI:tB most i st) (hi:i<=300) (hk:1000<k) {K:Int->Option R}:
  iter (λu13 n13=>cN k (most,-1,a,b,(st.2.length:Int),st.1,st.2,x.id,x.model,x.due,W) u13 n13 K) k (0:Int)=((st.1.zip st.2).findIdx? (vW most x)).elim (K (-1)) λj=>K j:=by
 have hl:=hI.len;have hle:=hI.le
 have hz:(st.1.zip st.2).length=st.2.length:=by rw[List.length_zip];omega
 refine rn (st.1.zip st.2) (vW most x) (no:=K) (λj hj next=>?_) (λnext=>?_) (by omega)
 ·rw[hz]at hj;unfold cN;simp only[List.getElem_zip,vW];rw[decide_eq_true (by omega),cond_true,decide_eq_true (by omega),cond_true,Fh,bE hj,aa,decide_eq_true (by omega),cond_true,bE (by omega),aa,gJ hj (by omega)];cases(st.2[j]==x.model)<;>cases decide (((st.1[j]'(by omega)).length:Int)<most)<;>rfl
 ·unfold cN;simp only[hz];rw[decide_eq_false (by omega),cond_false]
theorem CT {r:List Int} {c:Int} {W:List Wish} {i:Nat} (hI:tB most i st) (hi:i<=300) (hk:1000<k) {K:Int->Option R}:
  iter (λu21 n21=>cM k (W,most,c,r,st.1,st.2,x.id,x.model,x.due) u21 n21 K) k (0:Int)=((st.1.zip st.2).findIdx? (vW most x)).elim (K st.1.length) λj=>K j:=by
 have hl:=hI.len;have hle:=hI.le
 have hz:(st.1.zip st.2).length=st.2.length:=by rw[List.length_zip];omega
 refine rn (st.1.zip st.2) (vW most x) (no:=K) (λj hj next=>?_) (λnext=>?_) (by omega)
 ·rw[hz]at hj;unfold cM;simp only[List.getElem_zip,vW];rw[decide_eq_true (by omega),cond_true,decide_eq_true (by omega),cond_true,Fh,bE hj,aa,decide_eq_true (by omega),cond_true,bE (by omega),aa,gJ hj (by omega)];by_cases h1:st.2[j]=x.model
  ·by_cases h2:((st.1[j]'(by omega)).length:Int)<most
   ·rw[h1,fx,if_pos rfl,decide_eq_false (by omega),cond_false,decide_eq_true h2,beq_self_eq_true];rfl
   ·rw[h1,fx,if_pos rfl,decide_eq_true (by omega),cond_true,decide_eq_false h2,beq_self_eq_true];rfl
  ·rw[fx,if_neg h1,show(st.2[j]==x.model)=false from by simpa using h1];rfl
 ·unfold cM;simp only[hz];rw[<-hl,decide_eq_false (by omega),cond_false]
theorem yM {α:Type} (l:List α) (y:α):(l++[y])[l.length]? =some y:=by simp
theorem yN {α:Type} (l:List α) (y z:α):(l++[y]).set l.length z=l++[z]:=by simp
theorem CU {n:Int} {W:List Wish} {i:Nat} (hI:tB most i st) (hi:i<300) (hm:most<=8) (hk:1000<k) (hx:W[i]? =some x) (hn:n=W.length) {next:Int× List (List Int)× List Int->Option R} {fin:List (List Int)->Option R}:
  b6 k (most,n,W) ((i:Int),st.1,st.2) next fin=next (((i+1:Nat):Int),(tA most st x).1,(tA most st x).2):=by
 have hM:=dp;have hl:=hI.len;have hle:=hI.le;have hiW:=(ED.1 hx).1;unfold b6;simp only;rw[decide_eq_true (by omega),cond_true,decide_eq_true (by omega),cond_true,Fh,hx,aa,CS hI (by omega) hk];unfold tA
 cases hf:(st.1.zip st.2).findIdx? (vW most x)with
 |none=>
  simp only[Option.elim_none,Gb];rw[decide_eq_true (by decide),cond_true,jl (by omega),jl (by simp;omega),decide_eq_true (by simp;omega),cond_true,Fh,yM,aa,jl (by simp;omega),decide_eq_true (by rw[fy];simp;omega),cond_true,ja,aa,yN,bY (by omega) (by omega)]
  rfl
 |some j=>
  obtain⟨g,hg,hgl,hj⟩:=na hI.len hf;simp only[Option.elim_some,hg,Fu];rw[decide_eq_false (by omega),cond_false,decide_eq_true (by omega),cond_true,Fh,hg,aa,jl (by simp;omega),decide_eq_true (by rw[fy];omega),cond_true,ja,aa,bY (by omega) (by omega)];rfl
theorem CV {r:List Int} {W:List Wish} {i:Nat} {c:Int} (hI:tB most i st) (hi:i<300) (hm:most<=8) (hk:1000<k) (hr:r[i]? =some c) (hx:idx W c=some x) {next:Int× List (List Int)× List Int->Option R} {fin:List (List Int)->Option R}:
  bZ k (W,most,r) ((i:Int),st.1,st.2) next fin=next (((i+1:Nat):Int),(tA most st x).1,(tA most st x).2):=by
 have hM:=dp;have hl:=hI.len;have hle:=hI.le;have hiW:=(ED.1 hr).1;unfold bZ;simp only;rw[decide_eq_true (by omega),cond_true,decide_eq_true (by omega),cond_true,Fh,hr,aa,hx,aa,CT hI (by omega) hk];unfold tA
 cases hf:(st.1.zip st.2).findIdx? (vW most x)with
 |none=>
  simp only[Option.elim_none,Gb,beq_self_eq_true,cond_true];rw[jl (by omega),jl (by simp;omega),decide_eq_true (by simp;omega),cond_true,Fh,yM,aa,jl (by simp;omega),decide_eq_true (by rw[fy];simp;omega),cond_true,ja,aa,yN,bY (by omega) (by omega)]
  rfl
 |some j=>
  obtain⟨g,hg,hgl,hj⟩:=na hI.len hf;simp only[Option.elim_some,hg,Fu];rw[z5,if_neg (by omega),decide_eq_true (by omega),cond_true,Fh,hg,aa,jl (by simp;omega),decide_eq_true (by rw[fy];omega),cond_true,ja,aa,bY (by omega) (by omega)];rfl
end
def kD (most:Int) (l:List Wish):List (List Int):=(l.foldl (tA most) ([],[])).1
theorem CW {k:Nat} {most:Int} {W:List Wish} (h1:1<=most) (hm:most<=8) (hk:1000<k) (hW:W.length<=300):
    iter (λu15 n15=>b6 k (most,(W.length:Int),W) u15 n15 (λy14=>some (y14,true))) k ((0:Int),([]:List (List Int)),([]:List Int))=some (kD most W,true):=by
  have run:=pP (g:=λu15 n15=>b6 k (most,(W.length:Int),W) u15 n15 (λy14=>some (y14,true)))
    (st:=λi=>((i:Int),((W.take i).foldl (tA most) ([],[])).1,((W.take i).foldl (tA most) ([],[])).2)) (n:=W.length) (r:=some (kD most W,true)) (λi hi next=>by
      rw[CU (uK h1 (by omega)) (by omega) hm hk (bE hi) rfl,iH hi,List.foldl_append];rfl) (λnext=>by
      unfold b6;simp only
      rw[decide_eq_false (by omega),cond_false,F8];rfl) (k:=k) (by omega)
  exact run
theorem CX {k:Nat} {most:Int} {W:List Wish} {r:List Int} {f:Int->Wish} (hf:∀c∈r,idx W c=some (f c)) (h1:1<=most) (hm:most<=8) (hk:1000<k) (hW:r.length<=300):
    iter (λu23 n23=>bZ k (W,most,r) u23 n23 (λy22=>some (y22,true))) k ((0:Int),([]:List (List Int)),([]:List Int))=some (kD most (r.map f),true):=by
  have run:=pP (g:=λu23 n23=>bZ k (W,most,r) u23 n23 (λy22=>some (y22,true)))
    (st:=λi=>((i:Int),(((r.map f).take i).foldl (tA most) ([],[])).1,(((r.map f).take i).foldl (tA most) ([],[])).2)) (n:=r.length) (r:=some (kD most (r.map f),true)) (λi hi next=>by
      have hi':i<(r.map f).length:=by simpa using hi
      rw[CV (uK h1 (by omega)) (by omega) hm hk (bE hi) (hf _ (FC hi)),iH hi',List.foldl_append,List.getElem_map];rfl) (λnext=>by
      unfold bZ;simp only
      rw[decide_eq_false (by omega),cond_false,List.take_of_length_le (by simp)];rfl) (k:=k) (by omega)
  exact run
end
set_option maxRecDepth 100000
set_option maxHeartbeats 4000000
section
theorem rF (k:Nat) (x:Wish):ku k x=some (decide (x.id>=1)&&(decide (x.model>=0)&&inB x.due 0 1000000)):=by
 unfold ku;rw[ru];cases decide (x.id>=1)<;>cases decide (x.model>=0)<;>rfl
section
variable {R:Type} {k:Nat} {most:Int} {W:List Wish} {x:Wish}
theorem CY {i:Nat} {dues:List Int} (hi:i<300) (hk:1000<k) (hx:W[i]? =some x) {X2:Unit->Option R} {Xr:Bool->Option R}:
  iter (λu9 n9=>cL k (W,most,(i:Int),dues) u9 n9 X2 Xr) k (0:Int)=cond ((W.take i).all λy=>!(y.id==x.id)) (X2 ()) (Xr false):=by
 have hiW:=(ED.1 hx).1
 have hl:(W.take i).length=i:=by rw[E0];omega
 refine z7 (W.take i) (λy=>!(y.id==x.id)) (λj hj next=>?_) (λnext=>?_) (by omega)
 ·rw[hl]at hj;unfold cL;simp only[List.getElem_take];rw[decide_eq_true (by omega),cond_true,dn,bE (by omega),aa,dn,hx,aa,gJ hj (by omega),cond_not]
 ·unfold cL;simp only[hl];rw[decide_eq_false (by omega),cond_false]
theorem Af (l:List Wish) (x:Wish):(l.all λy=>!(y.id==x.id))=!((l.map Wish.id).contains x.id):=by
 induction l with
 |nil=>rfl
 |cons y l ih=>
  rw[List.all_cons,ih,Fi,List.contains_cons,Bool.not_or]
  congr 2
  exact BEq.comm
theorem BN (hW:W.length<=300) (hk:1000<k) {X0:List Int->Option R} {Xr:Bool->Option R}:
    iter (λu25 n25=>ch k (W,most) u25 n25 X0 Xr) k ((0:Int),([]:List Int))=cond (areB [] W) (X0 (W.map Wish.due)) (Xr false):=by
  have hM:=dp
  have := iZ (g := λ u25 n25 => ch k (W, most) u25 n25 X0 Xr) (st := λ i => ((i : Int), (W.take i).map Wish.due)) (n := W.length)
    (P := λ i => cond (areB ((W.take i).map Wish.id) (W.drop i)) (X0 (W.map Wish.due)) (Xr false)) (λ i hi next e => by
      unfold ch;simp only;rw[decide_eq_true (by omega),cond_true,dn,bE hi,aa,rF,aa,CY (by omega) hk (bE hi),Af,aa,jl (by simp;omega),gJ hi (by omega),iG hi,areB]
      have e2:next (((i+1:Nat):Int),(W.take i).map Wish.due++[W[i].due])=cond (areB ((W.take (i+1)).map Wish.id) (W.drop (i+1))) (X0 (W.map Wish.due)) (Xr false):=by
        rw[<-e,iH hi,F2];rfl
      rw[e2,iH hi,F2,cond_not];unfold inB
      have d1:decide (W[i].id<1)=!decide (W[i].id>=1):=by rw[<-decide_not];exact decide_eq_decide.2 (by omega)
      have d2:decide (W[i].model<0)=!decide (W[i].model>=0):=by rw[<-decide_not];exact decide_eq_decide.2 (by omega)
      have d3:(decide (0<=W[i].due)&&decide (W[i].due<=1000000))=decide (0<=W[i].due/\W[i].due<=1000000):=(Bool.decide_and ..).symm;rw[d1,d2,d3]
      cases decide (W[i].id>=1)<;>cases decide (W[i].model>=0)<;>cases decide (0<=W[i].due/\W[i].due<=1000000)<;>cases((W.take i).map Wish.id).contains W[i].id<;>rfl) (λnext=>by
      unfold ch;simp only
      rw[decide_eq_false (by omega),cond_false,F8,FT,areB];rfl) k 0 (E9 _) (by omega)
  simpa using this
end
def jm (W:List Wish) (c:Int):Wish:=(idx W c).getD ⟨0,0,0⟩
theorem yO {α β:Type} (f:α->β) (l:List α) (i:Int):idx (l.map f) i=(idx l i).map f:=by
 unfold idx;cases decide (0<=i)<;>simp
theorem BO (W:List Wish) (k:Nat) (x y:Int):Sim (bF k x y (W.map Wish.due)) (bP k (jm W x) (jm W y)) id:=λr h=>by
 unfold bF dK at h;unfold bP jm;rw[yO,yO]at h
 cases hx:idx W x with
 |none=>rw[hx]at h;exact nomatch h
 |some u=>
  cases hy:idx W y with
  |none=>rw[hx,hy]at h;exact nomatch h
  |some v=>
   rw[hx,hy,decide_eq_true rfl]at h;exact h
theorem yP (W:List Wish):(upto W.length).map (jm W)=W:=by
 refine List.ext_getElem (by simp[upto]) λi h1 h2=>?_;simp only[upto,List.map_map,List.getElem_map,List.getElem_range,Function.comp,jm];rw[show Int.ofNat i=(i:Int)from rfl,dn,bE h2];rfl
theorem rG {k:Nat} {W:List Wish} (hW:W.length<=300) (hk:1000<k):∃r:List Int,gf k (W.map Wish.due)=some r/\aE k W=some (r.map (jm W))/\r.length=W.length/\∀c∈r,idx W c=some (jm W c):=by
 have hl:(W.map Wish.due).length=W.length:=by simp
 obtain⟨r,h1,p1,s1⟩:=lK (ds:=W.map Wish.due) (k:=k) (by omega) (by omega);have h2:=yG (ds:=W.map Wish.due) (k:=k) (N:=(W.map Wish.due).length) (O:=upto (W.map Wish.due).length) (by omega) (by omega) yH (kB _);obtain⟨r2,h2,p2,s2⟩:=h2;obtain rfl:=CO s1 s2 (p1.trans p2.symm);refine⟨r,h1,?_,by rw[p1.length_eq,kB,hl],λc hc=>?_⟩
 ·have h3:bc k (upto (W.map Wish.due).length) (W.map Wish.due)=some r:=by
   unfold bc;rw[kB,h2,aa,decide_eq_true rfl];rfl
  have h4:=BM (BO W) k _ _ h3;rw[hl,yP]at h4;exact h4
 ·have:=kC.1 (p1.mem_iff.1 hc);rw[hl]at this;obtain⟨i,rfl⟩:∃i:Nat,c=i:=⟨c.toNat,by omega⟩;unfold jm;rw[dn,bE (by omega)];rfl
theorem CZ {n:Int} (h:okI n):(Go.Lit.int .i64 n).wf=true:=by
 unfold Go.Lit.wf;simp only[EG,decide_eq_true_eq];exact h
theorem vR {k:Nat} {W:List Wish} {most:Int} (hk:1000<k) (hW:W.length<=1048576) (ho:∀x∈W,x.Ok):
  ∃out ok,eF k W most=some (out,ok)/\dL k W most=some (out,ok)/\(ok=false->out=[])/\(ok=true->(out.map List.length).sum=W.length/\W.length<=300/\∀g∈out,1<=g.length/\(g.length:Int)<=most)/\ll List.length out<=600:=by
 have hM:=dp
 have hA:I_areWishes k W=some (areB [] W&&decide (W.length<=300)):=by
  unfold I_areWishes;rw[decide_eq_true (by omega),Bool.true_and,show(W.all λx=>(Go.Lit.int .i64 x.id).wf)=true from List.all_eq_true.2 λx hx=>CZ (ho x hx).1];rfl
 unfold eF dL;rw[oF,BJ,aa,aa,hA,aa];cases hm:inB most 1 8
 ·exact⟨[],false,rfl,rfl,λ_=>rfl,λe=>(nomatch e),by simp[ll]⟩
 rw[uE]at hm;simp only[Gq,cond_false];by_cases hL:W.length>300
 ·rw[decide_eq_true (by omega),decide_eq_false (by omega),Bool.and_false];exact⟨[],false,rfl,rfl,λ_=>rfl,λe=>(nomatch e),by simp[ll]⟩
 rw[decide_eq_false (by omega),decide_eq_true (by omega),Bool.and_true,cond_false,BN (by omega) hk];cases hv:areB [] W
 ·exact⟨[],false,rfl,rfl,λ_=>rfl,λe=>(nomatch e),by simp[ll]⟩
 obtain⟨r,h1,h2,h3,h4⟩:=rG (k:=k) (W:=W) (by omega) hk
 have hC:bH k W=some W:=by
  unfold bH
  cases W with
  |nil=>simp only[isNil,cond_true,EW];exact yD _
  |cons x l=>simp only[isNil,cond_false];rw[jl (by simp at hW⊢;omega)];rfl
 have hlen:(r.map (jm W)).length<=300:=by simp;omega
 simp only[cond_true,Gq,cond_false];rw[h1,aa,hC,aa,h2,aa,CX h4 hm.1 hm.2 hk (by omega),CW hm.1 hm.2 hk hlen];have inv:=pX hm.1 (r.map (jm W)) (tB.zero most);have hs:=inv.sum;rw[EL,Fe,h3]at hs;have hle:=inv.le;rw[EL,Fe,h3]at hle;exact⟨_,true,rfl,rfl,λe=>(nomatch e),λ_=>⟨hs,by omega,inv.inn⟩,by unfold ll kD;omega⟩
theorem gP (xs:List Wish) (most:Int) (hx:okS Wish.Ok xs) (hm:okI most):∃k,ca k xs most=some true:=by
 have hM:=dp;refine⟨xs.length+2000,?_⟩;obtain⟨k,hk0⟩:∃k,k=xs.length+2000:=⟨_,rfl⟩;rw[<-hk0];unfold ca;rw[tw (n:=1048576) hx.1 (by omega) (by omega),aa,bn];by_cases c:(1048576:Int)<(xs.length:Int)
 ·simp only[if_pos c];rfl
 simp only[if_neg c];rw[if_neg (by omega)];obtain⟨out,ok,e1,e2,_,_,e3⟩:=vR (k:=k) (W:=xs) (most:=most) (by omega) (by omega) hx.2;have hto:fb k xs=some xs:=tx (by omega) (by omega)
 have hq1:gd k out out=some true:=by rw[tv (by omega) (by omega),decide_eq_true rfl]
 have hq2:kv k xs xs=some true:=by rw[tz (by omega) (by omega),decide_eq_true rfl]
 obtain⟨r9,y9,m1,m2,m3,m4⟩:=lL (k:=k) (xs:=xs) (m:=1) (by omega) (by omega) (by omega) (by unfold pR;omega);obtain⟨r11,y11,g1,g2,g3,g4⟩:=lM (k:=k) (xs:=out) (m:=1) (by omega) (by omega) (by omega) (by unfold pR;omega)
 have n1:¬r9<0:=by omega
 have n2:¬r11<0:=by omega
 simp only[hto,e1,e2,hq1,hq2,m1,g1,g4,aa,beq_self_eq_true,Gq,cond_false,bn,n1,n2,if_false,fx,if_true]
end
end Go.Proofs.Ev
