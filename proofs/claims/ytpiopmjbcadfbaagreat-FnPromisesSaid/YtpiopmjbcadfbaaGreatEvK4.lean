/- The evaluator over the model's code, and that it is sound: part 4. -/
import Derived.Test.YtpiopmjbcadfbaaGreatEvK3
import Derived.Lib.SliceRun
import Derived.Laws.Cover3
import Derived.Orders
set_option linter.unusedVariables false
set_option linter.unusedSimpArgs false
set_option linter.unusedSectionVars false
namespace Go.Proofs.Ev
section
variable [Tok]
section
variable {w:World} {H:aO} {pl:Pl} {P:Program}
theorem sA {t:Ty} {ys:List t.El} {zs:List t.El} {q n i j:Nat} {r:R} (hn:q+n<=ys.length) (hz:zs.length=n) (h:aD t (ys.take q++zs++ys.drop (q+n)) i j r):
  (q<=i/\i<q+n/\aD t zs (i-q) j r)\/(¬(q<=i/\i<q+n)/\aD t ys i j r):=by
 obtain⟨x,hx,hr⟩:=h
 have hl:(ys.take q).length=q:=by rw[Wn];omega
 by_cases c:q<=i/\i<q+n
 ·rw[Wd,VU (by omega),hl,V1 (by omega)]at hx;exact .inl ⟨c.1,c.2,x,hx,hr⟩
 ·refine .inr ⟨c,x,?_,hr⟩;by_cases c1:i<q
  ·rw[Wd,V1 (by omega),Wt,if_pos c1]at hx;exact hx
  ·rw[VU (by simp[hz];omega),V7]at hx;rw[<-hx];congr 1;simp[hz];omega
theorem M6 {t:Ty} {d:List Nat} {ys:List t.El} {i q num:Nat} {H':aO} {zs:List t.El} {us:List Value} {b m n cap:Nat}
  (hr:dc H pl w) (hl:look H i=some (.arr (some d) t ys)) (hzl:zs.length=num) (hh:pl.hdr i=.slice (some ⟨b,m,none⟩) n cap) (hq:q+num<=ys.length) (hus:us.length=num*t.sz) (CK:∀u∈us,one u=true)
  (hin:∀x j r,aD t zs x j r->∃u,us[x*t.sz+j]? =some u/\kj w (okd H pl d) r u) (hpos0:0<ys.length)
  (RF:hit [i] d=false) (ht:oY H H' ([],[i]) i (.arr (some d) t (ys.take q++zs++ys.drop (q+num)))):
  ∃w',(storeCells ⟨b,m+q*t.sz,none⟩ us).run P w=.ok () w'/\∃fp',dk H H' ([],[i]) pl (pl.set i (pl.hdr i) fp') w w':=by
 obtain⟨⟨a,jA,b',o,vs,fs,hhd,jt,ha,lP,hc,hrr,hd1,hd2,hfp⟩⟩:=(hr.blk i _ hl).RA;rw[hh]at hhd;cases hhd;have hsp:=t.ia
 have hab:b=b'/\m=o:=by
  rcases ha with h|h
  ·omega
  ·cases h;exact⟨rfl,rfl⟩
 obtain⟨rfl,rfl⟩:=hab
 have Mp:q*t.sz+us.length<=cap*t.sz:=by
  have:(q+num)*t.sz<=cap*t.sz:=V9 _ (by omega);rw[Wk]at this;omega
 have hcell:∀j,j<us.length->∃u,w.at? (b,m+q*t.sz+j)=some u/\calm (w.ff (b,m+q*t.sz+j))=true:=λj hj=>by
  obtain⟨⟨u,q1⟩,q2⟩:=lP (q*t.sz+j) (by omega);rw[show m+q*t.sz+j=m+(q*t.sz+j)from by omega];exact⟨u,q1,su q2⟩
 have hst:=run_storeCells_cells (P:=P) b (m+q*t.sz) us 0 w (λj hj=>by
   obtain⟨u,q1,_⟩:=hcell j hj;simp only[Wq];have q1:w.cell? ⟨b,m+q*t.sz+j,none⟩=some u:=q1
   rw[q1];rfl) (λj hj=>by
   obtain⟨u,q1,q2⟩:=hcell j hj
   simp only[Wq];exact mR q1 q2) (λu hu=>pQ (CK u hu))
 simp only[Wq]at hst
 have iP:∀j,j<us.length->(w.setCells b (m+q*t.sz) us).at? (b,m+q*t.sz+j)=us[j]? :=λj hj=>by
  have:=World.cell?_setCells_in b us (m+q*t.sz) w (λj hj=>by
   obtain⟨u,q1,_⟩:=hcell j hj;have q1:w.cell? ⟨b,m+q*t.sz+j,none⟩=some u:=q1
   rw[q1];rfl) j hj
  rw[On hj];simpa[World.at?]using this
 have dE:∀p u,w.at? p=some u->¬(p.1=b/\m+q*t.sz<=p.2/\p.2<m+q*t.sz+us.length)->(w.setCells b (m+q*t.sz) us).at? p=some u:=λp u hp hno=>by
  unfold World.at? at*;rw[World.cell?_setCells_out b _ _ w _ (λe1 _=>by simp at e1;simp;omega)];exact hp
 have Ee:∀p,(w.setCells b (m+q*t.sz) us).ff p=w.ff p:=λp=>gO _ _ _ _ _;have ve:∀p,reg b m (cap*t.sz) p->pl.fp i p:=λp hp=>(hfp p).2 (.inl hp);have Ci:∀i' j r p,aD t ys i' j r->fs i' j p->pl.fp i p:=λi' j r p hx hf=>(hfp p).2 (.inr ⟨i',j,r,hx,hf⟩)
 have hmi:mem i [i]=true:=by simp[mem]
 have Em:(ys.take q++zs++ys.drop (q+num)).length=ys.length:=by simp[hzl];omega
 refine⟨_,hst,λp=>reg b m (cap*t.sz) p\/∃i' j r,aD t ys i' j r/\¬(q<=i'/\i'<q+num)/\fs i' j p,?_⟩;refine k7 (eB.setCells _ _ _ _) hr ht (λx hx=>nomatch hx) (λx hx=>?_) (.inr ⟨_,hl,hmi,by simp only[Blk.nC];exact⟨trivial,Em.symm⟩,rfl⟩) (λp u hp hno=>⟨dE p u hp λhin=>?_,Ee p⟩) (λp hp=>?_) (λp hp=>?_) λhkp=>?_
 ·refine .inr ?_;simp only[mem]at hx;cases hb:Nat.beq i x
  ·rw[hb]at hx;exact nomatch hx
  ·exact(So hb).symm
 ·exact hno i _ hmi hl (ve p ⟨hin.1,by omega,by omega⟩)
 ·refine hr.nb p ?_
  cases hq':w.at? p with
  |none=>rfl
  |some u=>
   by_cases hin:p.1=b/\m+q*t.sz<=p.2/\p.2<m+q*t.sz+us.length
   ·obtain⟨p1,p2⟩:=p;obtain⟨e1,e2,e3⟩:=hin;simp only at e1 e2 e3;subst e1;have:=iP (p2-(m+q*t.sz)) (by omega);rw[show m+q*t.sz+(p2-(m+q*t.sz))=p2 from by omega,hp,On (by omega)]at this;exact nomatch this
   ·rw[dE p u hq' hin]at hp;exact nomatch hp
 ·rcases hp with hp|⟨i',j,r,hx,_,hf⟩
  ·exact .inr ⟨i,_,hmi,hl,ve p hp⟩
  ·exact .inr ⟨i,_,hmi,hl,Ci i' j r p hx hf⟩
 ·have yW:∀{i' j},j<t.sz->¬(q<=i'/\i'<q+num)->¬(m+q*t.sz<=m+(i'*t.sz+j)/\m+(i'*t.sz+j)<m+q*t.sz+us.length):=λ{i' j} hj hne ⟨g1,g2⟩=>by
   rcases Nat.lt_or_ge i' q with h|h
   ·have:(i'+1)*t.sz<=q*t.sz:=V9 _ h;rw[Xi]at this;omega
   ·have h2:q+num<=i':=by omega
    have:(q+num)*t.sz<=i'*t.sz:=V9 _ h2;rw[Wk]at this;omega
  refine eL.oE ⟨some ⟨b,m,none⟩,cap,b,m,λi' j=>if q<=i'/\i'<q+num then(us[(i'-q)*t.sz+j]?).getD undef else vs i' j,λi' j p=>¬(q<=i'/\i'<q+num)/\fs i' j p,by rw[Em];simp[Pl.set,hh],by rw[Em];exact jt,.inr rfl,λj hj=>⟨?_,by rw[Ee];exact(lP j hj).2⟩,λi' j r hx=>?_,λi' j r hx=>?_,λi' j r p hx hf=>?_,λi' j r i2 j2 r2 p hx hx' hf hf'=>?_,λp=>?_⟩
  ·by_cases hin:q*t.sz<=j/\j<q*t.sz+us.length
   ·have:=iP (j-q*t.sz) (by omega);rw[show m+q*t.sz+(j-q*t.sz)=m+j from by omega]at this;exact⟨_,this.trans (On (by omega))⟩
   ·obtain⟨u,hu⟩:=(lP j hj).1;exact⟨u,dE _ u hu λh=>hin ⟨by have:=h.2.1;simp at this;omega,by have:=h.2.2;simp at this;omega⟩⟩
  ·rcases sA hq hzl hx with⟨g1,g2,g3⟩|⟨g1,g2⟩
   ·rw[if_pos ⟨g1,g2⟩];obtain⟨u,hu,_⟩:=hin _ _ _ g3;have hlt:=(Of.1 hu).1;have:=iP _ hlt
    have e:m+q*t.sz+((i'-q)*t.sz+j)=m+(i'*t.sz+j):=by
     have:i'*t.sz=q*t.sz+(i'-q)*t.sz:=by rw[<-Wk];congr 1;omega
     omega
    rw[e]at this;rw[this,hu];rfl
   ·rw[if_neg g1];exact dE _ _ (hc _ _ _ g2) λh=>yW (aQ g2).2 g1 ⟨h.2.1,h.2.2⟩
  ·rcases sA hq hzl hx with⟨g1,g2,g3⟩|⟨g1,g2⟩
   ·rw[if_pos ⟨g1,g2⟩];obtain⟨u,hu,hI⟩:=hin _ _ _ g3;rw[hu,Xg];have hno:∀p,¬(¬(q<=i'/\i'<q+num)/\fs i' j p):=λp hf=>hf.1 ⟨g1,g2⟩;rw[hh];exact⟨hI.frame λp u hp hu=>(hh▸hkp).k2 d p u (λx hx=>fY _ d RF x hx) hp hu,hno⟩
   ·simp only[if_neg g1];have hI:=hrr _ _ _ g2;rw[hh];exact⟨hI.1.frame λp u hp hu=>(hh▸hkp).k2 d p u (λx hx=>fY _ d RF x hx) hp hu,λp hf=>hI.2 p hf.2⟩
  ·rcases sA hq hzl hx with⟨g1,g2,g3⟩|⟨g1,g2⟩
   ·exact(hf.1 ⟨g1,g2⟩).elim
   ·exact hd1 _ _ _ p g2 hf.2
  ·rcases sA hq hzl hx with⟨g1,g2,g3⟩|⟨g1,g2⟩
   ·exact(hf.1 ⟨g1,g2⟩).elim
   ·rcases sA hq hzl hx' with⟨q1,q2,q3⟩|⟨q1,q2⟩
    ·exact(hf'.1 ⟨q1,q2⟩).elim
    ·exact hd2 _ _ _ _ _ _ p g2 q2 hf.2 hf'.2
  ·simp only[Pl.set,if_true];constructor
   ·rintro (h|⟨i',j,r,hx,hne,hf⟩)
    ·exact .inl h
    ·have hlt:=aQ hx;obtain⟨r',hr'⟩:=dU (t:=t) (xs:=ys.take q++zs++ys.drop (q+num)) (i:=i') (j:=j) (by rw[Em];exact hlt.1) hlt.2;exact .inr ⟨i',j,r',hr',hne,hf⟩
   ·rintro (h|⟨i',j,r,hx,hf⟩)
    ·exact .inl h
    ·rcases sA hq hzl hx with⟨g1,g2,g3⟩|⟨g1,g2⟩
     ·exact(hf.1 ⟨g1,g2⟩).elim
     ·exact .inr ⟨_,_,_,g2,hf⟩
theorem M7 {i:Nat}:∀{d:List Nat},mem i d=false->hit [i] d=false
 |[],_=>rfl
 |k::l,h=>by
  simp only[mem]at h;cases hb:Nat.beq k i
  ·rw[hb,cond_false]at h
   have:mem k [i]=false:=by
    simp only[mem];cases hc:Nat.beq i k
    ·rfl
    ·have:=So hc;subst this;simp at hb
   simp only[hit,this,cond_false];exact M7 h
  ·rw[hb]at h;exact nomatch h
theorem PD {o:Oper} {a:Act} {s:List (Nat× SV)} {n:Nat} {args:Array Operand} {tys:Array TypeId} {T e:TypeId} {sz:Nat} {t:Ty} {z:List SV} {d:List Nat} {xs:List t.El} {i q off num:Nat}
  (hr:dc H pl w) (hs:il w H pl s a) (ho:o.op=.call {callee:=.builtin .append,args:=args,argTypes:=tys}) (hvs:tY s args.toList=some [.sub i 0 q,.sub i off num]) (hty:tys.toList=[T,T])
  (he:nA P T=some e) (hsz:j6 P e=some sz) (hts:t.sz=sz) (hz:ib P e=some z) (hl:look H i=some (.arr (some d) t xs)) (hd:mem i d=false) (hq:q+num<=xs.length) (Tj:off+num<=xs.length) (Mp:1<=xs.length):
  lR P o a w H pl n {v:=.sub i 0 (q+num),upd:=[(i,.arr (some d) t (xs.take q++(xs.drop off).take num++xs.drop (q+num)))],mP:=[i]}:=by
 refine⟨λj B h=>?_,λH' next Q ha hN=>?_⟩
 ·rw[aG]at h;by_cases e:i=j
  ·subst e;exact⟨_,hl⟩
  ·rw[if_neg e]at h;simp[look]at h
 obtain⟨ht,_⟩:=vf (c:={v:=.sub i 0 (q+num),upd:=[(i,.arr (some d) t (xs.take q++(xs.drop off).take num++xs.drop (q+num)))],mP:=[i]}) hl rfl rfl rfl ha;obtain⟨p,p',hpq,hp,hp'⟩:=sw hvs;have hpr:=aX hs hp;have U5:=aX hs hp'
 have tE:args.map a.eval=#[a.eval p,a.eval p']:=by rw[show args=#[p,p']from Xy hpq];simp
 have hta:tys=#[T,T]:=Xy hty
 obtain⟨ti,hti,rfl⟩:=mI hsz;obtain⟨zu,hzu,hzc⟩:=kr hr hti hz;obtain⟨R⟩:=hr.blk i _ hl;have jt:=R.jt;have hA:R.a=some ⟨R.b,R.o,none⟩:=R.ha.resolve_left (by omega)
 have hhd:pl.hdr i=.slice (some ⟨R.b,R.o,none⟩) xs.length R.cap:=by rw[<-hA];exact R.zV
 have e1:a.eval p=.slice (some ⟨R.b,R.o,none⟩) q R.cap:=by
  generalize a.eval p=u at hpr
  cases hpr with
  |sub _ _ _ sh2 t2 xs2 a1 a2 cap1 cap2 hl2 hh2 hn1 hc hc' ha2=>
   rw[hl]at hl2;cases hl2;rw[hhd]at hh2;cases hh2
   have hcc:cap2=R.cap:=by omega
   subst hcc
   rcases ha2 with h|h
   ·omega
   ·rw[h];simp[Addr.add]
 obtain⟨A3,cap3,e2,hc3,hA3⟩:∃A3 cap3,a.eval p'=.slice A3 num cap3/\num<=cap3/\(num=0\/A3=some ⟨R.b,R.o+off*t.sz,none⟩):=by
  generalize a.eval p'=u at U5
  cases U5 with
  |sub _ _ _ sh2 t2 xs2 a1 a2 cap1 cap2 hl2 hh2 hn1 hc hc' ha2=>
   rw[hl]at hl2;cases hl2;rw[hhd]at hh2;cases hh2;refine⟨a2,cap2,rfl,hc,?_⟩
   rcases ha2 with h|h
   ·exact .inl (by omega)
   ·exact .inr (by rw[h];simp[uZ])
 have hsp:=t.ia
 have uc:∀k,k<num*t.sz->∃r,aD t xs (off+k/t.sz) (k %t.sz) r:=λk hk=>by
  have:k/t.sz<num:=by rw[XP hsp];exact hk
  exact dU (by omega) (Yh _ hsp)
 have hus:((List.range (num*t.sz)).map λk=>R.vs (off+k/t.sz) (k %t.sz)).length=num*t.sz:=by simp
 generalize Vp:(List.range (num*t.sz)).map (λk=>R.vs (off+k/t.sz) (k %t.sz))=us at hus
 have Ad:∀k,k<num*t.sz->us[k]? =some (R.vs (off+k/t.sz) (k %t.sz)):=λk hk=>by rw[<-Vp,jD hk]
 have hcell:∀k,k<num*t.sz->w.at? (R.b,R.o+(off*t.sz+k))=some (R.vs (off+k/t.sz) (k %t.sz)):=λk hk=>by
  obtain⟨r,hx⟩:=uc k hk;have:=R.hc _ _ _ hx;rw[Wk,WT,show k/t.sz*t.sz+k %t.sz=k from by rw[Ws];exact XO _ _]at this;exact this
 obtain⟨w',hst,fp',va⟩:=M6 (P:=P) (zs:=(xs.drop off).take num) (us:=us) hr hl (by rw[Wn,W9];omega) hhd hq hus (λu hu=>by
   obtain⟨k,hk⟩:=WO hu
   have hkl:k<num*t.sz:=by rw[<-hus];exact(Of.1 hk).1
   rw[Ad k hkl]at hk;cases hk;obtain⟨r,hx⟩:=uc k hkl
   exact(R.hr _ _ _ hx).1.tD) (λx j r hx=>by
   obtain⟨y,hy,hyr⟩:=hx
   have hxl:x<num:=by have:=(Of.1 hy).1;rw[Wn]at this;omega
   have hjl:j<t.sz:=by have:=(Of.1 hyr).1;rwa [Ty.cD]at this
   rw[Wt,if_pos hxl,V7]at hy;have hx':aD t xs (off+x) j r:=⟨y,hy,hyr⟩;refine⟨R.vs (off+x) j,?_,(R.hr _ _ _ hx').1⟩;have hlt:x*t.sz+j<num*t.sz:=rf hxl hjl (Wc _);rw[Ad _ hlt]
   have g1:(x*t.sz+j)/t.sz=x:=by rw[Ws,Xl hsp,Xa hjl];simp
   have g2:(x*t.sz+j) %t.sz=j:=by rw[Ws,WW,WC hjl]
   rw[g1,g2]) Mp (M7 hd) ht
 have hfc:(Builtin.firstCells ti.size num (.slice A3 num cap3)).run P w=.ok us.toArray w:=by
  rw[<-hts]
  rcases hA3 with h0|hA3
  ·subst h0;have hn':us=[]:=WN.1 (by simpa using hus);subst hn'
   cases A3 with
   |none=>exact run_firstCells_none w _ _ _ _
   |some A=>exact run_firstCells_some w t.sz 0 A 0 cap3 [] (by simp) (λj v hv=>by simp at hv)
  ·subst hA3;refine run_firstCells_some w t.sz num _ num cap3 us hus λj v hv=>?_
   have hj:j<num*t.sz:=by rw[<-hus];exact(Of.1 hv).1
   rw[Ad j hj]at hv;cases hv;have:=hcell j hj;rw[Addr.add_lit,WT];exact this
 have lY:(Builtin.append_ #[T,T] o.type #[.slice (some ⟨R.b,R.o,none⟩) q R.cap,.slice A3 num cap3]).run P w=.ok (.slice (some ⟨R.b,R.o,none⟩) (q+num) R.cap) w':=by
  have Ig:q+num<=R.cap:=by omega
  rw[hts]at hst;simp[Builtin.append_,run_underlying (mH he),sizeOf,typeInfo,hti,Builtin.lenOf,Ig,hfc,Addr.add_lit,hst]
 refine oD (u:=.slice (some ⟨R.b,R.o,none⟩) (q+num) R.cap) (w':=w') ?_ (hN _ _ w' va ?_)
 ·rw[execOp,ho,hta];simp only[resolve,tE,invoke,builtin,Sem.run_bind,Sem.run_pure,Result.andThen_ok,e1,e2,lY]
 ·refine .sub i 0 (q+num) (some d) t _ (some ⟨R.b,R.o,none⟩) _ R.cap R.cap ht.Th (by simp[Pl.set,hhd,VR];omega) (by simp;omega) (by omega) (by omega) (.inr (by simp[Addr.add]))
end
end
section
variable [Tok]
section
variable {w:World} {H:aO} {pl:Pl} {P:Program}
def mark (w:World) (b n:Nat):World:=w.freeze ⟨b,n,none⟩ 1
def M8 (n:Nat) (fr:Nat× Nat):Nat× Nat:=if fr.1==fr.2 then(n,n+1)else(min fr.1 n,max fr.2 (n+1))
theorem wX {b n:Nat} {c:Array Value} {e:TypeId} {fr:Nat× Nat} (h:w.heap[b]? =some (.cells c e fr)):(mark w b n).heap[b]? =some (.cells c e (M8 n fr)):=by
 unfold mark World.freeze M8;rw[if_neg (by decide)];simp only[Array.getElem?_modify,if_true,h];rfl
theorem wY {b n i:Nat} (h:i≠b):(mark w b n).heap[i]? =w.heap[i]? :=by
 unfold mark World.freeze;rw[if_neg (by decide)];simp only[Array.getElem?_modify];rw[if_neg (λe:b=i=>h e.symm)]
theorem M9 {b n:Nat} {c:Array Value} {e:TypeId} {fr:Nat× Nat} (h:w.heap[b]? =some (.cells c e fr)) (p:Cell):(mark w b n).at? p=w.at? p:=by
 unfold World.at? World.cell?;by_cases q:p.1=b
 ·simp only[q,h,wX h]
 ·simp only[wY q]
theorem oF {b n:Nat} {p:Cell} (h:p.1≠b):(mark w b n).ff p=w.ff p:=by
 unfold World.ff;rw[wY h]
theorem JT {b n j o m:Nat} {c:Array Value} {e:TypeId} {fr:Nat× Nat} (h:w.heap[b]? =some (.cells c e fr)) (hn:n=c.size) (hw:whole (w.ff (b,j)) o m=true):whole ((mark w b n).ff (b,j)) o m=true:=by
 unfold World.ff at*;simp only[h]at hw;simp only[wX h];unfold whole calm at*;simp only[VP,decide_eq_true_eq]at*;refine⟨?_,hw.2⟩;unfold M8;obtain⟨lo,hi⟩:=fr;simp only at hw⊢;by_cases q:lo=hi
 ·subst q;simp;omega
 ·have:(lo==hi)=false:=by simpa using q
  rw[this];simp only[Xf,if_false];omega
theorem En {b j:Nat} {u:Value} (h:w.at? (b,j)=some u):∃c e fr,w.heap[b]? =some (.cells c e fr)/\j<c.size:=by
 unfold World.at? World.cell? at h
 cases hb:w.heap[b]? with
 |none=>simp[hb]at h
 |some ob=>
  cases ob with
  |cells c e fr=>
   simp only[hb,Xp,Xf,if_false]at h
   exact⟨c,e,fr,rfl,(Wi.1 h).1⟩
  |_=>simp[hb]at h
theorem Na {i b n cap:Nat} {sh:Option (List Nat)} {t:Ty} {xs:List t.El} {a:Option Addr} {o:Nat} {c:Array Value} {e:TypeId} {fr:Nat× Nat} (hr:dc H pl w) (hl:look H i=some (.arr sh t xs))
  (hb:w.heap[b]? =some (.cells c e fr)) (hc0:0<c.size) (hn:n=c.size) (hin:∀j,j<c.size->pl.fp i (b,j)) (hsz:c.size=cap*t.sz) (Pc:eL (mark w b n) H pl i (.arr sh t xs)):
  dk H H ([],[]) pl pl w (mark w b n):=by
 have hat:=λp=>M9 (n:=n) hb p
 have Il:∀p u,w.at? p=some u->p.1=b->pl.fp i p:=λp u hp q=>by
  obtain⟨p1,p2⟩:=p;simp only at q;subst q;obtain⟨c',e',fr',h1,h2⟩:=En hp;rw[hb]at h1;cases h1;exact hin p2 h2
 have hk:mS ([],[]) w H pl (mark w b n) H pl:=⟨λj B hB _=>⟨B,hB,B.dI,rfl⟩,λd p u _ ho hp=>⟨ho,(hat p).trans hp⟩⟩;refine⟨⟨λj B hB=>?_,hr.dis,hr.ob,λp hp=>hr.nb p ((hat p).symm.trans hp)⟩,hk,rfl,⟨rfl,rfl,λk hk'=>?_⟩,λp u hp hno=>⟨hno,(hat p).trans hp,oF λq=>hno i _ hl (Il p u hp q)⟩⟩
 ·by_cases q:j=i
  ·subst q;rw[hl]at hB;cases hB;exact Pc
  ·refine(hr.blk j B hB).bG hk rfl (λ_=>Yy) (λp u hf hu=>⟨(hat p).trans hu,oF λq'=>q (hr.dis j i B _ p hB hl hf (Il p u hu q'))⟩) B.dJ
 ·by_cases q:k=b
  ·subst q;rw[hb,wX hb];exact⟨rfl,.inr hc0,rfl⟩
  ·rw[wY q];split
   ·rename_i e1 e2;rw[e1]at e2;cases e2;exact⟨rfl,.inl rfl,rfl⟩
   ·rfl
theorem PE {o:Oper} {a:Act} {T:TypeId} {x:Operand} {m i:Nat} {sh:Option (List Nat)} {t:Ty} {y:t.El} {ys:List t.El} (hr:dc H pl w) (ho:o.op=.convert T T x) (hT:xR P T=true)
  (hl:look H i=some (.arr sh t (y::ys))) (hx:ax w H pl (.own i) (a.eval x)):lR P o a w H pl m {v:=.own i}:=by
 have ha:a.eval x=pl.hdr i:=by generalize a.eval x=u at hx;cases hx;rfl
 unfold xR nA at hT;split at hT
 ·rename_i e he;split at he
  ·rename_i e' hu;cases he;split at hT
   ·rename_i he8;have Pc:=hr.blk i _ hl
    obtain⟨ad,cap,b,o',hh,hlen,Up,lP⟩:∃ad cap b o',pl.hdr i=.slice ad (y::ys).length cap/\(y::ys).length<=cap/\(cap=0\/ad=some ⟨b,o',none⟩)/\
      (∀j,j<cap*t.sz->(∃v,w.at? (b,o'+j)=some v)/\whole (w.ff (b,o'+j)) o' (cap*t.sz)=true/\pl.fp i (b,o'+j)):=by
     cases sh with
     |none=>obtain⟨⟨ad,cap,b,o',vs,fs,q1,q2,q3,q4,q5,q6,q7,q8,q9⟩⟩:=Pc;exact⟨ad,cap,b,o',q1,q2,q3,λj hj=>⟨(q4 j hj).1,(q4 j hj).2,(q9 _).2 (.inl ⟨rfl,by simp,by simp;omega⟩)⟩⟩
     |some d=>obtain⟨⟨ad,cap,b,o',vs,fs,q1,q2,q3,q4,q5,q6,q7,q8,q9⟩⟩:=Pc;exact⟨ad,cap,b,o',q1,q2,q3,λj hj=>⟨(q4 j hj).1,(q4 j hj).2,(q9 _).2 (.inl ⟨rfl,by simp,by simp;omega⟩)⟩⟩
    have jt:0<cap:=by simp at hlen;omega
    have Mp:0<cap*t.sz:=Nat.mul_pos jt (Ty.ia t);obtain⟨⟨v0,hv0⟩,hw0,_⟩:=lP 0 Mp;obtain⟨c,ee,fr,hb,hc0⟩:=En hv0
    have ho0:o'=0/\c.size=cap*t.sz:=by
     unfold whole World.ff at hw0;simp only[hb,VP,decide_eq_true_eq]at hw0;exact hw0.2
    obtain⟨rfl,hsz⟩:=ho0;have Up:=Up.resolve_left (by omega);subst Up
    have hin:∀j,j<c.size->pl.fp i (b,j):=λj hj=>by
     have:=(lP j (by omega)).2.2;rwa [V2]at this
    have To:w.shape? b=some (ee,c.size):=by unfold World.shape?;rw[hb]
    have lY:(execOp a.eval o).run P w=.ok (.value (a.eval x)) (mark w b c.size):=by
     rw[execOp,ho,ha,hh];simp[ha,hh,convert,run_underlying hu,run_underlying he8,markStringish,To,mark]
    have hat:=λp=>M9 (n:=c.size) hb p;have hk:mS ([],[]) w H pl (mark w b c.size) H pl:=⟨λj B hB _=>⟨B,hB,B.dI,rfl⟩,λd p u _ ho hp=>⟨ho,(hat p).trans hp⟩⟩
    have hnb:∀p,reg b 0 (cap*t.sz) p\/p.1≠b\/w.at? p=none:=λp=>by
     by_cases q:p.1=b
     ·cases hp:w.at? p with
      |none=>exact .inr (.inr rfl)
      |some u=>
       obtain⟨p1,p2⟩:=p;simp only at q;subst q;obtain⟨c',e',fr',h1,h2⟩:=En hp;rw[hb]at h1;cases h1;exact .inl ⟨rfl,Wy _,by simp only;omega⟩
     ·exact .inr (.inl q)
    have T4:eL (mark w b c.size) H pl i (.arr sh t (y::ys)):=by
     cases sh with
     |none=>
      obtain⟨⟨ad,jA,b',o',vs,fs,q1,q2,q3,q4,q5,q6,q7,q8,q9⟩⟩:=Pc;rw[hh]at q1;cases q1;have q3:=q3.resolve_left (by omega);cases q3;refine⟨⟨_,cap,b,0,vs,fs,hh,q2,.inr rfl,λj hj=>⟨?_,JT hb rfl (q4 j hj).2⟩,λi' j r h=>(hat _).trans (q5 i' j r h),λi' j r h=>(q6 i' j r h).frame λp u hp hu=>⟨(hat p).trans hu,oF λq=>?_⟩,q7,q8,q9⟩⟩
      ·obtain⟨⟨v,hv⟩,_⟩:=q4 j hj;exact⟨v,(hat _).trans hv⟩
      ·rcases hnb p with h1|h1|h1
       ·exact q7 _ _ _ p h hp h1
       ·exact h1 q
       ·rw[hu]at h1;exact nomatch h1
     |some d=>
      obtain⟨⟨ad,jA,b',o',vs,fs,q1,q2,q3,q4,q5,q6,q7,q8,q9⟩⟩:=Pc;rw[hh]at q1;cases q1;have q3:=q3.resolve_left (by omega);cases q3;refine⟨⟨_,cap,b,0,vs,fs,hh,q2,.inr rfl,λj hj=>⟨?_,JT hb rfl (q4 j hj).2⟩,λi' j r h=>(hat _).trans (q5 i' j r h),λi' j r h=>⟨(q6 i' j r h).1.frame λp u hp hu=>⟨hp,(hat p).trans hu⟩,(q6 i' j r h).2⟩,q7,q8,q9⟩⟩;obtain⟨⟨v,hv⟩,_⟩:=q4 j hj;exact⟨v,(hat _).trans hv⟩
    refine⟨λj B h=>by simp[look]at h,λH' next Q ha' hN=>?_⟩;cases ha'
    have hH:tL [] H++aR m []=H:=by simp[tL,aR]
    simp only[hH]at hN;have hst:=Na (n:=c.size) hr hl hb hc0 rfl hin hsz T4 (a:=some ⟨b,0,none⟩) (o:=0);exact oD lY (hN _ pl _ hst (hx.yV hk))
   ·exact nomatch hT
  ·exact nomatch he
 ·exact nomatch hT
end
end
section
variable [Tok]
def JU (P:Program) (g:FuncId):Prop:=∀(args:Array Value) (w:World),(callFunc g args).run P w=.ok (.enter g args) w
theorem F9 {P:Program} {g:FuncId} {fn:Func} (h:P.funcs[g]? =some fn) (hb:fn.body.isNone=false) (hn:(fn.name== "runtime.NumGoroutine")=false):JU P g:=by
 intro args w
 have hn':¬fn.name= "runtime.NumGoroutine":=by simpa using hn
 have hb':¬fn.body=none:=λe=>by rw[e]at hb;cases hb
 simp[callFunc,h,hb',hn']
def Nb (P:Program) (g:FuncId) (nid:Nat) (vs:List SV) (H:aO) (c:CR):Prop:=
 JU P g/\(∀i B,look c.upd i=some B->∃B',look H i=some B')/\
 ∀(H1:aO) (pl:Pl) (w:World) (us:Array Value),Ext H H1->dc H1 pl w->(∀k,k<c.news.length->look H1 (nid+k)=none)->vs.length=us.size->
  (∀(j:Nat) (x:SV) (u:Value),vs[j]? =some x->us[j]? =some u->ax w H1 pl x u)->∀H',after H1 nid c=some H'->
  Calls P g us w λe w'=>∃u pl',e=.returned u/\dk H1 H' c.kil pl pl' w w'/\ax w' H' pl' c.v u
def tF (P:Program) (g:FuncId) (o:Orc):Prop:=
 ∀(ρ:Type) nid vs H (K:CR->Option ρ) (out:ρ),o ρ nid vs H K=some out->∃c,K c=some out/\Nb P g nid vs H c
theorem PF (P:Program) (g:FuncId):tF P g SZ:=λ_ _ _ _ _ _ h=>nomatch h
def oG (E:Env):Prop:=∀g,tF E.P g (E.orc g)
section
variable {w:World} {H:aO} {pl:Pl} {P:Program}
theorem PH {o:Oper} {a:Act} {s:List (Nat× SV)} {f:Operand} {args:Array Operand} {tys:Array TypeId} {g:FuncId} {first vs cap:List SV} {n:Nat} {c:CR} {H0:aO}
  (he:Ext H0 H) (hr:dc H pl w) (hs:il w H pl s a) (hn:∀k,k<c.news.length->look H (n+k)=none) (ho:o.op=.call {callee:=.value f,args:=args,argTypes:=tys})
  (hf:opd s f=some (.fn (.func g) first cap)) (hv:tY s args.toList=some vs) (hc:Nb P g n (first++vs++cap) H0 c):lR P o a w H pl n c:=by
 obtain⟨hen,hup,RG⟩:=hc;refine⟨λi B hB=>(hup i B hB).imp λB' h=>he i B' h,λH' next Q ha hN=>?_⟩;have hfr:=aX hs hf;obtain⟨g1,g2⟩:=D9 hs hv;generalize hfe:a.eval f=fe at hfr
 cases hfr with
 |fn _ _ _ us vs' hl h1 hl' h2=>
  have hlen:(first++vs++cap).length=(us++args.map a.eval++vs').size:=by simp only[VR,Array.size_append,hl,hl',g1]
  have hpt:∀(j:Nat) (x:SV) (u:Value),(first++vs++cap)[j]? =some x->(us++args.map a.eval++vs')[j]? =some u->ax w H pl x u:=λj x u hx hu=>by
   grind
  have hcl:=RG H pl w _ he hr hn hlen hpt H' ha;unfold Oper.wp
  have lY:(execOp a.eval o).run P w=.ok (.enter g (us++args.map a.eval++vs')) w:=by
   rw[execOp,ho];simp only[resolve,hfe,Deferred.ofValue,invoke,Sem.run_bind,Sem.run_pure,Result.andThen_ok];exact hen _ w
  rw[lY];show Calls P g _ w _;refine hcl.mono λe w' ⟨u,pl',he,hst,hv⟩=>?_;grind
variable {ρ:Type}
def Ga (P:Program) (o:Oper) (n:Nat) (c:CR) (s:List (Nat× SV)) (h:aO):Prop:=
 ∀(s':List (Nat× SV)) (H:aO) (a:Act) (w:World) (pl:Pl),Ext s s'->Ext h H->dc H pl w->il w H pl s' a->(∀k,k<c.news.length->look H (n+k)=none)->lR P o a w H pl n c
theorem Eo {H:aO} {n:Nat} {B:Blk} (h:∀k,k<[B].length->look H (n+k)=none):look H n=none:=h 0 (by simp)
theorem RH (hr:dc H pl w) {o:Oper} {a:Act} {T:TypeId} {p:Operand} {n i x k:Nat} {t:Ty} {xs:List t.El} (ho:o.op=.load T p) (hT:JA P T=true)
  (hl:look H i=some (.arr none t xs)) (hk:k<t.sz) (hp:ax w H pl (.ptr i x k) (a.eval p)):lR P o a w H pl n {v:=.inn i x k}:=by
 generalize he:a.eval p=u at hp
 cases hp with
 |wM _ _ cs b m hl' hh=>grind
 |uR _ _ _ sh t' xs' b m nn cap hl' hx hh=>
  rw[hl]at hl';cases hl';obtain⟨⟨a',jA,b',o',vs,fs,h1,h2,h3,h4,h5,h6,h7,h8,h9⟩⟩:=hr.blk i _ hl;rw[hh]at h1;cases h1;have h3:=h3.resolve_left (by omega);cases h3;obtain⟨r,hcell⟩:=dU hx hk;have hat:=h5 x k r hcell;have CK:one (vs x k)=true:=((h6 _ _ _ hcell).Pb (ok:=λ_=>True) (λ_ _=>trivial)).tD;have hfp:pl.fp i (b,m+(x*t.sz+k)):=(h9 _).2 (.inl ⟨rfl,by simp,by have:=rf hx hk h2;simp;omega⟩);obtain⟨el,_,hu,_⟩:=D5 hT;refine oX (u:=vs x k) hr ?_ (.inn i x k none t xs b m _ _ _ hl hx hk hh ⟨hr.ob i _ _ hl hfp,λj B hB hm hf=>?_⟩ hat CK)
  ·rw[execOp,ho];refine eU ?_;rw[Instr.loadAt,he];have hat:w.cell? ⟨b,m+(x*t.sz+k),none⟩=some (vs x k):=hat
   have h1:(loadVar T ⟨b,m+(x*t.sz+k),none⟩).run P w=.ok (vs x k) w:=by simp[loadVar,mF hu,zQ,hu,hat]
   exact h1
  ·have:=hr.dis j i _ _ _ hB hl hf hfp;subst this;rw[hl]at hB;cases hB;have:=hm (by simp[mem]);cases this
theorem Im {E:Env} {o:Oper} {s:List (Nat× SV)} {h0:aO} {n:Nat} {K:CR->Option ρ} {out:ρ} {args:Array Operand} {tys:Array TypeId} {b x:SV} {T T' e:TypeId} {sz:Nat} {t:Ty}
  (ho:o.op=.call {callee:=.builtin .append,args:=args,argTypes:=tys}) (hvs:tY s args.toList=some [b,x]) (hty:tys.toList=[T,T']) (he:nA E.P T=some e) (hsz:j6 E.P e=some sz)
  (h:HU E h0 n e sz t T' b x K=some out):∃c,K c=some out/\Ga E.P o n c s h0:=by
 unfold HU at h;split at h
 ·cases hb:(S5 E.P T'&&(rb E.P e&&Nat.beq t.sz sz))<;>simp only[hb,cond_true,cond_false,An]at h
  ·cases h
  simp only[VP]at hb;obtain⟨l,hl,z,hz,q,hq,h⟩:=h;cases hi:(isNil q.1&&Nat.beq z.length sz)<;>simp only[hi,cond_true,cond_false]at h
  ·cases h
  simp only[VP]at hi;split at h
  ·rename_i y hy;cases hd:decide (1<=l/\l<=(aU:Int))<;>simp only[hd,cond_true,cond_false]at h
   ·cases h
   have hd:=of_decide_eq_true hd
   have hq':j8 h0 t 1 z=some ([],[y]):=by rw[hq];obtain⟨q1,q2⟩:=q;simp only at hy hi;rw[hy,eT hi.1]
   exact⟨_,h,λs' H a w pl es eh hr hs hn=>Cg hr hs (Eo hn) ho (ki es _ _ hvs) hty hl hb.1 he hsz hb.2.1 (So hb.2.2) hz (So hi.2) (mQ eh _ _ _ _ hq') hd⟩
  ·cases h
 ·cases h
theorem Io {P:Program} {o:Oper} {s:List (Nat× SV)} {h0:aO} {n:Nat} {K:CR->Option ρ} {out:ρ} {args:Array Operand} {tys:Array TypeId} {b x:SV} {T e:TypeId} {sz:Nat} {t:Ty} {z:List SV}
  (ho:o.op=.call {callee:=.builtin .append,args:=args,argTypes:=tys}) (hvs:tY s args.toList=some [b,x]) (hty:tys.toList=[T,T]) (he:nA P T=some e) (hsz:j6 P e=some sz) (hts:t.sz=sz) (hz:ib P e=some z)
  (h:HV h0 t b x K=some out):∃c,K c=some out/\Ga P o n c s h0:=by
 unfold HV at h;split at h
 ·rename_i i a i' off num;cases hi:Nat.beq i i'<;>simp only[hi,cond_true,cond_false]at h
  ·cases h
  have:=So hi;subst this;split at h
  ·rename_i d t' xs hl;split at h
   ·rename_i htt;subst htt;cases hm:mem i d<;>simp only[hm,cond_true,cond_false]at h
    rotate_left
    ·cases h
    cases hb:(Nat.ble (a+num) xs.length&&(Nat.ble (off+num) xs.length&&Nat.ble 1 xs.length))<;>simp only[hb,cond_true,cond_false]at h
    ·cases h
    simp only[VP]at hb;exact⟨_,h,λs' H a w pl es eh hr hs hn=>PD hr hs ho (ki es _ _ hvs) hty he hsz hts hz (eh _ _ hl) hm (V4 hb.1) (V4 hb.2.1) (V4 hb.2.2)⟩
   ·cases h
  ·cases h
 ·cases h
theorem Gb {E:Env} (hE:oG E) {o:Oper} {s:List (Nat× SV)} {h0:aO} {n:Nat} {K:CR->Option ρ} {out:ρ}
  (h:DX E s h0 n o.op K=some out):∃c,K c=some out/\Ga E.P o n c s h0:=by
 unfold DX at h;split at h
 ·rename_i T ho;simp only[An]at h;obtain⟨z,hz,h⟩:=h;exact⟨_,h,λs' H a w pl es eh hr hs hn=>MV hr (Eo hn) ho hz⟩
 ·rename_i T x ho;simp only[An]at h;obtain⟨v,hv,cs,hcs,h⟩:=h;exact⟨_,h,λs' H a w pl es eh hr hs hn=>Ry hr (Eo hn) ho (aX hs (dp es _ _ hv)) hcs⟩
 ·rename_i T k parts ho;simp only[An]at h;obtain⟨e,he,sz,hsz,ps,hps,z,hz,h⟩:=h;cases hb:(Nat.ble (k*sz) 16777216&&Nat.beq z.length sz)<;>simp only[hb,cond_true,cond_false,An]at h
  ·cases h
  obtain⟨cs,hcs,h⟩:=h;simp only[VP]at hb;have h1:=V4 hb.1;have h2:=So hb.2
  have bx:K {v:=.bsl n k,news:=[.box cs]}=some out->∃c,K c=some out/\Ga E.P o n c s h0:=λh=>
   ⟨_,h,λs' H a w pl es eh hr hs hn=>Cj hr hs (Eo hn) ho he hsz (re es _ _ hps) hz h2 h1 hcs⟩
  split at h
  ·exact bx h
  ·rename_i t ht;cases hc:((ra t||Nat.beq k 0)&&Nat.beq t.sz sz)<;>simp only[hc,cond_true,cond_false,An]at h
   ·unfold U0 at h;cases hd:(E.lit&&Nat.beq t.sz sz)<;>simp only[hd,cond_true,cond_false]at h
    ·exact bx h
    simp only[VP]at hd;split at h
    ·rename_i xs hx;exact⟨_,h,λs' H a w pl es eh hr hs hn=>tN hr hs (Eo hn) ho he hsz (re es _ _ hps) hz h2 h1 hcs (So hd.2) (mQ eh _ _ _ _ hx)⟩
    ·exact bx h
   simp only[VP]at hc;obtain⟨⟨ids,xs⟩,hx,h⟩:=h;cases hi:isNil ids<;>simp only[hi,cond_true,cond_false]at h
   ·cases h
   have:=eT hi;subst this;exact⟨_,h,λs' H a w pl es eh hr hs hn=>tN hr hs (Eo hn) ho he hsz (re es _ _ hps) hz h2 h1 hcs (So hc.2) (mQ eh _ _ _ _ hx)⟩
 ·rename_i T l c ho;simp only[An]at h;obtain⟨e,he,sz,hsz,t,ht,z,hz,lv,hl,cv,hc,li,hli,ci,hci,h⟩:=h;cases hb:(rb E.P e&&Nat.beq t.sz sz)<;>simp only[hb,cond_true,cond_false,An]at h
  ·cases h
  simp only[VP]at hb;obtain⟨⟨ids,xs⟩,hx,h⟩:=h;cases hi:(isNil ids&&Nat.beq z.length sz)<;>simp only[hi,cond_true,cond_false]at h
  ·cases h
  simp only[VP]at hi;have QT:=eT hi.1;subst QT;split at h
  ·rename_i y;by_cases hd:0<=li/\li<=ci/\ci<=(aU:Int)
   ·simp only[hd,and_self,decide_true,cond_true]at h;exact⟨_,h,λs' H a w pl es eh hr hs hn=>Eh hr hs (Eo hn) ho (dp es _ _ hl) (dp es _ _ hc) hli hci he hsz hb.1 (So hb.2) hz (So hi.2) (mQ eh _ _ _ _ hx) hd⟩
   ·simp only[hd,decide_false,cond_false]at h;cases h
  ·cases h
 ·rename_i args tys ho;simp only[An]at h;obtain⟨vs,hvs,h⟩:=h;split at h
  ·rename_i b x T T' hty;simp only[An]at h;obtain⟨e,he,sz,hsz,t,ht,h⟩:=h;cases hb:(rb E.P e&&(Nat.beq t.sz sz&&Nat.beq T T'))<;>simp only[hb,cond_true,cond_false,An]at h
   ·exact Im ho hvs hty he hsz h
   simp only[VP]at hb;have hTT:T=T':=So hb.2.2;subst hTT;have hts:=So hb.2.1;obtain⟨z,hz,h⟩:=h;cases hzl:Nat.beq z.length sz<;>simp only[hzl,cond_true,cond_false,An]at h
   ·cases h
   have hzl:=So hzl;obtain⟨⟨sh1,ids,ys⟩,hy,h⟩:=h;split at h
   ·cases hh:hit ids (sh1.getD [])<;>simp only[hh,cond_true,cond_false]at h
    ·cases hn':Nat.ble ys.length aU<;>simp only[hn',cond_true,cond_false]at h
     ·cases h
     exact⟨_,h,λs' H a w pl es eh hr hs hn=>CQ (xs:=[]) hr hs (Eo hn) ho (ki es _ _ hvs) hty he hsz hb.1 hts hz hzl (CG eh _ _ _ hy) (.inl ⟨rfl,rfl,rfl,rfl⟩) hh (by simpa using V4 hn')⟩
    ·cases h
   ·rename_i i;split at h
    ·rename_i sh t' xs hl;split at h
     ·rename_i htt;subst htt;simp only[An]at h;obtain⟨sh',hj,h⟩:=h;cases hm:mem i ids<;>simp only[hm,cond_true,cond_false]at h
      rotate_left
      ·cases h
      cases hh:hit (i::ids) (sh'.getD [])<;>simp only[hh,cond_true,cond_false]at h
      rotate_left
      ·cases h
      cases hn':Nat.ble (xs.length+ys.length) aU<;>simp only[hn',cond_true,cond_false]at h
      ·cases h
      exact⟨_,h,λs' H a w pl es eh hr hs hn=>CQ hr hs (Eo hn) ho (ki es _ _ hvs) hty he hsz hb.1 hts hz hzl (CG eh _ _ _ hy) (.inr ⟨i,sh,rfl,eh _ _ hl,rfl,hm,hj⟩) hh (V4 hn')⟩
     ·cases h
    ·cases h
   ·exact Io ho hvs hty he hsz hts hz h
  ·cases h
 ·rename_i args tys ho;simp only[An]at h;obtain⟨vs,hvs,h⟩:=h;split at h
  ·rename_i v T hty;simp only[An]at h;obtain⟨e,he,z,hz,⟨i,q,num⟩,hv,h⟩:=h;split at h
   ·rename_i sh t xs hl;cases hzl:Nat.beq z.length t.sz<;>simp only[hzl,cond_true,cond_false,An]at h
    ·cases h
    obtain⟨⟨ids,ys⟩,hy,h⟩:=h;cases hi:isNil ids<;>simp only[hi,cond_true,cond_false]at h
    ·cases h
    have QT:=eT hi;subst QT;split at h
    ·rename_i y;exact⟨_,h,λs' H a w pl es eh hr hs hn=>M5 hr hs ho (ki es _ _ hvs) hty he hz (So hzl) (PC eh hv) (eh _ _ hl) (mQ eh _ _ _ _ hy)⟩
    ·cases h
   ·cases h
  ·cases h
 ·rename_i T p x ho;simp only[An]at h;obtain⟨p',hp,x',hx,h⟩:=h
  have arr:∀{i k off:Nat} {sh:Option (List Nat)} {t:Ty} {ys:List t.El},p'=.ptr i k off->look h0 i=some (.arr sh t ys)->zm E.P T h0 i sh t ys k off x' K=some out->∃c,K c=some out/\Ga E.P o n c s h0:=λe hl h3=>by
   clear h;subst e;obtain⟨c,h1,h2⟩:=F7 (n:=n) ho h3;exact⟨c,h1,λs' H a w pl es eh hr hs hn=>h2 H a w pl eh (eh _ _ hl) hr (aX hs (dp es _ _ hp)) (aX hs (dp es _ _ hx))⟩
  split at h
  ·rename_i i k off;split at h
   ·rename_i cs hl;cases hk0:Nat.beq k 0<;>simp only[hk0,cond_true,cond_false,An]at h
    ·cases h
    have hk0:=So hk0;subst hk0;obtain⟨xs,hxs,sz,hsz,h⟩:=h;cases hb:Nat.beq sz xs.length<;>simp only[hb,cond_true,cond_false,An]at h
    ·cases h
    ·obtain⟨cs',hcs,h⟩:=h;exact⟨_,h,λs' H a w pl es eh hr hs hn=>MW hr ho (eh _ _ hl) (aX hs (dp es _ _ hp)) (aX hs (dp es _ _ hx)) hxs hsz (So hb) hcs⟩
   ·rename_i sh t ys hl;exact arr rfl hl h
   ·cases h
  ·cases h
 ·rename_i f args tys ho;simp only[An]at h;obtain⟨f',hf,vs,hvs,h⟩:=h;split at h
  ·rename_i g first cap
   obtain⟨c,hc,hcs⟩:=hE g _ _ _ _ _ _ h;exact⟨c,hc,λs' H a w pl es eh hr hs hn=>PH eh hr hs hn ho (dp es _ _ hf) (ki es _ _ hvs) hcs⟩
  ·cases h
 ·rename_i T x ho;unfold S7 at h;cases hk:taken E x<;>simp only[hk,cond_true,cond_false]at h
  rotate_left
  ·split at h
   ·rename_i i y hx;split at h
    ·rename_i t xs hl;simp only[An]at h;obtain⟨e,he,v,hv,h⟩:=h;exact⟨_,h,λs' H a w pl es eh hr hs hn=>JS (Tl t) hr ho (eh _ _ hl) he hv (aX hs (dp es _ _ hx)) hn⟩
    ·cases h
   ·cases h
  split at h
  ·rename_i v hv;unfold S2 at hv;cases hi:E.inn<;>simp only[hi,cond_true,cond_false]at hv
   ·cases hv
   cases hT:JA E.P T<;>simp only[hT,cond_true,cond_false]at hv
   ·cases hv
   split at hv
   ·rename_i i y k hx;split at hv
    ·rename_i t xs hl;cases hk:Nat.ble (k+1) t.sz<;>simp only[hk,cond_true,cond_false,It]at hv
     ·cases hv
     subst hv;exact⟨_,h,λs' H a w pl es eh hr hs hn=>RH hr ho hT (eh _ _ hl) (V4 hk) (aX hs (dp es _ _ hx))⟩
    ·cases hv
   ·cases hv
  ·have dflt:pL E.P s h0 (.load T x) (λv=>K {v:=v})=some out->∃c,K c=some out/\Ga E.P o n c s h0:=λh=>by
    rw[pM]at h;simp only[An]at h;obtain⟨v,hv,h⟩:=h
    exact⟨_,h,λs' H a w pl es eh hr hs hn=>by
     obtain⟨u,hu,hvr⟩:=lX hr hs (wL es eh _ _ hv) o ho
     exact oX hr hu hvr⟩
   unfold S6 at h;cases ht:E.tak<;>simp only[ht,cond_true,cond_false]at h
   ·exact dflt h
   split at h
   ·rename_i i y hx;split at h
    ·rename_i st xs hl;cases hf:ra (.st st)<;>simp only[hf,cond_true,cond_false]at h
     ·simp only[An]at h;obtain⟨e,he,v,hv,h⟩:=h;exact⟨_,h,λs' H a w pl es eh hr hs hn=>JS (Tk st) hr ho (eh _ _ hl) he hv (aX hs (dp es _ _ hx)) hn⟩
     ·exact dflt h
    ·exact dflt h
   ·exact dflt h
 ·rename_i src dst x ho;split at h
  ·rename_i i hi;unfold S4 at hi;cases hT:(Nat.beq src dst&&xR E.P src)<;>simp only[hT,cond_true,cond_false]at hi
   ·cases hi
   simp only[VP]at hT;have hsd:=So hT.1;split at hi
   ·rename_i j hx;split at hi
    ·rename_i sh t y ys hl;cases hi;subst hsd;exact⟨_,h,λs' H a w pl es eh hr hs hn=>PE hr ho hT.2 (eh _ _ hl) (aX hs (dp es _ _ hx))⟩
    ·cases hi
   ·cases hi
  ·rw[pM]at h;simp only[An]at h;obtain⟨v,hv,h⟩:=h
   exact⟨_,h,λs' H a w pl es eh hr hs hn=>by
    obtain⟨u,hu,hvr⟩:=lX hr hs (wL es eh _ _ hv) o ho
    exact oX hr hu hvr⟩
 ·rw[pM]at h;simp only[An]at h;obtain⟨v,hv,h⟩:=h
  exact⟨_,h,λs' H a w pl es eh hr hs hn=>by
   obtain⟨u,hu,hvr⟩:=lX hr hs (wL es eh _ _ hv) o rfl
   exact oX hr hu hvr⟩
theorem Ip {E:Env} (hE:oG E) {o:Oper} {a:Act} {s:List (Nat× SV)} {n:Nat} {K:CR->Option ρ} {out:ρ}
  (hr:dc H pl w) (hs:il w H pl s a) (hn:∀i,n<=i->look H i=none) (h:DX E s H n o.op K=some out):∃c,K c=some out/\lR E.P o a w H pl n c:=by
 obtain⟨c,h1,h2⟩:=Gb hE h;exact⟨c,h1,h2 s H a w pl .rfl' .rfl' hr hs λk _=>hn _ (Nat.le_add_right _ _)⟩
theorem Nc {x y:Option ρ} {out:ρ} (h:both x y=some out):x=some out/\y=some out:=by
 unfold both at h;grind
theorem Iq {op:Op} {T:TypeId} {x:Operand} {e:Bool} (h:JD op=some (T,x,e)):∃U,op=.binOp (cond e .eql .neq) T x (.const (.slice none 0 0)) U:=by
 unfold JD at h;grind
theorem Nd (hr:dc H pl w) {v:SV} {u:Value} {K:Bool->Option ρ} {out:ρ} (h:Uh H v K=some out) (hv:ax w H pl v u):
  ∃a n c,u=.slice a n c/\K a.isNone=some out:=by
 have fork:∀{α:Type} {xs:List α} {a:Option Addr},(xs=[]\/a.isSome=true)->cond (isNil xs) (both (K true) (K false)) (K false)=some out->K a.isNone=some out:=λ{α xs a} hx h=>by
  cases xs with
  |nil=>
   obtain⟨h1,h2⟩:=Nc h
   cases a<;>assumption
  |cons y ys=>
   rcases hx with hx|hx
   ·cases hx
   ·cases a with
    |none=>cases hx
    |some a=>exact h
 unfold Uh at h;split at h
 ·cases hv;exact⟨_,_,_,rfl,h⟩
 ·rename_i d t xs
  cases hv with
  |r _ _ _ hx=>cases hx with
   |sl _ _ a cap b o vs jt ha hc hr'=>grind
 ·rename_i i
  cases hv with
  |own _ sh t xs hl=>
   simp only[hl]at h;have hb:=hr.blk i _ hl
   have:∃a cap b o,pl.hdr i=.slice a xs.length cap/\xs.length<=cap/\(cap=0\/a=some ⟨b,o,none⟩):=by
    cases sh with
    |none=>obtain⟨⟨a,cap,b,o,vs,fs,q1,q2,q3,_⟩⟩:=hb;exact⟨a,cap,b,o,q1,q2,q3⟩
    |some d=>obtain⟨⟨a,cap,b,o,vs,fs,q1,q2,q3,_⟩⟩:=hb;exact⟨a,cap,b,o,q1,q2,q3⟩
   obtain⟨a,cap,b,o,q1,q2,q3⟩:=this;refine⟨a,_,_,q1,fork ?_ h⟩
   rcases q3 with rfl|rfl
   ·grind
   ·exact .inr rfl
 ·cases h
theorem RI (hr:dc H pl w) {o:Oper} {a:Act} {T:TypeId} {x:Operand} {e:Bool} {n:Nat} (hT:JA P T=true) (ho:JD o.op=some (T,x,e)) {b:Option Addr} {l c:Nat} (hx:a.eval x=.slice b l c):
  lR P o a w H pl n {v:=.b (cond b.isNone e (!e))}:=by
 obtain⟨U,ho⟩:=Iq ho;obtain⟨el,_,hu,_⟩:=D5 hT;refine oX (u:=.bool (cond b.isNone e (!e))) hr ?_ nG;rw[execOp,ho];have hc:a.eval (.const (.slice none 0 0))=.slice none 0 0:=rfl
 have key:(do eqGuard (cond e .eql .neq) T x (.const (.slice none 0 0)) (a.eval x) (a.eval (.const (.slice none 0 0)));binOp (cond e .eql .neq) T (a.eval x) (a.eval (.const (.slice none 0 0))):Sem Value).run P w=.ok (.bool (cond b.isNone e (!e))) w:=by
  rw[hc,hx];refine guarded (λh=>nomatch h) (λ_ h=>nomatch h) ?_;cases e
  ·rw[cond_false,run_neq_slice_nil w T el b l c hu];cases b<;>rfl
  ·rw[cond_true,Lib.run_eql_slice_nil w T el b l c _ _ hu];cases b<;>rfl
 simp only[Sem.run_bind,key,Result.andThen_ok];rfl
theorem Lg {E:Env} (hE:oG E) {w0:World} {fp0:G0} {o:Oper} {st:St} {a:Act} {K:St->Option ρ} {out:ρ} {next:Act->World->Prop} {Q:Exit->Act->World->Prop}
  (hr:Rel w0 fp0 st pl a w) (h:SJ E o st K=some out) (hK:∀st' pl' a' w',K st'=some out->pl'.base=pl.base->st'.n=st.n->Rel w0 fp0 st' pl' a' w'->next a' w'):o.wp E.P a w next Q:=by
 obtain⟨c,hc,hup,Uq⟩:∃c,((st.take o.dst c).bind K)=some out/\lR E.P o a w st.heap pl st.nid c:=by
  unfold SJ at h;split at h
  ·rename_i T x e ho;cases hT:JA E.P T<;>simp only[hT,cond_true,cond_false,An]at h
   ·cases h
   obtain⟨v,hv,h⟩:=h;obtain⟨b,l,c,hu,hk⟩:=Nd hr.hr h (aX hr.sl hv);exact⟨_,hk,RI hr.hr hT ho hu⟩
  ·exact Ip hE hr.hr hr.sl hr.fresh h
 simp only[An]at hc;obtain⟨st',ht,hk⟩:=hc
 refine Uq st'.heap next Q (MU ht) λu pl' w' hst hv=>?_
 have hn:st'.n=st.n:=by
  simp only[St.take,An,It]at ht;grind
 exact hK st' pl' _ w' hk hst.bs hn (hr.take ht hup hst hv)
end
end
section
variable [Tok]
theorem k8 (h:aO) (n:Nat) (b:Blk) (i:Nat):look (KR h n b) i=if n=i then(look h i).map λ_=>b else look h i:=by
 induction h with
 |nil=>simp[KR,look]
 |cons x l ih=>
  obtain⟨k,u⟩:=x;simp only[KR];cases hb:Nat.beq k n
  ·simp only[cond_false,aG,ih]
   have hne:k≠n:=λe=>by subst e;simp at hb
   grind
  ·simp only[cond_true,aG];have:=So hb;grind
theorem dV (s:List (Nat× SV)) (dst:Option Tmp) (v:SV) (t:Nat):look (JE s dst v) t=if dst=some t then some v else look s t:=by
 cases dst with
 |none=>simp[JE]
 |some d=>simp[JE,fq]
def Am {α:Type} (x y:List (Nat× α)):Prop:=∀t,look x t=look y t
theorem Nf {h h':aO} (e:Am h h') (n:Nat) (b:Blk):Am (KR h n b) (KR h' n b):=λt=>by rw[k8,k8,e t]
theorem Lh {h h':aO} (e:Am h h') (u:aO):Am (kh u h) (kh u h'):=by
 induction u generalizing h h' with
 |nil=>exact e
 |cons x l ih=>obtain⟨k,b⟩:=x;exact ih (Nf e k b)
theorem Ng (u h:aO) (i:Nat):(look (kh u h) i).isSome=(look h i).isSome:=by
 induction u generalizing h with
 |nil=>rfl
 |cons x l ih=>
  obtain⟨k,b⟩:=x;rw[kh,ih,k8];grind
theorem CV {u h:aO} {i:Nat}:look (kh u h) i=none↔look h i=none:=by
 have:=Ng u h i;rw[<-Option.not_isSome_iff_eq_none,<-Option.not_isSome_iff_eq_none,this]
theorem Li {S:Nat->Prop} {h h':aO} (e:∀i B,S i->look h i=some B->look h' i=some B) (u:aO):∀i B,S i->look (kh u h) i=some B->look (kh u h') i=some B:=by
 induction u generalizing h h' with
 |nil=>exact e
 |cons x l ih=>
  obtain⟨k,b⟩:=x;refine ih λt v ht hv=>?_;rw[k8]at hv⊢;by_cases c:k=t
  ·rw[if_pos c]at hv⊢;obtain⟨y,hy,rfl⟩:=VW.1 hv;grind
  ·grind
theorem rq {i:Nat}:∀(u h:aO),look u i=none->look (kh u h) i=look h i
  |[],_,_=>rfl
  | (k, b) :: l, h, e => by
    rw[aG]at e;by_cases c:k=i
    · grind
    · rw[if_neg c]at e;show look (kh l (KR h k b)) i=_;rw[rq l _ e,k8,if_neg c]
theorem PI {h:aO} {k:Nat} (b:Blk) (hk:∃B,look h k=some B):put h k b=KR h k b:=by
 induction h with
 |nil=>obtain⟨B,hB⟩:=hk;cases hB
 |cons x l ih=>
  obtain⟨k',u⟩:=x;simp only[put,KR];obtain⟨B,hB⟩:=hk;rw[aG]at hB;cases hb:Nat.beq k' k
  ·have hne:k'≠k:=λe=>by subst e;simp at hb
   rw[if_neg hne]at hB;simp only[cond_false,ih ⟨B,hB⟩]
  ·rfl
theorem wZ {u h:aO} (hd:∀i B,look u i=some B->∃B',look h i=some B'):tL u h=kh u h:=by
 induction u generalizing h with
 |nil=>rfl
 |cons x l ih=>
  obtain⟨k,b⟩:=x;have hk:=hd k b (by rw[aG];simp);simp only[tL,kh];rw[PI b hk];refine ih λi B hB=>?_;rw[k8];by_cases e:k=i
  ·grind
  ·rw[if_neg e];exact hd i B (by rw[aG,if_neg e];exact hB)
def Gc (x y:SH):Prop:=Am x.1 y.1/\Am x.2 y.2
theorem Gc.refl (x:SH):Gc x x:=⟨λ_=>rfl,λ_=>rfl⟩
theorem Gc.trans {x y z:SH} (h:Gc x y) (g:Gc y z):Gc x z:=⟨λt=>(h.1 t).trans (g.1 t),λt=>(h.2 t).trans (g.2 t)⟩
def DR.uf (r:DR) (i:Nat):Prop:=r.n0<=i/\i<r.n0+r.c.news.length
theorem DR.o4 {r:DR} {i:Nat} (h:¬r.uf i):look (aR r.n0 r.c.news) i=none:=by
 rw[bz];by_cases c:r.n0<=i
 ·rw[if_pos c];exact Wl (Nat.le_of_not_lt λh'=>h ⟨c,by omega⟩)
 ·rw[if_neg c]
theorem Ao {T:Kil} (h:T.2=[]) (x:List (Nat× SV)):pK T x=x:=by unfold pK;rw[h]
theorem Ir {T:Kil} (h:T.2=[]) (x:aO):jy T x=some x:=by unfold jy;rw[h]
theorem jF {r:DR} (hg:r.c.kil.2=[]) (x:SH):r.app x=some (JE x.1 r.dst r.c.v,kh r.c.upd x.2++aR r.n0 r.c.news):=by
 unfold DR.app;rw[Ir hg,Ao hg];rfl
theorem dW {r:DR} {x y:SH} (h:r.app x=some y):y.1=JE (pK r.c.kil x.1) r.dst r.c.v:=by
 unfold DR.app at h;simp only[An,It]at h;grind
theorem zp {r:DR} {x y:SH} (h:r.app x=some y) (i:Nat):look y.2 i=(cond (mem i r.c.kil.1) none ((look (kh r.c.upd x.2) i).bind (Blk.aS r.c.kil))).or (look (aR r.n0 r.c.news) i):=by
 unfold DR.app at h;simp only[An,It]at h;obtain⟨hh,h1,rfl⟩:=h;show look (hh++_) i=_;rw[aM,de r.c.gC h1 i]
theorem PJ {r:DR} (hg:r.c.kil.2=[]) {x y:SH} (e:Gc x y) {x':SH} (h:r.app x=some x'):∃y',r.app y=some y'/\Gc x' y':=by
 rw[jF hg]at h;cases h;refine⟨_,jF hg y,λt=>?_,λi=>?_⟩
 ·show look (JE _ _ _) t=look (JE _ _ _) t;rw[dV,dV,e.1 t]
 ·show look (_++_) i=look (_++_) i;rw[aM,aM,Lh e.2 _ i]
theorem eV (p:Nat->Bool):∀(l1 l2:List DR) (k:Nat) (x:SH),replay p k (l1++l2) x=(replay p k l1 x).bind (replay p (k+l1.length) l2)
 |[],l2,k,x=>by simp[replay]
 |r::l,l2,k,x=>by
  simp only[W7,replay,VS];cases p k
  ·simp only[cond_false];rw[eV p l l2 (k+1) x,show k+1+l.length=k+(l.length+1)from by omega]
  ·simp only[cond_true,Wu]
   congr 1;funext y;rw[eV p l l2 (k+1) y,show k+1+l.length=k+(l.length+1)from by omega]
theorem k9 {p q:Nat->Bool}:∀(l:List DR) (k:Nat) (x:SH),(∀j,j<l.length->p (k+j)=q (k+j))->replay p k l x=replay q k l x
 |[],_,_,_=>rfl
 |r::l,k,x,h=>by
  simp only[replay];have h0:=h 0 (by simp);rw[Wq]at h0
  have ih:=λx=>k9 (p:=p) (q:=q) l (k+1) x λj hj=>by have:=h (j+1) (by simpa using hj);rwa [show k+(j+1)=k+1+j from by omega]at this
  grind
theorem pR {p:Nat->Bool}:∀(l:List DR) (k:Nat) (x:SH),(∀j,j<l.length->p (k+j)=false)->replay p k l x=some x
 |[],_,_,_=>rfl
 |r::l,k,x,h=>by
  simp only[replay];have h0:=h 0 (by simp);rw[Wq]at h0;rw[h0,cond_false]
  exact pR l (k+1) x λj hj=>by have:=h (j+1) (by simpa using hj);rwa [show k+(j+1)=k+1+j from by omega]at this
theorem o5 {p:Nat->Bool}:∀(l:List DR) (k:Nat) (x X:SH),replay p k l x=some X->∀i B,look X.2 i=some B->(∃B',look x.2 i=some B')\/∃(j:Nat) (r:DR),l[j]? =some r/\p (k+j)=true/\r.uf i
  |[],_,x,X,h,i,B,hB=>by cases h;exact .inl ⟨B,hB⟩
  | r :: l, k, x, X, h, i, B, hB => by
    simp only[replay]at h;cases hp:p k<;>simp only[hp,cond_false,cond_true]at h
    · rcases o5 l (k+1) x X h i B hB with h'|⟨j,r',h1,h2,h3⟩
      · exact .inl h'
      · exact .inr ⟨j+1,r',by simpa using h1,by rwa [show k+(j+1)=k+1+j from by omega],h3⟩
    · rw [An] at h;obtain⟨y,hy,h⟩:=h
      rcases o5 l (k+1) y X h i B hB with⟨B',h'⟩|⟨j,r',h1,h2,h3⟩
      · by_cases hm:r.uf i
        · exact .inr ⟨0,r,rfl,hp,hm⟩
        · left;rw[zp hy,DR.o4 hm,WV]at h'
          cases hx:look x.2 i with
          |none=>rw[CV.2 hx]at h';cases hm':mem i r.c.kil.1<;>simp[hm']at h'
          |some b=>grind
      · exact .inr ⟨j+1,r',by simpa using h1,by rwa [show k+(j+1)=k+1+j from by omega],h3⟩
theorem sB {q p:Nat->Bool}:∀(l:List DR) (k:Nat) (y z Y Z:SH),(∀j,q j=true->p j=true)->replay q k l y=some Y->replay p k l z=some Z->Ext y.1 z.1->
    (∀t v,look y.1 t=some v->∀(j:Nat) (r:DR),l[j]? =some r->p (k+j)=true->q (k+j)=false->r.dst≠some t)->
    (∀(j j':Nat) (r r':DR) t,j≠j'->l[j]? =some r->l[j']? =some r'->r.dst=some t->r'.dst≠some t)->
    (∀(j:Nat) (r:DR),l[j]? =some r->p (k+j)=true->q (k+j)=false->r.c.kil.2=[])->Ext Y.1 Z.1
  |[],_,y,z,Y,Z,_,hy,hz,he,_,_,_=>by cases hy;cases hz;exact he
  | r :: l, k, y, z, Y, Z, hqp, hy, hz, he, hd, hn, hg => by
    simp only[replay]at hy hz;have hn':∀(j j':Nat) (r r':DR) t,j≠j'->l[j]? =some r->l[j']? =some r'->r.dst=some t->r'.dst≠some t:=λj j' r r' t hne h1 h2=>hn (j+1) (j'+1) r r' t (by omega) (by simpa using h1) (by simpa using h2);have hg':∀(j:Nat) (r:DR),l[j]? =some r->p (k+1+j)=true->q (k+1+j)=false->r.c.kil.2=[]:=λj r h1 h2 h3=>hg (j+1) r (by simpa using h1) (by rwa [show k+(j+1)=k+1+j from by omega]) (by rwa [show k+(j+1)=k+1+j from by omega]);have hd':∀t v,look y.1 t=some v->∀(j:Nat) (r:DR),l[j]? =some r->p (k+1+j)=true->q (k+1+j)=false->r.dst≠some t:=λt v ht j r h1 h0 h2=>hd t v ht (j+1) r (by simpa using h1) (by rwa [show k+(j+1)=k+1+j from by omega]) (by rwa [show k+(j+1)=k+1+j from by omega]);cases hq:q k<;>simp only[hq,cond_false,cond_true]at hy
    · cases hp:p k<;>simp only[hp,cond_false,cond_true]at hz
      · exact sB l (k+1) y z Y Z hqp hy hz he hd' hn' hg'
      · rw[An]at hz;obtain⟨z',hz',hz⟩:=hz;have hgr:=hg 0 r rfl (by simpa using hp) (by simpa using hq);refine sB l (k+1) y z' Y Z hqp hy hz (λt v ht=>?_) hd' hn' hg';rw[dW hz',Ao hgr,dV,if_neg (hd t v ht 0 r rfl (by simpa using hp) (by simpa using hq))];exact he t v ht
    · rw [hqp k hq] at hz;simp only[cond_true]at hz;rw[An]at hy hz;obtain⟨y',hy',hy⟩:=hy;obtain⟨z',hz',hz⟩:=hz
      have hsl:∀t,look y'.1 t=if r.dst=some t then some r.c.v else(look y.1 t).map (SV.aS r.c.kil):=λt=>by rw[dW hy',dV,dv r.c.gC]
      have Vq:∀t,look z'.1 t=if r.dst=some t then some r.c.v else(look z.1 t).map (SV.aS r.c.kil):=λt=>by rw[dW hz',dV,dv r.c.gC]
      refine sB l (k+1) y' z' Y Z hqp hy hz (λt v ht=>?_) (λt v ht j r' h1 h0 h2=>?_) hn' hg'
      · rw[hsl]at ht;rw[Vq];by_cases c:r.dst=some t
        · grind
        · rw[if_neg c]at ht⊢;obtain⟨u,hu,rfl⟩:=VW.1 ht;rw[he t u hu];rfl
      · rw[hsl]at ht;by_cases c:r.dst=some t
        · exact hn 0 (j+1) r r' t (by omega) rfl (by simpa using h1) c
        · rw[if_neg c]at ht;obtain⟨u,hu,_⟩:=VW.1 ht;grind
theorem mW {S:Nat->Prop} {q p:Nat->Bool}:∀(l:List DR) (k:Nat) (y z Y Z:SH),(∀j,q j=true->p j=true)->replay q k l y=some Y->replay p k l z=some Z->(∀i B,S i->look y.2 i=some B->look z.2 i=some B)->
    (∀(j:Nat) (r:DR) i,l[j]? =some r->r.uf i->look z.2 i=none)->
    (∀(j j':Nat) (r r':DR) i,j≠j'->l[j]? =some r->l[j']? =some r'->r.uf i->¬r'.uf i)->
    (∀(j:Nat) (r:DR),l[j]? =some r->p (k+j)=true->q (k+j)=false->r.c.kil.2=[]/\∀i,S i->look r.c.upd i=none)->∀i B,S i->look Y.2 i=some B->look Z.2 i=some B
  |[],_,y,z,Y,Z,_,hy,hz,he,_,_,_=>by cases hy;cases hz;exact he
  | r :: l, k, y, z, Y, Z, hqp, hy, hz, he, hf, hn, hg => by
    simp only[replay]at hy hz;have hn':∀(j j':Nat) (r r':DR) i,j≠j'->l[j]? =some r->l[j']? =some r'->r.uf i->¬r'.uf i:=λj j' r r' t hne h1 h2=>hn (j+1) (j'+1) r r' t (by omega) (by simpa using h1) (by simpa using h2);have hg':∀(j:Nat) (r:DR),l[j]? =some r->p (k+1+j)=true->q (k+1+j)=false->r.c.kil.2=[]/\∀i,S i->look r.c.upd i=none:=λj r h1 h2 h3=>hg (j+1) r (by simpa using h1) (by rwa [show k+(j+1)=k+1+j from by omega]) (by rwa [show k+(j+1)=k+1+j from by omega]);have hf':∀(j:Nat) (r:DR) i,l[j]? =some r->r.uf i->look z.2 i=none:=λj r i h1 h2=>hf (j+1) r i (by simpa using h1) h2
    have ug:∀z',r.app z=some z'->∀(j:Nat) (r':DR) i,l[j]? =some r'->r'.uf i->look z'.2 i=none:=λz' hz' j r' i h1 h2=>by
      cases hx:look z'.2 i with
      |none=>rfl
      | some B =>
        rcases o5 (p:=λ_=>true) [r] 0 z z' (by simp[replay,hz']) i B hx with⟨B',hB'⟩|⟨j',r2,g1,_,g3⟩
        · grind
        · cases j' with
          |zero=>simp at g1;subst g1;exact(hn 0 (j+1) r r' i (by omega) rfl (by simpa using h1) g3 h2).elim
          |succ j'=>simp at g1
    cases hq:q k<;>simp only[hq,cond_false,cond_true]at hy
    · cases hp:p k<;>simp only[hp,cond_false,cond_true]at hz
      · exact mW l (k+1) y z Y Z hqp hy hz he hf' hn' hg'
      · rw[An]at hz;obtain⟨z',hz',hz⟩:=hz;obtain⟨hgr,hur⟩:=hg 0 r rfl (by simpa using hp) (by simpa using hq);refine mW l (k+1) y z' Y Z hqp hy hz (λi B hS hB=>?_) (ug z' hz') hn' hg';rw[jF hgr]at hz';cases hz';show look (kh r.c.upd z.2++_) i=some B;rw[aM,rq _ _ (hur i hS),he i B hS hB];rfl
    · rw [hqp k hq] at hz;simp only[cond_true]at hz;rw[An]at hy hz;obtain⟨y',hy',hy⟩:=hy;obtain⟨z',hz',hz⟩:=hz;refine mW l (k+1) y' z' Y Z hqp hy hz (λi B hS hB=>?_) (ug z' hz') hn' hg';rw[zp hy']at hB;rw[zp hz']
      cases hx:cond (mem i r.c.kil.1) none ((look (kh r.c.upd y.2) i).bind (Blk.aS r.c.kil))with
      | some b =>
        rw[hx]at hB;cases hm:mem i r.c.kil.1<;>simp only[hm,cond_true,cond_false]at hx⊢
        · obtain⟨b0,hb0,hb1⟩:=An.1 hx;rw[Li he _ i b0 hS hb0];simp only[Wg,hb1];exact hB
        · cases hx
      | none =>
        rw[hx,Option.none_or]at hB
        have hm:r.uf i:=Classical.byContradiction λh=>by rw[DR.o4 h]at hB;cases hB
        rw[CV.2 (hf 0 r i rfl hm)];grind
theorem Ap {b:DR}:∀{U:aO},Ta b U=true->∀i,b.uf i->look U i=none
  |[],_,_,_=>rfl
  | (k, _) :: l, h, i, hi => by
    simp only[Ta]at h;cases hk:(Nat.ble (k+1) b.n0||Nat.ble (b.n0+b.c.news.length) k)<;>rw[hk]at h
    · cases h
    · rw[aG,if_neg,Ap h i hi];intro e;subst e;obtain⟨h1,h2⟩:=hi;rw[XA]at hk
      rcases hk with hk|hk<;>have:=V4 hk<;>omega
theorem jh {a b:DR} (h:HW a b=true):a.c.kil.2=[]/\b.c.kil.2=[]/\((b.c.upd=[]/\∀i,b.uf i->look a.c.upd i=none)\/(a.c.upd=[]/\∀i,a.uf i->look b.c.upd i=none)):=by
 simp only[HW,VP,XA]at h;have h:=h.1;refine⟨eT h.1.1,eT h.1.2,?_⟩
 rcases h.2 with h|h
 ·exact .inl ⟨eT h.1,Ap h.2⟩
 ·exact .inr ⟨eT h.1,Ap h.2⟩
theorem Aq {i:Nat}:∀(u:aO) {h h':aO},look h i=look h' i->look (kh u h) i=look (kh u h') i
 |[],_,_,e=>e
 |(k,b)::l,h,h',e=>by
  simp only[kh];exact Aq l (by rw[k8,k8,e])
theorem Gd {a b:DR} (h:HW a b=true):Pt b.see a.c.upd=false/\Pt a.see b.c.upd=false:=by
 simp only[HW,VP,XQ]at h;exact h.2
theorem Ge {L:List Nat}:∀{U:aO},Pt L U=false->∀i,mem i L=true->look U i=none
  |[],_,_,_=>rfl
  | (k, b) :: l, h, i, hi => by
    simp only[Pt]at h;cases hk:mem k L<;>simp only[hk,cond_true,cond_false]at h
    · rw[aG,if_neg (λe=>by subst e;rw[hi]at hk;exact nomatch hk)];exact Ge h i hi
    · cases h
theorem pS {h:aO} {i:Nat} {B:Blk}:∀{L:List Nat},look (xT h L) i=some B->mem i L=true/\look h i=some B
 |[],e=>nomatch e
 |k::l,e=>by
  simp only[xT]at e
  cases hk:look h k with
  |none=>
   rw[hk]at e;obtain⟨g1,g2⟩:=pS e
   exact⟨by simp only[mem];cases Nat.beq k i<;>simp[g1],g2⟩
  |some b=>
   rw[hk]at e;rw[aG]at e;by_cases c:k=i
   ·subst c;rw[if_pos rfl]at e;cases e;exact⟨by simp[mem],hk⟩
   ·rw[if_neg c]at e;obtain⟨g1,g2⟩:=pS e;exact⟨by simp only[mem];cases Nat.beq k i<;>simp[g1],g2⟩
theorem not_false {b:Bool} (h:(!b)=true):b=false:=by cases b<;>first|rfl|exact nomatch h
mutual
theorem xa {T:Kil}:(v:SV)->v.Mo T=true->v.aS T=v
 |.r d x,h=>by rw[SV.aS,not_false h];rfl
 |.own j,h=>by rw[SV.aS,not_false h];rfl
 |.sub j o n,h=>by rw[SV.aS,not_false h];rfl
 |.bsl j n,h=>by rw[SV.aS,not_false h];rfl
 |.ptr j x o,h=>by rw[SV.aS,not_false h];rfl
 |.inn j x c,h=>by rw[SV.aS,not_false h];rfl
 |.lO d cs,h=>by rw[SV.aS,not_false h];rfl
 |.agg cs,h=>by rw[SV.aS,kt cs h]
 |.tup cs,h=>by rw[SV.aS,kt cs h]
 |.fn f a b,h=>by
  simp only[SV.Mo,VP]at h
  rw[SV.aS,kt a h.1,kt b h.2]
 |.bS,_=>rfl
 |.qX,_=>rfl
 |.undef,_=>rfl
theorem kt {T:Kil}:(l:List SV)->zS T l=true->jg T l=l
 |[],_=>rfl
 |v::l,h=>by
  simp only[zS,VP]at h;rw[jg,xa v h.1,kt l h.2]
end
theorem JV {c:CR} (h:c.kil.2=[]):c.kil=([],[]):=by
 unfold CR.kil at h⊢;rw[List.append_eq_nil_iff]at h;grind
mutual
theorem CW (T U:Kil):(v:SV)->(v.aS T).aS U=(v.aS U).aS T
 |.r d x=>by
  simp only[SV.aS]
  cases h1:hit T.2 d<;>cases h2:hit U.2 d<;>simp only[cond_true,cond_false,SV.aS,h1,h2]
 |.own j=>by
  simp only[SV.aS]
  cases h1:mem j T.1<;>cases h2:mem j U.1<;>simp only[cond_true,cond_false,SV.aS,h1,h2]
 |.sub j o n=>by
  simp only[SV.aS]
  cases h1:mem j T.1<;>cases h2:mem j U.1<;>simp only[cond_true,cond_false,SV.aS,h1,h2]
 |.bsl j n=>by
  simp only[SV.aS]
  cases h1:mem j T.1<;>cases h2:mem j U.1<;>simp only[cond_true,cond_false,SV.aS,h1,h2]
 |.ptr j x o=>by
  simp only[SV.aS]
  cases h1:mem j T.1<;>cases h2:mem j U.1<;>simp only[cond_true,cond_false,SV.aS,h1,h2]
 |.inn j x c=>by
  simp only[SV.aS]
  cases h1:(mem j T.1||mem j T.2)<;>cases h2:(mem j U.1||mem j U.2)<;>simp only[cond_true,cond_false,SV.aS,h1,h2]
 |.lO d cs=>by
  simp only[SV.aS]
  cases h1:hit T.2 d<;>cases h2:hit U.2 d<;>simp only[cond_true,cond_false,SV.aS,h1,h2]
 |.agg cs=>by simp only[SV.aS,mX T U cs]
 |.tup cs=>by simp only[SV.aS,mX T U cs]
 |.fn f a b=>by simp only[SV.aS,mX T U a,mX T U b]
 |.bS=>rfl
 |.qX=>rfl
 |.undef=>rfl
theorem mX (T U:Kil):(l:List SV)->jg U (jg T l)=jg T (jg U l)
 |[]=>rfl
 |v::l=>by simp only[jg,CW T U v,mX T U l]
end
variable {cm:DR->Bool}
theorem fw {r:DR} (h:gB cm r=true):cm r=true/\r.c.kil.2=[]/\r.c.upd=[]/\r.c.news=[]:=by
 simp only[gB,VP]at h;exact⟨h.2.2.2,eT h.1,eT h.2.1,eT h.2.2.1⟩
theorem CX {b a:DR} (h:KU b a=true):a.c.v.aS b.c.kil=a.c.v:=by
 simp only[KU,VP]at h;exact xa _ h.1
theorem JW {T:Kil} {u:SV}:∀{l:List SV},zS T l=true->u∈l->u.Mo T=true
 |[],_,h=>nomatch h
 |v::l,h,hu=>by
  simp only[zS,VP]at h
  rcases V0.1 hu with rfl|hu
  ·exact h.1
  ·exact JW h.2 hu
theorem JX {b a:DR} (h:KU b a=true):∀u∈a.Pp,u.aS b.c.kil=u:=by
 intro u hu;simp only[KU,VP]at h;exact xa _ (JW h.2 hu)
theorem vj {b a:DR} (h:b.c.kil.2=[]):a.c.v.aS b.c.kil=a.c.v:=by rw[JV h];exact dJ _
theorem fO {a b:DR} (h:tC cm a b=true):
  (gB cm a=true/\a.c.v.aS b.c.kil=a.c.v)\/(gB cm b=true/\b.c.v.aS a.c.kil=b.c.v)\/(gB cm a=false/\gB cm b=false/\HW a b=true):=by
 simp only[tC,XA,VP]at h
 rcases h with h|⟨h2,h1⟩|⟨h2,h1⟩
 ·obtain⟨k1,k2,_⟩:=jh h;cases ha:gB cm a
  ·cases hb:gB cm b
   ·grind
   ·exact .inr (.inl ⟨rfl,vj k1⟩)
  ·exact .inl ⟨rfl,vj k2⟩
 ·exact .inl ⟨h1,CX h2⟩
 ·exact .inr (.inl ⟨h1,CX h2⟩)
theorem JY {a b:DR} (h:tC cm a b=true):
  (gB cm a=true->∀u∈a.Pp,u.aS b.c.kil=u)/\(gB cm b=true->∀u∈b.Pp,u.aS a.c.kil=u):=by
 have nl:∀{c:DR} (v:SV),c.c.kil.2=[]->v.aS c.c.kil=v:=λ{c} v h=>by rw[JV h];exact dJ _
 simp only[tC,XA,VP]at h
 rcases h with h|⟨h2,h1⟩|⟨h2,h1⟩
 ·obtain⟨k1,k2,_⟩:=jh h;grind
 ·exact⟨λ_=>JX h2,λ_ u _=>nl u (fw h1).2.1⟩
 ·exact⟨λ_ u _=>nl u (fw h1).2.1,λ_=>JX h2⟩
theorem sC {r:DR} (h:gB cm r=true) (x:SH):r.app x=some (JE x.1 r.dst r.c.v,x.2):=by
 obtain⟨_,h1,h2,h3⟩:=fw h;rw[jF h1,h2,h3];simp only[kh,aR,Ww]
theorem rr {r:DR} {x x' y:SH} (e:x.2=x'.2) (h:r.app x=some y):∃y',r.app x'=some y'/\y.2=y'.2:=by
 unfold DR.app at h⊢;simp only[An,It]at h;grind
def Ep (x y:SH):Prop:=Am x.1 y.1/\x.2=y.2
theorem Ep.same {x y:SH} (h:Ep x y):Gc x y:=⟨h.1,λt=>by rw[h.2]⟩
theorem Nh {r:DR} {x y:SH} (e:Ep x y) {x':SH} (h:r.app x=some x'):∃y',r.app y=some y'/\Ep x' y':=by
 obtain⟨y',h1,h2⟩:=rr e.2 h;refine⟨y',h1,λt=>?_,h2⟩;rw[dW h,dW h1,dV,dV,dv r.c.gC,dv r.c.gC,e.1 t]
theorem ru {p:Nat->Bool}:∀(l:List DR) (k:Nat) (x y X:SH),Ep x y->replay p k l x=some X->∃Y,replay p k l y=some Y/\Ep X Y
 |[],_,x,y,X,e,h=>by cases h;exact⟨y,rfl,e⟩
 |r::l,k,x,y,X,e,h=>by
  simp only[replay]at h⊢;cases hp:p k<;>simp only[hp,cond_false,cond_true]at h⊢
  ·exact ru l (k+1) x y X e h
  ·rw[An]at h;obtain⟨x',hx',h⟩:=h;obtain⟨y',hy',e'⟩:=Nh e hx';rw[hy'];exact ru l (k+1) x' y' X e' h
theorem mY {p p':Nat->Bool}:∀(l:List DR) (k:Nat) (x x' X:SH),(∀(j:Nat) (r:DR),l[j]? =some r->p (k+j)≠p' (k+j)->gB cm r=true)->x.2=x'.2->replay p k l x=some X->
  ∃X',replay p' k l x'=some X'/\X.2=X'.2
 |[],_,x,x',X,_,e,h=>by cases h;exact⟨x',rfl,e⟩
 |r::l,k,x,x',X,hd,e,h=>by
  have hd':∀(j:Nat) (r:DR),l[j]? =some r->p (k+1+j)≠p' (k+1+j)->gB cm r=true:=λj r h1 h2=>hd (j+1) r (by simpa using h1) (by rwa [show k+(j+1)=k+1+j from by omega]);have h0:=hd 0 r rfl;rw[Wq]at h0;simp only[replay]at h⊢;cases hp:p k<;>cases hp':p' k<;>simp only[hp,cond_false,cond_true]at h⊢
  ·exact mY l (k+1) x x' X hd' e h
  ·rw[sC (h0 (by rw[hp,hp'];exactλh=>nomatch h)),Wg];exact mY l (k+1) x (JE x'.1 r.dst r.c.v,x'.2) X hd' e h
  ·rw[sC (h0 (by rw[hp,hp'];exactλh=>nomatch h)),Wg]at h;exact mY l (k+1) (JE x.1 r.dst r.c.v,x.2) x' X hd' e h
  ·rw[An]at h;obtain⟨y,hy,h⟩:=h;obtain⟨y',h1,h2⟩:=rr e hy;rw[h1,Wg];exact mY l (k+1) y y' X hd' h2 h
def tP:List Kil->SV->SV
 |[],v=>v
 |T::l,v=>tP l (v.aS T)
theorem Lj (l l':List Kil) (v:SV):tP (l++l') v=tP l' (tP l v):=by
 induction l generalizing v with
 |nil=>rfl
 |cons T l ih=>exact ih _
theorem Is (T:Kil) (l:List Kil) (v:SV):(tP l v).aS T=tP l (v.aS T):=by
 induction l generalizing v with
 |nil=>rfl
 |cons U l ih=>simp only[tP];rw[ih,CW]
theorem Iu {l:List Kil} {v:SV} (h:∀T∈l,v.aS T=v):tP l v=v:=by
 induction l with
 |nil=>rfl
 |cons U l ih=>simp only[tP];rw[h U (by simp)];exact ih λT hT=>h T (by simp[hT])
theorem pT {q p:Nat->Bool} {t:Nat} {v:SV}:∀(l:List DR) (k:Nat) (y z Y Z:SH),(∀j,q j=true->p j=true)->replay q k l y=some Y->replay p k l z=some Z->look Y.1 t=some v->
  (∀(j:Nat) (r:DR),l[j]? =some r->p (k+j)=true->q (k+j)=false->r.dst≠some t/\v.aS r.c.kil=v)->
  (∀u,look y.1 t=some u->∃Ts,look z.1 t=some (tP Ts u)/\∀T∈Ts,v.aS T=v)->look Z.1 t=some v
 |[],_,y,z,Y,Z,_,hy,hz,hv,_,hi=>by
  cases hy;cases hz;obtain⟨Ts,h1,h2⟩:=hi v hv
  rw[h1,Iu h2]
 |r::l,k,y,z,Y,Z,hqp,hy,hz,hv,hd,hi=>by
  simp only[replay]at hy hz;have hd':∀(j:Nat) (r:DR),l[j]? =some r->p (k+1+j)=true->q (k+1+j)=false->r.dst≠some t/\v.aS r.c.kil=v:=λj r h1 h2 h3=>hd (j+1) r (by simpa using h1) (by rwa [show k+(j+1)=k+1+j from by omega]) (by rwa [show k+(j+1)=k+1+j from by omega]);cases hq:q k<;>simp only[hq,cond_false,cond_true]at hy
  ·cases hp:p k<;>simp only[hp,cond_false,cond_true]at hz
   ·exact pT l (k+1) y z Y Z hqp hy hz hv hd' hi
   ·rw[An]at hz;obtain⟨z',hz',hz⟩:=hz;obtain⟨g1,g2⟩:=hd 0 r rfl (by simpa using hp) (by simpa using hq);refine pT l (k+1) y z' Y Z hqp hy hz hv hd' λu hu=>?_;obtain⟨Ts,h1,h2⟩:=hi u hu;refine⟨Ts++[r.c.kil],?_,λT hT=>?_⟩
    ·rw[dW hz',dV,if_neg g1,dv r.c.gC,h1,Lj];rfl
    ·grind
  ·rw[hqp k hq]at hz;simp only[cond_true]at hz;rw[An]at hy hz;obtain⟨y',hy',hy⟩:=hy;obtain⟨z',hz',hz⟩:=hz;refine pT l (k+1) y' z' Y Z hqp hy hz hv hd' λu hu=>?_;rw[dW hy',dV,dv r.c.gC]at hu;rw[dW hz',dV,dv r.c.gC];by_cases c:r.dst=some t
   ·rw[if_pos c]at hu⊢;cases hu;exact⟨[],rfl,by simp⟩
   ·rw[if_neg c]at hu⊢;obtain⟨u0,hu0,rfl⟩:=VW.1 hu;obtain⟨Ts,h1,h2⟩:=hi u0 hu0;exact⟨Ts,by rw[h1,Xx,Is],h2⟩
theorem pU {q:Nat->Bool} {t:Nat} {v:SV}:∀(l:List DR) (k:Nat) (y Y:SH),replay q k l y=some Y->look Y.1 t=some v->(∃u,look y.1 t=some u)\/∃(j:Nat) (r:DR),l[j]? =some r/\q (k+j)=true/\r.dst=some t
  |[],_,y,Y,h,hv=>by cases h;exact .inl ⟨v,hv⟩
  | r :: l, k, y, Y, h, hv => by
    simp only[replay]at h;cases hq:q k<;>simp only[hq,cond_false,cond_true]at h
    · rcases pU l (k+1) y Y h hv with h'|⟨j,r',h1,h2,h3⟩
      · exact .inl h'
      · exact .inr ⟨j+1,r',by simpa using h1,by rwa [show k+(j+1)=k+1+j from by omega],h3⟩
    · rw [An] at h;obtain⟨y',hy',h⟩:=h
      rcases pU l (k+1) y' Y h hv with⟨u,hu⟩|⟨j,r',h1,h2,h3⟩
      · rw[dW hy',dV,dv r.c.gC]at hu;by_cases c:r.dst=some t
        · exact .inr ⟨0,r,rfl,hq,c⟩
        · rw[if_neg c]at hu;obtain⟨u0,hu0,_⟩:=VW.1 hu;grind
      · exact .inr ⟨j+1,r',by simpa using h1,by rwa [show k+(j+1)=k+1+j from by omega],h3⟩
theorem Ni {a b:DR} (ha:gB cm a=true) (hf:a.c.v.aS b.c.kil=a.c.v) (hd:∀t,a.dst=some t->b.dst≠some t) {x y z:SH} (hy:b.app x=some y) (hz:a.app y=some z):
  ∃y' z',a.app x=some y'/\b.app y'=some z'/\Ep z z':=by
 rw[sC ha]at hz;cases hz;obtain⟨z',h1,h2⟩:=rr (x:=x) (x':=(JE x.1 a.dst a.c.v,x.2)) rfl hy;refine⟨_,z',sC ha x,h1,λt=>?_,h2⟩;rw[dW h1,dW hy];simp only[dV,dv b.c.gC];grind
theorem Ll {a b:DR} (hb:gB cm b=true) (hf:b.c.v.aS a.c.kil=b.c.v) (hd:∀t,a.dst=some t->b.dst≠some t) {x y z:SH} (hy:b.app x=some y) (hz:a.app y=some z):
  ∃y' z',a.app x=some y'/\b.app y'=some z'/\Ep z z':=by
 rw[sC hb]at hy;cases hy;obtain⟨y',h1,h2⟩:=rr (x:=(JE x.1 b.dst b.c.v,x.2)) (x':=x) rfl hz;refine⟨y',_,h1,sC hb y',λt=>?_,h2⟩;rw[dW h1,dW hz];simp only[dV,dv a.c.gC];grind
theorem comm {a b:DR} (h:HW a b=true) (hd:∀t,a.dst=some t->b.dst≠some t) (hm:∀i,a.uf i->¬b.uf i) {x y z:SH} (hy:b.app x=some y) (hz:a.app y=some z):
  ∃y' z',a.app x=some y'/\b.app y'=some z'/\Gc z z':=by
 obtain⟨ga,gb,hu⟩:=jh h;rw[jF gb]at hy;cases hy;rw[jF ga]at hz;cases hz;refine⟨_,_,jF ga x,jF gb _,λt=>?_,λi=>?_⟩
 ·simp only[dV];grind
 ·have swap:(look (aR b.n0 b.c.news) i).or (look (aR a.n0 a.c.news) i)=(look (aR a.n0 a.c.news) i).or (look (aR b.n0 b.c.news) i):=by
   by_cases c:a.uf i
   ·rw[DR.o4 (hm i c)];simp
   ·rw[DR.o4 c];simp
  have past:∀(r:DR) (u:aO),(∀i,r.uf i->look u i=none)->look (kh u (x.2++aR r.n0 r.c.news)) i=(look (kh u x.2) i).or (look (aR r.n0 r.c.news) i):=λr u hr=>by
   by_cases c:r.uf i
   ·rw[rq _ _ (hr i c),rq _ _ (hr i c),aM]
   ·rw[DR.o4 c,WV];exact Aq u (by rw[aM,DR.o4 c,WV])
  rcases hu with⟨u1,u2⟩|⟨u1,u2⟩
  ·simp only[u1,kh,aM,Option.or_assoc];grind
  ·simp only[u1,kh,aM,Option.or_assoc];grind
theorem uh {p:Nat->Bool}:∀(l:List DR) (k:Nat) (x y X:SH),(∀(j:Nat) (r:DR),l[j]? =some r->p (k+j)=true->r.c.kil.2=[])->Gc x y->replay p k l x=some X->∃Y,replay p k l y=some Y/\Gc X Y
 |[],_,x,y,X,_,e,h=>by cases h;exact⟨y,rfl,e⟩
 |r::l,k,x,y,X,hg,e,h=>by
  have hg':∀(j:Nat) (r:DR),l[j]? =some r->p (k+1+j)=true->r.c.kil.2=[]:=λj r h1 h2=>hg (j+1) r (by simpa using h1) (by rwa [show k+(j+1)=k+1+j from by omega]);simp only[replay]at h⊢;cases hp:p k<;>simp only[hp,cond_false,cond_true]at h⊢
  ·exact uh l (k+1) x y X hg' e h
  ·rw[An]at h;obtain⟨x',hx',h⟩:=h;obtain⟨y',hy',e'⟩:=PJ (hg 0 r rfl (by simpa using hp)) e hx';rw[hy'];exact uh l (k+1) x' y' X hg' e' h
theorem oH {p:Nat->Bool} {a:DR} (hi:gB cm a=true):∀(l:List DR) (k:Nat) (x X X':SH),
  (∀(j:Nat) (r:DR),l[j]? =some r->p (k+j)=true->a.c.v.aS r.c.kil=a.c.v/\(∀t,a.dst=some t->r.dst≠some t))->
  replay p k l x=some X->a.app X=some X'->∃x' X'',a.app x=some x'/\replay p k l x'=some X''/\Ep X' X''
 |[],_,x,X,X',_,h,ha=>by cases h;exact⟨X',X',ha,rfl,λ_=>rfl,rfl⟩
 |r::l,k,x,X,X',hc,h,ha=>by
  have hc':∀(j:Nat) (r:DR),l[j]? =some r->p (k+1+j)=true->a.c.v.aS r.c.kil=a.c.v/\(∀t,a.dst=some t->r.dst≠some t):=λj r h1 h2=>hc (j+1) r (by simpa using h1) (by rwa [show k+(j+1)=k+1+j from by omega]);simp only[replay]at h⊢;cases hp:p k<;>simp only[hp,cond_false,cond_true]at h⊢
  ·exact oH hi l (k+1) x X X' hc' h ha
  ·rw[An]at h;obtain⟨y,hy,h⟩:=h;obtain⟨y',Y'',h1,h2,h3⟩:=oH hi l (k+1) y X X' hc' h ha;obtain⟨c1,c2⟩:=hc 0 r rfl (by simpa using hp);obtain⟨x',z',g1,g2,g3⟩:=Ni hi c1 c2 hy h1;obtain⟨W,w1,w2⟩:=ru l (k+1) y' z' Y'' g3 h2;exact⟨x',W,g1,by rw[g2];exact w1,λt=>(h3.1 t).trans (w2.1 t),h3.2.trans w2.2⟩
theorem oI {p:Nat->Bool} {a:DR} (hi:gB cm a=false):∀(l:List DR) (k:Nat) (x X X':SH),
    (∀(j:Nat) (r:DR),l[j]? =some r->p (k+j)=true->tC cm a r=true/\(∀t,a.dst=some t->r.dst≠some t)/\∀i,a.uf i->¬r.uf i)->
    replay p k l x=some X->a.app X=some X'->∃x' X'',a.app x=some x'/\replay p k l x'=some X''/\Gc X' X''
  |[],_,x,X,X',_,h,ha=>by cases h;exact⟨X',X',ha,rfl,Gc.refl _⟩
  | r :: l, k, x, X, X', hc, h, ha => by
    have hc':∀(j:Nat) (r:DR),l[j]? =some r->p (k+1+j)=true->tC cm a r=true/\(∀t,a.dst=some t->r.dst≠some t)/\∀i,a.uf i->¬r.uf i:=λj r h1 h2=>hc (j+1) r (by simpa using h1) (by rwa [show k+(j+1)=k+1+j from by omega])
    have kil0:∀(r:DR),tC cm a r=true->r.c.kil.2=[]:=λr h=>by
      rcases fO h with⟨h1,_⟩|⟨h1,_⟩|⟨_,_,h1⟩
      · grind
      · exact(fw h1).2.1
      · exact(jh h1).2.1
    simp only[replay]at h⊢;cases hp:p k<;>simp only[hp,cond_false,cond_true]at h⊢
    · exact oI hi l (k+1) x X X' hc' h ha
    · rw [An] at h;obtain⟨y,hy,h⟩:=h;obtain⟨y',Y'',h1,h2,h3⟩:=oI hi l (k+1) y X X' hc' h ha;obtain⟨c1,c2,c3⟩:=hc 0 r rfl (by simpa using hp)
      have hcm:∃y'' z',a.app x=some y''/\r.app y''=some z'/\Gc y' z':=by
        rcases fO c1 with⟨h1',_⟩|⟨h1',h2'⟩|⟨_,_,h1'⟩
        · grind
        · obtain⟨u1,u2,u3,u4,u5⟩:=Ll h1' h2' c2 hy h1;exact⟨u1,u2,u3,u4,u5.same⟩
        · exact comm h1' c2 c3 hy h1
      obtain⟨x',z',g1,g2,g3⟩:=hcm;obtain⟨W,w1,w2⟩:=uh l (k+1) y' z' Y'' (λj r h1 h2=>kil0 r (hc' j r h1 h2).1) g3 h2;exact⟨x',W,g1,by rw[g2];exact w1,h3.trans w2⟩
theorem Er {p:Nat->Bool} {a:DR} (l:List DR) (k:Nat) (x X X':SH)
  (hc:∀(j:Nat) (r:DR),l[j]? =some r->p (k+j)=true->tC cm a r=true/\(∀t,a.dst=some t->r.dst≠some t)/\∀i,a.uf i->¬r.uf i)
  (h:replay p k l x=some X) (ha:a.app X=some X'):∃x' X'',a.app x=some x'/\replay p k l x'=some X''/\Gc X' X'':=by
 cases hi:gB cm a with
 |false=>exact oI hi l k x X X' hc h ha
 |true=>
  obtain⟨u1,u2,u3,u4,u5⟩:=oH hi l k x X X' (λj r h1 h2=>by
   obtain⟨c1,c2,_⟩:=hc j r h1 h2;refine⟨?_,c2⟩
   rcases fO c1 with⟨_,h⟩|⟨h,_⟩|⟨h,_,_⟩
   ·exact h
   ·exact vj (fw h).2.1
   ·rw[hi]at h;exact nomatch h) h ha
  exact⟨u1,u2,u3,u4,u5.same⟩
theorem Es {p p':Nat->Bool} {l:List DR} {i:Nat} {a:DR} {x X X':SH} (hi:l[i]? =some a) (hpi:p i=false) (Ur:p' i=true) (hpp:∀j,j≠i->p' j=p j)
  (hc:∀(j:Nat) (r:DR),i<j->l[j]? =some r->p j=true->tC cm a r=true/\(∀t,a.dst=some t->r.dst≠some t)/\∀i,a.uf i->¬r.uf i)
  (h:replay p 0 l x=some X) (ha:a.app X=some X'):∃X'',replay p' 0 l x=some X''/\Gc X' X'':=by
 have hlt:=(Of.1 hi).1
 have tM:l=l.take i++a::l.drop (i+1):=by
  conv=>lhs;rw[<-W6 i l]
  rw[List.drop_eq_getElem_cons hlt,(Of.1 hi).2]
 have hl:(l.take i).length=i:=by simp;omega
 rw[tM,eV,An]at h;obtain⟨y,hy,h⟩:=h;rw[hl,V2]at h;simp only[replay,hpi,cond_false]at h;obtain⟨y',X'',g1,g2,g3⟩:=Er (l.drop (i+1)) (i+1) y X X' (λj r h1 h2=>hc (i+1+j) r (by omega) (by rwa [V7]at h1) h2) h ha;refine⟨X'',?_,g3⟩;rw[tM,eV,hl,V2];rw[k9 (q:=p) (l.take i) 0 x λj hj=>by rw[hl]at hj;rw[V2];exact hpp j (by omega),hy];simp only[Wg,replay,Ur,cond_true,g1];rw[k9 (q:=p) (l.drop (i+1)) (i+1) y' λj hj=>hpp _ (by omega)];exact g2
theorem ui {p:Nat->Bool} {t:Nat} {x0:SV} (hx0:∀T,x0.aS T=x0):∀(l:List DR) (k:Nat) (x X:SH),replay p k l x=some X->(∀(j:Nat) (r:DR),l[j]? =some r->r.dst≠some t)->look x.1 t=some x0->look X.1 t=some x0
 |[],_,x,X,h,_,hx=>by cases h;exact hx
 |r::l,k,x,X,h,hd,hx=>by
  have hd':∀(j:Nat) (r:DR),l[j]? =some r->r.dst≠some t:=λj r h1=>hd (j+1) r (by simpa using h1);simp only[replay]at h;cases hp:p k<;>simp only[hp,cond_false,cond_true]at h
  ·exact ui hx0 l (k+1) x X h hd' hx
  ·rw[An]at h;obtain⟨y,hy,h⟩:=h;refine ui hx0 l (k+1) y X h hd' ?_;rw[dW hy,dV,if_neg (hd 0 r rfl)];rw[dv r.c.gC,hx,Xx,hx0]
end
section
variable [Tok]
def Rl (w0:World) (fp0:G0) (bs:Cell->Prop) (n:Nat) (st:St) (a:Act) (w:World):Prop:=∃pl,Rel w0 fp0 st pl a w/\pl.base=bs/\st.n=n
section
variable {w:World} {H H':aO} {pl:Pl}
theorem CY (e:Am H' H):mS ([],[]) w H pl w H' pl:=
 ⟨λi B hB _=>⟨B,(e i).trans hB,B.dI,rfl⟩,λd p u _ h hp=>⟨⟨h.1,λi B hB=>h.2 i B ((e i).symm.trans hB)⟩,hp⟩⟩
theorem dc.same (e:Am H' H) (h:dc H pl w):dc H' pl w:=
  ⟨λi B hB=>(h.blk i B ((e i).symm.trans hB)).bG (CY e) rfl (λ_=>Yy) (λp u _ hu=>⟨hu,rfl⟩) B.dJ,
   λi j B B' p h1 h2=>h.dis i j B B' p ((e i).symm.trans h1) ((e j).symm.trans h2),λi B p hB=>h.ob i B p ((e i).symm.trans hB),h.nb⟩
theorem Rel.congr {w0:World} {fp0:G0} {s s':List (Nat× SV)} {nid n:Nat} {gh:List (Option Nat)} {a:Act} (h:Rel w0 fp0 ⟨s,H,nid,n,gh⟩ pl a w) (hs:∀t v,look s' t=some v->look s t=some v) (e:Am H' H):
    Rel w0 fp0 ⟨s',H',nid,n,gh⟩ pl a w:=
  ⟨h.hr.same e,λt v hv=>(h.sl t v (hs t v hv)).yV (CY e),h.sz,h.df,λi hi=>(e i).trans (h.fresh i hi),h.gr,λp u hp hn=>by
    obtain⟨g1,g2,g3⟩:=h.fr p u hp hn
    exact⟨λi B hB=>g1 i B ((e i).symm.trans hB),g2,g3⟩,λk i hi=>⟨(h.gk k i hi).1,λB hB=>(h.gk k i hi).2 B ((e i).symm.trans hB)⟩⟩
end
theorem Et {h:aO} {k i:Nat} {b B:Blk} (e:look (KR h k b) i=some B):∃B',look h i=some B':=by
 induction h with
 |nil=>simp[KR,look]at e
 |cons x l ih=>
  obtain⟨k',u⟩:=x;rw[aG];by_cases c:k'=i
  ·exact⟨u,by simp[c]⟩
  ·rw[if_neg c];simp only[KR]at e;cases hb:Nat.beq k' k<;>simp only[hb,cond_true,cond_false]at e
   ·rw[aG,if_neg c]at e;exact ih e
   ·rw[aG,if_neg (by have:=So hb;omega)]at e;exact⟨B,e⟩
theorem tQ:∀{l h:aO} {i:Nat} {B:Blk},look (kh l h) i=some B->∃B',look h i=some B'
 |[],h,i,B,e=>⟨B,e⟩
 |(k,b)::l,h,i,B,e=>by
  simp only[kh]at e;obtain⟨B',hB'⟩:=tQ e;exact Et hB'
theorem Rel.app {w0:World} {fp0:G0} {X X':SH} {nid n:Nat} {gh:List (Option Nat)} {pl pl':Pl} {a:Act} {w w':World} {r:DR} {H':aO} {u:Value}
  (h:Rel w0 fp0 ⟨X.1,X.2,nid,n,gh⟩ pl a w) (hx:r.app X=some X') (hup:∀i B,look r.c.upd i=some B->∃B',look X.2 i=some B')
  (hd:∀t,r.dst=some t->t+1<=n) (hg:∀(k i:Nat),gh[k]? =some (some i)->i<r.n0) (hn:r.n0+r.c.news.length<=nid) (ha:after X.2 r.n0 r.c=some H') (hs:dk X.2 H' r.c.kil pl pl' w w') (hv:ax w' H' pl' r.c.v u):
  Rel w0 fp0 ⟨X'.1,X'.2,nid,n,gh⟩ pl' (a.put r.dst u) w':=by
 have Aj:Am X'.2 H':=by
  unfold DR.app at hx;unfold after at ha;rw[wZ hup]at ha;simp only[An,It]at hx ha;obtain⟨h1,e1,rfl⟩:=hx;obtain⟨h2,e2,rfl⟩:=ha;rw[e1]at e2;cases e2;exactλ_=>rfl
 have hfr:∀i,nid<=i->look H' i=none:=λi hi=>by
  rw[<-Aj i]
  cases hq:look X'.2 i with
  |none=>rfl
  |some B=>
   rcases o5 (p:=λ_=>true) [r] 0 X X' (by simp[replay,hx]) i B hq with⟨B',hB'⟩|⟨j',r2,g1,_,g3⟩
   ·have:=h.fresh i hi;rw[hB']at this;exact nomatch this
   ·cases j' with
    |zero=>simp at g1;subst g1;have:=g3.2;omega
    |succ j'=>simp at g1
 have hsl:il w' H' pl' (pK r.c.kil X.1) a:=h.sl.bG r.c.gC hs.kp
 have hsl2:il w' H' pl' X'.1 (a.put r.dst u):=by
  rw[dW hx]
  cases RJ:r.dst with
  |none=>exact hsl
  |some t=>
   have ht:=hd t RJ;exact il.put (n:=n) (dst:=some t) hsl h.sz (by simp only[S1,JE];rw[show Nat.ble (t+1) n=true from Xd ht];rfl) hv
 exact Rel.congr (s:=X'.1) (H:=H') ⟨hs.hr,hsl2,by rw[Act.Ec];exact h.sz,by rw[Act.MT];exact h.df,hfr,h.gr.trans hs.gr,λp q hp hno=>by
  obtain⟨g1,g2,g3⟩:=h.fr p q hp hno;obtain⟨f1,f2,f3⟩:=hs.fr p q g2 g1
  exact⟨f1,f2,f3.trans g3⟩,h.gk.step hs.kp (Wc _) λk i B hki hB=>by
   have hi:=hg k i hki;rw[<-Aj i]at hB;unfold DR.app at hx;simp only[An,It]at hx;obtain⟨h1,e1,rfl⟩:=hx;rw[aM,bz,if_neg (by omega),WV,de r.c.gC e1 i]at hB;cases hm:mem i r.c.kil.1<;>simp only[hm,cond_true,cond_false]at hB
   ·obtain⟨B1,hB1,_⟩:=An.1 hB;exact⟨rfl,tQ hB1⟩
   ·exact nomatch hB⟩ (λ_ _ h=>h) Aj
theorem xb (acc:List Nat) (j:Nat):∀l:List Edge,(FW acc l).testBit j=true↔∃e∈l,Region.binds .any e=true/\(j=e.on\/(acc.getD e.on 0).testBit j=true)
 |[]=>by simp[FW]
 |e::l=>by
  simp only[FW];cases hb:Region.binds .any e
  ·simp only[cond_false,xb acc j l,V0,exists_eq_or_imp,hb,Xf,false_and,false_or]
  ·simp only[cond_true,Nat.testBit_or,Nat.testBit_two_pow,XA,decide_eq_true_eq,xb acc j l,V0,exists_eq_or_imp,hb,true_and];constructor
   ·rintro ((h|h)|h)
    ·exact .inl (.inr h)
    ·exact .inl (.inl h.symm)
    ·exact .inr h
   ·rintro ((h|h)|h)
    ·exact .inl (.inr h.symm)
    ·exact .inl (.inl h)
    ·exact .inr h
theorem la {n:Nat}:∀{l:List Edge},wK n l=true->∀e∈l,Region.binds .any e=true->e.on<n
 |[],_,e,he,_=>by simp at he
 |x::l,h,e,he,hb=>by
  simp only[wK]at h;cases hx:Region.binds .any x<;>simp only[hx,cond_true,cond_false]at h
  ·rcases V0.1 he with rfl|he
   ·rw[hx]at hb;exact nomatch hb
   ·exact la h e he hb
  ·cases hn:Nat.ble (x.on+1) n<;>simp only[hn,cond_true,cond_false]at h
   ·exact nomatch h
   ·rcases V0.1 he with rfl|he
    ·exact V4 hn
    ·exact la h e he hb
structure Iv (ops:List Oper) (aN:List Nat):Prop where
 back:∀(i:Nat) (o:Oper),ops[i]? =some o->∀e∈o.after.toList,Region.binds .any e=true->e.on<i
 spec:∀(i:Nat) (o:Oper),ops[i]? =some o->∀j,(aN.getD i 0).testBit j=true↔∃e∈o.after.toList,Region.binds .any e=true/\(j=e.on\/(aN.getD e.on 0).testBit j=true)
theorem xU:∀(l:List Oper) (acc aN:List Nat),zR acc l=some aN->(∃t,aN=acc++t)/\
  ∀(k:Nat) (o:Oper),l[k]? =some o->(∀e∈o.after.toList,Region.binds .any e=true->e.on<acc.length+k)/\
   ∀j,(aN.getD (acc.length+k) 0).testBit j=true↔∃e∈o.after.toList,Region.binds .any e=true/\(j=e.on\/(aN.getD e.on 0).testBit j=true)
 |[],acc,aN,h=>by cases h;exact⟨⟨[],by simp⟩,λk o ho=>by simp at ho⟩
 |x::l,acc,aN,h=>by
  simp only[zR]at h;cases he:wK acc.length x.after.toList<;>simp only[he,cond_true,cond_false]at h
  ·exact nomatch h
  ·obtain⟨⟨t,ht⟩,hl⟩:=xU l _ aN h;refine⟨⟨FW acc x.after.toList::t,by rw[ht];simp⟩,λk o ho=>?_⟩
   cases k with
   |zero=>
    simp at ho;subst ho;refine⟨la he,λj=>?_⟩
    have hm:aN.getD (acc.length+0) 0=FW acc x.after.toList:=by rw[ht];simp[List.getD]
    rw[hm,xb];constructor
    ·rintro ⟨e,h1,h2,h3⟩
     have hlt:=la he e h1 h2;refine⟨e,h1,h2,h3.imp id λh3=>?_⟩;rw[ht];simpa[List.getD,V1 hlt,Wd]using h3
    ·rintro ⟨e,h1,h2,h3⟩
     have hlt:=la he e h1 h2;refine⟨e,h1,h2,h3.imp id λh3=>?_⟩
     rw[ht]at h3;simpa[List.getD,V1 hlt,Wd]using h3
   |succ k=>
    have:=hl k o (by simpa using ho);simp only[VR,VS,V5]at this;rwa [show acc.length+(0+1)+k=acc.length+(k+1)from by omega]at this
theorem PK {ops:List Oper} {aN:List Nat} (h:zR [] ops=some aN):Iv ops aN:=by
 obtain⟨_,h2⟩:=xU ops [] aN h;exact⟨λi o ho=>by have:=(h2 i o ho).1;simpa using this,λi o ho=>by have:=(h2 i o ho).2;simpa using this⟩
theorem Iv.closed {ops:List Oper} {aN:List Nat} (hm:Iv ops aN) {p:Nat->Bool} (hp:∀(j:Nat) (o:Oper),ops[j]? =some o->p j=true->∀e∈o.after.toList,Region.binds .any e=true->p e.on=true):
  ∀(n i:Nat) (o:Oper),i<=n->ops[i]? =some o->(∀e∈o.after.toList,Region.binds .any e=true->p e.on=true)->∀j,(aN.getD i 0).testBit j=true->p j=true
 |n,i,o,hn,ho,he,j,hj=>by
  obtain⟨e,h1,h2,h3⟩:=(hm.spec i o ho j).1 hj
  rcases h3 with rfl|h3
  ·exact he e h1 h2
  ·have hlt:=hm.back i o ho e h1 h2
   have hol:e.on<ops.length:=by have:=(Of.1 ho).1;omega
   cases n with
   |zero=>omega
   |succ n=>exact hm.closed hp n e.on _ (by omega) (On hol) (λe' h1' h2'=>hp e.on _ (On hol) (he e h1 h2) e' h1' h2') j h3
theorem Iv.lt {ops:List Oper} {aN:List Nat} (hm:Iv ops aN) {i j:Nat} {o:Oper} (ho:ops[i]? =some o) (hj:(aN.getD i 0).testBit j=true):j<i:=
 of_decide_eq_true (hm.closed (p:=λj=>decide (j<i)) (λk o' ho' hk e h1 h2=>decide_eq_true (by have:=hm.back k o' ho' e h1 h2;have:=of_decide_eq_true hk;omega)) i i o (Wc _) ho
  (λe h1 h2=>decide_eq_true (hm.back i o ho e h1 h2)) j hj)
end
section
variable [Tok]
def Nj (h H:aO):Prop:=∀i B,look h i=some B->∃B',look H i=some B'/\B.nC B'
def RK (P:Program) (o:Oper) (n:Nat) (c:CR) (s:List (Nat× SV)) (h:aO):Prop:=
 ∀(s':List (Nat× SV)) (H:aO) (a:Act) (w:World) (pl:Pl),Ext s s'->Nj h H->dc H pl w->il w H pl s' a->(∀k,k<c.news.length->look H (n+k)=none)->lR P o a w H pl n c
theorem Cl {P:Program} {T:TypeId} {h H:aO} (e:Nj h H) {x:SV} {k:Int} {v:SV} (hv:bX P T h x k=some v):bX P T H x k=some v:=by
 have sz:∀{t t':Ty},t.sz=t'.sz->slT P T t=slT P T t':=λ{t t'} e=>by unfold slT;rw[e]
 cases x with
 |own i=>
  simp only[bX]at hv⊢
  cases hl:look h i with
  |none=>rw[hl]at hv;exact nomatch hv
  |some B=>
   rw[hl]at hv;obtain⟨B',h1,h2⟩:=e i B hl
   cases B with
   |box cs=>exact nomatch hv
   |arr sh t xs=>
    cases B' with
    |box cs=>exact h2.elim
    |arr sh' t' ys=>
     rw[h1];simp only at hv⊢
     rwa [<-sz h2.1,<-h2.2]
 |sub i o n=>
  simp only[bX]at hv⊢
  cases hl:look h i with
  |none=>rw[hl]at hv;exact nomatch hv
  |some B=>
   rw[hl]at hv;obtain⟨B',h1,h2⟩:=e i B hl
   cases B with
   |box cs=>exact nomatch hv
   |arr sh t xs=>
    cases B' with
    |box cs=>exact h2.elim
    |arr sh' t' ys=>
     rw[h1];simp only at hv⊢
     rwa [<-sz h2.1]
 |r d x=>cases x<;>exact hv
 |_=>exact hv
def nI (aN:List Nat) (i:Nat) (o:Oper) (rs:List DR) (t:Bool):Prop:=
 match o.guard with
 |none=>t=true
 |some (g,want)=>(aN.getD i 0).testBit g=true/\∃r d,rs[g]? =some r/\r.dst=some d/\((∃b,r.c.v=.r [] (.bool b)/\t=(b==want))\/(r.c.v=.tup []/\t=false))
def Tp (E:Env) (ops:List Oper) (aN dsts:List Nat) (s0:List (Nat× SV)) (h0:aO) (rs:List DR) (i:Nat) (o:Oper) (r:DR):Prop:=
 r.dst=o.dst/\okW E o.op r.c=true/\∃x t,replay (Nat.testBit (aN.getD i 0)) 0 (rs.take i) (oV (Pq aN i 0 ops) s0 (fu o.op.operands.toList),h0)=some x/\nI aN i o rs t/\
  ((t=true/\r=Rt E aN i ops h0 x o r.n0 r.c/\(MH E h0 x o=false->Ga E.P o r.n0 r.c (oV [] x.1 (fu o.op.operands.toList)) (KT E aN i ops x o))/\(MH E h0 x o=true->RK E.P o r.n0 r.c (oV [] x.1 (fu o.op.operands.toList)) (xT h0 (FX x o))))\/(t=false/\r.c={v:=.tup []}/\r.len=false))
theorem RL {E:Env} {ρ:Type} {o:Oper} {s:List (Nat× SV)} {h0:aO} {n:Nat} {K:CR->Option ρ} {out:ρ} (hl:Tb o.op=true) (h:DX E s h0 n o.op K=some out):∃c,K c=some out/\RK E.P o n c s h0:=by
 cases ho:o.op with
 |indexAddr T x k=>
  rw[ho]at h;have h:pL E.P s h0 (.indexAddr T x k) (λv=>K {v:=v})=some out:=h;rw[pM]at h;obtain⟨v,hv,h⟩:=An.1 h;refine⟨_,h,λs' H a w pl es eh hr hs hn=>?_⟩
  have hv':ij E.P s' H (.indexAddr T x k)=some v:=by
   simp only[ij,An]at hv⊢;obtain⟨x',hx,k',hk,n',hn',hv⟩:=hv;exact⟨x',dp es _ _ hx,k',dp es _ _ hk,n',hn',Cl eh hv⟩
  obtain⟨u,hu,hvr⟩:=lX hr hs hv' o ho
  exact oX hr hu hvr
 |_=>rw[ho]at hl;exact nomatch hl
structure Gf (E:Env) (ops:List Oper) (aN dsts:List Nat) (s0:List (Nat× SV)) (h0:aO) (nid0:Nat) (rs:List DR) (m nid:Nat):Prop where
 len:rs.length=m
 Us:∀(i:Nat) (o:Oper) (r:DR),ops[i]? =some o->rs[i]? =some r->Tp E ops aN dsts s0 h0 rs i o r
 lo:∀(i:Nat) (r:DR),rs[i]? =some r->nid0<=r.n0/\r.n0+r.c.news.length<=nid
 ord:∀(i j:Nat) (a b:DR),i<j->rs[i]? =some a->rs[j]? =some b->a.n0+a.c.news.length<=b.n0
theorem nI.more {aN:List Nat} {i:Nat} {o:Oper} {rs:List DR} {t:Bool} (h:nI aN i o rs t) (r:DR):nI aN i o (rs++[r]) t:=by
 unfold nI at*;split at h
 ·exact h
 ·obtain⟨h1,r',d,h2,h3,h4⟩:=h;exact⟨h1,r',d,by rw[V1 (Of.1 h2).1];exact h2,h3,h4⟩
section
variable {ρ:Type} {E:Env} {ops:List Oper} {aN dsts:List Nat} {s0:List (Nat× SV)} {h0:aO} {nid0:Nat}
theorem Gf.push {rs:List DR} {m nid:Nat} (F:Gf E ops aN dsts s0 h0 nid0 rs m nid) (h0n:nid0<=nid) {o:Oper} {r:DR} (ho:ops[m]? =some o) (hr:Tp E ops aN dsts s0 h0 (rs++[r]) m o r) (hn:r.n0=nid):
  Gf E ops aN dsts s0 h0 nid0 (rs++[r]) (m+1) (nid+r.c.news.length):=by
 have yX:∀(i:Nat) (b:DR),(rs++[r])[i]? =some b->(i<m/\rs[i]? =some b)\/(i=m/\b=r):=λi b hb=>by
  by_cases c:i<m
  ·rw[V1 (by rw[F.len];exact c)]at hb;exact .inl ⟨c,hb⟩
  ·rw[VU (by rw[F.len];omega),F.len]at hb
   have hi:i-m<1:=by have:=(Of.1 hb).1;simpa using this
   have:i-m=0:=by omega
   rw[this]at hb;simp at hb;exact .inr ⟨by omega,hb.symm⟩
 refine⟨by simp[F.len],λi o' b ho' hb=>?_,λi b hb=>?_,λi j a b hij ha hb=>?_⟩
 ·rcases yX i b hb with⟨hi,h⟩|⟨rfl,rfl⟩
  ·obtain⟨g1,g2,x,t,g3,g4,g5⟩:=F.Us i o' b ho' h;exact⟨g1,g2,x,t,by rw[Xc (by rw[F.len];omega)];exact g3,g4.more r,g5⟩
  ·rw[ho]at ho';cases ho';exact hr
 ·rcases yX i b hb with⟨hi,h⟩|⟨rfl,rfl⟩
  ·have:=F.lo i b h;exact⟨this.1,by omega⟩
  ·exact⟨by omega,by omega⟩
 ·rcases yX j b hb with⟨hj,h⟩|⟨rfl,rfl⟩
  ·rcases yX i a ha with⟨hi,h'⟩|⟨rfl,rfl⟩
   ·exact F.ord i j a b hij h' h
   ·omega
  ·rcases yX i a ha with⟨hi,h'⟩|⟨rfl,rfl⟩
   ·have:=F.lo i a h';omega
   ·omega
theorem Iw:∀{rs:List DR} {g:Nat} {r:DR} {v:SV},rs[g]? =some r->r.c.v=v->Rs rs g v=rs
 |[],_,_,_,h,_=>by simp at h
 |x::l,0,r,v,h,hv=>by simp at h;subst h;subst hv;rfl
 |x::l,g+1,r,v,h,hv=>by simp only[Rs];rw[Iw (rs:=l) (by simpa using h) hv]
theorem rv (hE:oG E) {out:ρ}:∀(rest:List Oper) (i nid:Nat) (rs:List DR) (K:List DR->Nat->Option ρ),qL E ops aN dsts s0 h0 i rest nid rs K=some out->
  Gf E ops aN dsts s0 h0 nid0 rs i nid->nid0<=nid->ops.drop i=rest->∃rs' Cf,K rs' Cf=some out/\nid0<=Cf/\Gf E ops aN dsts s0 h0 nid0 rs' (i+rest.length) Cf
 |[],i,nid,rs,K,h,F,hn,_=>⟨rs,nid,h,hn,F⟩
 |o::rest,i,nid,rs,K,h,F,hn,hd=>by
  have ho:ops[i]? =some o:=by rw[<-List.head?_drop,hd];rfl
  have hd':ops.drop (i+1)=rest:=by rw[<-List.drop_drop,hd];rfl
  have Nk:∀r,(rs++[r]).take i=rs:=λr=>by rw[Xc (by rw[F.len];omega),<-F.len,WH]
  simp only[qL,An]at h;obtain⟨x,hx,h⟩:=h
  have exec:∀t,(∀r,nI aN i o (rs++[r]) t)->t=true->(DX E (oV [] x.1 (fu o.op.operands.toList)) (MI E aN i ops h0 x o) nid o.op λc=>cond (okW E o.op c) (qL E ops aN dsts s0 h0 (i+1) rest (nid+c.news.length) (rs++[Rt E aN i ops h0 x o nid c]) K) none)=some out->
    ∃rs' Cf,K rs' Cf=some out/\nid0<=Cf/\Gf E ops aN dsts s0 h0 nid0 rs' (i+(o::rest).length) Cf:=λt hw ht h=>by
   obtain⟨c,hc,hg⟩:∃c,(cond (okW E o.op c) (qL E ops aN dsts s0 h0 (i+1) rest (nid+c.news.length) (rs++[Rt E aN i ops h0 x o nid c]) K) none)=some out/\
     (MH E h0 x o=false->Ga E.P o nid c (oV [] x.1 (fu o.op.operands.toList)) (KT E aN i ops x o))/\(MH E h0 x o=true->RK E.P o nid c (oV [] x.1 (fu o.op.operands.toList)) (xT h0 (FX x o))):=by
    unfold MI at h;cases hL:MH E h0 x o<;>simp only[hL,cond_true,cond_false]at h
    ·obtain⟨c,hc,hg⟩:=Gb hE h;exact⟨c,hc,λ_=>hg,(λe=>nomatch e)⟩
    ·have hL':=hL;unfold MH at hL';simp only[VP]at hL';obtain⟨c,hc,hg⟩:=RL hL'.2.1 h;exact⟨c,hc,(λe=>nomatch e),λ_=>hg⟩
   cases hok:okW E o.op c<;>simp only[hok,cond_true,cond_false]at hc
   ·exact nomatch hc
   ·have F':=F.push hn (r:=Rt E aN i ops h0 x o nid c) ho ⟨rfl,hok,x,t,by rw[Nk];exact hx,hw _,.inl ⟨ht,rfl,hg.1,hg.2⟩⟩ rfl;have:=rv hE rest (i+1) _ _ K hc F' (by omega) hd';rwa [show i+1+rest.length=i+(o::rest).length from by simp;omega]at this
  have skip:∀t,(∀r,nI aN i o (rs++[r]) t)->t=false->qL E ops aN dsts s0 h0 (i+1) rest nid (rs++[⟨o.dst,nid,{v:=.tup []},[],[],false⟩]) K=some out->
    ∃rs' Cf,K rs' Cf=some out/\nid0<=Cf/\Gf E ops aN dsts s0 h0 nid0 rs' (i+(o::rest).length) Cf:=λt hw ht h=>by
   have F':=F.push hn (r:=⟨o.dst,nid,{v:=.tup []},[],[],false⟩) ho ⟨rfl,by simp only[okW,isNil,CR.kil,Xe];cases nF E o.op<;>rfl,x,t,by rw[Nk];exact hx,hw _,.inr ⟨ht,rfl,rfl⟩⟩ rfl;have:=rv hE rest (i+1) _ _ K h F' (by simpa using hn) hd';rwa [show i+1+rest.length=i+(o::rest).length from by simp;omega]at this
  split at h
  ·rename_i hg;exact exec true (λr=>by unfold nI;rw[hg]) rfl h
  ·rename_i g want hg;cases hb:(aN.getD i 0).testBit g<;>simp only[hb,cond_true,cond_false]at h
   ·exact nomatch h
   ·simp only[An]at h;obtain⟨r,hr,d,RJ,h⟩:=h;split at h
    ·rename_i hv
     exact skip false (λr'=>nI.more (by
      unfold nI;rw[hg];exact⟨hb,r,d,hr,RJ,.inr ⟨hv,rfl⟩⟩) r') rfl h
    ·rename_i b hv
     have hw:∀r',nI aN i o (rs++[r']) (b==want):=λr'=>nI.more (by
      unfold nI;rw[hg];exact⟨hb,r,d,hr,RJ,.inl ⟨b,hv,rfl⟩⟩) r'
     cases b<;>simp only[cond_true,cond_false]at h
     ·rw[Iw hr hv]at h;cases want<;>simp only[cond_true,cond_false]at h
      ·exact exec _ hw rfl h
      ·exact skip _ hw rfl h
     ·rw[Iw hr hv]at h;cases want<;>simp only[cond_true,cond_false]at h
      ·exact skip _ hw rfl h
      ·exact exec _ hw rfl h
    ·exact nomatch h
end
theorem Ar {cm:DR->Bool} {aN:List Nat} {i:Nat} {r:DR}:∀{l:List DR} {k:Nat},zT cm aN i r k l=true->∀(j:Nat) (b:DR),l[j]? =some b->(aN.getD (k+j) 0).testBit i=true\/tC cm r b=true
 |[],_,_,j,b,hb=>by simp at hb
 |x::l,k,h,j,b,hb=>by
  simp only[zT]at h
  have hl:zT cm aN i r (k+1) l=true/\((aN.getD k 0).testBit i=true\/tC cm r x=true):=by
   cases h1:(aN.getD k 0).testBit i<;>simp only[h1,cond_true,cond_false]at h
   ·cases h2:tC cm r x<;>simp only[h2,cond_true,cond_false]at h
    ·exact nomatch h
    ·exact⟨h,.inr rfl⟩
   ·exact⟨h,.inl rfl⟩
  cases j with
  |zero=>simp at hb;subst hb;exact hl.2
  |succ j=>have:=Ar hl.1 j b (by simpa using hb);rwa [show k+1+j=k+(j+1)from by omega]at this
theorem uj {cm:DR->Bool} {aN:List Nat}:∀{l:List DR} {k:Nat},CE cm aN k l=true->∀(i j:Nat) (a b:DR),i<j->l[i]? =some a->l[j]? =some b->(aN.getD (k+j) 0).testBit (k+i)=true\/tC cm a b=true
 |[],_,_,i,j,a,b,_,ha,_=>by simp at ha
 |x::l,k,h,i,j,a,b,hij,ha,hb=>by
  simp only[CE]at h;cases h1:zT cm aN k x (k+1) l<;>simp only[h1,cond_true,cond_false]at h
  ·exact nomatch h
  ·obtain⟨j,rfl⟩:∃j',j=j'+1:=⟨j-1,by omega⟩
   cases i with
   |zero=>
    simp at ha;subst ha;have:=Ar h1 j b (by simpa using hb)
    rwa [show k+1+j=k+(j+1)from by omega]at this
   |succ i=>
    have:=uj h i j a b (by omega) (by simpa using ha) (by simpa using hb);rwa [show k+1+j=k+(j+1)from by omega,show k+1+i=k+(i+1)from by omega]at this
theorem Vr {i:Nat} {l:List Nat}:mem i l=true↔i∈l:=by
 induction l with
 |nil=>simp[mem]
 |cons k l ih=>
  simp only[mem,V0];cases h:Nat.beq k i
  ·have:¬i=k:=λe=>by subst e;simp at h
   simp[ih,this]
  ·have:=So h;simp[this]
theorem CZ {n:Nat}:∀{l:List Nat},KS n l=true->∀i∈l,i+1<=n
 |[],_,i,hi=>by simp at hi
 |x::l,h,i,hi=>by
  simp only[KS]at h;cases hm:Nat.ble (x+1) n<;>simp only[hm,cond_true,cond_false]at h
  ·exact nomatch h
  ·rcases V0.1 hi with rfl|hi
   ·exact V4 hm
   ·exact CZ h i hi
theorem sD:∀{ops:List Oper} {j:Nat} {o:Oper} {t:Nat},ops[j]? =some o->o.dst=some t->t∈j9 ops
 |[],j,o,t,h,_=>by simp at h
 |x::l,0,o,t,h,hd=>by simp at h;subst h;simp[j9,hd]
 |x::l,j+1,o,t,h,hd=>by
  have:=sD (ops:=l) (by simpa using h) hd;simp only[j9];split<;>simp[this]
theorem C0:∀{ops:List Oper},(j9 ops).Nodup->∀{i j:Nat} {a b:Oper} {t:Nat},i≠j->ops[i]? =some a->ops[j]? =some b->a.dst=some t->b.dst≠some t
 |[],_,i,j,a,b,t,_,h,_,_=>by simp at h
 |x::l,hn,i,j,a,b,t,hij,ha,hb,h1=>by
  have hl:(j9 l).Nodup:=by
   simp only[j9]at hn;split at hn
   ·exact(WX.1 hn).2
   ·exact hn
  have hx:∀t,x.dst=some t->t∉j9 l:=λt ht=>by
   simp only[j9,ht]at hn;exact(WX.1 hn).1
  intro h2
  cases i with
  |zero=>
   simp at ha;subst ha
   cases j with
   |zero=>exact hij rfl
   |succ j=>exact hx t h1 (sD (by simpa using hb) h2)
  |succ i=>
   cases j with
   |zero=>simp at hb;subst hb;exact hx t h2 (sD (by simpa using ha) h1)
   |succ j=>exact C0 (i:=i) (j:=j) hl (by omega) (by simpa using ha) (by simpa using hb) h1 h2
theorem Eu {aN:List Nat} {i:Nat}:∀{ops:List Oper} {k j:Nat} {o:Oper} {t:Nat},ops[j]? =some o->o.dst=some t->(aN.getD (k+j) 0).testBit i=false->t∈Pq aN i k ops
 |[],k,j,o,t,h,_,_=>by simp at h
 |x::l,k,0,o,t,h,hd,hb=>by simp at h;subst h;simp only[Wq]at hb;simp only[Pq,hb,cond_false,hd];exact V6 ..
 |x::l,k,j+1,o,t,h,hd,hb=>by
  have:=Eu (ops:=l) (k:=k+1) (by simpa using h) hd (by rw[show k+1+j=k+(j+1)from by omega];exact hb);simp only[Pq];cases(aN.getD k 0).testBit i<;>simp only[cond_true,cond_false]
  ·split<;>simp[this]
  ·exact this
theorem Lm {T:List Nat} {s:List (Nat× SV)} {l:List Nat} {t:Nat} {v:SV} (h:look (oV T s l) t=some v):v∈DZ s l:=by
 induction l with
 |nil=>exact nomatch h
 |cons k l ih=>
  simp only[oV]at h;simp only[DZ];cases hm:mem k T<;>simp only[hm,cond_true,cond_false]at h
  ·cases hl:look s k with
   |none=>rw[hl]at h;exact ih h
   |some u=>
    rw[hl]at h;simp only[aG]at h;by_cases c:k=t
    ·rw[if_pos c]at h;cases h;exact V6
    ·rw[if_neg c]at h;exact VY _ (ih h)
  ·cases hl:look s k with
   |none=>exact ih h
   |some u=>exact VY _ (ih h)
theorem C3 {k:Nat} {B:Blk}:∀{l:List DR},MF k B l=true->∀r∈l,look r.c.upd k=none/\mem k r.c.kil.1=false/\B.Mo r.c.kil=true
 |[],_,_,h=>nomatch h
 |r::l,h,r',hr=>by
  simp only[MF]at h;cases hc:((look r.c.upd k).isNone&&(!mem k r.c.kil.1&&B.Mo r.c.kil))<;>rw[hc]at h<;>simp only[cond_true,cond_false]at h
  ·exact nomatch h
  ·rw[VP,VP,Option.isNone_iff_eq_none,XQ]at hc
   rcases V0.1 hr with rfl|hr
   ·exact hc
   ·exact C3 h r' hr
theorem Gg {h:aO} {rs:List DR} {k:Nat}:∀{L:List Nat},TZ h rs L=true->mem k L=true->∃B,look h k=some B/\∀r∈rs,look r.c.upd k=none/\mem k r.c.kil.1=false/\B.Mo r.c.kil=true
 |[],_,hm=>nomatch hm
 |i::l,hc,hm=>by
  simp only[TZ]at hc;split at hc
  ·rename_i B hB;cases h1:MF i B rs<;>rw[h1]at hc<;>simp only[cond_true,cond_false]at hc
   ·exact nomatch hc
   ·simp only[mem]at hm;cases hb:Nat.beq i k<;>rw[hb]at hm<;>simp only[cond_true,cond_false]at hm
    ·exact Gg hc hm
    ·have:=So hb;subst this;exact⟨B,hB,C3 h1⟩
  ·exact nomatch hc
theorem xV:∀{L T:List Nat},zU L T=true->∀k,mem k L=true->mem k T=false
 |[],_,_,k,hk=>nomatch hk
 |i::l,T,h,k,hk=>by
  simp only[zU]at h;cases hm:mem i T<;>rw[hm]at h
  ·simp only[mem]at hk;cases hb:Nat.beq i k<;>rw[hb]at hk
   ·exact xV h k hk
   ·rw[<-So hb];exact hm
  ·exact nomatch h
theorem xW {L:List Nat}:∀{rs:List DR},D0 L rs=true->∀k,mem k L=true->∀r∈rs,mem k r.c.kil.1=false
 |[],_,_,_,_,hr=>nomatch hr
 |r::l,h,k,hk,r',hr=>by
  simp only[D0]at h;cases hn:zU L r.c.kil.1<;>rw[hn]at h
  ·exact nomatch h
  ·rcases V0.1 hr with rfl|hr
   ·exact xV hn k hk
   ·exact xW h k hk r' hr
theorem As {cm:DR->Bool}:∀{rs:List DR},CF cm rs=true->∀r∈rs,r.len=true->gB cm r=true
 |[],_,_,hr,_=>nomatch hr
 |r::l,h,r',hr,hl=>by
  simp only[CF]at h;cases hn:(!r.len||gB cm r)<;>rw[hn]at h
  ·exact nomatch h
  ·rcases V0.1 hr with rfl|hr
   ·rw[hl]at hn;exact hn
   ·exact As h r' hr hl
theorem PL {T:Kil} {B:Blk} (h:B.Mo T=true):B.aS T=some B:=by
 cases B with
 |box cs=>simp only[Blk.aS,kt cs h]
 |arr sh t xs=>
  cases sh with
  |none=>rfl
  |some d=>simp only[Blk.aS,not_false h,cond_false]
theorem nJ {p:Nat->Bool} {k:Nat} {B:Blk}:∀(l:List DR) (j:Nat) (x X:SH),(∀r∈l,look r.c.upd k=none/\mem k r.c.kil.1=false/\B.Mo r.c.kil=true)->look x.2 k=some B->replay p j l x=some X->look X.2 k=some B
 |[],_,x,X,_,hx,h=>by cases h;exact hx
 |r::l,j,x,X,hl,hx,h=>by
  simp only[replay]at h;have hl':=λr' hr=>hl r' (VY _ hr);cases hp:p j<;>rw[hp]at h<;>simp only[cond_true,cond_false]at h
  ·exact nJ l (j+1) x X hl' hx h
  ·rw[An]at h;obtain⟨y,hy,h⟩:=h;obtain⟨h1,hm,h2⟩:=hl r V6;refine nJ l (j+1) y X hl' ?_ h;rw[zp hy,hm,cond_false,rq _ _ h1,hx,Wg,PL h2];rfl
theorem mJ {T:List Nat} {s:List (Nat× SV)} {l:List Nat} {t:Nat} {v:SV} (h:look (oV T s l) t=some v):t∉T/\look s t=some v:=by
 induction l with
 |nil=>exact nomatch h
 |cons k l ih=>
  simp only[oV]at h;cases hm:mem k T<;>simp only[hm,cond_true,cond_false]at h
  ·cases hl:look s k with
   |none=>rw[hl]at h;exact ih h
   |some u=>
    rw[hl]at h;rw[aG]at h;by_cases e:k=t
    ·subst e;rw[if_pos rfl]at h;cases h;exact⟨λh=>by rw[Vr.2 h]at hm;exact(nomatch hm),hl⟩
    ·rw[if_neg e]at h;exact ih h
  ·exact ih h
theorem Au {E:Env} {aN:List Nat} {i:Nat}:∀{l:List Oper} {k:Nat},xS E aN i k l=false->∀(j:Nat) (o:Oper),l[j]? =some o->nF E o.op=true->S8 aN i (k+j)=true
 |[],_,_,j,o,h,_=>by simp at h
 |x::l,k,h,j,o,ho,hw=>by
  simp only[xS]at h
  have hl:xS E aN i (k+1) l=false/\(nF E x.op=true->S8 aN i k=true):=by
   cases h1:nF E x.op<;>simp only[h1,cond_true,cond_false]at h
   ·exact⟨h,λh=>nomatch h⟩
   ·cases h2:S8 aN i k<;>simp only[h2,cond_true,cond_false]at h
    ·exact nomatch h
    ·exact⟨h,λ_=>rfl⟩
  cases j with
  |zero=>simp at ho;subst ho;exact hl.2 hw
  |succ j=>have:=Au hl.1 j o (by simpa using ho) hw;rwa [show k+1+j=k+(j+1)from by omega]at this
end
end Go.Proofs.Ev
