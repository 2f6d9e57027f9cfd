/- The evaluator over the model's code, and that it is sound: part 4. -/
import Derived.Test.YtkjdnpefjebmlaaGreatDoorEvK3
import Derived.Lib.SliceRun
import Derived.Laws.Cover3
import Derived.Orders
set_option linter.unusedVariables false
set_option linter.unusedSimpArgs false
set_option linter.unusedSectionVars false
namespace Go.Proofs.Ev
section
variable [Tok]
section
variable {w:World} {H:aM} {pl:Pl} {P:Program}
theorem sB {t:Ty} {ys:List t.El} {zs:List t.El} {q n i j:Nat} {r:R} (hn:q+n<=ys.length) (hz:zs.length=n) (h:aB t (ys.take q++zs++ys.drop (q+n)) i j r):
  (q<=i/\i<q+n/\aB t zs (i-q) j r)\/(¬(q<=i/\i<q+n)/\aB t ys i j r):=by
 obtain⟨x,hx,hr⟩:=h
 have hl:(ys.take q).length=q:=by rw[X9];omega
 by_cases c:q<=i/\i<q+n
 ·rw[XP,XL (by omega),hl,XQ (by omega)]at hx;exact .inl ⟨c.1,c.2,x,hx,hr⟩
 ·refine .inr ⟨c,x,?_,hr⟩;by_cases c1:i<q
  ·rw[XP,XQ (by omega),Yh,if_pos c1]at hx;exact hx
  ·rw[XL (by simp[hz];omega),XU]at hx;rw[<-hx];congr 1;simp[hz];omega
theorem OC {t:Ty} {d:List Nat} {ys:List t.El} {i q num:Nat} {H':aM} {zs:List t.El} {us:List Value} {b m n cap:Nat}
  (hr:cY H pl w) (hl:look H i=some (.arr (some d) t ys)) (hzl:zs.length=num) (hh:pl.hdr i=.slice (some ⟨b,m,none⟩) n cap) (hq:q+num<=ys.length) (hus:us.length=num*t.sz) (Du:∀u∈us,one u=true)
  (hin:∀x j r,aB t zs x j r->∃u,us[x*t.sz+j]? =some u/\RepR w (okd H pl d) r u) (hpos0:0<ys.length)
  (Th:hit [i] d=false) (ht:o5 H H' ([],[i]) i (.arr (some d) t (ys.take q++zs++ys.drop (q+num)))):
  ∃w',(storeCells ⟨b,m+q*t.sz,none⟩ us).run P w=.ok () w'/\∃fp',c7 H H' ([],[i]) pl (pl.set i (pl.hdr i) fp') w w':=by
 obtain⟨⟨a,jk,b',o,vs,fs,hhd,hcap,ha,lC,hc,hrr,hd1,hd2,hfp⟩⟩:=(hr.blk i _ hl).Tc;rw[hh]at hhd;cases hhd;have hsp:=t.ie
 have hab:b=b'/\m=o:=by
  rcases ha with h|h
  ·omega
  ·cases h;exact⟨rfl,rfl⟩
 obtain⟨rfl,rfl⟩:=hab
 have NN:q*t.sz+us.length<=cap*t.sz:=by
  have:(q+num)*t.sz<=cap*t.sz:=XZ _ (by omega);rw[X7]at this;omega
 have hcell:∀j,j<us.length->∃u,w.at? (b,m+q*t.sz+j)=some u/\calm (w.eK (b,m+q*t.sz+j))=true:=λj hj=>by
  obtain⟨⟨u,q1⟩,q2⟩:=lC (q*t.sz+j) (by omega);rw[show m+q*t.sz+j=m+(q*t.sz+j)from by omega];exact⟨u,q1,sw q2⟩
 have hst:=run_storeCells_cells (P:=P) b (m+q*t.sz) us 0 w (λj hj=>by
   obtain⟨u,q1,_⟩:=hcell j hj;simp only[Yd];have q1:w.cell? ⟨b,m+q*t.sz+j,none⟩=some u:=q1
   rw[q1];rfl) (λj hj=>by
   obtain⟨u,q1,q2⟩:=hcell j hj
   simp only[Yd];exact mJ q1 q2) (λu hu=>pU (Du u hu))
 simp only[Yd]at hst
 have iH:∀j,j<us.length->(w.setCells b (m+q*t.sz) us).at? (b,m+q*t.sz+j)=us[j]? :=λj hj=>by
  have:=World.cell?_setCells_in b us (m+q*t.sz) w (λj hj=>by
   obtain⟨u,q1,_⟩:=hcell j hj;have q1:w.cell? ⟨b,m+q*t.sz+j,none⟩=some u:=q1
   rw[q1];rfl) j hj
  rw[So hj];simpa[World.at?]using this
 have dH:∀p u,w.at? p=some u->¬(p.1=b/\m+q*t.sz<=p.2/\p.2<m+q*t.sz+us.length)->(w.setCells b (m+q*t.sz) us).at? p=some u:=λp u hp hno=>by
  unfold World.at? at*;rw[World.cell?_setCells_out b _ _ w _ (λe1 _=>by simp at e1;simp;omega)];exact hp
 have EW:∀p,(w.setCells b (m+q*t.sz) us).eK p=w.eK p:=λp=>gR _ _ _ _ _;have vc:∀p,reg b m (cap*t.sz) p->pl.fp i p:=λp hp=>(hfp p).2 (.inl hp);have C3:∀i' j r p,aB t ys i' j r->fs i' j p->pl.fp i p:=λi' j r p hx hf=>(hfp p).2 (.inr ⟨i',j,r,hx,hf⟩)
 have hmi:mem i [i]=true:=by simp[mem]
 have E4:(ys.take q++zs++ys.drop (q+num)).length=ys.length:=by simp[hzl];omega
 refine⟨_,hst,λp=>reg b m (cap*t.sz) p\/∃i' j r,aB t ys i' j r/\¬(q<=i'/\i'<q+num)/\fs i' j p,?_⟩;refine kL (dF.setCells _ _ _ _) hr ht (λx hx=>nomatch hx) (λx hx=>?_) (.inr ⟨_,hl,hmi,by simp only[Blk.nt];exact⟨trivial,E4.symm⟩,rfl⟩) (λp u hp hno=>⟨dH p u hp λhin=>?_,EW p⟩) (λp hp=>?_) (λp hp=>?_) λhkp=>?_
 ·refine .inr ?_;simp only[mem]at hx;cases hb:Nat.beq i x
  ·rw[hb]at hx;exact nomatch hx
  ·exact(On hb).symm
 ·exact hno i _ hmi hl (vc p ⟨hin.1,by omega,by omega⟩)
 ·refine hr.nb p ?_
  cases hq':w.at? p with
  |none=>rfl
  |some u=>
   by_cases hin:p.1=b/\m+q*t.sz<=p.2/\p.2<m+q*t.sz+us.length
   ·obtain⟨p1,p2⟩:=p;obtain⟨e1,e2,e3⟩:=hin;simp only at e1 e2 e3;subst e1;have:=iH (p2-(m+q*t.sz)) (by omega);rw[show m+q*t.sz+(p2-(m+q*t.sz))=p2 from by omega,hp,So (by omega)]at this;exact nomatch this
   ·rw[dH p u hq' hin]at hp;exact nomatch hp
 ·rcases hp with hp|⟨i',j,r,hx,_,hf⟩
  ·exact .inr ⟨i,_,hmi,hl,vc p hp⟩
  ·exact .inr ⟨i,_,hmi,hl,C3 i' j r p hx hf⟩
 ·have zv:∀{i' j},j<t.sz->¬(q<=i'/\i'<q+num)->¬(m+q*t.sz<=m+(i'*t.sz+j)/\m+(i'*t.sz+j)<m+q*t.sz+us.length):=λ{i' j} hj hne ⟨g1,g2⟩=>by
   rcases Nat.lt_or_ge i' q with h|h
   ·have:(i'+1)*t.sz<=q*t.sz:=XZ _ h;rw[Y0]at this;omega
   ·have h2:q+num<=i':=by omega
    have:(q+num)*t.sz<=i'*t.sz:=XZ _ h2;rw[X7]at this;omega
  refine eL.oF ⟨some ⟨b,m,none⟩,cap,b,m,λi' j=>if q<=i'/\i'<q+num then(us[(i'-q)*t.sz+j]?).getD undef else vs i' j,λi' j p=>¬(q<=i'/\i'<q+num)/\fs i' j p,by rw[E4];simp[Pl.set,hh],by rw[E4];exact hcap,.inr rfl,λj hj=>⟨?_,by rw[EW];exact(lC j hj).2⟩,λi' j r hx=>?_,λi' j r hx=>?_,λi' j r p hx hf=>?_,λi' j r i2 j2 r2 p hx hx' hf hf'=>?_,λp=>?_⟩
  ·by_cases hin:q*t.sz<=j/\j<q*t.sz+us.length
   ·have:=iH (j-q*t.sz) (by omega);rw[show m+q*t.sz+(j-q*t.sz)=m+j from by omega]at this;exact⟨_,this.trans (So (by omega))⟩
   ·obtain⟨u,hu⟩:=(lC j hj).1;exact⟨u,dH _ u hu λh=>hin ⟨by have:=h.2.1;simp at this;omega,by have:=h.2.2;simp at this;omega⟩⟩
  ·rcases sB hq hzl hx with⟨g1,g2,g3⟩|⟨g1,g2⟩
   ·rw[if_pos ⟨g1,g2⟩];obtain⟨u,hu,_⟩:=hin _ _ _ g3;have hlt:=(Of.1 hu).1;have:=iH _ hlt
    have e:m+q*t.sz+((i'-q)*t.sz+j)=m+(i'*t.sz+j):=by
     have:i'*t.sz=q*t.sz+(i'-q)*t.sz:=by rw[<-X7];congr 1;omega
     omega
    rw[e]at this;rw[this,hu];rfl
   ·rw[if_neg g1];exact dH _ _ (hc _ _ _ g2) λh=>zv (aO g2).2 g1 ⟨h.2.1,h.2.2⟩
  ·rcases sB hq hzl hx with⟨g1,g2,g3⟩|⟨g1,g2⟩
   ·rw[if_pos ⟨g1,g2⟩];obtain⟨u,hu,hI⟩:=hin _ _ _ g3;rw[hu,YP];have hno:∀p,¬(¬(q<=i'/\i'<q+num)/\fs i' j p):=λp hf=>hf.1 ⟨g1,g2⟩;rw[hh];exact⟨hI.frame λp u hp hu=>(hh▸hkp).k2 d p u (λx hx=>fX _ d Th x hx) hp hu,hno⟩
   ·simp only[if_neg g1];have hI:=hrr _ _ _ g2;rw[hh];exact⟨hI.1.frame λp u hp hu=>(hh▸hkp).k2 d p u (λx hx=>fX _ d Th x hx) hp hu,λp hf=>hI.2 p hf.2⟩
  ·rcases sB hq hzl hx with⟨g1,g2,g3⟩|⟨g1,g2⟩
   ·exact(hf.1 ⟨g1,g2⟩).elim
   ·exact hd1 _ _ _ p g2 hf.2
  ·rcases sB hq hzl hx with⟨g1,g2,g3⟩|⟨g1,g2⟩
   ·exact(hf.1 ⟨g1,g2⟩).elim
   ·rcases sB hq hzl hx' with⟨q1,q2,q3⟩|⟨q1,q2⟩
    ·exact(hf'.1 ⟨q1,q2⟩).elim
    ·exact hd2 _ _ _ _ _ _ p g2 q2 hf.2 hf'.2
  ·simp only[Pl.set,if_true];constructor
   ·rintro (h|⟨i',j,r,hx,hne,hf⟩)
    ·exact .inl h
    ·have hlt:=aO hx;obtain⟨r',hr'⟩:=dU (t:=t) (xs:=ys.take q++zs++ys.drop (q+num)) (i:=i') (j:=j) (by rw[E4];exact hlt.1) hlt.2;exact .inr ⟨i',j,r',hr',hne,hf⟩
   ·rintro (h|⟨i',j,r,hx,hf⟩)
    ·exact .inl h
    ·rcases sB hq hzl hx with⟨g1,g2,g3⟩|⟨g1,g2⟩
     ·exact(hf.1 ⟨g1,g2⟩).elim
     ·exact .inr ⟨_,_,_,g2,hf⟩
theorem OD {i:Nat}:∀{d:List Nat},mem i d=false->hit [i] d=false
 |[],_=>rfl
 |k::l,h=>by
  simp only[mem]at h;cases hb:Nat.beq k i
  ·rw[hb,cond_false]at h
   have:mem k [i]=false:=by
    simp only[mem];cases hc:Nat.beq i k
    ·rfl
    ·have:=On hc;subst this;simp at hb
   simp only[hit,this,cond_false];exact OD h
  ·rw[hb]at h;exact nomatch h
theorem QZ {o:Oper} {a:Act} {s:List (Nat× SV)} {n:Nat} {args:Array Operand} {tys:Array TypeId} {T e:TypeId} {sz:Nat} {t:Ty} {z:List SV} {d:List Nat} {xs:List t.El} {i q off num:Nat}
  (hr:cY H pl w) (hs:gT w H pl s a) (ho:o.op=.call {callee:=.builtin .append,args:=args,argTypes:=tys}) (hvs:tX s args.toList=some [.sub i 0 q,.sub i off num]) (hty:tys.toList=[T,T])
  (he:mF P T=some e) (hsz:jh P e=some sz) (hts:t.sz=sz) (hz:gv P e=some z) (hl:look H i=some (.arr (some d) t xs)) (hd:mem i d=false) (hq:q+num<=xs.length) (UY:off+num<=xs.length) (NN:1<=xs.length):
  kK P o a w H pl n {v:=.sub i 0 (q+num),upd:=[(i,.arr (some d) t (xs.take q++(xs.drop off).take num++xs.drop (q+num)))],mH:=[i]}:=by
 refine⟨λj B h=>?_,λH' next Q ha hN=>?_⟩
 ·rw[aC]at h;by_cases e:i=j
  ·subst e;exact⟨_,hl⟩
  ·rw[if_neg e]at h;simp[look]at h
 obtain⟨ht,_⟩:=vd (c:={v:=.sub i 0 (q+num),upd:=[(i,.arr (some d) t (xs.take q++(xs.drop off).take num++xs.drop (q+num)))],mH:=[i]}) hl rfl rfl rfl ha;obtain⟨p,p',hpq,hp,hp'⟩:=sx hvs;have hpr:=aW hs hp;have WU:=aW hs hp'
 have tF:args.map a.eval=#[a.eval p,a.eval p']:=by rw[show args=#[p,p']from Zg hpq];simp
 have hta:tys=#[T,T]:=Zg hty
 obtain⟨ti,hti,rfl⟩:=mu hsz;obtain⟨zu,hzu,hzc⟩:=j3 hr hti hz;obtain⟨R⟩:=hr.blk i _ hl;have hcap:=R.hcap;have hA:R.a=some ⟨R.b,R.o,none⟩:=R.ha.resolve_left (by omega)
 have hhd:pl.hdr i=.slice (some ⟨R.b,R.o,none⟩) xs.length R.cap:=by rw[<-hA];exact R.Az
 have e1:a.eval p=.slice (some ⟨R.b,R.o,none⟩) q R.cap:=by
  generalize a.eval p=u at hpr
  cases hpr with
  |sub _ _ _ sh2 t2 xs2 a1 a2 cap1 cap2 hl2 hh2 hn1 hc hc' ha2=>
   rw[hl]at hl2;cases hl2;rw[hhd]at hh2;cases hh2
   have hcc:cap2=R.cap:=by omega
   subst hcc
   rcases ha2 with h|h
   ·omega
   ·rw[h];simp[Addr.add]
 obtain⟨A3,cap3,e2,hc3,hA3⟩:∃A3 cap3,a.eval p'=.slice A3 num cap3/\num<=cap3/\(num=0\/A3=some ⟨R.b,R.o+off*t.sz,none⟩):=by
  generalize a.eval p'=u at WU
  cases WU with
  |sub _ _ _ sh2 t2 xs2 a1 a2 cap1 cap2 hl2 hh2 hn1 hc hc' ha2=>
   rw[hl]at hl2;cases hl2;rw[hhd]at hh2;cases hh2;refine⟨a2,cap2,rfl,hc,?_⟩
   rcases ha2 with h|h
   ·exact .inl (by omega)
   ·exact .inr (by rw[h];simp[uY])
 have hsp:=t.ie
 have ub:∀k,k<num*t.sz->∃r,aB t xs (off+k/t.sz) (k %t.sz) r:=λk hk=>by
  have:k/t.sz<num:=by rw[Zx hsp];exact hk
  exact dU (by omega) (ZI _ hsp)
 have hus:((List.range (num*t.sz)).map λk=>R.vs (off+k/t.sz) (k %t.sz)).length=num*t.sz:=by simp
 generalize Xf:(List.range (num*t.sz)).map (λk=>R.vs (off+k/t.sz) (k %t.sz))=us at hus
 have AJ:∀k,k<num*t.sz->us[k]? =some (R.vs (off+k/t.sz) (k %t.sz)):=λk hk=>by rw[<-Xf,jn hk]
 have hcell:∀k,k<num*t.sz->w.at? (R.b,R.o+(off*t.sz+k))=some (R.vs (off+k/t.sz) (k %t.sz)):=λk hk=>by
  obtain⟨r,hx⟩:=ub k hk;have:=R.hc _ _ _ hx;rw[X7,Yz,show k/t.sz*t.sz+k %t.sz=k from by rw[Ye];exact Zv _ _]at this;exact this
 obtain⟨w',hst,fp',uZ⟩:=OC (P:=P) (zs:=(xs.drop off).take num) (us:=us) hr hl (by rw[X9,YE];omega) hhd hq hus (λu hu=>by
   obtain⟨k,hk⟩:=Yw hu
   have hkl:k<num*t.sz:=by rw[<-hus];exact(Of.1 hk).1
   rw[AJ k hkl]at hk;cases hk;obtain⟨r,hx⟩:=ub k hkl
   exact(R.hr _ _ _ hx).1.tD) (λx j r hx=>by
   obtain⟨y,hy,hyr⟩:=hx
   have hxl:x<num:=by have:=(Of.1 hy).1;rw[X9]at this;omega
   have hjl:j<t.sz:=by have:=(Of.1 hyr).1;rwa [Ty.cw]at this
   rw[Yh,if_pos hxl,XU]at hy;have hx':aB t xs (off+x) j r:=⟨y,hy,hyr⟩;refine⟨R.vs (off+x) j,?_,(R.hr _ _ _ hx').1⟩;have hlt:x*t.sz+j<num*t.sz:=rh hxl hjl (X1 _);rw[AJ _ hlt]
   have g1:(x*t.sz+j)/t.sz=x:=by rw[Ye,Y3 hsp,YQ hjl];simp
   have g2:(x*t.sz+j) %t.sz=j:=by rw[Ye,YH,Yq hjl]
   rw[g1,g2]) NN (OD hd) ht
 have hfc:(Builtin.firstCells ti.size num (.slice A3 num cap3)).run P w=.ok us.toArray w:=by
  rw[<-hts]
  rcases hA3 with h0|hA3
  ·subst h0;have hn':us=[]:=Yo.1 (by simpa using hus);subst hn'
   cases A3 with
   |none=>exact run_firstCells_none w _ _ _ _
   |some A=>exact run_firstCells_some w t.sz 0 A 0 cap3 [] (by simp) (λj v hv=>by simp at hv)
  ·subst hA3;refine run_firstCells_some w t.sz num _ num cap3 us hus λj v hv=>?_
   have hj:j<num*t.sz:=by rw[<-hus];exact(Of.1 hv).1
   rw[AJ j hj]at hv;cases hv;have:=hcell j hj;rw[Addr.add_lit,Yz];exact this
 have lG:(Builtin.append_ #[T,T] o.type #[.slice (some ⟨R.b,R.o,none⟩) q R.cap,.slice A3 num cap3]).run P w=.ok (.slice (some ⟨R.b,R.o,none⟩) (q+num) R.cap) w':=by
  have Ou:q+num<=R.cap:=by omega
  rw[hts]at hst;simp[Builtin.append_,run_underlying (mr he),sizeOf,typeInfo,hti,Builtin.lenOf,Ou,hfc,Addr.add_lit,hst]
 refine mK (u:=.slice (some ⟨R.b,R.o,none⟩) (q+num) R.cap) (w':=w') ?_ (hN _ _ w' uZ ?_)
 ·rw[execOp,ho,hta];simp only[resolve,tF,invoke,builtin,Sem.run_bind,Sem.run_pure,Result.andThen_ok,e1,e2,lG]
 ·refine .sub i 0 (q+num) (some d) t _ (some ⟨R.b,R.o,none⟩) _ R.cap R.cap ht.UW (by simp[Pl.set,hhd,XG];omega) (by simp;omega) (by omega) (by omega) (.inr (by simp[Addr.add]))
end
end
section
variable [Tok]
section
variable {w:World} {H:aM} {pl:Pl} {P:Program}
def mark (w:World) (b n:Nat):World:=w.freeze ⟨b,n,none⟩ 1
def OE (n:Nat) (fr:Nat× Nat):Nat× Nat:=if fr.1==fr.2 then(n,n+1)else(min fr.1 n,max fr.2 (n+1))
theorem xb {b n:Nat} {c:Array Value} {e:TypeId} {fr:Nat× Nat} (h:w.heap[b]? =some (.cells c e fr)):(mark w b n).heap[b]? =some (.cells c e (OE n fr)):=by
 unfold mark World.freeze OE;rw[if_neg (by decide)];simp only[Array.getElem?_modify,if_true,h];rfl
theorem xc {b n i:Nat} (h:i≠b):(mark w b n).heap[i]? =w.heap[i]? :=by
 unfold mark World.freeze;rw[if_neg (by decide)];simp only[Array.getElem?_modify];rw[if_neg (λe:b=i=>h e.symm)]
theorem OG {b n:Nat} {c:Array Value} {e:TypeId} {fr:Nat× Nat} (h:w.heap[b]? =some (.cells c e fr)) (p:Cell):(mark w b n).at? p=w.at? p:=by
 unfold World.at? World.cell?;by_cases q:p.1=b
 ·simp only[q,h,xb h]
 ·simp only[xc q]
theorem oG {b n:Nat} {p:Cell} (h:p.1≠b):(mark w b n).eK p=w.eK p:=by
 unfold World.eK;rw[xc h]
theorem K8 {b n j o m:Nat} {c:Array Value} {e:TypeId} {fr:Nat× Nat} (h:w.heap[b]? =some (.cells c e fr)) (hn:n=c.size) (hw:whole (w.eK (b,j)) o m=true):whole ((mark w b n).eK (b,j)) o m=true:=by
 unfold World.eK at*;simp only[h]at hw;simp only[xb h];unfold whole calm at*;simp only[XB,decide_eq_true_eq]at*;refine⟨?_,hw.2⟩;unfold OE;obtain⟨lo,hi⟩:=fr;simp only at hw⊢;by_cases q:lo=hi
 ·subst q;simp;omega
 ·have:(lo==hi)=false:=by simpa using q
  rw[this];simp only[YX,if_false];omega
theorem E5 {b j:Nat} {u:Value} (h:w.at? (b,j)=some u):∃c e fr,w.heap[b]? =some (.cells c e fr)/\j<c.size:=by
 unfold World.at? World.cell? at h
 cases hb:w.heap[b]? with
 |none=>simp[hb]at h
 |some ob=>
  cases ob with
  |cells c e fr=>
   simp only[hb,Y5,YX,if_false]at h
   exact⟨c,e,fr,rfl,(XW.1 h).1⟩
  |_=>simp[hb]at h
theorem OH {i b n cap:Nat} {sh:Option (List Nat)} {t:Ty} {xs:List t.El} {a:Option Addr} {o:Nat} {c:Array Value} {e:TypeId} {fr:Nat× Nat} (hr:cY H pl w) (hl:look H i=some (.arr sh t xs))
  (hb:w.heap[b]? =some (.cells c e fr)) (hc0:0<c.size) (hn:n=c.size) (hin:∀j,j<c.size->pl.fp i (b,j)) (hsz:c.size=cap*t.sz) (Qz:eL (mark w b n) H pl i (.arr sh t xs)):
  c7 H H ([],[]) pl pl w (mark w b n):=by
 have hat:=λp=>OG (n:=n) hb p
 have Ju:∀p u,w.at? p=some u->p.1=b->pl.fp i p:=λp u hp q=>by
  obtain⟨p1,p2⟩:=p;simp only at q;subst q;obtain⟨c',e',fr',h1,h2⟩:=E5 hp;rw[hb]at h1;cases h1;exact hin p2 h2
 have hk:lM ([],[]) w H pl (mark w b n) H pl:=⟨λj B hB _=>⟨B,hB,B.dB,rfl⟩,λd p u _ ho hp=>⟨ho,(hat p).trans hp⟩⟩;refine⟨⟨λj B hB=>?_,hr.dis,hr.ob,λp hp=>hr.nb p ((hat p).symm.trans hp)⟩,hk,rfl,⟨rfl,rfl,λk hk'=>?_⟩,λp u hp hno=>⟨hno,(hat p).trans hp,oG λq=>hno i _ hl (Ju p u hp q)⟩⟩
 ·by_cases q:j=i
  ·subst q;rw[hl]at hB;cases hB;exact Qz
  ·refine(hr.blk j B hB).bJ hk rfl (λ_=>Z8) (λp u hf hu=>⟨(hat p).trans hu,oG λq'=>q (hr.dis j i B _ p hB hl hf (Ju p u hu q'))⟩) B.dC
 ·by_cases q:k=b
  ·subst q;rw[hb,xb hb];exact⟨rfl,.inr hc0,rfl⟩
  ·rw[xc q];split
   ·rename_i e1 e2;rw[e1]at e2;cases e2;exact⟨rfl,.inl rfl,rfl⟩
   ·rfl
theorem Q0 {o:Oper} {a:Act} {T:TypeId} {x:Operand} {m i:Nat} {sh:Option (List Nat)} {t:Ty} {y:t.El} {ys:List t.El} (hr:cY H pl w) (ho:o.op=.convert T T x) (hT:yH P T=true)
  (hl:look H i=some (.arr sh t (y::ys))) (hx:ar w H pl (.own i) (a.eval x)):kK P o a w H pl m {v:=.own i}:=by
 have ha:a.eval x=pl.hdr i:=by generalize a.eval x=u at hx;cases hx;rfl
 unfold yH mF at hT;split at hT
 ·rename_i e he;split at he
  ·rename_i e' hu;cases he;split at hT
   ·rename_i he8;have Qz:=hr.blk i _ hl
    obtain⟨ad,cap,b,o',hh,hlen,Wd,lC⟩:∃ad cap b o',pl.hdr i=.slice ad (y::ys).length cap/\(y::ys).length<=cap/\(cap=0\/ad=some ⟨b,o',none⟩)/\
      (∀j,j<cap*t.sz->(∃v,w.at? (b,o'+j)=some v)/\whole (w.eK (b,o'+j)) o' (cap*t.sz)=true/\pl.fp i (b,o'+j)):=by
     cases sh with
     |none=>obtain⟨⟨ad,cap,b,o',vs,fs,q1,q2,q3,q4,q5,q6,q7,q8,q9⟩⟩:=Qz;exact⟨ad,cap,b,o',q1,q2,q3,λj hj=>⟨(q4 j hj).1,(q4 j hj).2,(q9 _).2 (.inl ⟨rfl,by simp,by simp;omega⟩)⟩⟩
     |some d=>obtain⟨⟨ad,cap,b,o',vs,fs,q1,q2,q3,q4,q5,q6,q7,q8,q9⟩⟩:=Qz;exact⟨ad,cap,b,o',q1,q2,q3,λj hj=>⟨(q4 j hj).1,(q4 j hj).2,(q9 _).2 (.inl ⟨rfl,by simp,by simp;omega⟩)⟩⟩
    have hcap:0<cap:=by simp at hlen;omega
    have NN:0<cap*t.sz:=Nat.mul_pos hcap (Ty.ie t);obtain⟨⟨v0,hv0⟩,hw0,_⟩:=lC 0 NN;obtain⟨c,ee,fr,hb,hc0⟩:=E5 hv0
    have ho0:o'=0/\c.size=cap*t.sz:=by
     unfold whole World.eK at hw0;simp only[hb,XB,decide_eq_true_eq]at hw0;exact hw0.2
    obtain⟨rfl,hsz⟩:=ho0;have Wd:=Wd.resolve_left (by omega);subst Wd
    have hin:∀j,j<c.size->pl.fp i (b,j):=λj hj=>by
     have:=(lC j (by omega)).2.2;rwa [XN]at this
    have U2:w.shape? b=some (ee,c.size):=by unfold World.shape?;rw[hb]
    have lG:(execOp a.eval o).run P w=.ok (.value (a.eval x)) (mark w b c.size):=by
     rw[execOp,ho,ha,hh];simp[ha,hh,convert,run_underlying hu,run_underlying he8,markStringish,U2,mark]
    have hat:=λp=>OG (n:=c.size) hb p;have hk:lM ([],[]) w H pl (mark w b c.size) H pl:=⟨λj B hB _=>⟨B,hB,B.dB,rfl⟩,λd p u _ ho hp=>⟨ho,(hat p).trans hp⟩⟩
    have hnb:∀p,reg b 0 (cap*t.sz) p\/p.1≠b\/w.at? p=none:=λp=>by
     by_cases q:p.1=b
     ·cases hp:w.at? p with
      |none=>exact .inr (.inr rfl)
      |some u=>
       obtain⟨p1,p2⟩:=p;simp only at q;subst q;obtain⟨c',e',fr',h1,h2⟩:=E5 hp;rw[hb]at h1;cases h1;exact .inl ⟨rfl,Ya _,by simp only;omega⟩
     ·exact .inr (.inl q)
    have VN:eL (mark w b c.size) H pl i (.arr sh t (y::ys)):=by
     cases sh with
     |none=>
      obtain⟨⟨ad,jk,b',o',vs,fs,q1,q2,q3,q4,q5,q6,q7,q8,q9⟩⟩:=Qz;rw[hh]at q1;cases q1;have q3:=q3.resolve_left (by omega);cases q3;refine⟨⟨_,cap,b,0,vs,fs,hh,q2,.inr rfl,λj hj=>⟨?_,K8 hb rfl (q4 j hj).2⟩,λi' j r h=>(hat _).trans (q5 i' j r h),λi' j r h=>(q6 i' j r h).frame λp u hp hu=>⟨(hat p).trans hu,oG λq=>?_⟩,q7,q8,q9⟩⟩
      ·obtain⟨⟨v,hv⟩,_⟩:=q4 j hj;exact⟨v,(hat _).trans hv⟩
      ·rcases hnb p with h1|h1|h1
       ·exact q7 _ _ _ p h hp h1
       ·exact h1 q
       ·rw[hu]at h1;exact nomatch h1
     |some d=>
      obtain⟨⟨ad,jk,b',o',vs,fs,q1,q2,q3,q4,q5,q6,q7,q8,q9⟩⟩:=Qz;rw[hh]at q1;cases q1;have q3:=q3.resolve_left (by omega);cases q3;refine⟨⟨_,cap,b,0,vs,fs,hh,q2,.inr rfl,λj hj=>⟨?_,K8 hb rfl (q4 j hj).2⟩,λi' j r h=>(hat _).trans (q5 i' j r h),λi' j r h=>⟨(q6 i' j r h).1.frame λp u hp hu=>⟨hp,(hat p).trans hu⟩,(q6 i' j r h).2⟩,q7,q8,q9⟩⟩;obtain⟨⟨v,hv⟩,_⟩:=q4 j hj;exact⟨v,(hat _).trans hv⟩
    refine⟨λj B h=>by simp[look]at h,λH' next Q ha' hN=>?_⟩;cases ha'
    have hH:tI [] H++aN m []=H:=by simp[tI,aN]
    simp only[hH]at hN;have hst:=OH (n:=c.size) hr hl hb hc0 rfl hin hsz VN (a:=some ⟨b,0,none⟩) (o:=0);exact mK lG (hN _ pl _ hst (hx.zt hk))
   ·exact nomatch hT
  ·exact nomatch he
 ·exact nomatch hT
end
end
section
variable [Tok] [Glo]
def GN (P:Program) (g:FuncId):Prop:=∀(args:Array Value) (w:World),(callFunc g args).run P w=.ok (.enter g args) w
theorem enters_of {P:Program} {g:FuncId} {fn:Func} (h:P.funcs[g]? =some fn) (hb:fn.body.isNone=false) (hn:(fn.name== "runtime.NumGoroutine")=false):GN P g:=by
 intro args w
 have hn':¬fn.name= "runtime.NumGoroutine":=by simpa using hn
 have hb':¬fn.body=none:=λe=>by rw[e]at hb;cases hb
 simp[callFunc,h,hb',hn']
def OI (P:Program) (g:FuncId) (nid:Nat) (vs:List SV) (H:aM) (c:CR):Prop:=
 GN P g/\(∀i B,look c.upd i=some B->∃B',look H i=some B')/\
 ∀(H1:aM) (pl:Pl) (w:World) (us:Array Value),Ext H H1->cY H1 pl w->Sr w H1 pl->(∀k,k<c.news.length->look H1 (nid+k)=none)->vs.length=us.size->
  (∀(j:Nat) (x:SV) (u:Value),vs[j]? =some x->us[j]? =some u->ar w H1 pl x u)->∀H',after H1 nid c=some H'->
  Calls P g us w λe w'=>∃u pl',e=.returned u/\c7 H1 H' c.kil pl pl' w w'/\ar w' H' pl' c.v u
def tG (P:Program) (g:FuncId) (o:Orc):Prop:=
 ∀(ρ:Type) nid vs H (K:CR->Option ρ) (out:ρ),o ρ nid vs H K=some out->∃c,K c=some out/\OI P g nid vs H c
theorem Q1 (P:Program) (g:FuncId):tG P g UD:=λ_ _ _ _ _ _ h=>nomatch h
def mM (E:Env):Prop:=∀g,tG E.P g (E.orc g)
section
variable {w:World} {H:aM} {pl:Pl} {P:Program}
theorem Q2 {o:Oper} {a:Act} {s:List (Nat× SV)} {f:Operand} {args:Array Operand} {tys:Array TypeId} {g:FuncId} {first vs cap:List SV} {n:Nat} {c:CR} {H0:aM}
  (he:Ext H0 H) (hr:cY H pl w) (hgl:Sr w H pl) (hs:gT w H pl s a) (hn:∀k,k<c.news.length->look H (n+k)=none) (ho:o.op=.call {callee:=.value f,args:=args,argTypes:=tys})
  (hf:opd s f=some (.fn (.func g) first cap)) (hv:tX s args.toList=some vs) (hc:OI P g n (first++vs++cap) H0 c):kK P o a w H pl n c:=by
 obtain⟨hen,hup,Ti⟩:=hc;refine⟨λi B hB=>(hup i B hB).imp λB' h=>he i B' h,λH' next Q ha hN=>?_⟩;have hfr:=aW hs hf;obtain⟨g1,g2⟩:=ER hs hv;generalize hfe:a.eval f=fe at hfr
 cases hfr with
 |fn _ _ _ us vs' hl h1 hl' h2=>
  have hlen:(first++vs++cap).length=(us++args.map a.eval++vs').size:=by simp only[XG,Array.size_append,hl,hl',g1]
  have hpt:∀(j:Nat) (x:SV) (u:Value),(first++vs++cap)[j]? =some x->(us++args.map a.eval++vs')[j]? =some u->ar w H pl x u:=λj x u hx hu=>by
   grind
  have hcl:=Ti H pl w _ he hr hgl hn hlen hpt H' ha;unfold Oper.wp
  have lG:(execOp a.eval o).run P w=.ok (.enter g (us++args.map a.eval++vs')) w:=by
   rw[execOp,ho];simp only[resolve,hfe,Deferred.ofValue,invoke,Sem.run_bind,Sem.run_pure,Result.andThen_ok];exact hen _ w
  rw[lG];show Calls P g _ w _;refine hcl.mono λe w' ⟨u,pl',he,hst,hv⟩=>?_;grind
variable {ρ:Type}
def GO (P:Program) (o:Oper) (n:Nat) (c:CR) (s:List (Nat× SV)) (h:aM):Prop:=
 ∀(s':List (Nat× SV)) (H:aM) (a:Act) (w:World) (pl:Pl),Ext s s'->Ext h H->cY H pl w->gT w H pl s' a->(∀k,k<c.news.length->look H (n+k)=none)->Sr w H pl->kK P o a w H pl n c
theorem E6 {H:aM} {n:Nat} {B:Blk} (h:∀k,k<[B].length->look H (n+k)=none):look H n=none:=h 0 (by simp)
theorem Tj (hr:cY H pl w) {o:Oper} {a:Act} {T:TypeId} {p:Operand} {n i x k:Nat} {t:Ty} {xs:List t.El} (ho:o.op=.load T p) (hT:KO P T=true)
  (hl:look H i=some (.arr none t xs)) (hk:k<t.sz) (hp:ar w H pl (.ptr i x k) (a.eval p)):kK P o a w H pl n {v:=.inn i x k}:=by
 generalize he:a.eval p=u at hp
 cases hp with
 |wQ _ _ cs b m hl' hh=>grind
 |uQ _ _ _ sh t' xs' b m nn cap hl' hx hh=>
  rw[hl]at hl';cases hl';obtain⟨⟨a',jk,b',o',vs,fs,h1,h2,h3,h4,h5,h6,h7,h8,h9⟩⟩:=hr.blk i _ hl;rw[hh]at h1;cases h1;have h3:=h3.resolve_left (by omega);cases h3;obtain⟨r,hcell⟩:=dU hx hk;have hat:=h5 x k r hcell;have Du:one (vs x k)=true:=((h6 _ _ _ hcell).Oc (ok:=λ_=>True) (λ_ _=>trivial)).tD;have hfp:pl.fp i (b,m+(x*t.sz+k)):=(h9 _).2 (.inl ⟨rfl,by simp,by have:=rh hx hk h2;simp;omega⟩);obtain⟨el,_,hu,_⟩:=EM hT;refine o4 (u:=vs x k) hr ?_ (.inn i x k none t xs b m _ _ _ hl hx hk hh ⟨hr.ob i _ _ hl hfp,λj B hB hm hf=>?_⟩ hat Du)
  ·rw[execOp,ho];refine eS ?_;rw[Instr.loadAt,he];have hat:w.cell? ⟨b,m+(x*t.sz+k),none⟩=some (vs x k):=hat
   have h1:(loadVar T ⟨b,m+(x*t.sz+k),none⟩).run P w=.ok (vs x k) w:=by simp[loadVar,mo hu,Au,hu,hat]
   exact h1
  ·have:=hr.dis j i _ _ _ hB hl hf hfp;subst this;rw[hl]at hB;cases hB;have:=hm (by simp[mem]);cases this
theorem Jv {E:Env} {o:Oper} {s:List (Nat× SV)} {h0:aM} {n:Nat} {K:CR->Option ρ} {out:ρ} {args:Array Operand} {tys:Array TypeId} {b x:SV} {T T' e:TypeId} {sz:Nat} {t:Ty}
  (ho:o.op=.call {callee:=.builtin .append,args:=args,argTypes:=tys}) (hvs:tX s args.toList=some [b,x]) (hty:tys.toList=[T,T']) (he:mF E.P T=some e) (hsz:jh E.P e=some sz)
  (h:Jb E h0 n e sz t T' b x K=some out):∃c,K c=some out/\GO E.P o n c s h0:=by
 unfold Jb at h;split at h
 ·cases hb:(UJ E.P T'&&(rf E.P e&&Nat.beq t.sz sz))<;>simp only[hb,cond_true,cond_false,An]at h
  ·cases h
  simp only[XB]at hb;obtain⟨l,hl,z,hz,q,hq,h⟩:=h;cases hi:(isNil q.1&&Nat.beq z.length sz)<;>simp only[hi,cond_true,cond_false]at h
  ·cases h
  simp only[XB]at hi;split at h
  ·rename_i y hy;cases hd:decide (1<=l/\l<=(aG:Int))<;>simp only[hd,cond_true,cond_false]at h
   ·cases h
   have hd:=of_decide_eq_true hd
   have hq':jj h0 t 1 z=some ([],[y]):=by rw[hq];obtain⟨q1,q2⟩:=q;simp only at hy hi;rw[hy,eR hi.1]
   exact⟨_,h,λs' H a w pl es eh hr hs hn hgl=>CZ hr hs (E6 hn) ho (jW es _ _ hvs) hty hl hb.1 he hsz hb.2.1 (On hb.2.2) hz (On hi.2) (kJ eh _ _ _ _ hq') hd⟩
  ·cases h
 ·cases h
theorem Jw {P:Program} {o:Oper} {s:List (Nat× SV)} {h0:aM} {n:Nat} {K:CR->Option ρ} {out:ρ} {args:Array Operand} {tys:Array TypeId} {b x:SV} {T e:TypeId} {sz:Nat} {t:Ty} {z:List SV}
  (ho:o.op=.call {callee:=.builtin .append,args:=args,argTypes:=tys}) (hvs:tX s args.toList=some [b,x]) (hty:tys.toList=[T,T]) (he:mF P T=some e) (hsz:jh P e=some sz) (hts:t.sz=sz) (hz:gv P e=some z)
  (h:Jc h0 t b x K=some out):∃c,K c=some out/\GO P o n c s h0:=by
 unfold Jc at h;split at h
 ·rename_i i a i' off num;cases hi:Nat.beq i i'<;>simp only[hi,cond_true,cond_false]at h
  ·cases h
  have:=On hi;subst this;split at h
  ·rename_i d t' xs hl;split at h
   ·rename_i htt;subst htt;cases hm:mem i d<;>simp only[hm,cond_true,cond_false]at h
    rotate_left
    ·cases h
    cases hb:(Nat.ble (a+num) xs.length&&(Nat.ble (off+num) xs.length&&Nat.ble 1 xs.length))<;>simp only[hb,cond_true,cond_false]at h
    ·cases h
    simp only[XB]at hb;exact⟨_,h,λs' H a w pl es eh hr hs hn hgl=>QZ hr hs ho (jW es _ _ hvs) hty he hsz hts hz (eh _ _ hl) hm (XT hb.1) (XT hb.2.1) (XT hb.2.2)⟩
   ·cases h
  ·cases h
 ·cases h
theorem GP {E:Env} (hE:mM E) {o:Oper} {s:List (Nat× SV)} {h0:aM} {n:Nat} {K:CR->Option ρ} {out:ρ}
  (h:ED E s h0 n o.op K=some out):∃c,K c=some out/\GO E.P o n c s h0:=by
 unfold ED at h;split at h
 ·rename_i T ho;simp only[An]at h;obtain⟨z,hz,h⟩:=h;exact⟨_,h,λs' H a w pl es eh hr hs hn hgl=>Om hr (E6 hn) ho hz⟩
 ·rename_i T x ho;simp only[An]at h;obtain⟨v,hv,cs,hcs,h⟩:=h;exact⟨_,h,λs' H a w pl es eh hr hs hn hgl=>Ta hr (E6 hn) ho (aW hs (dq es _ _ hv)) hcs⟩
 ·rename_i T k parts ho;simp only[An]at h;obtain⟨e,he,sz,hsz,ps,hps,z,hz,h⟩:=h;cases hb:(Nat.ble (k*sz) 16777216&&Nat.beq z.length sz)<;>simp only[hb,cond_true,cond_false,An]at h
  ·cases h
  obtain⟨cs,hcs,h⟩:=h;simp only[XB]at hb;have h1:=XT hb.1;have h2:=On hb.2
  have bx:K {v:=.bsl n k,news:=[.box cs]}=some out->∃c,K c=some out/\GO E.P o n c s h0:=λh=>
   ⟨_,h,λs' H a w pl es eh hr hs hn hgl=>C4 hr hs (E6 hn) ho he hsz (oY es _ _ hps) hz h2 h1 hcs⟩
  split at h
  ·exact bx h
  ·rename_i t ht;cases hc:((re t||Nat.beq k 0)&&Nat.beq t.sz sz)<;>simp only[hc,cond_true,cond_false,An]at h
   ·unfold WM at h;cases hd:(E.lit&&Nat.beq t.sz sz)<;>simp only[hd,cond_true,cond_false]at h
    ·exact bx h
    simp only[XB]at hd;split at h
    ·rename_i xs hx;exact⟨_,h,λs' H a w pl es eh hr hs hn hgl=>tK hr hs (E6 hn) ho he hsz (oY es _ _ hps) hz h2 h1 hcs (On hd.2) (kJ eh _ _ _ _ hx)⟩
    ·exact bx h
   simp only[XB]at hc;obtain⟨⟨ids,xs⟩,hx,h⟩:=h;cases hi:isNil ids<;>simp only[hi,cond_true,cond_false]at h
   ·cases h
   have:=eR hi;subst this;unfold WN at h;cases hq:(!isNil E.tkt&&!isNil xs)<;>simp only[hq,cond_true,cond_false]at h
   rotate_left
   ·exact⟨_,h,λs' H a w pl es eh hr hs hn hgl=>E0 hr hs ho he hsz (oY es _ _ hps) hz h2 h1 hcs (kJ eh _ _ _ _ hx)⟩
   ·exact⟨_,h,λs' H a w pl es eh hr hs hn hgl=>tK hr hs (E6 hn) ho he hsz (oY es _ _ hps) hz h2 h1 hcs (On hc.2) (kJ eh _ _ _ _ hx)⟩
 ·rename_i T l c ho;simp only[An]at h;obtain⟨e,he,sz,hsz,t,ht,z,hz,lv,hl,cv,hc,li,hli,ci,hci,h⟩:=h;cases hb:(rf E.P e&&Nat.beq t.sz sz)<;>simp only[hb,cond_true,cond_false,An]at h
  ·cases h
  simp only[XB]at hb;obtain⟨⟨ids,xs⟩,hx,h⟩:=h;cases hi:(isNil ids&&Nat.beq z.length sz)<;>simp only[hi,cond_true,cond_false]at h
  ·cases h
  simp only[XB]at hi;have Su:=eR hi.1;subst Su;split at h
  ·rename_i y;by_cases hd:0<=li/\li<=ci/\ci<=(aG:Int)
   ·simp only[hd,and_self,decide_true,cond_true]at h;exact⟨_,h,λs' H a w pl es eh hr hs hn hgl=>EZ hr hs (E6 hn) ho (dq es _ _ hl) (dq es _ _ hc) hli hci he hsz hb.1 (On hb.2) hz (On hi.2) (kJ eh _ _ _ _ hx) hd⟩
   ·simp only[hd,decide_false,cond_false]at h;cases h
  ·cases h
 ·rename_i args tys ho;simp only[An]at h;obtain⟨vs,hvs,h⟩:=h;split at h
  ·rename_i b x T T' hty;simp only[An]at h;obtain⟨e,he,sz,hsz,t,ht,h⟩:=h;cases hb:(rf E.P e&&(Nat.beq t.sz sz&&Nat.beq T T'))<;>simp only[hb,cond_true,cond_false,An]at h
   ·exact Jv ho hvs hty he hsz h
   simp only[XB]at hb;have hTT:T=T':=On hb.2.2;subst hTT;have hts:=On hb.2.1;obtain⟨z,hz,h⟩:=h;cases hzl:Nat.beq z.length sz<;>simp only[hzl,cond_true,cond_false,An]at h
   ·cases h
   have hzl:=On hzl;obtain⟨⟨sh1,ids,ys⟩,hy,h⟩:=h;split at h
   ·cases hh:hit ids (sh1.getD [])<;>simp only[hh,cond_true,cond_false]at h
    ·cases hn':Nat.ble ys.length aG<;>simp only[hn',cond_true,cond_false]at h
     ·cases h
     exact⟨_,h,λs' H a w pl es eh hr hs hn hgl=>DA (xs:=[]) hr hs (E6 hn) ho (jW es _ _ hvs) hty he hsz hb.1 hts hz hzl (Dq eh _ _ _ hy) (.inl ⟨rfl,rfl,rfl,rfl⟩) hh (by simpa using XT hn')⟩
    ·cases h
   ·rename_i i;split at h
    ·rename_i sh t' xs hl;split at h
     ·rename_i htt;subst htt;simp only[An]at h;obtain⟨sh',hj,h⟩:=h;cases hm:mem i ids<;>simp only[hm,cond_true,cond_false]at h
      rotate_left
      ·cases h
      cases hh:hit (i::ids) (sh'.getD [])<;>simp only[hh,cond_true,cond_false]at h
      rotate_left
      ·cases h
      cases hn':Nat.ble (xs.length+ys.length) aG<;>simp only[hn',cond_true,cond_false]at h
      ·cases h
      exact⟨_,h,λs' H a w pl es eh hr hs hn hgl=>DA hr hs (E6 hn) ho (jW es _ _ hvs) hty he hsz hb.1 hts hz hzl (Dq eh _ _ _ hy) (.inr ⟨i,sh,rfl,eh _ _ hl,rfl,hm,hj⟩) hh (XT hn')⟩
     ·cases h
    ·cases h
   ·exact Jw ho hvs hty he hsz hts hz h
  ·cases h
 ·rename_i args tys ho;simp only[An]at h;obtain⟨vs,hvs,h⟩:=h;split at h
  ·rename_i v T hty;simp only[An]at h;obtain⟨e,he,z,hz,⟨i,q,num⟩,hv,h⟩:=h;split at h
   ·rename_i sh t xs hl;cases hzl:Nat.beq z.length t.sz<;>simp only[hzl,cond_true,cond_false,An]at h
    ·cases h
    obtain⟨⟨ids,ys⟩,hy,h⟩:=h;cases hi:isNil ids<;>simp only[hi,cond_true,cond_false]at h
    ·cases h
    have Su:=eR hi;subst Su;split at h
    ·rename_i y;exact⟨_,h,λs' H a w pl es eh hr hs hn hgl=>OB hr hs ho (jW es _ _ hvs) hty he hz (On hzl) (QY eh hv) (eh _ _ hl) (kJ eh _ _ _ _ hy)⟩
    ·cases h
   ·cases h
  ·cases h
 ·rename_i T p x ho;simp only[An]at h;obtain⟨p',hp,x',hx,h⟩:=h
  have arr:∀{i k off:Nat} {sh:Option (List Nat)} {t:Ty} {ys:List t.El},p'=.ptr i k off->look h0 i=some (.arr sh t ys)->zL E.P T h0 i sh t ys k off x' K=some out->∃c,K c=some out/\GO E.P o n c s h0:=λe hl h3=>by
   clear h;subst e;obtain⟨c,h1,h2⟩:=GL (n:=n) ho h3;exact⟨c,h1,λs' H a w pl es eh hr hs hn hgl=>h2 H a w pl eh (eh _ _ hl) hr (aW hs (dq es _ _ hp)) (aW hs (dq es _ _ hx))⟩
  split at h
  ·rename_i i k off;split at h
   ·rename_i cs hl;cases hk0:Nat.beq k 0<;>simp only[hk0,cond_true,cond_false,An]at h
    ·cases h
    have hk0:=On hk0;subst hk0;obtain⟨xs,hxs,sz,hsz,h⟩:=h;cases hb:Nat.beq sz xs.length<;>simp only[hb,cond_true,cond_false,An]at h
    ·cases h
    ·obtain⟨cs',hcs,h⟩:=h;exact⟨_,h,λs' H a w pl es eh hr hs hn hgl=>Oo hr ho (eh _ _ hl) (aW hs (dq es _ _ hp)) (aW hs (dq es _ _ hx)) hxs hsz (On hb) hcs⟩
   ·rename_i sh t ys hl;exact arr rfl hl h
   ·cases h
  ·cases h
 ·rename_i f args tys ho;simp only[An]at h;obtain⟨f',hf,vs,hvs,h⟩:=h;split at h
  ·rename_i g first cap
   obtain⟨c,hc,hcs⟩:=hE g _ _ _ _ _ _ h;exact⟨c,hc,λs' H a w pl es eh hr hs hn hgl=>Q2 eh hr hgl hs hn ho (dq es _ _ hf) (jW es _ _ hvs) hcs⟩
  ·cases h
 ·rename_i T x ho;unfold UL at h;cases hk:taken E x<;>simp only[hk,cond_true,cond_false]at h
  rotate_left
  ·split at h
   ·rename_i i y hx;split at h
    ·rename_i t xs hl;simp only[An]at h;obtain⟨e,he,v,hv,h⟩:=h;exact⟨_,h,λs' H a w pl es eh hr hs hn hgl=>K7 (U0 t) hr ho (eh _ _ hl) he hv (aW hs (dq es _ _ hx)) hn⟩
    ·cases h
   ·cases h
  split at h
  ·rename_i v hv;unfold UG at hv;cases hi:E.inn<;>simp only[hi,cond_true,cond_false]at hv
   ·cases hv
   cases hT:KO E.P T<;>simp only[hT,cond_true,cond_false]at hv
   ·cases hv
   split at hv
   ·rename_i i y k hx;split at hv
    ·rename_i t xs hl;cases hk:Nat.ble (k+1) t.sz<;>simp only[hk,cond_true,cond_false,It]at hv
     ·cases hv
     subst hv;exact⟨_,h,λs' H a w pl es eh hr hs hn hgl=>Tj hr ho hT (eh _ _ hl) (XT hk) (aW hs (dq es _ _ hx))⟩
    ·cases hv
   ·cases hv
  ·have dflt:pP E.P s h0 (.load T x) (λv=>K {v:=v})=some out->∃c,K c=some out/\GO E.P o n c s h0:=λh=>by
    rw[pQ]at h;simp only[An]at h;obtain⟨v,hv,h⟩:=h
    exact⟨_,h,λs' H a w pl es eh hr hs hn hgl=>by
     obtain⟨u,hu,hvr⟩:=lN hr hs (wP es eh _ _ hv) o ho
     exact o4 hr hu hvr⟩
   unfold UK at h;cases ht:E.tak<;>simp only[ht,cond_true,cond_false]at h
   ·exact dflt h
   split at h
   ·rename_i i y hx;split at h
    ·rename_i st xs hl;cases hf:re (.st st)<;>simp only[hf,cond_true,cond_false]at h
     ·simp only[An]at h;obtain⟨e,he,v,hv,h⟩:=h;exact⟨_,h,λs' H a w pl es eh hr hs hn hgl=>K7 (UZ st) hr ho (eh _ _ hl) he hv (aW hs (dq es _ _ hx)) hn⟩
     ·exact dflt h
    ·exact dflt h
   ·exact dflt h
 ·rename_i src dst x ho;split at h
  ·rename_i i hi;unfold UI at hi;cases hT:(Nat.beq src dst&&yH E.P src)<;>simp only[hT,cond_true,cond_false]at hi
   ·cases hi
   simp only[XB]at hT;have hsd:=On hT.1;split at hi
   ·rename_i j hx;split at hi
    ·rename_i sh t y ys hl;cases hi;subst hsd;exact⟨_,h,λs' H a w pl es eh hr hs hn hgl=>Q0 hr ho hT.2 (eh _ _ hl) (aW hs (dq es _ _ hx))⟩
    ·cases hi
   ·cases hi
  ·rw[pQ]at h;simp only[An]at h;obtain⟨v,hv,h⟩:=h
   exact⟨_,h,λs' H a w pl es eh hr hs hn hgl=>by
    obtain⟨u,hu,hvr⟩:=lN hr hs (wP es eh _ _ hv) o ho
    exact o4 hr hu hvr⟩
 ·rw[pQ]at h;simp only[An]at h;obtain⟨v,hv,h⟩:=h
  exact⟨_,h,λs' H a w pl es eh hr hs hn hgl=>by
   obtain⟨u,hu,hvr⟩:=lN hr hs (wP es eh _ _ hv) o rfl
   exact o4 hr hu hvr⟩
theorem Jx {E:Env} (hE:mM E) {o:Oper} {a:Act} {s:List (Nat× SV)} {n:Nat} {K:CR->Option ρ} {out:ρ}
  (hr:cY H pl w) (hgl:Sr w H pl) (hs:gT w H pl s a) (hn:∀i,n<=i->look H i=none) (h:ED E s H n o.op K=some out):∃c,K c=some out/\kK E.P o a w H pl n c:=by
 obtain⟨c,h1,h2⟩:=GP hE h;exact⟨c,h1,h2 s H a w pl .rfl' .rfl' hr hs (λk _=>hn _ (Nat.le_add_right _ _)) hgl⟩
theorem OJ {x y:Option ρ} {out:ρ} (h:both x y=some out):x=some out/\y=some out:=by
 unfold both at h;grind
theorem Jy {op:Op} {T:TypeId} {x:Operand} {e:Bool} (h:KR op=some (T,x,e)):∃U,op=.binOp (cond e .eql .neq) T x (.const (.slice none 0 0)) U:=by
 unfold KR at h;grind
theorem OK (hr:cY H pl w) {v:SV} {u:Value} {K:Bool->Option ρ} {out:ρ} (h:V5 H v K=some out) (hv:ar w H pl v u):
  ∃a n c,u=.slice a n c/\K a.isNone=some out:=by
 have fork:∀{α:Type} {xs:List α} {a:Option Addr},(xs=[]\/a.isSome=true)->cond (isNil xs) (both (K true) (K false)) (K false)=some out->K a.isNone=some out:=λ{α xs a} hx h=>by
  cases xs with
  |nil=>
   obtain⟨h1,h2⟩:=OJ h
   cases a<;>assumption
  |cons y ys=>
   rcases hx with hx|hx
   ·cases hx
   ·cases a with
    |none=>cases hx
    |some a=>exact h
 unfold V5 at h;split at h
 ·cases hv;exact⟨_,_,_,rfl,h⟩
 ·rename_i d t xs
  cases hv with
  |r _ _ _ hx=>cases hx with
   |sl _ _ a cap b o vs hcap ha hc hr'=>grind
 ·rename_i i
  cases hv with
  |own _ sh t xs hl=>
   simp only[hl]at h;have hb:=hr.blk i _ hl
   have:∃a cap b o,pl.hdr i=.slice a xs.length cap/\xs.length<=cap/\(cap=0\/a=some ⟨b,o,none⟩):=by
    cases sh with
    |none=>obtain⟨⟨a,cap,b,o,vs,fs,q1,q2,q3,_⟩⟩:=hb;exact⟨a,cap,b,o,q1,q2,q3⟩
    |some d=>obtain⟨⟨a,cap,b,o,vs,fs,q1,q2,q3,_⟩⟩:=hb;exact⟨a,cap,b,o,q1,q2,q3⟩
   obtain⟨a,cap,b,o,q1,q2,q3⟩:=this;refine⟨a,_,_,q1,fork ?_ h⟩
   rcases q3 with rfl|rfl
   ·grind
   ·exact .inr rfl
 ·cases h
theorem Tk (hr:cY H pl w) {o:Oper} {a:Act} {T:TypeId} {x:Operand} {e:Bool} {n:Nat} (hT:KO P T=true) (ho:KR o.op=some (T,x,e)) {b:Option Addr} {l c:Nat} (hx:a.eval x=.slice b l c):
  kK P o a w H pl n {v:=.b (cond b.isNone e (!e))}:=by
 obtain⟨U,ho⟩:=Jy ho;obtain⟨el,_,hu,_⟩:=EM hT;refine o4 (u:=.bool (cond b.isNone e (!e))) hr ?_ nA;rw[execOp,ho];have hc:a.eval (.const (.slice none 0 0))=.slice none 0 0:=rfl
 have key:(do eqGuard (cond e .eql .neq) T x (.const (.slice none 0 0)) (a.eval x) (a.eval (.const (.slice none 0 0)));binOp (cond e .eql .neq) T (a.eval x) (a.eval (.const (.slice none 0 0))):Sem Value).run P w=.ok (.bool (cond b.isNone e (!e))) w:=by
  rw[hc,hx];refine guarded (λh=>nomatch h) (λ_ h=>nomatch h) ?_;cases e
  ·rw[cond_false,run_neq_slice_nil w T el b l c hu];cases b<;>rfl
  ·rw[cond_true,Lib.run_eql_slice_nil w T el b l c _ _ hu];cases b<;>rfl
 simp only[Sem.run_bind,key,Result.andThen_ok];rfl
theorem MI {E:Env} (hE:mM E) {w0:World} {fp0:G0} {o:Oper} {st:St} {a:Act} {K:St->Option ρ} {out:ρ} {next:Act->World->Prop} {Q:Exit->Act->World->Prop}
  (hr:Rel w0 fp0 st pl a w) (h:Us E o st K=some out) (hK:∀st' pl' a' w',K st'=some out->pl'.base=pl.base->st'.n=st.n->Rel w0 fp0 st' pl' a' w'->next a' w'):o.wp E.P a w next Q:=by
 obtain⟨c,hc,hup,We⟩:∃c,((st.take o.dst c).bind K)=some out/\kK E.P o a w st.heap pl st.nid c:=by
  unfold Us at h;split at h
  ·rename_i T x e ho;cases hT:KO E.P T<;>simp only[hT,cond_true,cond_false,An]at h
   ·cases h
   obtain⟨v,hv,h⟩:=h;obtain⟨b,l,c,hu,hk⟩:=OK hr.hr h (aW hr.sl hv);exact⟨_,hk,Tk hr.hr hT ho hu⟩
  ·exact Jx hE hr.hr hr.WO hr.sl hr.fresh h
 simp only[An]at hc;obtain⟨st',ht,hk⟩:=hc
 refine We st'.heap next Q (Ol ht) λu pl' w' hst hv=>?_
 have hn:st'.n=st.n:=by
  simp only[St.take,An,It]at ht;grind
 exact hK st' pl' _ w' hk hst.bs hn (hr.take ht hup hst hv)
end
end
section
variable [Tok] [Glo]
theorem kN (h:aM) (n:Nat) (b:Blk) (i:Nat):look (Mk h n b) i=if n=i then(look h i).map λ_=>b else look h i:=by
 induction h with
 |nil=>simp[Mk,look]
 |cons x l ih=>
  obtain⟨k,u⟩:=x;simp only[Mk];cases hb:Nat.beq k n
  ·simp only[cond_false,aC,ih]
   have hne:k≠n:=λe=>by subst e;simp at hb
   grind
  ·simp only[cond_true,aC];have:=On hb;grind
theorem dV (s:List (Nat× SV)) (dst:Option Tmp) (v:SV) (t:Nat):look (KS s dst v) t=if dst=some t then some v else look s t:=by
 cases dst with
 |none=>simp[KS]
 |some d=>simp[KS,fj]
def AV {α:Type} (x y:List (Nat× α)):Prop:=∀t,look x t=look y t
theorem OM {h h':aM} (e:AV h h') (n:Nat) (b:Blk):AV (Mk h n b) (Mk h' n b):=λt=>by rw[kN,kN,e t]
theorem MJ {h h':aM} (e:AV h h') (u:aM):AV (jV u h) (jV u h'):=by
 induction u generalizing h h' with
 |nil=>exact e
 |cons x l ih=>obtain⟨k,b⟩:=x;exact ih (OM e k b)
theorem ON (u h:aM) (i:Nat):(look (jV u h) i).isSome=(look h i).isSome:=by
 induction u generalizing h with
 |nil=>rfl
 |cons x l ih=>
  obtain⟨k,b⟩:=x;rw[jV,ih,kN];grind
theorem DD {u h:aM} {i:Nat}:look (jV u h) i=none↔look h i=none:=by
 have:=ON u h i;rw[<-Option.not_isSome_iff_eq_none,<-Option.not_isSome_iff_eq_none,this]
theorem MK {S:Nat->Prop} {h h':aM} (e:∀i B,S i->look h i=some B->look h' i=some B) (u:aM):∀i B,S i->look (jV u h) i=some B->look (jV u h') i=some B:=by
 induction u generalizing h h' with
 |nil=>exact e
 |cons x l ih=>
  obtain⟨k,b⟩:=x;refine ih λt v ht hv=>?_;rw[kN]at hv⊢;by_cases c:k=t
  ·rw[if_pos c]at hv⊢;obtain⟨y,hy,rfl⟩:=XK.1 hv;grind
  ·grind
theorem rq {i:Nat}:∀(u h:aM),look u i=none->look (jV u h) i=look h i
  |[],_,_=>rfl
  | (k, b) :: l, h, e => by
    rw[aC]at e;by_cases c:k=i
    · grind
    · rw[if_neg c]at e;show look (jV l (Mk h k b)) i=_;rw[rq l _ e,kN,if_neg c]
theorem Q3 {h:aM} {k:Nat} (b:Blk) (hk:∃B,look h k=some B):put h k b=Mk h k b:=by
 induction h with
 |nil=>obtain⟨B,hB⟩:=hk;cases hB
 |cons x l ih=>
  obtain⟨k',u⟩:=x;simp only[put,Mk];obtain⟨B,hB⟩:=hk;rw[aC]at hB;cases hb:Nat.beq k' k
  ·have hne:k'≠k:=λe=>by subst e;simp at hb
   rw[if_neg hne]at hB;simp only[cond_false,ih ⟨B,hB⟩]
  ·rfl
theorem xd {u h:aM} (hd:∀i B,look u i=some B->∃B',look h i=some B'):tI u h=jV u h:=by
 induction u generalizing h with
 |nil=>rfl
 |cons x l ih=>
  obtain⟨k,b⟩:=x;have hk:=hd k b (by rw[aC];simp);simp only[tI,jV];rw[Q3 b hk];refine ih λi B hB=>?_;rw[kN];by_cases e:k=i
  ·grind
  ·rw[if_neg e];exact hd i B (by rw[aC,if_neg e];exact hB)
def GQ (x y:SH):Prop:=AV x.1 y.1/\AV x.2 y.2
theorem GQ.refl (x:SH):GQ x x:=⟨λ_=>rfl,λ_=>rfl⟩
theorem GQ.trans {x y z:SH} (h:GQ x y) (g:GQ y z):GQ x z:=⟨λt=>(h.1 t).trans (g.1 t),λt=>(h.2 t).trans (g.2 t)⟩
def DR.ue (r:DR) (i:Nat):Prop:=r.n0<=i/\i<r.n0+r.c.news.length
theorem DR.o8 {r:DR} {i:Nat} (h:¬r.ue i):look (aN r.n0 r.c.news) i=none:=by
 rw[bG];by_cases c:r.n0<=i
 ·rw[if_pos c];exact Yb (Nat.le_of_not_lt λh'=>h ⟨c,by omega⟩)
 ·rw[if_neg c]
theorem AW {T:Kil} (h:T.2=[]) (x:List (Nat× SV)):pO T x=x:=by unfold pO;rw[h]
theorem Jz {T:Kil} (h:T.2=[]) (x:aM):jg T x=some x:=by unfold jg;rw[h]
theorem jq {r:DR} (hg:r.c.kil.2=[]) (x:SH):r.app x=some (KS x.1 r.dst r.c.v,jV r.c.upd x.2++aN r.n0 r.c.news):=by
 unfold DR.app;rw[Jz hg,AW hg];rfl
theorem dW {r:DR} {x y:SH} (h:r.app x=some y):y.1=KS (pO r.c.kil x.1) r.dst r.c.v:=by
 unfold DR.app at h;simp only[An,It]at h;grind
theorem zO {r:DR} {x y:SH} (h:r.app x=some y) (i:Nat):look y.2 i=(cond (mem i r.c.kil.1) none ((look (jV r.c.upd x.2) i).bind (Blk.aP r.c.kil))).or (look (aN r.n0 r.c.news) i):=by
 unfold DR.app at h;simp only[An,It]at h;obtain⟨hh,h1,rfl⟩:=h;show look (hh++_) i=_;rw[aJ,c9 r.c.gx h1 i]
theorem Q4 {r:DR} (hg:r.c.kil.2=[]) {x y:SH} (e:GQ x y) {x':SH} (h:r.app x=some x'):∃y',r.app y=some y'/\GQ x' y':=by
 rw[jq hg]at h;cases h;refine⟨_,jq hg y,λt=>?_,λi=>?_⟩
 ·show look (KS _ _ _) t=look (KS _ _ _) t;rw[dV,dV,e.1 t]
 ·show look (_++_) i=look (_++_) i;rw[aJ,aJ,MJ e.2 _ i]
theorem eT (p:Nat->Bool):∀(l1 l2:List DR) (k:Nat) (x:SH),replay p k (l1++l2) x=(replay p k l1 x).bind (replay p (k+l1.length) l2)
 |[],l2,k,x=>by simp[replay]
 |r::l,l2,k,x=>by
  simp only[YY,replay,XI];cases p k
  ·simp only[cond_false];rw[eT p l l2 (k+1) x,show k+1+l.length=k+(l.length+1)from by omega]
  ·simp only[cond_true,Yi]
   congr 1;funext y;rw[eT p l l2 (k+1) y,show k+1+l.length=k+(l.length+1)from by omega]
theorem kO {p q:Nat->Bool}:∀(l:List DR) (k:Nat) (x:SH),(∀j,j<l.length->p (k+j)=q (k+j))->replay p k l x=replay q k l x
 |[],_,_,_=>rfl
 |r::l,k,x,h=>by
  simp only[replay];have h0:=h 0 (by simp);rw[Yd]at h0
  have ih:=λx=>kO (p:=p) (q:=q) l (k+1) x λj hj=>by have:=h (j+1) (by simpa using hj);rwa [show k+(j+1)=k+1+j from by omega]at this
  grind
theorem pV {p:Nat->Bool}:∀(l:List DR) (k:Nat) (x:SH),(∀j,j<l.length->p (k+j)=false)->replay p k l x=some x
 |[],_,_,_=>rfl
 |r::l,k,x,h=>by
  simp only[replay];have h0:=h 0 (by simp);rw[Yd]at h0;rw[h0,cond_false]
  exact pV l (k+1) x λj hj=>by have:=h (j+1) (by simpa using hj);rwa [show k+(j+1)=k+1+j from by omega]at this
theorem o9 {p:Nat->Bool}:∀(l:List DR) (k:Nat) (x X:SH),replay p k l x=some X->∀i B,look X.2 i=some B->(∃B',look x.2 i=some B')\/∃(j:Nat) (r:DR),l[j]? =some r/\p (k+j)=true/\r.ue i
  |[],_,x,X,h,i,B,hB=>by cases h;exact .inl ⟨B,hB⟩
  | r :: l, k, x, X, h, i, B, hB => by
    simp only[replay]at h;cases hp:p k<;>simp only[hp,cond_false,cond_true]at h
    · rcases o9 l (k+1) x X h i B hB with h'|⟨j,r',h1,h2,h3⟩
      · exact .inl h'
      · exact .inr ⟨j+1,r',by simpa using h1,by rwa [show k+(j+1)=k+1+j from by omega],h3⟩
    · rw [An] at h;obtain⟨y,hy,h⟩:=h
      rcases o9 l (k+1) y X h i B hB with⟨B',h'⟩|⟨j,r',h1,h2,h3⟩
      · by_cases hm:r.ue i
        · exact .inr ⟨0,r,rfl,hp,hm⟩
        · left;rw[zO hy,DR.o8 hm,YG]at h'
          cases hx:look x.2 i with
          |none=>rw[DD.2 hx]at h';cases hm':mem i r.c.kil.1<;>simp[hm']at h'
          |some b=>grind
      · exact .inr ⟨j+1,r',by simpa using h1,by rwa [show k+(j+1)=k+1+j from by omega],h3⟩
theorem sC {q p:Nat->Bool}:∀(l:List DR) (k:Nat) (y z Y Z:SH),(∀j,q j=true->p j=true)->replay q k l y=some Y->replay p k l z=some Z->Ext y.1 z.1->
    (∀t v,look y.1 t=some v->∀(j:Nat) (r:DR),l[j]? =some r->p (k+j)=true->q (k+j)=false->r.dst≠some t)->
    (∀(j j':Nat) (r r':DR) t,j≠j'->l[j]? =some r->l[j']? =some r'->r.dst=some t->r'.dst≠some t)->
    (∀(j:Nat) (r:DR),l[j]? =some r->p (k+j)=true->q (k+j)=false->r.c.kil.2=[])->Ext Y.1 Z.1
  |[],_,y,z,Y,Z,_,hy,hz,he,_,_,_=>by cases hy;cases hz;exact he
  | r :: l, k, y, z, Y, Z, hqp, hy, hz, he, hd, hn, hg => by
    simp only[replay]at hy hz;have hn':∀(j j':Nat) (r r':DR) t,j≠j'->l[j]? =some r->l[j']? =some r'->r.dst=some t->r'.dst≠some t:=λj j' r r' t hne h1 h2=>hn (j+1) (j'+1) r r' t (by omega) (by simpa using h1) (by simpa using h2);have hg':∀(j:Nat) (r:DR),l[j]? =some r->p (k+1+j)=true->q (k+1+j)=false->r.c.kil.2=[]:=λj r h1 h2 h3=>hg (j+1) r (by simpa using h1) (by rwa [show k+(j+1)=k+1+j from by omega]) (by rwa [show k+(j+1)=k+1+j from by omega]);have hd':∀t v,look y.1 t=some v->∀(j:Nat) (r:DR),l[j]? =some r->p (k+1+j)=true->q (k+1+j)=false->r.dst≠some t:=λt v ht j r h1 h0 h2=>hd t v ht (j+1) r (by simpa using h1) (by rwa [show k+(j+1)=k+1+j from by omega]) (by rwa [show k+(j+1)=k+1+j from by omega]);cases hq:q k<;>simp only[hq,cond_false,cond_true]at hy
    · cases hp:p k<;>simp only[hp,cond_false,cond_true]at hz
      · exact sC l (k+1) y z Y Z hqp hy hz he hd' hn' hg'
      · rw[An]at hz;obtain⟨z',hz',hz⟩:=hz;have hgr:=hg 0 r rfl (by simpa using hp) (by simpa using hq);refine sC l (k+1) y z' Y Z hqp hy hz (λt v ht=>?_) hd' hn' hg';rw[dW hz',AW hgr,dV,if_neg (hd t v ht 0 r rfl (by simpa using hp) (by simpa using hq))];exact he t v ht
    · rw [hqp k hq] at hz;simp only[cond_true]at hz;rw[An]at hy hz;obtain⟨y',hy',hy⟩:=hy;obtain⟨z',hz',hz⟩:=hz
      have hsl:∀t,look y'.1 t=if r.dst=some t then some r.c.v else(look y.1 t).map (SV.aP r.c.kil):=λt=>by rw[dW hy',dV,dy r.c.gx]
      have Xg:∀t,look z'.1 t=if r.dst=some t then some r.c.v else(look z.1 t).map (SV.aP r.c.kil):=λt=>by rw[dW hz',dV,dy r.c.gx]
      refine sC l (k+1) y' z' Y Z hqp hy hz (λt v ht=>?_) (λt v ht j r' h1 h0 h2=>?_) hn' hg'
      · rw[hsl]at ht;rw[Xg];by_cases c:r.dst=some t
        · grind
        · rw[if_neg c]at ht⊢;obtain⟨u,hu,rfl⟩:=XK.1 ht;rw[he t u hu];rfl
      · rw[hsl]at ht;by_cases c:r.dst=some t
        · exact hn 0 (j+1) r r' t (by omega) rfl (by simpa using h1) c
        · rw[if_neg c]at ht;obtain⟨u,hu,_⟩:=XK.1 ht;grind
theorem mN {S:Nat->Prop} {q p:Nat->Bool}:∀(l:List DR) (k:Nat) (y z Y Z:SH),(∀j,q j=true->p j=true)->replay q k l y=some Y->replay p k l z=some Z->(∀i B,S i->look y.2 i=some B->look z.2 i=some B)->
    (∀(j:Nat) (r:DR) i,l[j]? =some r->r.ue i->look z.2 i=none)->
    (∀(j j':Nat) (r r':DR) i,j≠j'->l[j]? =some r->l[j']? =some r'->r.ue i->¬r'.ue i)->
    (∀(j:Nat) (r:DR),l[j]? =some r->p (k+j)=true->q (k+j)=false->r.c.kil.2=[]/\∀i,S i->look r.c.upd i=none)->∀i B,S i->look Y.2 i=some B->look Z.2 i=some B
  |[],_,y,z,Y,Z,_,hy,hz,he,_,_,_=>by cases hy;cases hz;exact he
  | r :: l, k, y, z, Y, Z, hqp, hy, hz, he, hf, hn, hg => by
    simp only[replay]at hy hz;have hn':∀(j j':Nat) (r r':DR) i,j≠j'->l[j]? =some r->l[j']? =some r'->r.ue i->¬r'.ue i:=λj j' r r' t hne h1 h2=>hn (j+1) (j'+1) r r' t (by omega) (by simpa using h1) (by simpa using h2);have hg':∀(j:Nat) (r:DR),l[j]? =some r->p (k+1+j)=true->q (k+1+j)=false->r.c.kil.2=[]/\∀i,S i->look r.c.upd i=none:=λj r h1 h2 h3=>hg (j+1) r (by simpa using h1) (by rwa [show k+(j+1)=k+1+j from by omega]) (by rwa [show k+(j+1)=k+1+j from by omega]);have hf':∀(j:Nat) (r:DR) i,l[j]? =some r->r.ue i->look z.2 i=none:=λj r i h1 h2=>hf (j+1) r i (by simpa using h1) h2
    have uf:∀z',r.app z=some z'->∀(j:Nat) (r':DR) i,l[j]? =some r'->r'.ue i->look z'.2 i=none:=λz' hz' j r' i h1 h2=>by
      cases hx:look z'.2 i with
      |none=>rfl
      | some B =>
        rcases o9 (p:=λ_=>true) [r] 0 z z' (by simp[replay,hz']) i B hx with⟨B',hB'⟩|⟨j',r2,g1,_,g3⟩
        · grind
        · cases j' with
          |zero=>simp at g1;subst g1;exact(hn 0 (j+1) r r' i (by omega) rfl (by simpa using h1) g3 h2).elim
          |succ j'=>simp at g1
    cases hq:q k<;>simp only[hq,cond_false,cond_true]at hy
    · cases hp:p k<;>simp only[hp,cond_false,cond_true]at hz
      · exact mN l (k+1) y z Y Z hqp hy hz he hf' hn' hg'
      · rw[An]at hz;obtain⟨z',hz',hz⟩:=hz;obtain⟨hgr,hur⟩:=hg 0 r rfl (by simpa using hp) (by simpa using hq);refine mN l (k+1) y z' Y Z hqp hy hz (λi B hS hB=>?_) (uf z' hz') hn' hg';rw[jq hgr]at hz';cases hz';show look (jV r.c.upd z.2++_) i=some B;rw[aJ,rq _ _ (hur i hS),he i B hS hB];rfl
    · rw [hqp k hq] at hz;simp only[cond_true]at hz;rw[An]at hy hz;obtain⟨y',hy',hy⟩:=hy;obtain⟨z',hz',hz⟩:=hz;refine mN l (k+1) y' z' Y Z hqp hy hz (λi B hS hB=>?_) (uf z' hz') hn' hg';rw[zO hy']at hB;rw[zO hz']
      cases hx:cond (mem i r.c.kil.1) none ((look (jV r.c.upd y.2) i).bind (Blk.aP r.c.kil))with
      | some b =>
        rw[hx]at hB;cases hm:mem i r.c.kil.1<;>simp only[hm,cond_true,cond_false]at hx⊢
        · obtain⟨b0,hb0,hb1⟩:=An.1 hx;rw[MK he _ i b0 hS hb0];simp only[XC,hb1];exact hB
        · cases hx
      | none =>
        rw[hx,Option.none_or]at hB
        have hm:r.ue i:=Classical.byContradiction λh=>by rw[DR.o8 h]at hB;cases hB
        rw[DD.2 (hf 0 r i rfl hm)];grind
theorem AX {b:DR}:∀{U:aM},UO b U=true->∀i,b.ue i->look U i=none
  |[],_,_,_=>rfl
  | (k, _) :: l, h, i, hi => by
    simp only[UO]at h;cases hk:(Nat.ble (k+1) b.n0||Nat.ble (b.n0+b.c.news.length) k)<;>rw[hk]at h
    · cases h
    · rw[aC,if_neg,AX h i hi];intro e;subst e;obtain⟨h1,h2⟩:=hi;rw[Zq]at hk
      rcases hk with hk|hk<;>have:=XT hk<;>omega
theorem iV {a b:DR} (h:Jd a b=true):a.c.kil.2=[]/\b.c.kil.2=[]/\((b.c.upd=[]/\∀i,b.ue i->look a.c.upd i=none)\/(a.c.upd=[]/\∀i,a.ue i->look b.c.upd i=none)):=by
 simp only[Jd,XB,Zq]at h;have h:=h.1;refine⟨eR h.1.1,eR h.1.2,?_⟩
 rcases h.2 with h|h
 ·exact .inl ⟨eR h.1,AX h.2⟩
 ·exact .inr ⟨eR h.1,AX h.2⟩
theorem AY {i:Nat}:∀(u:aM) {h h':aM},look h i=look h' i->look (jV u h) i=look (jV u h') i
 |[],_,_,e=>e
 |(k,b)::l,h,h',e=>by
  simp only[jV];exact AY l (by rw[kN,kN,e])
theorem GR {a b:DR} (h:Jd a b=true):QO b.see a.c.upd=false/\QO a.see b.c.upd=false:=by
 simp only[Jd,XB,Zz]at h;exact h.2
theorem GS {L:List Nat}:∀{U:aM},QO L U=false->∀i,mem i L=true->look U i=none
  |[],_,_,_=>rfl
  | (k, b) :: l, h, i, hi => by
    simp only[QO]at h;cases hk:mem k L<;>simp only[hk,cond_true,cond_false]at h
    · rw[aC,if_neg (λe=>by subst e;rw[hi]at hk;exact nomatch hk)];exact GS h i hi
    · cases h
theorem pW {h:aM} {i:Nat} {B:Blk}:∀{L:List Nat},look (yJ h L) i=some B->mem i L=true/\look h i=some B
 |[],e=>nomatch e
 |k::l,e=>by
  simp only[yJ]at e
  cases hk:look h k with
  |none=>
   rw[hk]at e;obtain⟨g1,g2⟩:=pW e
   exact⟨by simp only[mem];cases Nat.beq k i<;>simp[g1],g2⟩
  |some b=>
   rw[hk]at e;rw[aC]at e;by_cases c:k=i
   ·subst c;rw[if_pos rfl]at e;cases e;exact⟨by simp[mem],hk⟩
   ·rw[if_neg c]at e;obtain⟨g1,g2⟩:=pW e;exact⟨by simp only[mem];cases Nat.beq k i<;>simp[g1],g2⟩
theorem not_false {b:Bool} (h:(!b)=true):b=false:=by cases b<;>first|rfl|exact nomatch h
mutual
theorem xe {T:Kil}:(v:SV)->v.NM T=true->v.aP T=v
 |.r d x,h=>by rw[SV.aP,not_false h];rfl
 |.own j,h=>by rw[SV.aP,not_false h];rfl
 |.sub j o n,h=>by rw[SV.aP,not_false h];rfl
 |.bsl j n,h=>by rw[SV.aP,not_false h];rfl
 |.ptr j x o,h=>by rw[SV.aP,not_false h];rfl
 |.inn j x c,h=>by rw[SV.aP,not_false h];rfl
 |.lB d cs,h=>by rw[SV.aP,not_false h];rfl
 |.agg cs,h=>by rw[SV.aP,j4 cs h]
 |.tup cs,h=>by rw[SV.aP,j4 cs h]
 |.fn f a b,h=>by
  simp only[SV.NM,XB]at h
  rw[SV.aP,j4 a h.1,j4 b h.2]
 |.cF,_=>rfl
 |.qZ,_=>rfl
 |.undef,_=>rfl
theorem j4 {T:Kil}:(l:List SV)->Aw T l=true->iU T l=l
 |[],_=>rfl
 |v::l,h=>by
  simp only[Aw,XB]at h;rw[iU,xe v h.1,j4 l h.2]
end
theorem K9 {c:CR} (h:c.kil.2=[]):c.kil=([],[]):=by
 unfold CR.kil at h⊢;rw[List.append_eq_nil_iff]at h;grind
mutual
theorem DE (T U:Kil):(v:SV)->(v.aP T).aP U=(v.aP U).aP T
 |.r d x=>by
  simp only[SV.aP]
  cases h1:hit T.2 d<;>cases h2:hit U.2 d<;>simp only[cond_true,cond_false,SV.aP,h1,h2]
 |.own j=>by
  simp only[SV.aP]
  cases h1:mem j T.1<;>cases h2:mem j U.1<;>simp only[cond_true,cond_false,SV.aP,h1,h2]
 |.sub j o n=>by
  simp only[SV.aP]
  cases h1:mem j T.1<;>cases h2:mem j U.1<;>simp only[cond_true,cond_false,SV.aP,h1,h2]
 |.bsl j n=>by
  simp only[SV.aP]
  cases h1:mem j T.1<;>cases h2:mem j U.1<;>simp only[cond_true,cond_false,SV.aP,h1,h2]
 |.ptr j x o=>by
  simp only[SV.aP]
  cases h1:mem j T.1<;>cases h2:mem j U.1<;>simp only[cond_true,cond_false,SV.aP,h1,h2]
 |.inn j x c=>by
  simp only[SV.aP]
  cases h1:(mem j T.1||mem j T.2)<;>cases h2:(mem j U.1||mem j U.2)<;>simp only[cond_true,cond_false,SV.aP,h1,h2]
 |.lB d cs=>by
  simp only[SV.aP]
  cases h1:hit T.2 d<;>cases h2:hit U.2 d<;>simp only[cond_true,cond_false,SV.aP,h1,h2]
 |.agg cs=>by simp only[SV.aP,mO T U cs]
 |.tup cs=>by simp only[SV.aP,mO T U cs]
 |.fn f a b=>by simp only[SV.aP,mO T U a,mO T U b]
 |.cF=>rfl
 |.qZ=>rfl
 |.undef=>rfl
theorem mO (T U:Kil):(l:List SV)->iU U (iU T l)=iU T (iU U l)
 |[]=>rfl
 |v::l=>by simp only[iU,DE T U v,mO T U l]
end
variable {cm:DR->Bool}
theorem fq {r:DR} (h:gw cm r=true):cm r=true/\r.c.kil.2=[]/\r.c.upd=[]/\r.c.news=[]:=by
 simp only[gw,XB]at h;exact⟨h.2.2.2,eR h.1,eR h.2.1,eR h.2.2.1⟩
theorem DF {b a:DR} (h:Mn b a=true):a.c.v.aP b.c.kil=a.c.v:=by
 simp only[Mn,XB]at h;exact xe _ h.1
theorem La {T:Kil} {u:SV}:∀{l:List SV},Aw T l=true->u∈l->u.NM T=true
 |[],_,h=>nomatch h
 |v::l,h,hu=>by
  simp only[Aw,XB]at h
  rcases X3.1 hu with rfl|hu
  ·exact h.1
  ·exact La h.2 hu
theorem Lb {b a:DR} (h:Mn b a=true):∀u∈a.QM,u.aP b.c.kil=u:=by
 intro u hu;simp only[Mn,XB]at h;exact xe _ (La h.2 hu)
theorem vh {b a:DR} (h:b.c.kil.2=[]):a.c.v.aP b.c.kil=a.c.v:=by rw[K9 h];exact dC _
theorem fL {a b:DR} (h:tC cm a b=true):
  (gw cm a=true/\a.c.v.aP b.c.kil=a.c.v)\/(gw cm b=true/\b.c.v.aP a.c.kil=b.c.v)\/(gw cm a=false/\gw cm b=false/\Jd a b=true):=by
 simp only[tC,Zq,XB]at h
 rcases h with h|⟨h2,h1⟩|⟨h2,h1⟩
 ·obtain⟨k1,k2,_⟩:=iV h;cases ha:gw cm a
  ·cases hb:gw cm b
   ·grind
   ·exact .inr (.inl ⟨rfl,vh k1⟩)
  ·exact .inl ⟨rfl,vh k2⟩
 ·exact .inl ⟨h1,DF h2⟩
 ·exact .inr (.inl ⟨h1,DF h2⟩)
theorem Lc {a b:DR} (h:tC cm a b=true):
  (gw cm a=true->∀u∈a.QM,u.aP b.c.kil=u)/\(gw cm b=true->∀u∈b.QM,u.aP a.c.kil=u):=by
 have nl:∀{c:DR} (v:SV),c.c.kil.2=[]->v.aP c.c.kil=v:=λ{c} v h=>by rw[K9 h];exact dC _
 simp only[tC,Zq,XB]at h
 rcases h with h|⟨h2,h1⟩|⟨h2,h1⟩
 ·obtain⟨k1,k2,_⟩:=iV h;grind
 ·exact⟨λ_=>Lb h2,λ_ u _=>nl u (fq h1).2.1⟩
 ·exact⟨λ_ u _=>nl u (fq h1).2.1,λ_=>Lb h2⟩
theorem sD {r:DR} (h:gw cm r=true) (x:SH):r.app x=some (KS x.1 r.dst r.c.v,x.2):=by
 obtain⟨_,h1,h2,h3⟩:=fq h;rw[jq h1,h2,h3];simp only[jV,aN,XY]
theorem rr {r:DR} {x x' y:SH} (e:x.2=x'.2) (h:r.app x=some y):∃y',r.app x'=some y'/\y.2=y'.2:=by
 unfold DR.app at h⊢;simp only[An,It]at h;grind
def E7 (x y:SH):Prop:=AV x.1 y.1/\x.2=y.2
theorem E7.same {x y:SH} (h:E7 x y):GQ x y:=⟨h.1,λt=>by rw[h.2]⟩
theorem OO {r:DR} {x y:SH} (e:E7 x y) {x':SH} (h:r.app x=some x'):∃y',r.app y=some y'/\E7 x' y':=by
 obtain⟨y',h1,h2⟩:=rr e.2 h;refine⟨y',h1,λt=>?_,h2⟩;rw[dW h,dW h1,dV,dV,dy r.c.gx,dy r.c.gx,e.1 t]
theorem ru {p:Nat->Bool}:∀(l:List DR) (k:Nat) (x y X:SH),E7 x y->replay p k l x=some X->∃Y,replay p k l y=some Y/\E7 X Y
 |[],_,x,y,X,e,h=>by cases h;exact⟨y,rfl,e⟩
 |r::l,k,x,y,X,e,h=>by
  simp only[replay]at h⊢;cases hp:p k<;>simp only[hp,cond_false,cond_true]at h⊢
  ·exact ru l (k+1) x y X e h
  ·rw[An]at h;obtain⟨x',hx',h⟩:=h;obtain⟨y',hy',e'⟩:=OO e hx';rw[hy'];exact ru l (k+1) x' y' X e' h
theorem mP {p p':Nat->Bool}:∀(l:List DR) (k:Nat) (x x' X:SH),(∀(j:Nat) (r:DR),l[j]? =some r->p (k+j)≠p' (k+j)->gw cm r=true)->x.2=x'.2->replay p k l x=some X->
  ∃X',replay p' k l x'=some X'/\X.2=X'.2
 |[],_,x,x',X,_,e,h=>by cases h;exact⟨x',rfl,e⟩
 |r::l,k,x,x',X,hd,e,h=>by
  have hd':∀(j:Nat) (r:DR),l[j]? =some r->p (k+1+j)≠p' (k+1+j)->gw cm r=true:=λj r h1 h2=>hd (j+1) r (by simpa using h1) (by rwa [show k+(j+1)=k+1+j from by omega]);have h0:=hd 0 r rfl;rw[Yd]at h0;simp only[replay]at h⊢;cases hp:p k<;>cases hp':p' k<;>simp only[hp,cond_false,cond_true]at h⊢
  ·exact mP l (k+1) x x' X hd' e h
  ·rw[sD (h0 (by rw[hp,hp'];exactλh=>nomatch h)),XC];exact mP l (k+1) x (KS x'.1 r.dst r.c.v,x'.2) X hd' e h
  ·rw[sD (h0 (by rw[hp,hp'];exactλh=>nomatch h)),XC]at h;exact mP l (k+1) (KS x.1 r.dst r.c.v,x.2) x' X hd' e h
  ·rw[An]at h;obtain⟨y,hy,h⟩:=h;obtain⟨y',h1,h2⟩:=rr e hy;rw[h1,XC];exact mP l (k+1) y y' X hd' h2 h
def tM:List Kil->SV->SV
 |[],v=>v
 |T::l,v=>tM l (v.aP T)
theorem ML (l l':List Kil) (v:SV):tM (l++l') v=tM l' (tM l v):=by
 induction l generalizing v with
 |nil=>rfl
 |cons T l ih=>exact ih _
theorem JA (T:Kil) (l:List Kil) (v:SV):(tM l v).aP T=tM l (v.aP T):=by
 induction l generalizing v with
 |nil=>rfl
 |cons U l ih=>simp only[tM];rw[ih,DE]
theorem JB {l:List Kil} {v:SV} (h:∀T∈l,v.aP T=v):tM l v=v:=by
 induction l with
 |nil=>rfl
 |cons U l ih=>simp only[tM];rw[h U (by simp)];exact ih λT hT=>h T (by simp[hT])
theorem pX {q p:Nat->Bool} {t:Nat} {v:SV}:∀(l:List DR) (k:Nat) (y z Y Z:SH),(∀j,q j=true->p j=true)->replay q k l y=some Y->replay p k l z=some Z->look Y.1 t=some v->
  (∀(j:Nat) (r:DR),l[j]? =some r->p (k+j)=true->q (k+j)=false->r.dst≠some t/\v.aP r.c.kil=v)->
  (∀u,look y.1 t=some u->∃Ts,look z.1 t=some (tM Ts u)/\∀T∈Ts,v.aP T=v)->look Z.1 t=some v
 |[],_,y,z,Y,Z,_,hy,hz,hv,_,hi=>by
  cases hy;cases hz;obtain⟨Ts,h1,h2⟩:=hi v hv
  rw[h1,JB h2]
 |r::l,k,y,z,Y,Z,hqp,hy,hz,hv,hd,hi=>by
  simp only[replay]at hy hz;have hd':∀(j:Nat) (r:DR),l[j]? =some r->p (k+1+j)=true->q (k+1+j)=false->r.dst≠some t/\v.aP r.c.kil=v:=λj r h1 h2 h3=>hd (j+1) r (by simpa using h1) (by rwa [show k+(j+1)=k+1+j from by omega]) (by rwa [show k+(j+1)=k+1+j from by omega]);cases hq:q k<;>simp only[hq,cond_false,cond_true]at hy
  ·cases hp:p k<;>simp only[hp,cond_false,cond_true]at hz
   ·exact pX l (k+1) y z Y Z hqp hy hz hv hd' hi
   ·rw[An]at hz;obtain⟨z',hz',hz⟩:=hz;obtain⟨g1,g2⟩:=hd 0 r rfl (by simpa using hp) (by simpa using hq);refine pX l (k+1) y z' Y Z hqp hy hz hv hd' λu hu=>?_;obtain⟨Ts,h1,h2⟩:=hi u hu;refine⟨Ts++[r.c.kil],?_,λT hT=>?_⟩
    ·rw[dW hz',dV,if_neg g1,dy r.c.gx,h1,ML];rfl
    ·grind
  ·rw[hqp k hq]at hz;simp only[cond_true]at hz;rw[An]at hy hz;obtain⟨y',hy',hy⟩:=hy;obtain⟨z',hz',hz⟩:=hz;refine pX l (k+1) y' z' Y Z hqp hy hz hv hd' λu hu=>?_;rw[dW hy',dV,dy r.c.gx]at hu;rw[dW hz',dV,dy r.c.gx];by_cases c:r.dst=some t
   ·rw[if_pos c]at hu⊢;cases hu;exact⟨[],rfl,by simp⟩
   ·rw[if_neg c]at hu⊢;obtain⟨u0,hu0,rfl⟩:=XK.1 hu;obtain⟨Ts,h1,h2⟩:=hi u0 hu0;exact⟨Ts,by rw[h1,Zf,JA],h2⟩
theorem pY {q:Nat->Bool} {t:Nat} {v:SV}:∀(l:List DR) (k:Nat) (y Y:SH),replay q k l y=some Y->look Y.1 t=some v->(∃u,look y.1 t=some u)\/∃(j:Nat) (r:DR),l[j]? =some r/\q (k+j)=true/\r.dst=some t
  |[],_,y,Y,h,hv=>by cases h;exact .inl ⟨v,hv⟩
  | r :: l, k, y, Y, h, hv => by
    simp only[replay]at h;cases hq:q k<;>simp only[hq,cond_false,cond_true]at h
    · rcases pY l (k+1) y Y h hv with h'|⟨j,r',h1,h2,h3⟩
      · exact .inl h'
      · exact .inr ⟨j+1,r',by simpa using h1,by rwa [show k+(j+1)=k+1+j from by omega],h3⟩
    · rw [An] at h;obtain⟨y',hy',h⟩:=h
      rcases pY l (k+1) y' Y h hv with⟨u,hu⟩|⟨j,r',h1,h2,h3⟩
      · rw[dW hy',dV,dy r.c.gx]at hu;by_cases c:r.dst=some t
        · exact .inr ⟨0,r,rfl,hq,c⟩
        · rw[if_neg c]at hu;obtain⟨u0,hu0,_⟩:=XK.1 hu;grind
      · exact .inr ⟨j+1,r',by simpa using h1,by rwa [show k+(j+1)=k+1+j from by omega],h3⟩
theorem OP {a b:DR} (ha:gw cm a=true) (hf:a.c.v.aP b.c.kil=a.c.v) (hd:∀t,a.dst=some t->b.dst≠some t) {x y z:SH} (hy:b.app x=some y) (hz:a.app y=some z):
  ∃y' z',a.app x=some y'/\b.app y'=some z'/\E7 z z':=by
 rw[sD ha]at hz;cases hz;obtain⟨z',h1,h2⟩:=rr (x:=x) (x':=(KS x.1 a.dst a.c.v,x.2)) rfl hy;refine⟨_,z',sD ha x,h1,λt=>?_,h2⟩;rw[dW h1,dW hy];simp only[dV,dy b.c.gx];grind
theorem MM {a b:DR} (hb:gw cm b=true) (hf:b.c.v.aP a.c.kil=b.c.v) (hd:∀t,a.dst=some t->b.dst≠some t) {x y z:SH} (hy:b.app x=some y) (hz:a.app y=some z):
  ∃y' z',a.app x=some y'/\b.app y'=some z'/\E7 z z':=by
 rw[sD hb]at hy;cases hy;obtain⟨y',h1,h2⟩:=rr (x:=(KS x.1 b.dst b.c.v,x.2)) (x':=x) rfl hz;refine⟨y',_,h1,sD hb y',λt=>?_,h2⟩;rw[dW h1,dW hz];simp only[dV,dy a.c.gx];grind
theorem comm {a b:DR} (h:Jd a b=true) (hd:∀t,a.dst=some t->b.dst≠some t) (hm:∀i,a.ue i->¬b.ue i) {x y z:SH} (hy:b.app x=some y) (hz:a.app y=some z):
  ∃y' z',a.app x=some y'/\b.app y'=some z'/\GQ z z':=by
 obtain⟨ga,gb,hu⟩:=iV h;rw[jq gb]at hy;cases hy;rw[jq ga]at hz;cases hz;refine⟨_,_,jq ga x,jq gb _,λt=>?_,λi=>?_⟩
 ·simp only[dV];grind
 ·have swap:(look (aN b.n0 b.c.news) i).or (look (aN a.n0 a.c.news) i)=(look (aN a.n0 a.c.news) i).or (look (aN b.n0 b.c.news) i):=by
   by_cases c:a.ue i
   ·rw[DR.o8 (hm i c)];simp
   ·rw[DR.o8 c];simp
  have past:∀(r:DR) (u:aM),(∀i,r.ue i->look u i=none)->look (jV u (x.2++aN r.n0 r.c.news)) i=(look (jV u x.2) i).or (look (aN r.n0 r.c.news) i):=λr u hr=>by
   by_cases c:r.ue i
   ·rw[rq _ _ (hr i c),rq _ _ (hr i c),aJ]
   ·rw[DR.o8 c,YG];exact AY u (by rw[aJ,DR.o8 c,YG])
  rcases hu with⟨u1,u2⟩|⟨u1,u2⟩
  ·simp only[u1,jV,aJ,Option.or_assoc];grind
  ·simp only[u1,jV,aJ,Option.or_assoc];grind
theorem ug {p:Nat->Bool}:∀(l:List DR) (k:Nat) (x y X:SH),(∀(j:Nat) (r:DR),l[j]? =some r->p (k+j)=true->r.c.kil.2=[])->GQ x y->replay p k l x=some X->∃Y,replay p k l y=some Y/\GQ X Y
 |[],_,x,y,X,_,e,h=>by cases h;exact⟨y,rfl,e⟩
 |r::l,k,x,y,X,hg,e,h=>by
  have hg':∀(j:Nat) (r:DR),l[j]? =some r->p (k+1+j)=true->r.c.kil.2=[]:=λj r h1 h2=>hg (j+1) r (by simpa using h1) (by rwa [show k+(j+1)=k+1+j from by omega]);simp only[replay]at h⊢;cases hp:p k<;>simp only[hp,cond_false,cond_true]at h⊢
  ·exact ug l (k+1) x y X hg' e h
  ·rw[An]at h;obtain⟨x',hx',h⟩:=h;obtain⟨y',hy',e'⟩:=Q4 (hg 0 r rfl (by simpa using hp)) e hx';rw[hy'];exact ug l (k+1) x' y' X hg' e' h
theorem oH {p:Nat->Bool} {a:DR} (hi:gw cm a=true):∀(l:List DR) (k:Nat) (x X X':SH),
  (∀(j:Nat) (r:DR),l[j]? =some r->p (k+j)=true->a.c.v.aP r.c.kil=a.c.v/\(∀t,a.dst=some t->r.dst≠some t))->
  replay p k l x=some X->a.app X=some X'->∃x' X'',a.app x=some x'/\replay p k l x'=some X''/\E7 X' X''
 |[],_,x,X,X',_,h,ha=>by cases h;exact⟨X',X',ha,rfl,λ_=>rfl,rfl⟩
 |r::l,k,x,X,X',hc,h,ha=>by
  have hc':∀(j:Nat) (r:DR),l[j]? =some r->p (k+1+j)=true->a.c.v.aP r.c.kil=a.c.v/\(∀t,a.dst=some t->r.dst≠some t):=λj r h1 h2=>hc (j+1) r (by simpa using h1) (by rwa [show k+(j+1)=k+1+j from by omega]);simp only[replay]at h⊢;cases hp:p k<;>simp only[hp,cond_false,cond_true]at h⊢
  ·exact oH hi l (k+1) x X X' hc' h ha
  ·rw[An]at h;obtain⟨y,hy,h⟩:=h;obtain⟨y',Y'',h1,h2,h3⟩:=oH hi l (k+1) y X X' hc' h ha;obtain⟨c1,c2⟩:=hc 0 r rfl (by simpa using hp);obtain⟨x',z',g1,g2,g3⟩:=OP hi c1 c2 hy h1;obtain⟨W,w1,w2⟩:=ru l (k+1) y' z' Y'' g3 h2;exact⟨x',W,g1,by rw[g2];exact w1,λt=>(h3.1 t).trans (w2.1 t),h3.2.trans w2.2⟩
theorem oI {p:Nat->Bool} {a:DR} (hi:gw cm a=false):∀(l:List DR) (k:Nat) (x X X':SH),
    (∀(j:Nat) (r:DR),l[j]? =some r->p (k+j)=true->tC cm a r=true/\(∀t,a.dst=some t->r.dst≠some t)/\∀i,a.ue i->¬r.ue i)->
    replay p k l x=some X->a.app X=some X'->∃x' X'',a.app x=some x'/\replay p k l x'=some X''/\GQ X' X''
  |[],_,x,X,X',_,h,ha=>by cases h;exact⟨X',X',ha,rfl,GQ.refl _⟩
  | r :: l, k, x, X, X', hc, h, ha => by
    have hc':∀(j:Nat) (r:DR),l[j]? =some r->p (k+1+j)=true->tC cm a r=true/\(∀t,a.dst=some t->r.dst≠some t)/\∀i,a.ue i->¬r.ue i:=λj r h1 h2=>hc (j+1) r (by simpa using h1) (by rwa [show k+(j+1)=k+1+j from by omega])
    have kil0:∀(r:DR),tC cm a r=true->r.c.kil.2=[]:=λr h=>by
      rcases fL h with⟨h1,_⟩|⟨h1,_⟩|⟨_,_,h1⟩
      · grind
      · exact(fq h1).2.1
      · exact(iV h1).2.1
    simp only[replay]at h⊢;cases hp:p k<;>simp only[hp,cond_false,cond_true]at h⊢
    · exact oI hi l (k+1) x X X' hc' h ha
    · rw [An] at h;obtain⟨y,hy,h⟩:=h;obtain⟨y',Y'',h1,h2,h3⟩:=oI hi l (k+1) y X X' hc' h ha;obtain⟨c1,c2,c3⟩:=hc 0 r rfl (by simpa using hp)
      have hcm:∃y'' z',a.app x=some y''/\r.app y''=some z'/\GQ y' z':=by
        rcases fL c1 with⟨h1',_⟩|⟨h1',h2'⟩|⟨_,_,h1'⟩
        · grind
        · obtain⟨u1,u2,u3,u4,u5⟩:=MM h1' h2' c2 hy h1;exact⟨u1,u2,u3,u4,u5.same⟩
        · exact comm h1' c2 c3 hy h1
      obtain⟨x',z',g1,g2,g3⟩:=hcm;obtain⟨W,w1,w2⟩:=ug l (k+1) y' z' Y'' (λj r h1 h2=>kil0 r (hc' j r h1 h2).1) g3 h2;exact⟨x',W,g1,by rw[g2];exact w1,h3.trans w2⟩
theorem E8 {p:Nat->Bool} {a:DR} (l:List DR) (k:Nat) (x X X':SH)
  (hc:∀(j:Nat) (r:DR),l[j]? =some r->p (k+j)=true->tC cm a r=true/\(∀t,a.dst=some t->r.dst≠some t)/\∀i,a.ue i->¬r.ue i)
  (h:replay p k l x=some X) (ha:a.app X=some X'):∃x' X'',a.app x=some x'/\replay p k l x'=some X''/\GQ X' X'':=by
 cases hi:gw cm a with
 |false=>exact oI hi l k x X X' hc h ha
 |true=>
  obtain⟨u1,u2,u3,u4,u5⟩:=oH hi l k x X X' (λj r h1 h2=>by
   obtain⟨c1,c2,_⟩:=hc j r h1 h2;refine⟨?_,c2⟩
   rcases fL c1 with⟨_,h⟩|⟨h,_⟩|⟨h,_,_⟩
   ·exact h
   ·exact vh (fq h).2.1
   ·rw[hi]at h;exact nomatch h) h ha
  exact⟨u1,u2,u3,u4,u5.same⟩
theorem E9 {p p':Nat->Bool} {l:List DR} {i:Nat} {a:DR} {x X X':SH} (hi:l[i]? =some a) (hpi:p i=false) (Wg:p' i=true) (hpp:∀j,j≠i->p' j=p j)
  (hc:∀(j:Nat) (r:DR),i<j->l[j]? =some r->p j=true->tC cm a r=true/\(∀t,a.dst=some t->r.dst≠some t)/\∀i,a.ue i->¬r.ue i)
  (h:replay p 0 l x=some X) (ha:a.app X=some X'):∃X'',replay p' 0 l x=some X''/\GQ X' X'':=by
 have hlt:=(Of.1 hi).1
 have tJ:l=l.take i++a::l.drop (i+1):=by
  conv=>lhs;rw[<-YN i l]
  rw[Zo hlt,(Of.1 hi).2]
 have hl:(l.take i).length=i:=by simp;omega
 rw[tJ,eT,An]at h;obtain⟨y,hy,h⟩:=h;rw[hl,XN]at h;simp only[replay,hpi,cond_false]at h;obtain⟨y',X'',g1,g2,g3⟩:=E8 (l.drop (i+1)) (i+1) y X X' (λj r h1 h2=>hc (i+1+j) r (by omega) (by rwa [XU]at h1) h2) h ha;refine⟨X'',?_,g3⟩;rw[tJ,eT,hl,XN];rw[kO (q:=p) (l.take i) 0 x λj hj=>by rw[hl]at hj;rw[XN];exact hpp j (by omega),hy];simp only[XC,replay,Wg,cond_true,g1];rw[kO (q:=p) (l.drop (i+1)) (i+1) y' λj hj=>hpp _ (by omega)];exact g2
theorem uh {p:Nat->Bool} {t:Nat} {x0:SV} (hx0:∀T,x0.aP T=x0):∀(l:List DR) (k:Nat) (x X:SH),replay p k l x=some X->(∀(j:Nat) (r:DR),l[j]? =some r->r.dst≠some t)->look x.1 t=some x0->look X.1 t=some x0
 |[],_,x,X,h,_,hx=>by cases h;exact hx
 |r::l,k,x,X,h,hd,hx=>by
  have hd':∀(j:Nat) (r:DR),l[j]? =some r->r.dst≠some t:=λj r h1=>hd (j+1) r (by simpa using h1);simp only[replay]at h;cases hp:p k<;>simp only[hp,cond_false,cond_true]at h
  ·exact uh hx0 l (k+1) x X h hd' hx
  ·rw[An]at h;obtain⟨y,hy,h⟩:=h;refine uh hx0 l (k+1) y X h hd' ?_;rw[dW hy,dV,if_neg (hd 0 r rfl)];rw[dy r.c.gx,hx,Zf,hx0]
end
section
variable [Tok] [Glo]
def Rl (w0:World) (fp0:G0) (bs:Cell->Prop) (n:Nat) (st:St) (a:Act) (w:World):Prop:=∃pl,Rel w0 fp0 st pl a w/\pl.base=bs/\st.n=n
section
variable {w:World} {H H':aM} {pl:Pl}
theorem DG (e:AV H' H):lM ([],[]) w H pl w H' pl:=
 ⟨λi B hB _=>⟨B,(e i).trans hB,B.dB,rfl⟩,λd p u _ h hp=>⟨⟨h.1,λi B hB=>h.2 i B ((e i).symm.trans hB)⟩,hp⟩⟩
theorem cY.same (e:AV H' H) (h:cY H pl w):cY H' pl w:=
  ⟨λi B hB=>(h.blk i B ((e i).symm.trans hB)).bJ (DG e) rfl (λ_=>Z8) (λp u _ hu=>⟨hu,rfl⟩) B.dC,
   λi j B B' p h1 h2=>h.dis i j B B' p ((e i).symm.trans h1) ((e j).symm.trans h2),λi B p hB=>h.ob i B p ((e i).symm.trans hB),h.nb⟩
theorem Rel.congr {w0:World} {fp0:G0} {s s':List (Nat× SV)} {nid n:Nat} {gh:List (Option Nat)} {a:Act} (h:Rel w0 fp0 ⟨s,H,nid,n,gh⟩ pl a w) (hs:∀t v,look s' t=some v->look s t=some v) (e:AV H' H):
    Rel w0 fp0 ⟨s',H',nid,n,gh⟩ pl a w:=
  ⟨h.hr.same e,λt v hv=>(h.sl t v (hs t v hv)).zt (DG e),h.sz,h.df,λi hi=>(e i).trans (h.fresh i hi),h.gr,λp u hp hn=>by
    obtain⟨g1,g2,g3⟩:=h.fr p u hp hn
    exact⟨λi B hB=>g1 i B ((e i).symm.trans hB),g2,g3⟩,λk i hi=>⟨(h.gk k i hi).1,λB hB=>(h.gk k i hi).2 B ((e i).symm.trans hB)⟩⟩
end
theorem Fa {h:aM} {k i:Nat} {b B:Blk} (e:look (Mk h k b) i=some B):∃B',look h i=some B':=by
 induction h with
 |nil=>simp[Mk,look]at e
 |cons x l ih=>
  obtain⟨k',u⟩:=x;rw[aC];by_cases c:k'=i
  ·exact⟨u,by simp[c]⟩
  ·rw[if_neg c];simp only[Mk]at e;cases hb:Nat.beq k' k<;>simp only[hb,cond_true,cond_false]at e
   ·rw[aC,if_neg c]at e;exact ih e
   ·rw[aC,if_neg (by have:=On hb;omega)]at e;exact⟨B,e⟩
theorem tN:∀{l h:aM} {i:Nat} {B:Blk},look (jV l h) i=some B->∃B',look h i=some B'
 |[],h,i,B,e=>⟨B,e⟩
 |(k,b)::l,h,i,B,e=>by
  simp only[jV]at e;obtain⟨B',hB'⟩:=tN e;exact Fa hB'
theorem Rel.app {w0:World} {fp0:G0} {X X':SH} {nid n:Nat} {gh:List (Option Nat)} {pl pl':Pl} {a:Act} {w w':World} {r:DR} {H':aM} {u:Value}
  (h:Rel w0 fp0 ⟨X.1,X.2,nid,n,gh⟩ pl a w) (hx:r.app X=some X') (hup:∀i B,look r.c.upd i=some B->∃B',look X.2 i=some B')
  (hd:∀t,r.dst=some t->t+1<=n) (hg:∀(k i:Nat),gh[k]? =some (some i)->i<r.n0) (hn:r.n0+r.c.news.length<=nid) (ha:after X.2 r.n0 r.c=some H') (hs:c7 X.2 H' r.c.kil pl pl' w w') (hv:ar w' H' pl' r.c.v u):
  Rel w0 fp0 ⟨X'.1,X'.2,nid,n,gh⟩ pl' (a.put r.dst u) w':=by
 have AQ:AV X'.2 H':=by
  unfold DR.app at hx;unfold after at ha;rw[xd hup]at ha;simp only[An,It]at hx ha;obtain⟨h1,e1,rfl⟩:=hx;obtain⟨h2,e2,rfl⟩:=ha;rw[e1]at e2;cases e2;exactλ_=>rfl
 have hfr:∀i,nid<=i->look H' i=none:=λi hi=>by
  rw[<-AQ i]
  cases hq:look X'.2 i with
  |none=>rfl
  |some B=>
   rcases o9 (p:=λ_=>true) [r] 0 X X' (by simp[replay,hx]) i B hq with⟨B',hB'⟩|⟨j',r2,g1,_,g3⟩
   ·have:=h.fresh i hi;rw[hB']at this;exact nomatch this
   ·cases j' with
    |zero=>simp at g1;subst g1;have:=g3.2;omega
    |succ j'=>simp at g1
 have hsl:gT w' H' pl' (pO r.c.kil X.1) a:=h.sl.bJ r.c.gx hs.kp
 have hsl2:gT w' H' pl' X'.1 (a.put r.dst u):=by
  rw[dW hx]
  cases Tl:r.dst with
  |none=>exact hsl
  |some t=>
   have ht:=hd t Tl;exact gT.put (n:=n) (dst:=some t) hsl h.sz (by simp only[UF,KS];rw[show Nat.ble (t+1) n=true from YV ht];rfl) hv
 exact Rel.congr (s:=X'.1) (H:=H') ⟨hs.hr,hsl2,by rw[Act.EU];exact h.sz,by rw[Act.Oj];exact h.df,hfr,h.gr.trans hs.gr,λp q hp hno=>by
  obtain⟨g1,g2,g3⟩:=h.fr p q hp hno;obtain⟨f1,f2,f3⟩:=hs.fr p q g2 g1
  exact⟨f1,f2,f3.trans g3⟩,h.gk.step hs.kp (X1 _) λk i B hki hB=>by
   have hi:=hg k i hki;rw[<-AQ i]at hB;unfold DR.app at hx;simp only[An,It]at hx;obtain⟨h1,e1,rfl⟩:=hx;rw[aJ,bG,if_neg (by omega),YG,c9 r.c.gx e1 i]at hB;cases hm:mem i r.c.kil.1<;>simp only[hm,cond_true,cond_false]at hB
   ·obtain⟨B1,hB1,_⟩:=An.1 hB;exact⟨rfl,tN hB1⟩
   ·exact nomatch hB⟩ (λ_ _ h=>h) AQ
theorem xf (acc:List Nat) (j:Nat):∀l:List Edge,(Gx acc l).testBit j=true↔∃e∈l,Region.binds .any e=true/\(j=e.on\/(acc.getD e.on 0).testBit j=true)
 |[]=>by simp[Gx]
 |e::l=>by
  simp only[Gx];cases hb:Region.binds .any e
  ·simp only[cond_false,xf acc j l,X3,exists_eq_or_imp,hb,YX,false_and,false_or]
  ·simp only[cond_true,Nat.testBit_or,Nat.testBit_two_pow,Zq,decide_eq_true_eq,xf acc j l,X3,exists_eq_or_imp,hb,true_and];constructor
   ·rintro ((h|h)|h)
    ·exact .inl (.inr h)
    ·exact .inl (.inl h.symm)
    ·exact .inr h
   ·rintro ((h|h)|h)
    ·exact .inl (.inr h.symm)
    ·exact .inl (.inl h)
    ·exact .inr h
theorem kP {n:Nat}:∀{l:List Edge},wO n l=true->∀e∈l,Region.binds .any e=true->e.on<n
 |[],_,e,he,_=>by simp at he
 |x::l,h,e,he,hb=>by
  simp only[wO]at h;cases hx:Region.binds .any x<;>simp only[hx,cond_true,cond_false]at h
  ·rcases X3.1 he with rfl|he
   ·rw[hx]at hb;exact nomatch hb
   ·exact kP h e he hb
  ·cases hn:Nat.ble (x.on+1) n<;>simp only[hn,cond_true,cond_false]at h
   ·exact nomatch h
   ·rcases X3.1 he with rfl|he
    ·exact XT hn
    ·exact kP h e he hb
structure JC (ops:List Oper) (aK:List Nat):Prop where
 back:∀(i:Nat) (o:Oper),ops[i]? =some o->∀e∈o.after.toList,Region.binds .any e=true->e.on<i
 spec:∀(i:Nat) (o:Oper),ops[i]? =some o->∀j,(aK.getD i 0).testBit j=true↔∃e∈o.after.toList,Region.binds .any e=true/\(j=e.on\/(aK.getD e.on 0).testBit j=true)
theorem yK:∀(l:List Oper) (acc aK:List Nat),Av acc l=some aK->(∃t,aK=acc++t)/\
  ∀(k:Nat) (o:Oper),l[k]? =some o->(∀e∈o.after.toList,Region.binds .any e=true->e.on<acc.length+k)/\
   ∀j,(aK.getD (acc.length+k) 0).testBit j=true↔∃e∈o.after.toList,Region.binds .any e=true/\(j=e.on\/(aK.getD e.on 0).testBit j=true)
 |[],acc,aK,h=>by cases h;exact⟨⟨[],by simp⟩,λk o ho=>by simp at ho⟩
 |x::l,acc,aK,h=>by
  simp only[Av]at h;cases he:wO acc.length x.after.toList<;>simp only[he,cond_true,cond_false]at h
  ·exact nomatch h
  ·obtain⟨⟨t,ht⟩,hl⟩:=yK l _ aK h;refine⟨⟨Gx acc x.after.toList::t,by rw[ht];simp⟩,λk o ho=>?_⟩
   cases k with
   |zero=>
    simp at ho;subst ho;refine⟨kP he,λj=>?_⟩
    have hm:aK.getD (acc.length+0) 0=Gx acc x.after.toList:=by rw[ht];simp[List.getD]
    rw[hm,xf];constructor
    ·rintro ⟨e,h1,h2,h3⟩
     have hlt:=kP he e h1 h2;refine⟨e,h1,h2,h3.imp id λh3=>?_⟩;rw[ht];simpa[List.getD,XQ hlt,XP]using h3
    ·rintro ⟨e,h1,h2,h3⟩
     have hlt:=kP he e h1 h2;refine⟨e,h1,h2,h3.imp id λh3=>?_⟩
     rw[ht]at h3;simpa[List.getD,XQ hlt,XP]using h3
   |succ k=>
    have:=hl k o (by simpa using ho);simp only[XG,XI,X2]at this;rwa [show acc.length+(0+1)+k=acc.length+(k+1)from by omega]at this
theorem Q5 {ops:List Oper} {aK:List Nat} (h:Av [] ops=some aK):JC ops aK:=by
 obtain⟨_,h2⟩:=yK ops [] aK h;exact⟨λi o ho=>by have:=(h2 i o ho).1;simpa using this,λi o ho=>by have:=(h2 i o ho).2;simpa using this⟩
theorem JC.closed {ops:List Oper} {aK:List Nat} (hm:JC ops aK) {p:Nat->Bool} (hp:∀(j:Nat) (o:Oper),ops[j]? =some o->p j=true->∀e∈o.after.toList,Region.binds .any e=true->p e.on=true):
  ∀(n i:Nat) (o:Oper),i<=n->ops[i]? =some o->(∀e∈o.after.toList,Region.binds .any e=true->p e.on=true)->∀j,(aK.getD i 0).testBit j=true->p j=true
 |n,i,o,hn,ho,he,j,hj=>by
  obtain⟨e,h1,h2,h3⟩:=(hm.spec i o ho j).1 hj
  rcases h3 with rfl|h3
  ·exact he e h1 h2
  ·have hlt:=hm.back i o ho e h1 h2
   have hol:e.on<ops.length:=by have:=(Of.1 ho).1;omega
   cases n with
   |zero=>omega
   |succ n=>exact hm.closed hp n e.on _ (by omega) (So hol) (λe' h1' h2'=>hp e.on _ (So hol) (he e h1 h2) e' h1' h2') j h3
theorem JC.lt {ops:List Oper} {aK:List Nat} (hm:JC ops aK) {i j:Nat} {o:Oper} (ho:ops[i]? =some o) (hj:(aK.getD i 0).testBit j=true):j<i:=
 of_decide_eq_true (hm.closed (p:=λj=>decide (j<i)) (λk o' ho' hk e h1 h2=>decide_eq_true (by have:=hm.back k o' ho' e h1 h2;have:=of_decide_eq_true hk;omega)) i i o (X1 _) ho
  (λe h1 h2=>decide_eq_true (hm.back i o ho e h1 h2)) j hj)
end
section
variable [Tok] [Glo]
def OQ (h H:aM):Prop:=∀i B,look h i=some B->∃B',look H i=some B'/\B.nt B'
def Tm (P:Program) (o:Oper) (n:Nat) (c:CR) (s:List (Nat× SV)) (h:aM):Prop:=
 ∀(s':List (Nat× SV)) (H:aM) (a:Act) (w:World) (pl:Pl),Ext s s'->OQ h H->cY H pl w->gT w H pl s' a->(∀k,k<c.news.length->look H (n+k)=none)->kK P o a w H pl n c
theorem C6 {P:Program} {T:TypeId} {h H:aM} (e:OQ h H) {x:SV} {k:Int} {v:SV} (hv:bZ P T h x k=some v):bZ P T H x k=some v:=by
 have sz:∀{t t':Ty},t.sz=t'.sz->slT P T t=slT P T t':=λ{t t'} e=>by unfold slT;rw[e]
 cases x with
 |own i=>
  simp only[bZ]at hv⊢
  cases hl:look h i with
  |none=>rw[hl]at hv;exact nomatch hv
  |some B=>
   rw[hl]at hv;obtain⟨B',h1,h2⟩:=e i B hl
   cases B with
   |box cs=>exact nomatch hv
   |arr sh t xs=>
    cases B' with
    |box cs=>exact h2.elim
    |arr sh' t' ys=>
     rw[h1];simp only at hv⊢
     rwa [<-sz h2.1,<-h2.2]
 |sub i o n=>
  simp only[bZ]at hv⊢
  cases hl:look h i with
  |none=>rw[hl]at hv;exact nomatch hv
  |some B=>
   rw[hl]at hv;obtain⟨B',h1,h2⟩:=e i B hl
   cases B with
   |box cs=>exact nomatch hv
   |arr sh t xs=>
    cases B' with
    |box cs=>exact h2.elim
    |arr sh' t' ys=>
     rw[h1];simp only at hv⊢
     rwa [<-sz h2.1]
 |r d x=>cases x<;>exact hv
 |_=>exact hv
def nB (aK:List Nat) (i:Nat) (o:Oper) (rs:List DR) (t:Bool):Prop:=
 match o.guard with
 |none=>t=true
 |some (g,want)=>(aK.getD i 0).testBit g=true/\∃r d,rs[g]? =some r/\r.dst=some d/\((∃b,r.c.v=.r [] (.bool b)/\t=(b==want))\/(r.c.v=.tup []/\t=false))
def U3 (E:Env) (ops:List Oper) (aK dsts:List Nat) (s0:List (Nat× SV)) (h0:aM) (rs:List DR) (i:Nat) (o:Oper) (r:DR):Prop:=
 r.dst=o.dst/\okW E o.op r.c=true/\∃x t,replay (Nat.testBit (aK.getD i 0)) 0 (rs.take i) (oX (QN aK i 0 ops) s0 (fm o.op.operands.toList),h0)=some x/\nB aK i o rs t/\
  ((t=true/\r=S6 E aK i ops h0 x o r.n0 r.c/\(N5 E h0 x o=false->GO E.P o r.n0 r.c (oX [] x.1 (fm o.op.operands.toList)) (Mm E aK i ops x o))/\(N5 E h0 x o=true->Tm E.P o r.n0 r.c (oX [] x.1 (fm o.op.operands.toList)) (yJ h0 (Gy x o))))\/(t=false/\r.c={v:=.tup []}/\r.len=false))
theorem Tn {E:Env} {ρ:Type} {o:Oper} {s:List (Nat× SV)} {h0:aM} {n:Nat} {K:CR->Option ρ} {out:ρ} (hl:UP o.op=true) (h:ED E s h0 n o.op K=some out):∃c,K c=some out/\Tm E.P o n c s h0:=by
 cases ho:o.op with
 |indexAddr T x k=>
  rw[ho]at h;have h:pP E.P s h0 (.indexAddr T x k) (λv=>K {v:=v})=some out:=h;rw[pQ]at h;obtain⟨v,hv,h⟩:=An.1 h;refine⟨_,h,λs' H a w pl es eh hr hs hn=>?_⟩
  have hv':ik E.P s' H (.indexAddr T x k)=some v:=by
   simp only[ik,An]at hv⊢;obtain⟨x',hx,k',hk,n',hn',hv⟩:=hv;exact⟨x',dq es _ _ hx,k',dq es _ _ hk,n',hn',C6 eh hv⟩
  obtain⟨u,hu,hvr⟩:=lN hr hs hv' o ho
  exact o4 hr hu hvr
 |_=>rw[ho]at hl;exact nomatch hl
structure GU (E:Env) (ops:List Oper) (aK dsts:List Nat) (s0:List (Nat× SV)) (h0:aM) (nid0:Nat) (rs:List DR) (m nid:Nat):Prop where
 len:rs.length=m
 Wh:∀(i:Nat) (o:Oper) (r:DR),ops[i]? =some o->rs[i]? =some r->U3 E ops aK dsts s0 h0 rs i o r
 lo:∀(i:Nat) (r:DR),rs[i]? =some r->nid0<=r.n0/\r.n0+r.c.news.length<=nid
 ord:∀(i j:Nat) (a b:DR),i<j->rs[i]? =some a->rs[j]? =some b->a.n0+a.c.news.length<=b.n0
theorem nB.more {aK:List Nat} {i:Nat} {o:Oper} {rs:List DR} {t:Bool} (h:nB aK i o rs t) (r:DR):nB aK i o (rs++[r]) t:=by
 unfold nB at*;split at h
 ·exact h
 ·obtain⟨h1,r',d,h2,h3,h4⟩:=h;exact⟨h1,r',d,by rw[XQ (Of.1 h2).1];exact h2,h3,h4⟩
section
variable {ρ:Type} {E:Env} {ops:List Oper} {aK dsts:List Nat} {s0:List (Nat× SV)} {h0:aM} {nid0:Nat}
theorem GU.push {rs:List DR} {m nid:Nat} (F:GU E ops aK dsts s0 h0 nid0 rs m nid) (h0n:nid0<=nid) {o:Oper} {r:DR} (ho:ops[m]? =some o) (hr:U3 E ops aK dsts s0 h0 (rs++[r]) m o r) (hn:r.n0=nid):
  GU E ops aK dsts s0 h0 nid0 (rs++[r]) (m+1) (nid+r.c.news.length):=by
 have zx:∀(i:Nat) (b:DR),(rs++[r])[i]? =some b->(i<m/\rs[i]? =some b)\/(i=m/\b=r):=λi b hb=>by
  by_cases c:i<m
  ·rw[XQ (by rw[F.len];exact c)]at hb;exact .inl ⟨c,hb⟩
  ·rw[XL (by rw[F.len];omega),F.len]at hb
   have hi:i-m<1:=by have:=(Of.1 hb).1;simpa using this
   have:i-m=0:=by omega
   rw[this]at hb;simp at hb;exact .inr ⟨by omega,hb.symm⟩
 refine⟨by simp[F.len],λi o' b ho' hb=>?_,λi b hb=>?_,λi j a b hij ha hb=>?_⟩
 ·rcases zx i b hb with⟨hi,h⟩|⟨rfl,rfl⟩
  ·obtain⟨g1,g2,x,t,g3,g4,g5⟩:=F.Wh i o' b ho' h;exact⟨g1,g2,x,t,by rw[YU (by rw[F.len];omega)];exact g3,g4.more r,g5⟩
  ·rw[ho]at ho';cases ho';exact hr
 ·rcases zx i b hb with⟨hi,h⟩|⟨rfl,rfl⟩
  ·have:=F.lo i b h;exact⟨this.1,by omega⟩
  ·exact⟨by omega,by omega⟩
 ·rcases zx j b hb with⟨hj,h⟩|⟨rfl,rfl⟩
  ·rcases zx i a ha with⟨hi,h'⟩|⟨rfl,rfl⟩
   ·exact F.ord i j a b hij h' h
   ·omega
  ·rcases zx i a ha with⟨hi,h'⟩|⟨rfl,rfl⟩
   ·have:=F.lo i a h';omega
   ·omega
theorem JD:∀{rs:List DR} {g:Nat} {r:DR} {v:SV},rs[g]? =some r->r.c.v=v->S5 rs g v=rs
 |[],_,_,_,h,_=>by simp at h
 |x::l,0,r,v,h,hv=>by simp at h;subst h;subst hv;rfl
 |x::l,g+1,r,v,h,hv=>by simp only[S5];rw[JD (rs:=l) (by simpa using h) hv]
theorem rv (hE:mM E) {out:ρ}:∀(rest:List Oper) (i nid:Nat) (rs:List DR) (K:List DR->Nat->Option ρ),qR E ops aK dsts s0 h0 i rest nid rs K=some out->
  GU E ops aK dsts s0 h0 nid0 rs i nid->nid0<=nid->ops.drop i=rest->∃rs' CY,K rs' CY=some out/\nid0<=CY/\GU E ops aK dsts s0 h0 nid0 rs' (i+rest.length) CY
 |[],i,nid,rs,K,h,F,hn,_=>⟨rs,nid,h,hn,F⟩
 |o::rest,i,nid,rs,K,h,F,hn,hd=>by
  have ho:ops[i]? =some o:=by rw[<-List.head?_drop,hd];rfl
  have hd':ops.drop (i+1)=rest:=by rw[<-List.drop_drop,hd];rfl
  have OR:∀r,(rs++[r]).take i=rs:=λr=>by rw[YU (by rw[F.len];omega),<-F.len,Yj]
  simp only[qR,An]at h;obtain⟨x,hx,h⟩:=h
  have exec:∀t,(∀r,nB aK i o (rs++[r]) t)->t=true->(ED E (oX [] x.1 (fm o.op.operands.toList)) (N6 E aK i ops h0 x o) nid o.op λc=>cond (okW E o.op c) (qR E ops aK dsts s0 h0 (i+1) rest (nid+c.news.length) (rs++[S6 E aK i ops h0 x o nid c]) K) none)=some out->
    ∃rs' CY,K rs' CY=some out/\nid0<=CY/\GU E ops aK dsts s0 h0 nid0 rs' (i+(o::rest).length) CY:=λt hw ht h=>by
   obtain⟨c,hc,hg⟩:∃c,(cond (okW E o.op c) (qR E ops aK dsts s0 h0 (i+1) rest (nid+c.news.length) (rs++[S6 E aK i ops h0 x o nid c]) K) none)=some out/\
     (N5 E h0 x o=false->GO E.P o nid c (oX [] x.1 (fm o.op.operands.toList)) (Mm E aK i ops x o))/\(N5 E h0 x o=true->Tm E.P o nid c (oX [] x.1 (fm o.op.operands.toList)) (yJ h0 (Gy x o))):=by
    unfold N6 at h;cases hL:N5 E h0 x o<;>simp only[hL,cond_true,cond_false]at h
    ·obtain⟨c,hc,hg⟩:=GP hE h;exact⟨c,hc,λ_=>hg,(λe=>nomatch e)⟩
    ·have hL':=hL;unfold N5 at hL';simp only[XB]at hL';obtain⟨c,hc,hg⟩:=Tn hL'.2.1 h;exact⟨c,hc,(λe=>nomatch e),λ_=>hg⟩
   cases hok:okW E o.op c<;>simp only[hok,cond_true,cond_false]at hc
   ·exact nomatch hc
   ·have F':=F.push hn (r:=S6 E aK i ops h0 x o nid c) ho ⟨rfl,hok,x,t,by rw[OR];exact hx,hw _,.inl ⟨ht,rfl,hg.1,hg.2⟩⟩ rfl;have:=rv hE rest (i+1) _ _ K hc F' (by omega) hd';rwa [show i+1+rest.length=i+(o::rest).length from by simp;omega]at this
  have skip:∀t,(∀r,nB aK i o (rs++[r]) t)->t=false->qR E ops aK dsts s0 h0 (i+1) rest nid (rs++[⟨o.dst,nid,{v:=.tup []},[],[],false⟩]) K=some out->
    ∃rs' CY,K rs' CY=some out/\nid0<=CY/\GU E ops aK dsts s0 h0 nid0 rs' (i+(o::rest).length) CY:=λt hw ht h=>by
   have F':=F.push hn (r:=⟨o.dst,nid,{v:=.tup []},[],[],false⟩) ho ⟨rfl,by simp only[okW,isNil,CR.kil,YC];cases nz E o.op<;>rfl,x,t,by rw[OR];exact hx,hw _,.inr ⟨ht,rfl,rfl⟩⟩ rfl;have:=rv hE rest (i+1) _ _ K h F' (by simpa using hn) hd';rwa [show i+1+rest.length=i+(o::rest).length from by simp;omega]at this
  split at h
  ·rename_i hg;exact exec true (λr=>by unfold nB;rw[hg]) rfl h
  ·rename_i g want hg;cases hb:(aK.getD i 0).testBit g<;>simp only[hb,cond_true,cond_false]at h
   ·exact nomatch h
   ·simp only[An]at h;obtain⟨r,hr,d,Tl,h⟩:=h;split at h
    ·rename_i hv
     exact skip false (λr'=>nB.more (by
      unfold nB;rw[hg];exact⟨hb,r,d,hr,Tl,.inr ⟨hv,rfl⟩⟩) r') rfl h
    ·rename_i b hv
     have hw:∀r',nB aK i o (rs++[r']) (b==want):=λr'=>nB.more (by
      unfold nB;rw[hg];exact⟨hb,r,d,hr,Tl,.inl ⟨b,hv,rfl⟩⟩) r'
     cases b<;>simp only[cond_true,cond_false]at h
     ·rw[JD hr hv]at h;cases want<;>simp only[cond_true,cond_false]at h
      ·exact exec _ hw rfl h
      ·exact skip _ hw rfl h
     ·rw[JD hr hv]at h;cases want<;>simp only[cond_true,cond_false]at h
      ·exact skip _ hw rfl h
      ·exact exec _ hw rfl h
    ·exact nomatch h
end
theorem AZ {cm:DR->Bool} {aK:List Nat} {i:Nat} {r:DR}:∀{l:List DR} {k:Nat},Ax cm aK i r k l=true->∀(j:Nat) (b:DR),l[j]? =some b->(aK.getD (k+j) 0).testBit i=true\/tC cm r b=true
 |[],_,_,j,b,hb=>by simp at hb
 |x::l,k,h,j,b,hb=>by
  simp only[Ax]at h
  have hl:Ax cm aK i r (k+1) l=true/\((aK.getD k 0).testBit i=true\/tC cm r x=true):=by
   cases h1:(aK.getD k 0).testBit i<;>simp only[h1,cond_true,cond_false]at h
   ·cases h2:tC cm r x<;>simp only[h2,cond_true,cond_false]at h
    ·exact nomatch h
    ·exact⟨h,.inr rfl⟩
   ·exact⟨h,.inl rfl⟩
  cases j with
  |zero=>simp at hb;subst hb;exact hl.2
  |succ j=>have:=AZ hl.1 j b (by simpa using hb);rwa [show k+1+j=k+(j+1)from by omega]at this
theorem ui {cm:DR->Bool} {aK:List Nat}:∀{l:List DR} {k:Nat},Dn cm aK k l=true->∀(i j:Nat) (a b:DR),i<j->l[i]? =some a->l[j]? =some b->(aK.getD (k+j) 0).testBit (k+i)=true\/tC cm a b=true
 |[],_,_,i,j,a,b,_,ha,_=>by simp at ha
 |x::l,k,h,i,j,a,b,hij,ha,hb=>by
  simp only[Dn]at h;cases h1:Ax cm aK k x (k+1) l<;>simp only[h1,cond_true,cond_false]at h
  ·exact nomatch h
  ·obtain⟨j,rfl⟩:∃j',j=j'+1:=⟨j-1,by omega⟩
   cases i with
   |zero=>
    simp at ha;subst ha;have:=AZ h1 j b (by simpa using hb)
    rwa [show k+1+j=k+(j+1)from by omega]at this
   |succ i=>
    have:=ui h i j a b (by omega) (by simpa using ha) (by simpa using hb);rwa [show k+1+j=k+(j+1)from by omega,show k+1+i=k+(i+1)from by omega]at this
theorem Xh {i:Nat} {l:List Nat}:mem i l=true↔i∈l:=by
 induction l with
 |nil=>simp[mem]
 |cons k l ih=>
  simp only[mem,X3];cases h:Nat.beq k i
  ·have:¬i=k:=λe=>by subst e;simp at h
   simp[ih,this]
  ·have:=On h;simp[this]
theorem DH {n:Nat}:∀{l:List Nat},Ml n l=true->∀i∈l,i+1<=n
 |[],_,i,hi=>by simp at hi
 |x::l,h,i,hi=>by
  simp only[Ml]at h;cases hm:Nat.ble (x+1) n<;>simp only[hm,cond_true,cond_false]at h
  ·exact nomatch h
  ·rcases X3.1 hi with rfl|hi
   ·exact XT hm
   ·exact DH h i hi
theorem sE:∀{ops:List Oper} {j:Nat} {o:Oper} {t:Nat},ops[j]? =some o->o.dst=some t->t∈jS ops
 |[],j,o,t,h,_=>by simp at h
 |x::l,0,o,t,h,hd=>by simp at h;subst h;simp[jS,hd]
 |x::l,j+1,o,t,h,hd=>by
  have:=sE (ops:=l) (by simpa using h) hd;simp only[jS];split<;>simp[this]
theorem DI:∀{ops:List Oper},(jS ops).Nodup->∀{i j:Nat} {a b:Oper} {t:Nat},i≠j->ops[i]? =some a->ops[j]? =some b->a.dst=some t->b.dst≠some t
 |[],_,i,j,a,b,t,_,h,_,_=>by simp at h
 |x::l,hn,i,j,a,b,t,hij,ha,hb,h1=>by
  have hl:(jS l).Nodup:=by
   simp only[jS]at hn;split at hn
   ·exact(YI.1 hn).2
   ·exact hn
  have hx:∀t,x.dst=some t->t∉jS l:=λt ht=>by
   simp only[jS,ht]at hn;exact(YI.1 hn).1
  intro h2
  cases i with
  |zero=>
   simp at ha;subst ha
   cases j with
   |zero=>exact hij rfl
   |succ j=>exact hx t h1 (sE (by simpa using hb) h2)
  |succ i=>
   cases j with
   |zero=>simp at hb;subst hb;exact hx t h2 (sE (by simpa using ha) h1)
   |succ j=>exact DI (i:=i) (j:=j) hl (by omega) (by simpa using ha) (by simpa using hb) h1 h2
theorem Fb {aK:List Nat} {i:Nat}:∀{ops:List Oper} {k j:Nat} {o:Oper} {t:Nat},ops[j]? =some o->o.dst=some t->(aK.getD (k+j) 0).testBit i=false->t∈QN aK i k ops
 |[],k,j,o,t,h,_,_=>by simp at h
 |x::l,k,0,o,t,h,hd,hb=>by simp at h;subst h;simp only[Yd]at hb;simp only[QN,hb,cond_false,hd];exact Yc ..
 |x::l,k,j+1,o,t,h,hd,hb=>by
  have:=Fb (ops:=l) (k:=k+1) (by simpa using h) hd (by rw[show k+1+j=k+(j+1)from by omega];exact hb);simp only[QN];cases(aK.getD k 0).testBit i<;>simp only[cond_true,cond_false]
  ·split<;>simp[this]
  ·exact this
theorem MN {T:List Nat} {s:List (Nat× SV)} {l:List Nat} {t:Nat} {v:SV} (h:look (oX T s l) t=some v):v∈EF s l:=by
 induction l with
 |nil=>exact nomatch h
 |cons k l ih=>
  simp only[oX]at h;simp only[EF];cases hm:mem k T<;>simp only[hm,cond_true,cond_false]at h
  ·cases hl:look s k with
   |none=>rw[hl]at h;exact ih h
   |some u=>
    rw[hl]at h;simp only[aC]at h;by_cases c:k=t
    ·rw[if_pos c]at h;cases h;exact Yc
    ·rw[if_neg c]at h;exact XV _ (ih h)
  ·cases hl:look s k with
   |none=>exact ih h
   |some u=>exact XV _ (ih h)
theorem DJ {k:Nat} {B:Blk}:∀{l:List DR},N4 k B l=true->∀r∈l,look r.c.upd k=none/\mem k r.c.kil.1=false/\B.NM r.c.kil=true
 |[],_,_,h=>nomatch h
 |r::l,h,r',hr=>by
  simp only[N4]at h;cases hc:((look r.c.upd k).isNone&&(!mem k r.c.kil.1&&B.NM r.c.kil))<;>rw[hc]at h<;>simp only[cond_true,cond_false]at h
  ·exact nomatch h
  ·rw[XB,XB,Option.isNone_iff_eq_none,Zz]at hc
   rcases X3.1 hr with rfl|hr
   ·exact hc
   ·exact DJ h r' hr
theorem GV {h:aM} {rs:List DR} {k:Nat}:∀{L:List Nat},VK h rs L=true->mem k L=true->∃B,look h k=some B/\∀r∈rs,look r.c.upd k=none/\mem k r.c.kil.1=false/\B.NM r.c.kil=true
 |[],_,hm=>nomatch hm
 |i::l,hc,hm=>by
  simp only[VK]at hc;split at hc
  ·rename_i B hB;cases h1:N4 i B rs<;>rw[h1]at hc<;>simp only[cond_true,cond_false]at hc
   ·exact nomatch hc
   ·simp only[mem]at hm;cases hb:Nat.beq i k<;>rw[hb]at hm<;>simp only[cond_true,cond_false]at hm
    ·exact GV hc hm
    ·have:=On hb;subst this;exact⟨B,hB,DJ h1⟩
  ·exact nomatch hc
theorem yL:∀{L T:List Nat},Ay L T=true->∀k,mem k L=true->mem k T=false
 |[],_,_,k,hk=>nomatch hk
 |i::l,T,h,k,hk=>by
  simp only[Ay]at h;cases hm:mem i T<;>rw[hm]at h
  ·simp only[mem]at hk;cases hb:Nat.beq i k<;>rw[hb]at hk
   ·exact yL h k hk
   ·rw[<-On hb];exact hm
  ·exact nomatch h
theorem yM {L:List Nat}:∀{rs:List DR},EG L rs=true->∀k,mem k L=true->∀r∈rs,mem k r.c.kil.1=false
 |[],_,_,_,_,hr=>nomatch hr
 |r::l,h,k,hk,r',hr=>by
  simp only[EG]at h;cases hn:Ay L r.c.kil.1<;>rw[hn]at h
  ·exact nomatch h
  ·rcases X3.1 hr with rfl|hr
   ·exact yL hn k hk
   ·exact yM h k hk r' hr
theorem A7 {cm:DR->Bool}:∀{rs:List DR},Dp cm rs=true->∀r∈rs,r.len=true->gw cm r=true
 |[],_,_,hr,_=>nomatch hr
 |r::l,h,r',hr,hl=>by
  simp only[Dp]at h;cases hn:(!r.len||gw cm r)<;>rw[hn]at h
  ·exact nomatch h
  ·rcases X3.1 hr with rfl|hr
   ·rw[hl]at hn;exact hn
   ·exact A7 h r' hr hl
theorem Q6 {T:Kil} {B:Blk} (h:B.NM T=true):B.aP T=some B:=by
 cases B with
 |box cs=>simp only[Blk.aP,j4 cs h]
 |arr sh t xs=>
  cases sh with
  |none=>rfl
  |some d=>simp only[Blk.aP,not_false h,cond_false]
theorem nC {p:Nat->Bool} {k:Nat} {B:Blk}:∀(l:List DR) (j:Nat) (x X:SH),(∀r∈l,look r.c.upd k=none/\mem k r.c.kil.1=false/\B.NM r.c.kil=true)->look x.2 k=some B->replay p j l x=some X->look X.2 k=some B
 |[],_,x,X,_,hx,h=>by cases h;exact hx
 |r::l,j,x,X,hl,hx,h=>by
  simp only[replay]at h;have hl':=λr' hr=>hl r' (XV _ hr);cases hp:p j<;>rw[hp]at h<;>simp only[cond_true,cond_false]at h
  ·exact nC l (j+1) x X hl' hx h
  ·rw[An]at h;obtain⟨y,hy,h⟩:=h;obtain⟨h1,hm,h2⟩:=hl r Yc;refine nC l (j+1) y X hl' ?_ h;rw[zO hy,hm,cond_false,rq _ _ h1,hx,XC,Q6 h2];rfl
theorem mv {T:List Nat} {s:List (Nat× SV)} {l:List Nat} {t:Nat} {v:SV} (h:look (oX T s l) t=some v):t∉T/\look s t=some v:=by
 induction l with
 |nil=>exact nomatch h
 |cons k l ih=>
  simp only[oX]at h;cases hm:mem k T<;>simp only[hm,cond_true,cond_false]at h
  ·cases hl:look s k with
   |none=>rw[hl]at h;exact ih h
   |some u=>
    rw[hl]at h;rw[aC]at h;by_cases e:k=t
    ·subst e;rw[if_pos rfl]at h;cases h;exact⟨λh=>by rw[Xh.2 h]at hm;exact(nomatch hm),hl⟩
    ·rw[if_neg e]at h;exact ih h
  ·exact ih h
theorem A8 {E:Env} {aK:List Nat} {i:Nat}:∀{l:List Oper} {k:Nat},yI E aK i k l=false->∀(j:Nat) (o:Oper),l[j]? =some o->nz E o.op=true->UM aK i (k+j)=true
 |[],_,_,j,o,h,_=>by simp at h
 |x::l,k,h,j,o,ho,hw=>by
  simp only[yI]at h
  have hl:yI E aK i (k+1) l=false/\(nz E x.op=true->UM aK i k=true):=by
   cases h1:nz E x.op<;>simp only[h1,cond_true,cond_false]at h
   ·exact⟨h,λh=>nomatch h⟩
   ·cases h2:UM aK i k<;>simp only[h2,cond_true,cond_false]at h
    ·exact nomatch h
    ·exact⟨h,λ_=>rfl⟩
  cases j with
  |zero=>simp at ho;subst ho;exact hl.2 hw
  |succ j=>have:=A8 hl.1 j o (by simpa using ho) hw;rwa [show k+1+j=k+(j+1)from by omega]at this
end
end Go.Proofs.Ev
