/- The evaluator over the model's code, and that it is sound: part 4. -/
import Derived.Test.YtpiopmjbcadfbaaGreatEvK3
import Derived.Lib.SliceRun
import Derived.Laws.Cover3
import Derived.Orders
set_option linter.unusedVariables false
set_option linter.unusedSimpArgs false
set_option linter.unusedSectionVars false
namespace Go.Proofs.Ev
section
variable [Tok]
section
variable {w:World} {H:aK} {pl:Pl} {P:Program}
theorem qx {t:Ty} {ys:List t.El} {zs:List t.El} {q n i j:Nat} {r:R} (hn:q+n<=ys.length) (hz:zs.length=n) (h:ay t (ys.take q++zs++ys.drop (q+n)) i j r):
  (q<=i/\i<q+n/\ay t zs (i-q) j r)\/(¬(q<=i/\i<q+n)/\ay t ys i j r):=by
 obtain⟨x,hx,hr⟩:=h
 have hl:(ys.take q).length=q:=by rw[RV];omega
 by_cases c:q<=i/\i<q+n
 ·rw[RC,Rh (by omega),hl,Ri (by omega)]at hx;exact .inl ⟨c.1,c.2,x,hx,hr⟩
 ·refine .inr ⟨c,x,?_,hr⟩;by_cases c1:i<q
  ·rw[RC,Ri (by omega),RR,if_pos c1]at hx;exact hx
  ·rw[Rh (by simp[hz];omega),Rv]at hx;rw[<-hx];congr 1;simp[hz];omega
theorem KA {t:Ty} {d:List Nat} {ys:List t.El} {i q num:Nat} {H':aK} {zs:List t.El} {us:List Value} {b m n cap:Nat}
  (hr:cN H pl w) (hl:look H i=some (.arr (some d) t ys)) (hzl:zs.length=num) (hh:pl.hdr i=.slice (some ⟨b,m,none⟩) n cap) (hq:q+num<=ys.length) (hus:us.length=num*t.sz) (hone:∀u∈us,one u=true)
  (hin:∀x j r,ay t zs x j r->∃u,us[x*t.sz+j]? =some u/\jf w (okd H pl d) r u) (hpos0:0<ys.length)
  (hit':hit [i] d=false) (ht:ng H H' ([],[i]) i (.arr (some d) t (ys.take q++zs++ys.drop (q+num)))):
  ∃w',(storeCells ⟨b,m+q*t.sz,none⟩ us).run P w=.ok () w'/\∃fp',cX H H' ([],[i]) pl (pl.set i (pl.hdr i) fp') w w':=by
 obtain⟨⟨a,cap',b',o,vs,fs,hhd,ir,ha,kt,hc,hrr,hd1,hd2,hfp⟩⟩:=(hr.blk i _ hl).OB;rw[hh]at hhd;cases hhd;have hsp:=t.gw
 have hab:b=b'/\m=o:=by
  rcases ha with h|h
  ·omega
  ·cases h;exact⟨rfl,rfl⟩
 obtain⟨rfl,rfl⟩:=hab
 have hpos:q*t.sz+us.length<=cap*t.sz:=by
  have:(q+num)*t.sz<=cap*t.sz:=Rz _ (by omega);rw[RH]at this;omega
 have hcell:∀j,j<us.length->∃u,w.at? (b,m+q*t.sz+j)=some u/\calm (w.eC (b,m+q*t.sz+j))=true:=λj hj=>by
  obtain⟨⟨u,q1⟩,q2⟩:=kt (q*t.sz+j) (by omega);rw[show m+q*t.sz+j=m+(q*t.sz+j)from by omega];exact⟨u,q1,qt q2⟩
 have hst:=run_storeCells_cells (P:=P) b (m+q*t.sz) us 0 w (λj hj=>by
   obtain⟨u,q1,_⟩:=hcell j hj;simp only[RP];have q1:w.cell? ⟨b,m+q*t.sz+j,none⟩=some u:=q1
   rw[q1];rfl) (λj hj=>by
   obtain⟨u,q1,q2⟩:=hcell j hj
   simp only[RP];exact lu q1 q2) (λu hu=>nX (hone u hu))
 simp only[RP]at hst
 have hcellin:∀j,j<us.length->(w.setCells b (m+q*t.sz) us).at? (b,m+q*t.sz+j)=us[j]? :=λj hj=>by
  have:=World.cell?_setCells_in b us (m+q*t.sz) w (λj hj=>by
   obtain⟨u,q1,_⟩:=hcell j hj;have q1:w.cell? ⟨b,m+q*t.sz+j,none⟩=some u:=q1
   rw[q1];rfl) j hj
  rw[On hj];simpa[World.at?]using this
 have hcellout:∀p u,w.at? p=some u->¬(p.1=b/\m+q*t.sz<=p.2/\p.2<m+q*t.sz+us.length)->(w.setCells b (m+q*t.sz) us).at? p=some u:=λp u hp hno=>by
  unfold World.at? at*;rw[World.cell?_setCells_out b _ _ w _ (λe1 _=>by simp at e1;simp;omega)];exact hp
 have hice:∀p,(w.setCells b (m+q*t.sz) us).eC p=w.eC p:=λp=>fZ _ _ _ _ _;have hregin:∀p,reg b m (cap*t.sz) p->pl.fp i p:=λp hp=>(hfp p).2 (.inl hp);have hfsin:∀i' j r p,ay t ys i' j r->fs i' j p->pl.fp i p:=λi' j r p hx hf=>(hfp p).2 (.inr ⟨i',j,r,hx,hf⟩)
 have hmi:mem i [i]=true:=by simp[mem]
 have hylen:(ys.take q++zs++ys.drop (q+num)).length=ys.length:=by simp[hzl];omega
 refine⟨_,hst,λp=>reg b m (cap*t.sz) p\/∃i' j r,ay t ys i' j r/\¬(q<=i'/\i'<q+num)/\fs i' j p,?_⟩;refine jI (dM.setCells _ _ _ _) hr ht (λx hx=>nomatch hx) (λx hx=>?_) (.inr ⟨_,hl,hmi,by simp only[Blk.lW];exact⟨trivial,hylen.symm⟩,rfl⟩) (λp u hp hno=>⟨hcellout p u hp λhin=>?_,hice p⟩) (λp hp=>?_) (λp hp=>?_) λhkp=>?_
 ·refine .inr ?_;simp only[mem]at hx;cases hb:Nat.beq i x
  ·rw[hb]at hx;exact nomatch hx
  ·exact(Re hb).symm
 ·exact hno i _ hmi hl (hregin p ⟨hin.1,by omega,by omega⟩)
 ·refine hr.nb p ?_
  cases hq':w.at? p with
  |none=>rfl
  |some u=>
   by_cases hin:p.1=b/\m+q*t.sz<=p.2/\p.2<m+q*t.sz+us.length
   ·obtain⟨p1,p2⟩:=p;obtain⟨e1,e2,e3⟩:=hin;simp only at e1 e2 e3;subst e1;have:=hcellin (p2-(m+q*t.sz)) (by omega);rw[show m+q*t.sz+(p2-(m+q*t.sz))=p2 from by omega,hp,On (by omega)]at this;exact nomatch this
   ·rw[hcellout p u hq' hin]at hp;exact nomatch hp
 ·rcases hp with hp|⟨i',j,r,hx,_,hf⟩
  ·exact .inr ⟨i,_,hmi,hl,hregin p hp⟩
  ·exact .inr ⟨i,_,hmi,hl,hfsin i' j r p hx hf⟩
 ·have v7:∀{i' j},j<t.sz->¬(q<=i'/\i'<q+num)->¬(m+q*t.sz<=m+(i'*t.sz+j)/\m+(i'*t.sz+j)<m+q*t.sz+us.length):=λ{i' j} hj hne ⟨g1,g2⟩=>by
   rcases Nat.lt_or_ge i' q with h|h
   ·have:(i'+1)*t.sz<=q*t.sz:=Rz _ h;rw[Sy]at this;omega
   ·have h2:q+num<=i':=by omega
    have:(q+num)*t.sz<=i'*t.sz:=Rz _ h2;rw[RH]at this;omega
  refine dX.mN ⟨some ⟨b,m,none⟩,cap,b,m,λi' j=>if q<=i'/\i'<q+num then(us[(i'-q)*t.sz+j]?).getD undef else vs i' j,λi' j p=>¬(q<=i'/\i'<q+num)/\fs i' j p,by rw[hylen];simp[Pl.set,hh],by rw[hylen];exact ir,.inr rfl,λj hj=>⟨?_,by rw[hice];exact(kt j hj).2⟩,λi' j r hx=>?_,λi' j r hx=>?_,λi' j r p hx hf=>?_,λi' j r i2 j2 r2 p hx hx' hf hf'=>?_,λp=>?_⟩
  ·by_cases hin:q*t.sz<=j/\j<q*t.sz+us.length
   ·have:=hcellin (j-q*t.sz) (by omega);rw[show m+q*t.sz+(j-q*t.sz)=m+j from by omega]at this;exact⟨_,this.trans (On (by omega))⟩
   ·obtain⟨u,hu⟩:=(kt j hj).1;exact⟨u,hcellout _ u hu λh=>hin ⟨by have:=h.2.1;simp at this;omega,by have:=h.2.2;simp at this;omega⟩⟩
  ·rcases qx hq hzl hx with⟨g1,g2,g3⟩|⟨g1,g2⟩
   ·rw[if_pos ⟨g1,g2⟩];obtain⟨u,hu,_⟩:=hin _ _ _ g3;have hlt:=(Of.1 hu).1;have:=hcellin _ hlt
    have e:m+q*t.sz+((i'-q)*t.sz+j)=m+(i'*t.sz+j):=by
     have:i'*t.sz=q*t.sz+(i'-q)*t.sz:=by rw[<-RH];congr 1;omega
     omega
    rw[e]at this;rw[this,hu];rfl
   ·rw[if_neg g1];exact hcellout _ _ (hc _ _ _ g2) λh=>v7 (aN g2).2 g1 ⟨h.2.1,h.2.2⟩
  ·rcases qx hq hzl hx with⟨g1,g2,g3⟩|⟨g1,g2⟩
   ·rw[if_pos ⟨g1,g2⟩];obtain⟨u,hu,hI⟩:=hin _ _ _ g3;rw[hu,SG];have hno:∀p,¬(¬(q<=i'/\i'<q+num)/\fs i' j p):=λp hf=>hf.1 ⟨g1,g2⟩;rw[hh];exact⟨hI.frame λp u hp hu=>(hh▸hkp).k2 d p u (λx hx=>fB _ d hit' x hx) hp hu,hno⟩
   ·simp only[if_neg g1];have hI:=hrr _ _ _ g2;rw[hh];exact⟨hI.1.frame λp u hp hu=>(hh▸hkp).k2 d p u (λx hx=>fB _ d hit' x hx) hp hu,λp hf=>hI.2 p hf.2⟩
  ·rcases qx hq hzl hx with⟨g1,g2,g3⟩|⟨g1,g2⟩
   ·exact(hf.1 ⟨g1,g2⟩).elim
   ·exact hd1 _ _ _ p g2 hf.2
  ·rcases qx hq hzl hx with⟨g1,g2,g3⟩|⟨g1,g2⟩
   ·exact(hf.1 ⟨g1,g2⟩).elim
   ·rcases qx hq hzl hx' with⟨q1,q2,q3⟩|⟨q1,q2⟩
    ·exact(hf'.1 ⟨q1,q2⟩).elim
    ·exact hd2 _ _ _ _ _ _ p g2 q2 hf.2 hf'.2
  ·simp only[Pl.set,if_true];constructor
   ·rintro (h|⟨i',j,r,hx,hne,hf⟩)
    ·exact .inl h
    ·have hlt:=aN hx;obtain⟨r',hr'⟩:=dx (t:=t) (xs:=ys.take q++zs++ys.drop (q+num)) (i:=i') (j:=j) (by rw[hylen];exact hlt.1) hlt.2;exact .inr ⟨i',j,r',hr',hne,hf⟩
   ·rintro (h|⟨i',j,r,hx,hf⟩)
    ·exact .inl h
    ·rcases qx hq hzl hx with⟨g1,g2,g3⟩|⟨g1,g2⟩
     ·exact(hf.1 ⟨g1,g2⟩).elim
     ·exact .inr ⟨_,_,_,g2,hf⟩
theorem KB {i:Nat}:∀{d:List Nat},mem i d=false->hit [i] d=false
 |[],_=>rfl
 |k::l,h=>by
  simp only[mem]at h;cases hb:Nat.beq k i
  ·rw[hb,cond_false]at h
   have:mem k [i]=false:=by
    simp only[mem];cases hc:Nat.beq i k
    ·rfl
    ·have:=Re hc;subst this;simp at hb
   simp only[hit,this,cond_false];exact KB h
  ·rw[hb]at h;exact nomatch h
theorem MM {o:Oper} {a:Act} {s:List (Nat× SV)} {n:Nat} {args:Array Operand} {tys:Array TypeId} {T e:TypeId} {sz:Nat} {t:Ty} {z:List SV} {d:List Nat} {xs:List t.El} {i q off num:Nat}
  (hr:cN H pl w) (hs:gB w H pl s a) (ho:o.op=.call {callee:=.builtin .append,args:=args,argTypes:=tys}) (hvs:rM s args.toList=some [.sub i 0 q,.sub i off num]) (hty:tys.toList=[T,T])
  (he:lU P T=some e) (hsz:iX P e=some sz) (hts:t.sz=sz) (hz:gx P e=some z) (hl:look H i=some (.arr (some d) t xs)) (hd:mem i d=false) (hq:q+num<=xs.length) (hoff:off+num<=xs.length) (hpos:1<=xs.length):
  kv P o a w H pl n {v:=.sub i 0 (q+num),upd:=[(i,.arr (some d) t (xs.take q++(xs.drop off).take num++xs.drop (q+num)))],lq:=[i]}:=by
 refine⟨λj B h=>?_,λH' next Q ha hN=>?_⟩
 ·rw[az]at h;by_cases e:i=j
  ·subst e;exact⟨_,hl⟩
  ·rw[if_neg e]at h;simp[look]at h
 obtain⟨ht,_⟩:=sO (c:={v:=.sub i 0 (q+num),upd:=[(i,.arr (some d) t (xs.take q++(xs.drop off).take num++xs.drop (q+num)))],lq:=[i]}) hl rfl rfl rfl ha;obtain⟨p,p',hpq,hp,hp'⟩:=qu hvs;have hpr:=aU hs hp;have hpr':=aU hs hp'
 have hargs:args.map a.eval=#[a.eval p,a.eval p']:=by rw[show args=#[p,p']from SZ hpq];simp
 have hta:tys=#[T,T]:=SZ hty
 obtain⟨ti,hti,rfl⟩:=ld hsz;obtain⟨zu,hzu,hzc⟩:=ji hr hti hz;obtain⟨R⟩:=hr.blk i _ hl;have ir:=R.ir;have hA:R.a=some ⟨R.b,R.o,none⟩:=R.ha.resolve_left (by omega)
 have hhd:pl.hdr i=.slice (some ⟨R.b,R.o,none⟩) xs.length R.cap:=by rw[<-hA];exact R.xj
 have e1:a.eval p=.slice (some ⟨R.b,R.o,none⟩) q R.cap:=by
  generalize a.eval p=u at hpr
  cases hpr with
  |sub _ _ _ sh2 t2 xs2 a1 a2 cap1 cap2 hl2 hh2 hn1 hc hc' ha2=>
   rw[hl]at hl2;cases hl2;rw[hhd]at hh2;cases hh2
   have hcc:cap2=R.cap:=by omega
   subst hcc
   rcases ha2 with h|h
   ·omega
   ·rw[h];simp[Addr.add]
 obtain⟨A3,cap3,e2,hc3,hA3⟩:∃A3 cap3,a.eval p'=.slice A3 num cap3/\num<=cap3/\(num=0\/A3=some ⟨R.b,R.o+off*t.sz,none⟩):=by
  generalize a.eval p'=u at hpr'
  cases hpr' with
  |sub _ _ _ sh2 t2 xs2 a1 a2 cap1 cap2 hl2 hh2 hn1 hc hc' ha2=>
   rw[hl]at hl2;cases hl2;rw[hhd]at hh2;cases hh2;refine⟨a2,cap2,rfl,hc,?_⟩
   rcases ha2 with h|h
   ·exact .inl (by omega)
   ·exact .inr (by rw[h];simp[sL])
 have hsp:=t.gw
 have hback:∀k,k<num*t.sz->∃r,ay t xs (off+k/t.sz) (k %t.sz) r:=λk hk=>by
  have:k/t.sz<num:=by rw[Td hsp];exact hk
  exact dx (by omega) (TK _ hsp)
 have hus:((List.range (num*t.sz)).map λk=>R.vs (off+k/t.sz) (k %t.sz)).length=num*t.sz:=by simp
 generalize husd:(List.range (num*t.sz)).map (λk=>R.vs (off+k/t.sz) (k %t.sz))=us at hus
 have hget:∀k,k<num*t.sz->us[k]? =some (R.vs (off+k/t.sz) (k %t.sz)):=λk hk=>by rw[<-husd,iA hk]
 have hcell:∀k,k<num*t.sz->w.at? (R.b,R.o+(off*t.sz+k))=some (R.vs (off+k/t.sz) (k %t.sz)):=λk hk=>by
  obtain⟨r,hx⟩:=hback k hk;have:=R.hc _ _ _ hx;rw[RH,Sf,show k/t.sz*t.sz+k %t.sz=k from by rw[RQ];exact Tc _ _]at this;exact this
 obtain⟨w',hst,fp',hstep⟩:=KA (P:=P) (zs:=(xs.drop off).take num) (us:=us) hr hl (by rw[RV,Sp];omega) hhd hq hus (λu hu=>by
   obtain⟨k,hk⟩:=R9 hu
   have hkl:k<num*t.sz:=by rw[<-hus];exact(Of.1 hk).1
   rw[hget k hkl]at hk;cases hk;obtain⟨r,hx⟩:=hback k hkl
   exact(R.hr _ _ _ hx).1.rv) (λx j r hx=>by
   obtain⟨y,hy,hyr⟩:=hx
   have hxl:x<num:=by have:=(Of.1 hy).1;rw[RV]at this;omega
   have hjl:j<t.sz:=by have:=(Of.1 hyr).1;rwa [Ty.cp]at this
   rw[RR,if_pos hxl,Rv]at hy;have hx':ay t xs (off+x) j r:=⟨y,hy,hyr⟩;refine⟨R.vs (off+x) j,?_,(R.hr _ _ _ hx').1⟩;have hlt:x*t.sz+j<num*t.sz:=pn hxl hjl (Rw _);rw[hget _ hlt]
   have g1:(x*t.sz+j)/t.sz=x:=by rw[RQ,SL hsp,Sr hjl];simp
   have g2:(x*t.sz+j) %t.sz=j:=by rw[RQ,Sj,RY hjl]
   rw[g1,g2]) hpos (KB hd) ht
 have hfc:(Builtin.firstCells ti.size num (.slice A3 num cap3)).run P w=.ok us.toArray w:=by
  rw[<-hts]
  rcases hA3 with h0|hA3
  ·subst h0;have hn':us=[]:=R6.1 (by simpa using hus);subst hn'
   cases A3 with
   |none=>exact run_firstCells_none w _ _ _ _
   |some A=>exact run_firstCells_some w t.sz 0 A 0 cap3 [] (by simp) (λj v hv=>by simp at hv)
  ·subst hA3;refine run_firstCells_some w t.sz num _ num cap3 us hus λj v hv=>?_
   have hj:j<num*t.sz:=by rw[<-hus];exact(Of.1 hv).1
   rw[hget j hj]at hv;cases hv;have:=hcell j hj;rw[Addr.add_lit,Sf];exact this
 have hrun:(Builtin.append_ #[T,T] o.type #[.slice (some ⟨R.b,R.o,none⟩) q R.cap,.slice A3 num cap3]).run P w=.ok (.slice (some ⟨R.b,R.o,none⟩) (q+num) R.cap) w':=by
  have hroom:q+num<=R.cap:=by omega
  rw[hts]at hst;simp[Builtin.append_,run_underlying (lb he),sizeOf,typeInfo,hti,Builtin.lenOf,hroom,hfc,Addr.add_lit,hst]
 refine mM (u:=.slice (some ⟨R.b,R.o,none⟩) (q+num) R.cap) (w':=w') ?_ (hN _ _ w' hstep ?_)
 ·rw[execOp,ho,hta];simp only[resolve,hargs,invoke,builtin,Sem.run_bind,Sem.run_pure,Result.andThen_ok,e1,e2,hrun]
 ·refine .sub i 0 (q+num) (some d) t _ (some ⟨R.b,R.o,none⟩) _ R.cap R.cap ht.P5 (by simp[Pl.set,hhd,Ro];omega) (by simp;omega) (by omega) (by omega) (.inr (by simp[Addr.add]))
end
end
section
variable [Tok]
section
variable {w:World} {H:aK} {pl:Pl} {P:Program}
def mark (w:World) (b n:Nat):World:=w.freeze ⟨b,n,none⟩ 1
def KC (n:Nat) (fr:Nat× Nat):Nat× Nat:=if fr.1==fr.2 then(n,n+1)else(min fr.1 n,max fr.2 (n+1))
theorem uD {b n:Nat} {c:Array Value} {e:TypeId} {fr:Nat× Nat} (h:w.heap[b]? =some (.cells c e fr)):(mark w b n).heap[b]? =some (.cells c e (KC n fr)):=by
 unfold mark World.freeze KC;rw[if_neg (by decide)];simp only[Array.getElem?_modify,if_true,h];rfl
theorem uE {b n i:Nat} (h:i≠b):(mark w b n).heap[i]? =w.heap[i]? :=by
 unfold mark World.freeze;rw[if_neg (by decide)];simp only[Array.getElem?_modify];rw[if_neg (λe:b=i=>h e.symm)]
theorem KE {b n:Nat} {c:Array Value} {e:TypeId} {fr:Nat× Nat} (h:w.heap[b]? =some (.cells c e fr)) (p:Cell):(mark w b n).at? p=w.at? p:=by
 unfold World.at? World.cell?;by_cases q:p.1=b
 ·simp only[q,h,uD h]
 ·simp only[uE q]
theorem mO {b n:Nat} {p:Cell} (h:p.1≠b):(mark w b n).eC p=w.eC p:=by
 unfold World.eC;rw[uE h]
theorem Hz {b n j o m:Nat} {c:Array Value} {e:TypeId} {fr:Nat× Nat} (h:w.heap[b]? =some (.cells c e fr)) (hn:n=c.size) (hw:whole (w.eC (b,j)) o m=true):whole ((mark w b n).eC (b,j)) o m=true:=by
 unfold World.eC at*;simp only[h]at hw;simp only[uD h];unfold whole calm at*;simp only[Rf,decide_eq_true_eq]at*;refine⟨?_,hw.2⟩;unfold KC;obtain⟨lo,hi⟩:=fr;simp only at hw⊢;by_cases q:lo=hi
 ·subst q;simp;omega
 ·have:(lo==hi)=false:=by simpa using q
  rw[this];simp only[SE,if_false];omega
theorem B9 {b j:Nat} {u:Value} (h:w.at? (b,j)=some u):∃c e fr,w.heap[b]? =some (.cells c e fr)/\j<c.size:=by
 unfold World.at? World.cell? at h
 cases hb:w.heap[b]? with
 |none=>simp[hb]at h
 |some ob=>
  cases ob with
  |cells c e fr=>
   simp only[hb,Sg,SE,if_false]at h
   exact⟨c,e,fr,rfl,(RE.1 h).1⟩
  |_=>simp[hb]at h
theorem KF {i b n cap:Nat} {sh:Option (List Nat)} {t:Ty} {xs:List t.El} {a:Option Addr} {o:Nat} {c:Array Value} {e:TypeId} {fr:Nat× Nat} (hr:cN H pl w) (hl:look H i=some (.arr sh t xs))
  (hb:w.heap[b]? =some (.cells c e fr)) (hc0:0<c.size) (hn:n=c.size) (hin:∀j,j<c.size->pl.fp i (b,j)) (hsz:c.size=cap*t.sz) (hrow:dX (mark w b n) H pl i (.arr sh t xs)):
  cX H H ([],[]) pl pl w (mark w b n):=by
 have hat:=λp=>KE (n:=n) hb p
 have hmine:∀p u,w.at? p=some u->p.1=b->pl.fp i p:=λp u hp q=>by
  obtain⟨p1,p2⟩:=p;simp only at q;subst q;obtain⟨c',e',fr',h1,h2⟩:=B9 hp;rw[hb]at h1;cases h1;exact hin p2 h2
 have hk:lx ([],[]) w H pl (mark w b n) H pl:=⟨λj B hB _=>⟨B,hB,B.dk,rfl⟩,λd p u _ ho hp=>⟨ho,(hat p).trans hp⟩⟩;refine⟨⟨λj B hB=>?_,hr.dis,hr.ob,λp hp=>hr.nb p ((hat p).symm.trans hp)⟩,hk,rfl,⟨rfl,rfl,λk hk'=>?_⟩,λp u hp hno=>⟨hno,(hat p).trans hp,mO λq=>hno i _ hl (hmine p u hp q)⟩⟩
 ·by_cases q:j=i
  ·subst q;rw[hl]at hB;cases hB;exact hrow
  ·refine(hr.blk j B hB).bP hk rfl (λ_=>T8) (λp u hf hu=>⟨(hat p).trans hu,mO λq'=>q (hr.dis j i B _ p hB hl hf (hmine p u hu q'))⟩) B.dm
 ·by_cases q:k=b
  ·subst q;rw[hb,uD hb];exact⟨rfl,.inr hc0,rfl⟩
  ·rw[uE q];split
   ·rename_i e1 e2;rw[e1]at e2;cases e2;exact⟨rfl,.inl rfl,rfl⟩
   ·rfl
theorem MN {o:Oper} {a:Act} {T:TypeId} {x:Operand} {m i:Nat} {sh:Option (List Nat)} {t:Ty} {y:t.El} {ys:List t.El} (hr:cN H pl w) (ho:o.op=.convert T T x) (hT:vy P T=true)
  (hl:look H i=some (.arr sh t (y::ys))) (hx:aq w H pl (.own i) (a.eval x)):kv P o a w H pl m {v:=.own i}:=by
 have ha:a.eval x=pl.hdr i:=by generalize a.eval x=u at hx;cases hx;rfl
 unfold vy lU at hT;split at hT
 ·rename_i e he;split at he
  ·rename_i e' hu;cases he;split at hT
   ·rename_i he8;have hrow:=hr.blk i _ hl
    obtain⟨ad,cap,b,o',hh,hlen,hadr,kt⟩:∃ad cap b o',pl.hdr i=.slice ad (y::ys).length cap/\(y::ys).length<=cap/\(cap=0\/ad=some ⟨b,o',none⟩)/\
      (∀j,j<cap*t.sz->(∃v,w.at? (b,o'+j)=some v)/\whole (w.eC (b,o'+j)) o' (cap*t.sz)=true/\pl.fp i (b,o'+j)):=by
     cases sh with
     |none=>obtain⟨⟨ad,cap,b,o',vs,fs,q1,q2,q3,q4,q5,q6,q7,q8,q9⟩⟩:=hrow;exact⟨ad,cap,b,o',q1,q2,q3,λj hj=>⟨(q4 j hj).1,(q4 j hj).2,(q9 _).2 (.inl ⟨rfl,by simp,by simp;omega⟩)⟩⟩
     |some d=>obtain⟨⟨ad,cap,b,o',vs,fs,q1,q2,q3,q4,q5,q6,q7,q8,q9⟩⟩:=hrow;exact⟨ad,cap,b,o',q1,q2,q3,λj hj=>⟨(q4 j hj).1,(q4 j hj).2,(q9 _).2 (.inl ⟨rfl,by simp,by simp;omega⟩)⟩⟩
    have ir:0<cap:=by simp at hlen;omega
    have hpos:0<cap*t.sz:=Nat.mul_pos ir (Ty.gw t);obtain⟨⟨v0,hv0⟩,hw0,_⟩:=kt 0 hpos;obtain⟨c,ee,fr,hb,hc0⟩:=B9 hv0
    have ho0:o'=0/\c.size=cap*t.sz:=by
     unfold whole World.eC at hw0;simp only[hb,Rf,decide_eq_true_eq]at hw0;exact hw0.2
    obtain⟨rfl,hsz⟩:=ho0;have hadr:=hadr.resolve_left (by omega);subst hadr
    have hin:∀j,j<c.size->pl.fp i (b,j):=λj hj=>by
     have:=(kt j (by omega)).2.2;rwa [Rr]at this
    have hshape:w.shape? b=some (ee,c.size):=by unfold World.shape?;rw[hb]
    have hrun:(execOp a.eval o).run P w=.ok (.value (a.eval x)) (mark w b c.size):=by
     rw[execOp,ho,ha,hh];simp[ha,hh,convert,run_underlying hu,run_underlying he8,markStringish,hshape,mark]
    have hat:=λp=>KE (n:=c.size) hb p;have hk:lx ([],[]) w H pl (mark w b c.size) H pl:=⟨λj B hB _=>⟨B,hB,B.dk,rfl⟩,λd p u _ ho hp=>⟨ho,(hat p).trans hp⟩⟩
    have hnb:∀p,reg b 0 (cap*t.sz) p\/p.1≠b\/w.at? p=none:=λp=>by
     by_cases q:p.1=b
     ·cases hp:w.at? p with
      |none=>exact .inr (.inr rfl)
      |some u=>
       obtain⟨p1,p2⟩:=p;simp only at q;subst q;obtain⟨c',e',fr',h1,h2⟩:=B9 hp;rw[hb]at h1;cases h1;exact .inl ⟨rfl,RO _,by simp only;omega⟩
     ·exact .inr (.inl q)
    have hblk:dX (mark w b c.size) H pl i (.arr sh t (y::ys)):=by
     cases sh with
     |none=>
      obtain⟨⟨ad,cap',b',o',vs,fs,q1,q2,q3,q4,q5,q6,q7,q8,q9⟩⟩:=hrow;rw[hh]at q1;cases q1;have q3:=q3.resolve_left (by omega);cases q3;refine⟨⟨_,cap,b,0,vs,fs,hh,q2,.inr rfl,λj hj=>⟨?_,Hz hb rfl (q4 j hj).2⟩,λi' j r h=>(hat _).trans (q5 i' j r h),λi' j r h=>(q6 i' j r h).frame λp u hp hu=>⟨(hat p).trans hu,mO λq=>?_⟩,q7,q8,q9⟩⟩
      ·obtain⟨⟨v,hv⟩,_⟩:=q4 j hj;exact⟨v,(hat _).trans hv⟩
      ·rcases hnb p with h1|h1|h1
       ·exact q7 _ _ _ p h hp h1
       ·exact h1 q
       ·rw[hu]at h1;exact nomatch h1
     |some d=>
      obtain⟨⟨ad,cap',b',o',vs,fs,q1,q2,q3,q4,q5,q6,q7,q8,q9⟩⟩:=hrow;rw[hh]at q1;cases q1;have q3:=q3.resolve_left (by omega);cases q3;refine⟨⟨_,cap,b,0,vs,fs,hh,q2,.inr rfl,λj hj=>⟨?_,Hz hb rfl (q4 j hj).2⟩,λi' j r h=>(hat _).trans (q5 i' j r h),λi' j r h=>⟨(q6 i' j r h).1.frame λp u hp hu=>⟨hp,(hat p).trans hu⟩,(q6 i' j r h).2⟩,q7,q8,q9⟩⟩;obtain⟨⟨v,hv⟩,_⟩:=q4 j hj;exact⟨v,(hat _).trans hv⟩
    refine⟨λj B h=>by simp[look]at h,λH' next Q ha' hN=>?_⟩;cases ha'
    have hH:rD [] H++aO m []=H:=by simp[rD,aO]
    simp only[hH]at hN;have hst:=KF (n:=c.size) hr hl hb hc0 rfl hin hsz hblk (a:=some ⟨b,0,none⟩) (o:=0);exact mM hrun (hN _ pl _ hst (hx.v5 hk))
   ·exact nomatch hT
  ·exact nomatch he
 ·exact nomatch hT
end
end
section
variable [Tok]
def HA (P:Program) (g:FuncId):Prop:=∀(args:Array Value) (w:World),(callFunc g args).run P w=.ok (.enter g args) w
theorem DH {P:Program} {g:FuncId} {fn:Func} (h:P.funcs[g]? =some fn) (hb:fn.body.isNone=false) (hn:(fn.name== "runtime.NumGoroutine")=false):HA P g:=by
 intro args w
 have hn':¬fn.name= "runtime.NumGoroutine":=by simpa using hn
 have hb':¬fn.body=none:=λe=>by rw[e]at hb;exact nomatch hb
 simp[callFunc,h,hb',hn']
def KG (P:Program) (g:FuncId) (nid:Nat) (vs:List SV) (H:aK) (c:CR):Prop:=
 HA P g/\(∀i B,look c.upd i=some B->∃B',look H i=some B')/\
 ∀(H1:aK) (pl:Pl) (w:World) (us:Array Value),Ext H H1->cN H1 pl w->(∀k,k<c.news.length->look H1 (nid+k)=none)->vs.length=us.size->
  (∀(j:Nat) (x:SV) (u:Value),vs[j]? =some x->us[j]? =some u->aq w H1 pl x u)->∀H',after H1 nid c=some H'->
  Calls P g us w λe w'=>∃u pl',e=.returned u/\cX H1 H' c.kil pl pl' w w'/\aq w' H' pl' c.v u
def ry (P:Program) (g:FuncId) (o:Orc):Prop:=
 ∀(ρ:Type) nid vs H (K:CR->Option ρ) (out:ρ),o ρ nid vs H K=some out->∃c,K c=some out/\KG P g nid vs H c
theorem MO (P:Program) (g:FuncId):ry P g PM:=λ_ _ _ _ _ _ h=>nomatch h
def fR (E:Env):Prop:=∀g,ry E.P g (E.orc g)
section
variable {w:World} {H:aK} {pl:Pl} {P:Program}
theorem MP {o:Oper} {a:Act} {s:List (Nat× SV)} {f:Operand} {args:Array Operand} {tys:Array TypeId} {g:FuncId} {first vs cap:List SV} {n:Nat} {c:CR} {H0:aK}
  (he:Ext H0 H) (hr:cN H pl w) (hs:gB w H pl s a) (hn:∀k,k<c.news.length->look H (n+k)=none) (ho:o.op=.call {callee:=.value f,args:=args,argTypes:=tys})
  (hf:opd s f=some (.fn (.func g) first cap)) (hv:rM s args.toList=some vs) (hc:KG P g n (first++vs++cap) H0 c):kv P o a w H pl n c:=by
 obtain⟨hen,hup,hcall⟩:=hc;refine⟨λi B hB=>(hup i B hB).imp λB' h=>he i B' h,λH' next Q ha hN=>?_⟩;have hfr:=aU hs hf;obtain⟨g1,g2⟩:=BT hs hv;generalize hfe:a.eval f=fe at hfr
 cases hfr with
 |fn _ _ _ us vs' hl h1 hl' h2=>
  have hlen:(first++vs++cap).length=(us++args.map a.eval++vs').size:=by simp only[Ro,Array.size_append,hl,hl',g1]
  have hpt:∀(j:Nat) (x:SV) (u:Value),(first++vs++cap)[j]? =some x->(us++args.map a.eval++vs')[j]? =some u->aq w H pl x u:=λj x u hx hu=>by
   by_cases c1:j<first.length
   ·rw[RC,Ri c1]at hx;rw[S2,Sd (by omega)]at hu;exact h1 j x u hx hu
   ·by_cases c2:j<first.length+vs.length
    ·rw[RC,Rh (by omega),Ri (by omega)]at hx;rw[S2,S0 (by omega),Sd (by omega)]at hu;rw[<-hl]at hu;exact g2 _ x u hx hu
    ·rw[RC,Rh (by omega),Rh (by omega)]at hx;rw[S2,S0 (by omega),S0 (by omega)]at hu;rw[<-hl,<-g1]at hu;exact h2 _ x u hx hu
  have hcl:=hcall H pl w _ he hr hn hlen hpt H' ha;unfold Oper.wp
  have hrun:(execOp a.eval o).run P w=.ok (.enter g (us++args.map a.eval++vs')) w:=by
   rw[execOp,ho];simp only[resolve,hfe,Deferred.ofValue,invoke,Sem.run_bind,Sem.run_pure,Result.andThen_ok];exact hen _ w
  rw[hrun];show Calls P g _ w _;refine hcl.mono λe w' ⟨u,pl',he,hst,hv⟩=>?_;subst he;exact hN u pl' w' hst hv
variable {ρ:Type}
def DI (P:Program) (o:Oper) (n:Nat) (c:CR) (s:List (Nat× SV)) (h:aK):Prop:=
 ∀(s':List (Nat× SV)) (H:aK) (a:Act) (w:World) (pl:Pl),Ext s s'->Ext h H->cN H pl w->gB w H pl s' a->(∀k,k<c.news.length->look H (n+k)=none)->kv P o a w H pl n c
theorem Ca {H:aK} {n:Nat} {B:Blk} (h:∀k,k<[B].length->look H (n+k)=none):look H n=none:=h 0 (by simp)
theorem OE (hr:cN H pl w) {o:Oper} {a:Act} {T:TypeId} {p:Operand} {n i x k:Nat} {t:Ty} {xs:List t.El} (ho:o.op=.load T p) (hT:Hg P T=true)
  (hl:look H i=some (.arr none t xs)) (hk:k<t.sz) (hp:aq w H pl (.ptr i x k) (a.eval p)):kv P o a w H pl n {v:=.inn i x k}:=by
 generalize he:a.eval p=u at hp
 cases hp with
 |uq _ _ cs b m hl' hh=>rw[hl]at hl';exact nomatch hl'
 |sD _ _ _ sh t' xs' b m nn cap hl' hx hh=>
  rw[hl]at hl';cases hl';obtain⟨⟨a',cap',b',o',vs,fs,h1,h2,h3,h4,h5,h6,h7,h8,h9⟩⟩:=hr.blk i _ hl;rw[hh]at h1;cases h1;have h3:=h3.resolve_left (by omega);cases h3;obtain⟨r,hcell⟩:=dx hx hk;have hat:=h5 x k r hcell;have hone:one (vs x k)=true:=((h6 _ _ _ hcell).Mp (ok:=λ_=>True) (λ_ _=>trivial)).rv;have hfp:pl.fp i (b,m+(x*t.sz+k)):=(h9 _).2 (.inl ⟨rfl,by simp,by have:=pn hx hk h2;simp;omega⟩);obtain⟨el,_,hu,_⟩:=BP hT;refine nd (u:=vs x k) hr ?_ (.inn i x k none t xs b m _ _ _ hl hx hk hh ⟨hr.ob i _ _ hl hfp,λj B hB hm hf=>?_⟩ hat hone)
  ·rw[execOp,ho];refine en ?_;rw[Instr.loadAt,he];have hat:w.cell? ⟨b,m+(x*t.sz+k),none⟩=some (vs x k):=hat
   have h1:(loadVar T ⟨b,m+(x*t.sz+k),none⟩).run P w=.ok (vs x k) w:=by simp[loadVar,k9 hu,xe,hu,hat]
   exact h1
  ·have:=hr.dis j i _ _ _ hB hl hf hfp;subst this;rw[hl]at hB;cases hB;have:=hm (by simp[mem]);exact nomatch this
theorem FV {E:Env} {o:Oper} {s:List (Nat× SV)} {h0:aK} {n:Nat} {K:CR->Option ρ} {out:ρ} {args:Array Operand} {tys:Array TypeId} {b x:SV} {T T' e:TypeId} {sz:Nat} {t:Ty}
  (ho:o.op=.call {callee:=.builtin .append,args:=args,argTypes:=tys}) (hvs:rM s args.toList=some [b,x]) (hty:tys.toList=[T,T']) (he:lU E.P T=some e) (hsz:iX E.P e=some sz)
  (h:Fz E h0 n e sz t T' b x K=some out):∃c,K c=some out/\DI E.P o n c s h0:=by
 unfold Fz at h;split at h
 ·cases hb:(PT E.P T'&&(pj E.P e&&Nat.beq t.sz sz))<;>simp only[hb,cond_true,cond_false,An]at h
  ·exact nomatch h
  simp only[Rf]at hb;obtain⟨l,hl,z,hz,q,hq,h⟩:=h;cases hi:(isNil q.1&&Nat.beq z.length sz)<;>simp only[hi,cond_true,cond_false]at h
  ·exact nomatch h
  simp only[Rf]at hi;split at h
  ·rename_i y hy;cases hd:decide (1<=l/\l<=(aT:Int))<;>simp only[hd,cond_true,cond_false]at h
   ·exact nomatch h
   have hd:=of_decide_eq_true hd
   have hq':iZ h0 t 1 z=some ([],[y]):=by rw[hq];obtain⟨q1,q2⟩:=q;simp only at hy hi;rw[hy,ek hi.1]
   exact⟨_,h,λs' H a w pl es eh hr hs hn=>zP hr hs (Ca hn) ho (je es _ _ hvs) hty hl hb.1 he hsz hb.2.1 (Re hb.2.2) hz (Re hi.2) (lr eh _ _ _ _ hq') hd⟩
  ·exact nomatch h
 ·exact nomatch h
theorem FW {P:Program} {o:Oper} {s:List (Nat× SV)} {h0:aK} {n:Nat} {K:CR->Option ρ} {out:ρ} {args:Array Operand} {tys:Array TypeId} {b x:SV} {T e:TypeId} {sz:Nat} {t:Ty} {z:List SV}
  (ho:o.op=.call {callee:=.builtin .append,args:=args,argTypes:=tys}) (hvs:rM s args.toList=some [b,x]) (hty:tys.toList=[T,T]) (he:lU P T=some e) (hsz:iX P e=some sz) (hts:t.sz=sz) (hz:gx P e=some z)
  (h:FA h0 t b x K=some out):∃c,K c=some out/\DI P o n c s h0:=by
 unfold FA at h;split at h
 ·rename_i i a i' off num;cases hi:Nat.beq i i'<;>simp only[hi,cond_true,cond_false]at h
  ·exact nomatch h
  have:=Re hi;subst this;split at h
  ·rename_i d t' xs hl;split at h
   ·rename_i htt;subst htt;cases hm:mem i d<;>simp only[hm,cond_true,cond_false]at h
    rotate_left
    ·exact nomatch h
    cases hb:(Nat.ble (a+num) xs.length&&(Nat.ble (off+num) xs.length&&Nat.ble 1 xs.length))<;>simp only[hb,cond_true,cond_false]at h
    ·exact nomatch h
    simp only[Rf]at hb;exact⟨_,h,λs' H a w pl es eh hr hs hn=>MM hr hs ho (je es _ _ hvs) hty he hsz hts hz (eh _ _ hl) hm (Ru hb.1) (Ru hb.2.1) (Ru hb.2.2)⟩
   ·exact nomatch h
  ·exact nomatch h
 ·exact nomatch h
theorem DJ {E:Env} (hE:fR E) {o:Oper} {s:List (Nat× SV)} {h0:aK} {n:Nat} {K:CR->Option ρ} {out:ρ}
  (h:BH E s h0 n o.op K=some out):∃c,K c=some out/\DI E.P o n c s h0:=by
 unfold BH at h;split at h
 ·rename_i T ho;simp only[An]at h;obtain⟨z,hz,h⟩:=h;exact⟨_,h,λs' H a w pl es eh hr hs hn=>Kr hr (Ca hn) ho hz⟩
 ·rename_i T x ho;simp only[An]at h;obtain⟨v,hv,cs,hcs,h⟩:=h;exact⟨_,h,λs' H a w pl es eh hr hs hn=>Oz hr (Ca hn) ho (aU hs (cZ es _ _ hv)) hcs⟩
 ·rename_i T k parts ho;simp only[An]at h;obtain⟨e,he,sz,hsz,ps,hps,z,hz,h⟩:=h;cases hb:(Nat.ble (k*sz) 16777216&&Nat.beq z.length sz)<;>simp only[hb,cond_true,cond_false,An]at h
  ·exact nomatch h
  obtain⟨cs,hcs,h⟩:=h;simp only[Rf]at hb;have h1:=Ru hb.1;have h2:=Re hb.2
  have bx:K {v:=.bsl n k,news:=[.box cs]}=some out->∃c,K c=some out/\DI E.P o n c s h0:=λh=>
   ⟨_,h,λs' H a w pl es eh hr hs hn=>zR hr hs (Ca hn) ho he hsz (pk es _ _ hps) hz h2 h1 hcs⟩
  split at h
  ·exact bx h
  ·rename_i t ht;cases hc:((ph t||Nat.beq k 0)&&Nat.beq t.sz sz)<;>simp only[hc,cond_true,cond_false,An]at h
   ·unfold Q4 at h;cases hd:(E.lit&&Nat.beq t.sz sz)<;>simp only[hd,cond_true,cond_false]at h
    ·exact bx h
    simp only[Rf]at hd;split at h
    ·rename_i xs hx;exact⟨_,h,λs' H a w pl es eh hr hs hn=>rE hr hs (Ca hn) ho he hsz (pk es _ _ hps) hz h2 h1 hcs (Re hd.2) (lr eh _ _ _ _ hx)⟩
    ·exact bx h
   simp only[Rf]at hc;obtain⟨⟨ids,xs⟩,hx,h⟩:=h;cases hi:isNil ids<;>simp only[hi,cond_true,cond_false]at h
   ·exact nomatch h
   have:=ek hi;subst this;exact⟨_,h,λs' H a w pl es eh hr hs hn=>rE hr hs (Ca hn) ho he hsz (pk es _ _ hps) hz h2 h1 hcs (Re hc.2) (lr eh _ _ _ _ hx)⟩
 ·rename_i T l c ho;simp only[An]at h;obtain⟨e,he,sz,hsz,t,ht,z,hz,lv,hl,cv,hc,li,hli,ci,hci,h⟩:=h;cases hb:(pj E.P e&&Nat.beq t.sz sz)<;>simp only[hb,cond_true,cond_false,An]at h
  ·exact nomatch h
  simp only[Rf]at hb;obtain⟨⟨ids,xs⟩,hx,h⟩:=h;cases hi:(isNil ids&&Nat.beq z.length sz)<;>simp only[hi,cond_true,cond_false]at h
  ·exact nomatch h
  simp only[Rf]at hi;have hids:=ek hi.1;subst hids;split at h
  ·rename_i y;by_cases hd:0<=li/\li<=ci/\ci<=(aT:Int)
   ·simp only[hd,and_self,decide_true,cond_true]at h;exact⟨_,h,λs' H a w pl es eh hr hs hn=>B5 hr hs (Ca hn) ho (cZ es _ _ hl) (cZ es _ _ hc) hli hci he hsz hb.1 (Re hb.2) hz (Re hi.2) (lr eh _ _ _ _ hx) hd⟩
   ·simp only[hd,decide_false,cond_false]at h;exact nomatch h
  ·exact nomatch h
 ·rename_i args tys ho;simp only[An]at h;obtain⟨vs,hvs,h⟩:=h;split at h
  ·rename_i b x T T' hty;simp only[An]at h;obtain⟨e,he,sz,hsz,t,ht,h⟩:=h;cases hb:(pj E.P e&&(Nat.beq t.sz sz&&Nat.beq T T'))<;>simp only[hb,cond_true,cond_false,An]at h
   ·exact FV ho hvs hty he hsz h
   simp only[Rf]at hb;have hTT:T=T':=Re hb.2.2;subst hTT;have hts:=Re hb.2.1;obtain⟨z,hz,h⟩:=h;cases hzl:Nat.beq z.length sz<;>simp only[hzl,cond_true,cond_false,An]at h
   ·exact nomatch h
   have hzl:=Re hzl;obtain⟨⟨sh1,ids,ys⟩,hy,h⟩:=h;split at h
   ·cases hh:hit ids (sh1.getD [])<;>simp only[hh,cond_true,cond_false]at h
    ·cases hn':Nat.ble ys.length aT<;>simp only[hn',cond_true,cond_false]at h
     ·exact nomatch h
     exact⟨_,h,λs' H a w pl es eh hr hs hn=>Au (xs:=[]) hr hs (Ca hn) ho (je es _ _ hvs) hty he hsz hb.1 hts hz hzl (Aj eh _ _ _ hy) (.inl ⟨rfl,rfl,rfl,rfl⟩) hh (by simpa using Ru hn')⟩
    ·exact nomatch h
   ·rename_i i;split at h
    ·rename_i sh t' xs hl;split at h
     ·rename_i htt;subst htt;simp only[An]at h;obtain⟨sh',hj,h⟩:=h;cases hm:mem i ids<;>simp only[hm,cond_true,cond_false]at h
      rotate_left
      ·exact nomatch h
      cases hh:hit (i::ids) (sh'.getD [])<;>simp only[hh,cond_true,cond_false]at h
      rotate_left
      ·exact nomatch h
      cases hn':Nat.ble (xs.length+ys.length) aT<;>simp only[hn',cond_true,cond_false]at h
      ·exact nomatch h
      exact⟨_,h,λs' H a w pl es eh hr hs hn=>Au hr hs (Ca hn) ho (je es _ _ hvs) hty he hsz hb.1 hts hz hzl (Aj eh _ _ _ hy) (.inr ⟨i,sh,rfl,eh _ _ hl,rfl,hm,hj⟩) hh (Ru hn')⟩
     ·exact nomatch h
    ·exact nomatch h
   ·exact FW ho hvs hty he hsz hts hz h
  ·exact nomatch h
 ·rename_i args tys ho;simp only[An]at h;obtain⟨vs,hvs,h⟩:=h;split at h
  ·rename_i v T hty;simp only[An]at h;obtain⟨e,he,z,hz,⟨i,q,num⟩,hv,h⟩:=h;split at h
   ·rename_i sh t xs hl;cases hzl:Nat.beq z.length t.sz<;>simp only[hzl,cond_true,cond_false,An]at h
    ·exact nomatch h
    obtain⟨⟨ids,ys⟩,hy,h⟩:=h;cases hi:isNil ids<;>simp only[hi,cond_true,cond_false]at h
    ·exact nomatch h
    have hids:=ek hi;subst hids;split at h
    ·rename_i y;exact⟨_,h,λs' H a w pl es eh hr hs hn=>Kz hr hs ho (je es _ _ hvs) hty he hz (Re hzl) (ML eh hv) (eh _ _ hl) (lr eh _ _ _ _ hy)⟩
    ·exact nomatch h
   ·exact nomatch h
  ·exact nomatch h
 ·rename_i T p x ho;simp only[An]at h;obtain⟨p',hp,x',hx,h⟩:=h
  have arr:∀{i k off:Nat} {sh:Option (List Nat)} {t:Ty} {ys:List t.El},p'=.ptr i k off->look h0 i=some (.arr sh t ys)->wz E.P T h0 i sh t ys k off x' K=some out->∃c,K c=some out/\DI E.P o n c s h0:=λe hl h3=>by
   clear h;subst e;obtain⟨c,h1,h2⟩:=DF (n:=n) ho h3;exact⟨c,h1,λs' H a w pl es eh hr hs hn=>h2 H a w pl eh (eh _ _ hl) hr (aU hs (cZ es _ _ hp)) (aU hs (cZ es _ _ hx))⟩
  split at h
  ·rename_i i k off;split at h
   ·rename_i cs hl;cases hk0:Nat.beq k 0<;>simp only[hk0,cond_true,cond_false,An]at h
    ·exact nomatch h
    have hk0:=Re hk0;subst hk0;obtain⟨xs,hxs,sz,hsz,h⟩:=h;cases hb:Nat.beq sz xs.length<;>simp only[hb,cond_true,cond_false,An]at h
    ·exact nomatch h
    ·obtain⟨cs',hcs,h⟩:=h;exact⟨_,h,λs' H a w pl es eh hr hs hn=>Ks hr ho (eh _ _ hl) (aU hs (cZ es _ _ hp)) (aU hs (cZ es _ _ hx)) hxs hsz (Re hb) hcs⟩
   ·rename_i sh t ys hl;exact arr rfl hl h
   ·exact nomatch h
  ·exact nomatch h
 ·rename_i f args tys ho;simp only[An]at h;obtain⟨f',hf,vs,hvs,h⟩:=h;split at h
  ·rename_i g first cap
   obtain⟨c,hc,hcs⟩:=hE g _ _ _ _ _ _ h;exact⟨c,hc,λs' H a w pl es eh hr hs hn=>MP eh hr hs hn ho (cZ es _ _ hf) (je es _ _ hvs) hcs⟩
  ·exact nomatch h
 ·rename_i T x ho;unfold PV at h;cases hk:taken E x<;>simp only[hk,cond_true,cond_false]at h
  rotate_left
  ·split at h
   ·rename_i i y hx;split at h
    ·rename_i t xs hl;simp only[An]at h;obtain⟨e,he,v,hv,h⟩:=h;exact⟨_,h,λs' H a w pl es eh hr hs hn=>Hy (P7 t) hr ho (eh _ _ hl) he hv (aU hs (cZ es _ _ hx)) hn⟩
    ·exact nomatch h
   ·exact nomatch h
  split at h
  ·rename_i v hv;unfold PQ at hv;cases hi:E.inn<;>simp only[hi,cond_true,cond_false]at hv
   ·exact nomatch hv
   cases hT:Hg E.P T<;>simp only[hT,cond_true,cond_false]at hv
   ·exact nomatch hv
   split at hv
   ·rename_i i y k hx;split at hv
    ·rename_i t xs hl;cases hk:Nat.ble (k+1) t.sz<;>simp only[hk,cond_true,cond_false,It]at hv
     ·exact nomatch hv
     subst hv;exact⟨_,h,λs' H a w pl es eh hr hs hn=>OE hr ho hT (eh _ _ hl) (Ru hk) (aU hs (cZ es _ _ hx))⟩
    ·exact nomatch hv
   ·exact nomatch hv
  ·have dflt:nS E.P s h0 (.load T x) (λv=>K {v:=v})=some out->∃c,K c=some out/\DI E.P o n c s h0:=λh=>by
    rw[nT]at h;simp only[An]at h;obtain⟨v,hv,h⟩:=h
    exact⟨_,h,λs' H a w pl es eh hr hs hn=>by
     obtain⟨u,hu,hvr⟩:=kC hr hs (uo es eh _ _ hv) o ho
     exact nd hr hu hvr⟩
   unfold PU at h;cases ht:E.tak<;>simp only[ht,cond_true,cond_false]at h
   ·exact dflt h
   split at h
   ·rename_i i y hx;split at h
    ·rename_i st xs hl;cases hf:ph (.st st)<;>simp only[hf,cond_true,cond_false]at h
     ·simp only[An]at h;obtain⟨e,he,v,hv,h⟩:=h;exact⟨_,h,λs' H a w pl es eh hr hs hn=>Hy (P6 st) hr ho (eh _ _ hl) he hv (aU hs (cZ es _ _ hx)) hn⟩
     ·exact dflt h
    ·exact dflt h
   ·exact dflt h
 ·rename_i src dst x ho;split at h
  ·rename_i i hi;unfold PS at hi;cases hT:(Nat.beq src dst&&vy E.P src)<;>simp only[hT,cond_true,cond_false]at hi
   ·exact nomatch hi
   simp only[Rf]at hT;have hsd:=Re hT.1;split at hi
   ·rename_i j hx;split at hi
    ·rename_i sh t y ys hl;cases hi;subst hsd;exact⟨_,h,λs' H a w pl es eh hr hs hn=>MN hr ho hT.2 (eh _ _ hl) (aU hs (cZ es _ _ hx))⟩
    ·exact nomatch hi
   ·exact nomatch hi
  ·rw[nT]at h;simp only[An]at h;obtain⟨v,hv,h⟩:=h
   exact⟨_,h,λs' H a w pl es eh hr hs hn=>by
    obtain⟨u,hu,hvr⟩:=kC hr hs (uo es eh _ _ hv) o ho
    exact nd hr hu hvr⟩
 ·rw[nT]at h;simp only[An]at h;obtain⟨v,hv,h⟩:=h
  exact⟨_,h,λs' H a w pl es eh hr hs hn=>by
   obtain⟨u,hu,hvr⟩:=kC hr hs (uo es eh _ _ hv) o rfl
   exact nd hr hu hvr⟩
theorem FX {E:Env} (hE:fR E) {o:Oper} {a:Act} {s:List (Nat× SV)} {n:Nat} {K:CR->Option ρ} {out:ρ}
  (hr:cN H pl w) (hs:gB w H pl s a) (hn:∀i,n<=i->look H i=none) (h:BH E s H n o.op K=some out):∃c,K c=some out/\kv E.P o a w H pl n c:=by
 obtain⟨c,h1,h2⟩:=DJ hE h;exact⟨c,h1,h2 s H a w pl .rfl' .rfl' hr hs λk _=>hn _ (Nat.le_add_right _ _)⟩
theorem KH {x y:Option ρ} {out:ρ} (h:both x y=some out):x=some out/\y=some out:=by
 unfold both at h;split at h
 ·rename_i e;exact⟨h,e▸h⟩
 ·exact nomatch h
theorem FY {op:Op} {T:TypeId} {x:Operand} {e:Bool} (h:Hj op=some (T,x,e)):∃U,op=.binOp (cond e .eql .neq) T x (.const (.slice none 0 0)) U:=by
 unfold Hj at h;split at h
 ·cases h;exact⟨_,rfl⟩
 ·cases h;exact⟨_,rfl⟩
 ·exact nomatch h
theorem KI (hr:cN H pl w) {v:SV} {u:Value} {K:Bool->Option ρ} {out:ρ} (h:QJ H v K=some out) (hv:aq w H pl v u):
  ∃a n c,u=.slice a n c/\K a.isNone=some out:=by
 have fork:∀{α:Type} {xs:List α} {a:Option Addr},(xs=[]\/a.isSome=true)->cond (isNil xs) (both (K true) (K false)) (K false)=some out->K a.isNone=some out:=λ{α xs a} hx h=>by
  cases xs with
  |nil=>
   obtain⟨h1,h2⟩:=KH h
   cases a<;>assumption
  |cons y ys=>
   rcases hx with hx|hx
   ·exact nomatch hx
   ·cases a with
    |none=>exact nomatch hx
    |some a=>exact h
 unfold QJ at h;split at h
 ·cases hv;exact⟨_,_,_,rfl,h⟩
 ·rename_i d t xs
  cases hv with
  |r _ _ _ hx=>cases hx with
   |sl _ _ a cap b o vs ir ha hc hr'=>exact⟨_,_,_,rfl,fork (ha.imp_right λe=>by rw[e];rfl) h⟩
 ·rename_i i
  cases hv with
  |own _ sh t xs hl=>
   simp only[hl]at h;have hb:=hr.blk i _ hl
   have:∃a cap b o,pl.hdr i=.slice a xs.length cap/\xs.length<=cap/\(cap=0\/a=some ⟨b,o,none⟩):=by
    cases sh with
    |none=>obtain⟨⟨a,cap,b,o,vs,fs,q1,q2,q3,_⟩⟩:=hb;exact⟨a,cap,b,o,q1,q2,q3⟩
    |some d=>obtain⟨⟨a,cap,b,o,vs,fs,q1,q2,q3,_⟩⟩:=hb;exact⟨a,cap,b,o,q1,q2,q3⟩
   obtain⟨a,cap,b,o,q1,q2,q3⟩:=this;refine⟨a,_,_,q1,fork ?_ h⟩
   rcases q3 with rfl|rfl
   ·exact .inl (R6.1 (by omega))
   ·exact .inr rfl
 ·exact nomatch h
theorem OG (hr:cN H pl w) {o:Oper} {a:Act} {T:TypeId} {x:Operand} {e:Bool} {n:Nat} (hT:Hg P T=true) (ho:Hj o.op=some (T,x,e)) {b:Option Addr} {l c:Nat} (hx:a.eval x=.slice b l c):
  kv P o a w H pl n {v:=.b (cond b.isNone e (!e))}:=by
 obtain⟨U,ho⟩:=FY ho;obtain⟨el,_,hu,_⟩:=BP hT;refine nd (u:=.bool (cond b.isNone e (!e))) hr ?_ lZ;rw[execOp,ho];have hc:a.eval (.const (.slice none 0 0))=.slice none 0 0:=rfl
 have key:(do eqGuard (cond e .eql .neq) T x (.const (.slice none 0 0)) (a.eval x) (a.eval (.const (.slice none 0 0)));binOp (cond e .eql .neq) T (a.eval x) (a.eval (.const (.slice none 0 0))):Sem Value).run P w=.ok (.bool (cond b.isNone e (!e))) w:=by
  rw[hc,hx];refine guarded (λh=>nomatch h) (λ_ h=>nomatch h) ?_;cases e
  ·rw[cond_false,run_neq_slice_nil w T el b l c hu];cases b<;>rfl
  ·rw[cond_true,Lib.run_eql_slice_nil w T el b l c _ _ hu];cases b<;>rfl
 simp only[Sem.run_bind,key,Result.andThen_ok];rfl
theorem I3 {E:Env} (hE:fR E) {w0:World} {fp0:G0} {o:Oper} {st:St} {a:Act} {K:St->Option ρ} {out:ρ} {next:Act->World->Prop} {Q:Exit->Act->World->Prop}
  (hr:Rel w0 fp0 st pl a w) (h:PB E o st K=some out) (hK:∀st' pl' a' w',K st'=some out->pl'.base=pl.base->st'.n=st.n->Rel w0 fp0 st' pl' a' w'->next a' w'):o.wp E.P a w next Q:=by
 obtain⟨c,hc,hup,hsem⟩:∃c,((st.take o.dst c).bind K)=some out/\kv E.P o a w st.heap pl st.nid c:=by
  unfold PB at h;split at h
  ·rename_i T x e ho;cases hT:Hg E.P T<;>simp only[hT,cond_true,cond_false,An]at h
   ·exact nomatch h
   obtain⟨v,hv,h⟩:=h;obtain⟨b,l,c,hu,hk⟩:=KI hr.hr h (aU hr.sl hv);exact⟨_,hk,OG hr.hr hT ho hu⟩
  ·exact FX hE hr.hr hr.sl hr.fresh h
 simp only[An]at hc;obtain⟨st',ht,hk⟩:=hc
 refine hsem st'.heap next Q (Kq ht) λu pl' w' hst hv=>?_
 have hn:st'.n=st.n:=by
  simp only[St.take,An,It]at ht;obtain⟨h1,e1,s,h2,rfl⟩:=ht;rfl
 exact hK st' pl' _ w' hk hst.bs hn (hr.take ht hup hst hv)
end
end
section
variable [Tok]
theorem jJ (h:aK) (n:Nat) (b:Blk) (i:Nat):look (IB h n b) i=if n=i then(look h i).map λ_=>b else look h i:=by
 induction h with
 |nil=>simp[IB,look]
 |cons x l ih=>
  obtain⟨k,u⟩:=x;simp only[IB];cases hb:Nat.beq k n
  ·simp only[cond_false,az,ih]
   have hne:k≠n:=λe=>by subst e;simp at hb
   by_cases e:k=i
   ·subst e;simp only[if_true];rw[if_neg (λe=>hne e.symm)]
   ·simp only[if_neg e]
  ·simp only[cond_true,az];have:=Re hb;subst this;by_cases e:k=i<;>simp[e]
theorem dy (s:List (Nat× SV)) (dst:Option Tmp) (v:SV) (t:Nat):look (Hk s dst v) t=if dst=some t then some v else look s t:=by
 cases dst with
 |none=>simp[Hk]
 |some d=>simp[Hk,eJ]
def xz {α:Type} (x y:List (Nat× α)):Prop:=∀t,look x t=look y t
theorem KJ {h h':aK} (e:xz h h') (n:Nat) (b:Blk):xz (IB h n b) (IB h' n b):=λt=>by rw[jJ,jJ,e t]
theorem I4 {h h':aK} (e:xz h h') (u:aK):xz (jd u h) (jd u h'):=by
 induction u generalizing h h' with
 |nil=>exact e
 |cons x l ih=>obtain⟨k,b⟩:=x;exact ih (KJ e k b)
theorem KK (u h:aK) (i:Nat):(look (jd u h) i).isSome=(look h i).isSome:=by
 induction u generalizing h with
 |nil=>rfl
 |cons x l ih=>
  obtain⟨k,b⟩:=x;rw[jd,ih,jJ];by_cases e:k=i<;>simp[e]
theorem Ax {u h:aK} {i:Nat}:look (jd u h) i=none↔look h i=none:=by
 have:=KK u h i;rw[<-Option.not_isSome_iff_eq_none,<-Option.not_isSome_iff_eq_none,this]
theorem I5 {S:Nat->Prop} {h h':aK} (e:∀i B,S i->look h i=some B->look h' i=some B) (u:aK):∀i B,S i->look (jd u h) i=some B->look (jd u h') i=some B:=by
 induction u generalizing h h' with
 |nil=>exact e
 |cons x l ih=>
  obtain⟨k,b⟩:=x;refine ih λt v ht hv=>?_;rw[jJ]at hv⊢;by_cases c:k=t
  ·rw[if_pos c]at hv⊢;obtain⟨y,hy,rfl⟩:=Rk.1 hv;rw[e t y ht hy];rfl
  ·rw[if_neg c]at hv⊢;exact e t v ht hv
theorem pB {i:Nat}:∀(u h:aK),look u i=none->look (jd u h) i=look h i
  |[],_,_=>rfl
  | (k, b) :: l, h, e => by
    rw[az]at e;by_cases c:k=i
    · rw[if_pos c]at e;exact nomatch e
    · rw[if_neg c]at e;show look (jd l (IB h k b)) i=_;rw[pB l _ e,jJ,if_neg c]
theorem MQ {h:aK} {k:Nat} (b:Blk) (hk:∃B,look h k=some B):put h k b=IB h k b:=by
 induction h with
 |nil=>obtain⟨B,hB⟩:=hk;exact nomatch hB
 |cons x l ih=>
  obtain⟨k',u⟩:=x;simp only[put,IB];obtain⟨B,hB⟩:=hk;rw[az]at hB;cases hb:Nat.beq k' k
  ·have hne:k'≠k:=λe=>by subst e;simp at hb
   rw[if_neg hne]at hB;simp only[cond_false,ih ⟨B,hB⟩]
  ·rfl
theorem uF {u h:aK} (hd:∀i B,look u i=some B->∃B',look h i=some B'):rD u h=jd u h:=by
 induction u generalizing h with
 |nil=>rfl
 |cons x l ih=>
  obtain⟨k,b⟩:=x;have hk:=hd k b (by rw[az];simp);simp only[rD,jd];rw[MQ b hk];refine ih λi B hB=>?_;rw[jJ];by_cases e:k=i
  ·subst e;obtain⟨B',hB'⟩:=hk;exact⟨b,by simp[hB']⟩
  ·rw[if_neg e];exact hd i B (by rw[az,if_neg e];exact hB)
def DK (x y:SH):Prop:=xz x.1 y.1/\xz x.2 y.2
theorem DK.refl (x:SH):DK x x:=⟨λ_=>rfl,λ_=>rfl⟩
theorem DK.trans {x y z:SH} (h:DK x y) (g:DK y z):DK x z:=⟨λt=>(h.1 t).trans (g.1 t),λt=>(h.2 t).trans (g.2 t)⟩
def DR.rS (r:DR) (i:Nat):Prop:=r.n0<=i/\i<r.n0+r.c.news.length
theorem DR.ni {r:DR} {i:Nat} (h:¬r.rS i):look (aO r.n0 r.c.news) i=none:=by
 rw[bq];by_cases c:r.n0<=i
 ·rw[if_pos c];exact RI (Nat.le_of_not_lt λh'=>h ⟨c,by omega⟩)
 ·rw[if_neg c]
theorem xA {T:Kil} (h:T.2=[]) (x:List (Nat× SV)):nR T x=x:=by unfold nR;rw[h]
theorem FZ {T:Kil} (h:T.2=[]) (x:aK):iw T x=some x:=by unfold iw;rw[h]
theorem iC {r:DR} (hg:r.c.kil.2=[]) (x:SH):r.app x=some (Hk x.1 r.dst r.c.v,jd r.c.upd x.2++aO r.n0 r.c.news):=by
 unfold DR.app;rw[FZ hg,xA hg];rfl
theorem dz {r:DR} {x y:SH} (h:r.app x=some y):y.1=Hk (nR r.c.kil x.1) r.dst r.c.v:=by
 unfold DR.app at h;simp only[An,It]at h;obtain⟨hh,h1,rfl⟩:=h;rfl
theorem wC {r:DR} {x y:SH} (h:r.app x=some y) (i:Nat):look y.2 i=(cond (mem i r.c.kil.1) none ((look (jd r.c.upd x.2) i).bind (Blk.aP r.c.kil))).or (look (aO r.n0 r.c.news) i):=by
 unfold DR.app at h;simp only[An,It]at h;obtain⟨hh,h1,rfl⟩:=h;show look (hh++_) i=_;rw[aG,cQ r.c.fQ h1 i]
theorem MR {r:DR} (hg:r.c.kil.2=[]) {x y:SH} (e:DK x y) {x':SH} (h:r.app x=some x'):∃y',r.app y=some y'/\DK x' y':=by
 rw[iC hg]at h;cases h;refine⟨_,iC hg y,λt=>?_,λi=>?_⟩
 ·show look (Hk _ _ _) t=look (Hk _ _ _) t;rw[dy,dy,e.1 t]
 ·show look (_++_) i=look (_++_) i;rw[aG,aG,I4 e.2 _ i]
theorem eo (p:Nat->Bool):∀(l1 l2:List DR) (k:Nat) (x:SH),replay p k (l1++l2) x=(replay p k l1 x).bind (replay p (k+l1.length) l2)
 |[],l2,k,x=>by simp[replay]
 |r::l,l2,k,x=>by
  simp only[SF,replay,Rm];cases p k
  ·simp only[cond_false];rw[eo p l l2 (k+1) x,show k+1+l.length=k+(l.length+1)from by omega]
  ·simp only[cond_true,RF]
   congr 1;funext y;rw[eo p l l2 (k+1) y,show k+1+l.length=k+(l.length+1)from by omega]
theorem jK {p q:Nat->Bool}:∀(l:List DR) (k:Nat) (x:SH),(∀j,j<l.length->p (k+j)=q (k+j))->replay p k l x=replay q k l x
 |[],_,_,_=>rfl
 |r::l,k,x,h=>by
  simp only[replay];have h0:=h 0 (by simp);rw[RP]at h0
  have ih:=λx=>jK (p:=p) (q:=q) l (k+1) x λj hj=>by have:=h (j+1) (by simpa using hj);rwa [show k+(j+1)=k+1+j from by omega]at this
  rw[h0,ih x];congr 1;congr 1;exact funext ih
theorem nY {p:Nat->Bool}:∀(l:List DR) (k:Nat) (x:SH),(∀j,j<l.length->p (k+j)=false)->replay p k l x=some x
 |[],_,_,_=>rfl
 |r::l,k,x,h=>by
  simp only[replay];have h0:=h 0 (by simp);rw[RP]at h0;rw[h0,cond_false]
  exact nY l (k+1) x λj hj=>by have:=h (j+1) (by simpa using hj);rwa [show k+(j+1)=k+1+j from by omega]at this
theorem nj {p:Nat->Bool}:∀(l:List DR) (k:Nat) (x X:SH),replay p k l x=some X->∀i B,look X.2 i=some B->(∃B',look x.2 i=some B')\/∃(j:Nat) (r:DR),l[j]? =some r/\p (k+j)=true/\r.rS i
  |[],_,x,X,h,i,B,hB=>by cases h;exact .inl ⟨B,hB⟩
  | r :: l, k, x, X, h, i, B, hB => by
    simp only[replay]at h;cases hp:p k<;>simp only[hp,cond_false,cond_true]at h
    · rcases nj l (k+1) x X h i B hB with h'|⟨j,r',h1,h2,h3⟩
      · exact .inl h'
      · exact .inr ⟨j+1,r',by simpa using h1,by rwa [show k+(j+1)=k+1+j from by omega],h3⟩
    · rw [An] at h;obtain⟨y,hy,h⟩:=h
      rcases nj l (k+1) y X h i B hB with⟨B',h'⟩|⟨j,r',h1,h2,h3⟩
      · by_cases hm:r.rS i
        · exact .inr ⟨0,r,rfl,hp,hm⟩
        · left;rw[wC hy,DR.ni hm,Si]at h'
          cases hx:look x.2 i with
          |none=>rw[Ax.2 hx]at h';cases hm':mem i r.c.kil.1<;>simp[hm']at h'
          |some b=>exact⟨b,rfl⟩
      · exact .inr ⟨j+1,r',by simpa using h1,by rwa [show k+(j+1)=k+1+j from by omega],h3⟩
theorem qy {q p:Nat->Bool}:∀(l:List DR) (k:Nat) (y z Y Z:SH),(∀j,q j=true->p j=true)->replay q k l y=some Y->replay p k l z=some Z->Ext y.1 z.1->
    (∀t v,look y.1 t=some v->∀(j:Nat) (r:DR),l[j]? =some r->p (k+j)=true->q (k+j)=false->r.dst≠some t)->
    (∀(j j':Nat) (r r':DR) t,j≠j'->l[j]? =some r->l[j']? =some r'->r.dst=some t->r'.dst≠some t)->
    (∀(j:Nat) (r:DR),l[j]? =some r->p (k+j)=true->q (k+j)=false->r.c.kil.2=[])->Ext Y.1 Z.1
  |[],_,y,z,Y,Z,_,hy,hz,he,_,_,_=>by cases hy;cases hz;exact he
  | r :: l, k, y, z, Y, Z, hqp, hy, hz, he, hd, hn, hg => by
    simp only[replay]at hy hz;have hn':∀(j j':Nat) (r r':DR) t,j≠j'->l[j]? =some r->l[j']? =some r'->r.dst=some t->r'.dst≠some t:=λj j' r r' t hne h1 h2=>hn (j+1) (j'+1) r r' t (by omega) (by simpa using h1) (by simpa using h2);have hg':∀(j:Nat) (r:DR),l[j]? =some r->p (k+1+j)=true->q (k+1+j)=false->r.c.kil.2=[]:=λj r h1 h2 h3=>hg (j+1) r (by simpa using h1) (by rwa [show k+(j+1)=k+1+j from by omega]) (by rwa [show k+(j+1)=k+1+j from by omega]);have hd':∀t v,look y.1 t=some v->∀(j:Nat) (r:DR),l[j]? =some r->p (k+1+j)=true->q (k+1+j)=false->r.dst≠some t:=λt v ht j r h1 h0 h2=>hd t v ht (j+1) r (by simpa using h1) (by rwa [show k+(j+1)=k+1+j from by omega]) (by rwa [show k+(j+1)=k+1+j from by omega]);cases hq:q k<;>simp only[hq,cond_false,cond_true]at hy
    · cases hp:p k<;>simp only[hp,cond_false,cond_true]at hz
      · exact qy l (k+1) y z Y Z hqp hy hz he hd' hn' hg'
      · rw[An]at hz;obtain⟨z',hz',hz⟩:=hz;have hgr:=hg 0 r rfl (by simpa using hp) (by simpa using hq);refine qy l (k+1) y z' Y Z hqp hy hz (λt v ht=>?_) hd' hn' hg';rw[dz hz',xA hgr,dy,if_neg (hd t v ht 0 r rfl (by simpa using hp) (by simpa using hq))];exact he t v ht
    · rw [hqp k hq] at hz;simp only[cond_true]at hz;rw[An]at hy hz;obtain⟨y',hy',hy⟩:=hy;obtain⟨z',hz',hz⟩:=hz
      have hsl:∀t,look y'.1 t=if r.dst=some t then some r.c.v else(look y.1 t).map (SV.aP r.c.kil):=λt=>by rw[dz hy',dy,db r.c.fQ]
      have hslz:∀t,look z'.1 t=if r.dst=some t then some r.c.v else(look z.1 t).map (SV.aP r.c.kil):=λt=>by rw[dz hz',dy,db r.c.fQ]
      refine qy l (k+1) y' z' Y Z hqp hy hz (λt v ht=>?_) (λt v ht j r' h1 h0 h2=>?_) hn' hg'
      · rw[hsl]at ht;rw[hslz];by_cases c:r.dst=some t
        · rw[if_pos c]at ht⊢;exact ht
        · rw[if_neg c]at ht⊢;obtain⟨u,hu,rfl⟩:=Rk.1 ht;rw[he t u hu];rfl
      · rw[hsl]at ht;by_cases c:r.dst=some t
        · exact hn 0 (j+1) r r' t (by omega) rfl (by simpa using h1) c
        · rw[if_neg c]at ht;obtain⟨u,hu,_⟩:=Rk.1 ht;exact hd' t u hu j r' h1 h0 h2
theorem lA {S:Nat->Prop} {q p:Nat->Bool}:∀(l:List DR) (k:Nat) (y z Y Z:SH),(∀j,q j=true->p j=true)->replay q k l y=some Y->replay p k l z=some Z->(∀i B,S i->look y.2 i=some B->look z.2 i=some B)->
    (∀(j:Nat) (r:DR) i,l[j]? =some r->r.rS i->look z.2 i=none)->
    (∀(j j':Nat) (r r':DR) i,j≠j'->l[j]? =some r->l[j']? =some r'->r.rS i->¬r'.rS i)->
    (∀(j:Nat) (r:DR),l[j]? =some r->p (k+j)=true->q (k+j)=false->r.c.kil.2=[]/\∀i,S i->look r.c.upd i=none)->∀i B,S i->look Y.2 i=some B->look Z.2 i=some B
  |[],_,y,z,Y,Z,_,hy,hz,he,_,_,_=>by cases hy;cases hz;exact he
  | r :: l, k, y, z, Y, Z, hqp, hy, hz, he, hf, hn, hg => by
    simp only[replay]at hy hz;have hn':∀(j j':Nat) (r r':DR) i,j≠j'->l[j]? =some r->l[j']? =some r'->r.rS i->¬r'.rS i:=λj j' r r' t hne h1 h2=>hn (j+1) (j'+1) r r' t (by omega) (by simpa using h1) (by simpa using h2);have hg':∀(j:Nat) (r:DR),l[j]? =some r->p (k+1+j)=true->q (k+1+j)=false->r.c.kil.2=[]/\∀i,S i->look r.c.upd i=none:=λj r h1 h2 h3=>hg (j+1) r (by simpa using h1) (by rwa [show k+(j+1)=k+1+j from by omega]) (by rwa [show k+(j+1)=k+1+j from by omega]);have hf':∀(j:Nat) (r:DR) i,l[j]? =some r->r.rS i->look z.2 i=none:=λj r i h1 h2=>hf (j+1) r i (by simpa using h1) h2
    have rT:∀z',r.app z=some z'->∀(j:Nat) (r':DR) i,l[j]? =some r'->r'.rS i->look z'.2 i=none:=λz' hz' j r' i h1 h2=>by
      cases hx:look z'.2 i with
      |none=>rfl
      | some B =>
        rcases nj (p:=λ_=>true) [r] 0 z z' (by simp[replay,hz']) i B hx with⟨B',hB'⟩|⟨j',r2,g1,_,g3⟩
        · rw[hf' j r' i h1 h2]at hB';exact nomatch hB'
        · cases j' with
          |zero=>simp at g1;subst g1;exact(hn 0 (j+1) r r' i (by omega) rfl (by simpa using h1) g3 h2).elim
          |succ j'=>simp at g1
    cases hq:q k<;>simp only[hq,cond_false,cond_true]at hy
    · cases hp:p k<;>simp only[hp,cond_false,cond_true]at hz
      · exact lA l (k+1) y z Y Z hqp hy hz he hf' hn' hg'
      · rw[An]at hz;obtain⟨z',hz',hz⟩:=hz;obtain⟨hgr,hur⟩:=hg 0 r rfl (by simpa using hp) (by simpa using hq);refine lA l (k+1) y z' Y Z hqp hy hz (λi B hS hB=>?_) (rT z' hz') hn' hg';rw[iC hgr]at hz';cases hz';show look (jd r.c.upd z.2++_) i=some B;rw[aG,pB _ _ (hur i hS),he i B hS hB];rfl
    · rw [hqp k hq] at hz;simp only[cond_true]at hz;rw[An]at hy hz;obtain⟨y',hy',hy⟩:=hy;obtain⟨z',hz',hz⟩:=hz;refine lA l (k+1) y' z' Y Z hqp hy hz (λi B hS hB=>?_) (rT z' hz') hn' hg';rw[wC hy']at hB;rw[wC hz']
      cases hx:cond (mem i r.c.kil.1) none ((look (jd r.c.upd y.2) i).bind (Blk.aP r.c.kil))with
      | some b =>
        rw[hx]at hB;cases hm:mem i r.c.kil.1<;>simp only[hm,cond_true,cond_false]at hx⊢
        · obtain⟨b0,hb0,hb1⟩:=An.1 hx;rw[I5 he _ i b0 hS hb0];simp only[Rs,hb1];exact hB
        · exact nomatch hx
      | none =>
        rw[hx,Option.none_or]at hB
        have hm:r.rS i:=Classical.byContradiction λh=>by rw[DR.ni h]at hB;exact nomatch hB
        rw[Ax.2 (hf 0 r i rfl hm)];cases mem i r.c.kil.1<;>exact hB
theorem xB {b:DR}:∀{U:aK},PY b U=true->∀i,b.rS i->look U i=none
  |[],_,_,_=>rfl
  | (k, _) :: l, h, i, hi => by
    simp only[PY]at h;cases hk:(Nat.ble (k+1) b.n0||Nat.ble (b.n0+b.c.news.length) k)<;>rw[hk]at h
    · exact nomatch h
    · rw[az,if_neg,xB h i hi];intro e;subst e;obtain⟨h1,h2⟩:=hi;rw[S6]at hk
      rcases hk with hk|hk<;>have:=Ru hk<;>omega
theorem ig {a b:DR} (h:FB a b=true):a.c.kil.2=[]/\b.c.kil.2=[]/\((b.c.upd=[]/\∀i,b.rS i->look a.c.upd i=none)\/(a.c.upd=[]/\∀i,a.rS i->look b.c.upd i=none)):=by
 simp only[FB,Rf,S6]at h;have h:=h.1;refine⟨ek h.1.1,ek h.1.2,?_⟩
 rcases h.2 with h|h
 ·exact .inl ⟨ek h.1,xB h.2⟩
 ·exact .inr ⟨ek h.1,xB h.2⟩
theorem xC {i:Nat}:∀(u:aK) {h h':aK},look h i=look h' i->look (jd u h) i=look (jd u h') i
 |[],_,_,e=>e
 |(k,b)::l,h,h',e=>by
  simp only[jd];exact xC l (by rw[jJ,jJ,e])
theorem DL {a b:DR} (h:FB a b=true):MC b.see a.c.upd=false/\MC a.see b.c.upd=false:=by
 simp only[FB,Rf,Te]at h;exact h.2
theorem DM {L:List Nat}:∀{U:aK},MC L U=false->∀i,mem i L=true->look U i=none
  |[],_,_,_=>rfl
  | (k, b) :: l, h, i, hi => by
    simp only[MC]at h;cases hk:mem k L<;>simp only[hk,cond_true,cond_false]at h
    · rw[az,if_neg (λe=>by subst e;rw[hi]at hk;exact nomatch hk)];exact DM h i hi
    · exact nomatch h
theorem nZ {h:aK} {i:Nat} {B:Blk}:∀{L:List Nat},look (vA h L) i=some B->mem i L=true/\look h i=some B
 |[],e=>nomatch e
 |k::l,e=>by
  simp only[vA]at e
  cases hk:look h k with
  |none=>
   rw[hk]at e;obtain⟨g1,g2⟩:=nZ e
   exact⟨by simp only[mem];cases Nat.beq k i<;>simp[g1],g2⟩
  |some b=>
   rw[hk]at e;rw[az]at e;by_cases c:k=i
   ·subst c;rw[if_pos rfl]at e;cases e;exact⟨by simp[mem],hk⟩
   ·rw[if_neg c]at e;obtain⟨g1,g2⟩:=nZ e;exact⟨by simp only[mem];cases Nat.beq k i<;>simp[g1],g2⟩
theorem not_false {b:Bool} (h:(!b)=true):b=false:=by cases b<;>first|rfl|exact nomatch h
mutual
theorem uG {T:Kil}:(v:SV)->v.JW T=true->v.aP T=v
 |.r d x,h=>by rw[SV.aP,not_false h];rfl
 |.own j,h=>by rw[SV.aP,not_false h];rfl
 |.sub j o n,h=>by rw[SV.aP,not_false h];rfl
 |.bsl j n,h=>by rw[SV.aP,not_false h];rfl
 |.ptr j x o,h=>by rw[SV.aP,not_false h];rfl
 |.inn j x c,h=>by rw[SV.aP,not_false h];rfl
 |.kr d cs,h=>by rw[SV.aP,not_false h];rfl
 |.agg cs,h=>by rw[SV.aP,jj cs h]
 |.tup cs,h=>by rw[SV.aP,jj cs h]
 |.fn f a b,h=>by
  simp only[SV.JW,Rf]at h
  rw[SV.aP,jj a h.1,jj b h.2]
 |.cu,_=>rfl
 |.pe,_=>rfl
 |.undef,_=>rfl
theorem jj {T:Kil}:(l:List SV)->xg T l=true->ie T l=l
 |[],_=>rfl
 |v::l,h=>by
  simp only[xg,Rf]at h;rw[ie,uG v h.1,jj l h.2]
end
theorem HB {c:CR} (h:c.kil.2=[]):c.kil=([],[]):=by
 unfold CR.kil at h⊢;rw[List.append_eq_nil_iff]at h;rw[h.1,h.2];rfl
mutual
theorem Ay (T U:Kil):(v:SV)->(v.aP T).aP U=(v.aP U).aP T
 |.r d x=>by
  simp only[SV.aP]
  cases h1:hit T.2 d<;>cases h2:hit U.2 d<;>simp only[cond_true,cond_false,SV.aP,h1,h2]
 |.own j=>by
  simp only[SV.aP]
  cases h1:mem j T.1<;>cases h2:mem j U.1<;>simp only[cond_true,cond_false,SV.aP,h1,h2]
 |.sub j o n=>by
  simp only[SV.aP]
  cases h1:mem j T.1<;>cases h2:mem j U.1<;>simp only[cond_true,cond_false,SV.aP,h1,h2]
 |.bsl j n=>by
  simp only[SV.aP]
  cases h1:mem j T.1<;>cases h2:mem j U.1<;>simp only[cond_true,cond_false,SV.aP,h1,h2]
 |.ptr j x o=>by
  simp only[SV.aP]
  cases h1:mem j T.1<;>cases h2:mem j U.1<;>simp only[cond_true,cond_false,SV.aP,h1,h2]
 |.inn j x c=>by
  simp only[SV.aP]
  cases h1:(mem j T.1||mem j T.2)<;>cases h2:(mem j U.1||mem j U.2)<;>simp only[cond_true,cond_false,SV.aP,h1,h2]
 |.kr d cs=>by
  simp only[SV.aP]
  cases h1:hit T.2 d<;>cases h2:hit U.2 d<;>simp only[cond_true,cond_false,SV.aP,h1,h2]
 |.agg cs=>by simp only[SV.aP,lB T U cs]
 |.tup cs=>by simp only[SV.aP,lB T U cs]
 |.fn f a b=>by simp only[SV.aP,lB T U a,lB T U b]
 |.cu=>rfl
 |.pe=>rfl
 |.undef=>rfl
theorem lB (T U:Kil):(l:List SV)->ie U (ie T l)=ie T (ie U l)
 |[]=>rfl
 |v::l=>by simp only[ie,Ay T U v,lB T U l]
end
variable {cm:DR->Bool}
theorem eP {r:DR} (h:fP cm r=true):cm r=true/\r.c.kil.2=[]/\r.c.upd=[]/\r.c.news=[]:=by
 simp only[fP,Rf]at h;exact⟨h.2.2.2,ek h.1,ek h.2.1,ek h.2.2.1⟩
theorem Az {b a:DR} (h:IE b a=true):a.c.v.aP b.c.kil=a.c.v:=by
 simp only[IE,Rf]at h;exact uG _ h.1
theorem HC {T:Kil} {u:SV}:∀{l:List SV},xg T l=true->u∈l->u.JW T=true
 |[],_,h=>nomatch h
 |v::l,h,hu=>by
  simp only[xg,Rf]at h
  rcases RD.1 hu with rfl|hu
  ·exact h.1
  ·exact HC h.2 hu
theorem HD {b a:DR} (h:IE b a=true):∀u∈a.MA,u.aP b.c.kil=u:=by
 intro u hu;simp only[IE,Rf]at h;exact uG _ (HC h.2 hu)
theorem sS {b a:DR} (h:b.c.kil.2=[]):a.c.v.aP b.c.kil=a.c.v:=by rw[HB h];exact dm _
theorem fl {a b:DR} (h:ru cm a b=true):
  (fP cm a=true/\a.c.v.aP b.c.kil=a.c.v)\/(fP cm b=true/\b.c.v.aP a.c.kil=b.c.v)\/(fP cm a=false/\fP cm b=false/\FB a b=true):=by
 simp only[ru,S6,Rf]at h
 rcases h with h|⟨h2,h1⟩|⟨h2,h1⟩
 ·obtain⟨k1,k2,_⟩:=ig h;cases ha:fP cm a
  ·cases hb:fP cm b
   ·exact .inr (.inr ⟨rfl,rfl,h⟩)
   ·exact .inr (.inl ⟨rfl,sS k1⟩)
  ·exact .inl ⟨rfl,sS k2⟩
 ·exact .inl ⟨h1,Az h2⟩
 ·exact .inr (.inl ⟨h1,Az h2⟩)
theorem HE {a b:DR} (h:ru cm a b=true):
  (fP cm a=true->∀u∈a.MA,u.aP b.c.kil=u)/\(fP cm b=true->∀u∈b.MA,u.aP a.c.kil=u):=by
 have nl:∀{c:DR} (v:SV),c.c.kil.2=[]->v.aP c.c.kil=v:=λ{c} v h=>by rw[HB h];exact dm _
 simp only[ru,S6,Rf]at h
 rcases h with h|⟨h2,h1⟩|⟨h2,h1⟩
 ·obtain⟨k1,k2,_⟩:=ig h;exact⟨λ_ u _=>nl u k2,λ_ u _=>nl u k1⟩
 ·exact⟨λ_=>HD h2,λ_ u _=>nl u (eP h1).2.1⟩
 ·exact⟨λ_ u _=>nl u (eP h1).2.1,λ_=>HD h2⟩
theorem qz {r:DR} (h:fP cm r=true) (x:SH):r.app x=some (Hk x.1 r.dst r.c.v,x.2):=by
 obtain⟨_,h1,h2,h3⟩:=eP h;rw[iC h1,h2,h3];simp only[jd,aO,RM]
theorem pC {r:DR} {x x' y:SH} (e:x.2=x'.2) (h:r.app x=some y):∃y',r.app x'=some y'/\y.2=y'.2:=by
 unfold DR.app at h⊢;simp only[An,It]at h;obtain⟨hh,h1,rfl⟩:=h;rw[<-e,h1];exact⟨_,rfl,rfl⟩
def Cb (x y:SH):Prop:=xz x.1 y.1/\x.2=y.2
theorem Cb.same {x y:SH} (h:Cb x y):DK x y:=⟨h.1,λt=>by rw[h.2]⟩
theorem KL {r:DR} {x y:SH} (e:Cb x y) {x':SH} (h:r.app x=some x'):∃y',r.app y=some y'/\Cb x' y':=by
 obtain⟨y',h1,h2⟩:=pC e.2 h;refine⟨y',h1,λt=>?_,h2⟩;rw[dz h,dz h1,dy,dy,db r.c.fQ,db r.c.fQ,e.1 t]
theorem pD {p:Nat->Bool}:∀(l:List DR) (k:Nat) (x y X:SH),Cb x y->replay p k l x=some X->∃Y,replay p k l y=some Y/\Cb X Y
 |[],_,x,y,X,e,h=>by cases h;exact⟨y,rfl,e⟩
 |r::l,k,x,y,X,e,h=>by
  simp only[replay]at h⊢;cases hp:p k<;>simp only[hp,cond_false,cond_true]at h⊢
  ·exact pD l (k+1) x y X e h
  ·rw[An]at h;obtain⟨x',hx',h⟩:=h;obtain⟨y',hy',e'⟩:=KL e hx';rw[hy'];exact pD l (k+1) x' y' X e' h
theorem lC {p p':Nat->Bool}:∀(l:List DR) (k:Nat) (x x' X:SH),(∀(j:Nat) (r:DR),l[j]? =some r->p (k+j)≠p' (k+j)->fP cm r=true)->x.2=x'.2->replay p k l x=some X->
  ∃X',replay p' k l x'=some X'/\X.2=X'.2
 |[],_,x,x',X,_,e,h=>by cases h;exact⟨x',rfl,e⟩
 |r::l,k,x,x',X,hd,e,h=>by
  have hd':∀(j:Nat) (r:DR),l[j]? =some r->p (k+1+j)≠p' (k+1+j)->fP cm r=true:=λj r h1 h2=>hd (j+1) r (by simpa using h1) (by rwa [show k+(j+1)=k+1+j from by omega]);have h0:=hd 0 r rfl;rw[RP]at h0;simp only[replay]at h⊢;cases hp:p k<;>cases hp':p' k<;>simp only[hp,cond_false,cond_true]at h⊢
  ·exact lC l (k+1) x x' X hd' e h
  ·rw[qz (h0 (by rw[hp,hp'];exactλh=>nomatch h)),Rs];exact lC l (k+1) x (Hk x'.1 r.dst r.c.v,x'.2) X hd' e h
  ·rw[qz (h0 (by rw[hp,hp'];exactλh=>nomatch h)),Rs]at h;exact lC l (k+1) (Hk x.1 r.dst r.c.v,x.2) x' X hd' e h
  ·rw[An]at h;obtain⟨y,hy,h⟩:=h;obtain⟨y',h1,h2⟩:=pC e hy;rw[h1,Rs];exact lC l (k+1) y y' X hd' h2 h
def rG:List Kil->SV->SV
 |[],v=>v
 |T::l,v=>rG l (v.aP T)
theorem I6 (l l':List Kil) (v:SV):rG (l++l') v=rG l' (rG l v):=by
 induction l generalizing v with
 |nil=>rfl
 |cons T l ih=>exact ih _
theorem F0 (T:Kil) (l:List Kil) (v:SV):(rG l v).aP T=rG l (v.aP T):=by
 induction l generalizing v with
 |nil=>rfl
 |cons U l ih=>simp only[rG];rw[ih,Ay]
theorem F1 {l:List Kil} {v:SV} (h:∀T∈l,v.aP T=v):rG l v=v:=by
 induction l with
 |nil=>rfl
 |cons U l ih=>simp only[rG];rw[h U (by simp)];exact ih λT hT=>h T (by simp[hT])
theorem oa {q p:Nat->Bool} {t:Nat} {v:SV}:∀(l:List DR) (k:Nat) (y z Y Z:SH),(∀j,q j=true->p j=true)->replay q k l y=some Y->replay p k l z=some Z->look Y.1 t=some v->
  (∀(j:Nat) (r:DR),l[j]? =some r->p (k+j)=true->q (k+j)=false->r.dst≠some t/\v.aP r.c.kil=v)->
  (∀u,look y.1 t=some u->∃Ts,look z.1 t=some (rG Ts u)/\∀T∈Ts,v.aP T=v)->look Z.1 t=some v
 |[],_,y,z,Y,Z,_,hy,hz,hv,_,hi=>by
  cases hy;cases hz;obtain⟨Ts,h1,h2⟩:=hi v hv
  rw[h1,F1 h2]
 |r::l,k,y,z,Y,Z,hqp,hy,hz,hv,hd,hi=>by
  simp only[replay]at hy hz;have hd':∀(j:Nat) (r:DR),l[j]? =some r->p (k+1+j)=true->q (k+1+j)=false->r.dst≠some t/\v.aP r.c.kil=v:=λj r h1 h2 h3=>hd (j+1) r (by simpa using h1) (by rwa [show k+(j+1)=k+1+j from by omega]) (by rwa [show k+(j+1)=k+1+j from by omega]);cases hq:q k<;>simp only[hq,cond_false,cond_true]at hy
  ·cases hp:p k<;>simp only[hp,cond_false,cond_true]at hz
   ·exact oa l (k+1) y z Y Z hqp hy hz hv hd' hi
   ·rw[An]at hz;obtain⟨z',hz',hz⟩:=hz;obtain⟨g1,g2⟩:=hd 0 r rfl (by simpa using hp) (by simpa using hq);refine oa l (k+1) y z' Y Z hqp hy hz hv hd' λu hu=>?_;obtain⟨Ts,h1,h2⟩:=hi u hu;refine⟨Ts++[r.c.kil],?_,λT hT=>?_⟩
    ·rw[dz hz',dy,if_neg g1,db r.c.fQ,h1,I6];rfl
    ·rcases SC.1 hT with h|h
     ·exact h2 T h
     ·simp at h;subst h;exact g2
  ·rw[hqp k hq]at hz;simp only[cond_true]at hz;rw[An]at hy hz;obtain⟨y',hy',hy⟩:=hy;obtain⟨z',hz',hz⟩:=hz;refine oa l (k+1) y' z' Y Z hqp hy hz hv hd' λu hu=>?_;rw[dz hy',dy,db r.c.fQ]at hu;rw[dz hz',dy,db r.c.fQ];by_cases c:r.dst=some t
   ·rw[if_pos c]at hu⊢;cases hu;exact⟨[],rfl,by simp⟩
   ·rw[if_neg c]at hu⊢;obtain⟨u0,hu0,rfl⟩:=Rk.1 hu;obtain⟨Ts,h1,h2⟩:=hi u0 hu0;exact⟨Ts,by rw[h1,Sx,F0],h2⟩
theorem oc {q:Nat->Bool} {t:Nat} {v:SV}:∀(l:List DR) (k:Nat) (y Y:SH),replay q k l y=some Y->look Y.1 t=some v->(∃u,look y.1 t=some u)\/∃(j:Nat) (r:DR),l[j]? =some r/\q (k+j)=true/\r.dst=some t
  |[],_,y,Y,h,hv=>by cases h;exact .inl ⟨v,hv⟩
  | r :: l, k, y, Y, h, hv => by
    simp only[replay]at h;cases hq:q k<;>simp only[hq,cond_false,cond_true]at h
    · rcases oc l (k+1) y Y h hv with h'|⟨j,r',h1,h2,h3⟩
      · exact .inl h'
      · exact .inr ⟨j+1,r',by simpa using h1,by rwa [show k+(j+1)=k+1+j from by omega],h3⟩
    · rw [An] at h;obtain⟨y',hy',h⟩:=h
      rcases oc l (k+1) y' Y h hv with⟨u,hu⟩|⟨j,r',h1,h2,h3⟩
      · rw[dz hy',dy,db r.c.fQ]at hu;by_cases c:r.dst=some t
        · exact .inr ⟨0,r,rfl,hq,c⟩
        · rw[if_neg c]at hu;obtain⟨u0,hu0,_⟩:=Rk.1 hu;exact .inl ⟨u0,hu0⟩
      · exact .inr ⟨j+1,r',by simpa using h1,by rwa [show k+(j+1)=k+1+j from by omega],h3⟩
theorem KM {a b:DR} (ha:fP cm a=true) (hf:a.c.v.aP b.c.kil=a.c.v) (hd:∀t,a.dst=some t->b.dst≠some t) {x y z:SH} (hy:b.app x=some y) (hz:a.app y=some z):
  ∃y' z',a.app x=some y'/\b.app y'=some z'/\Cb z z':=by
 rw[qz ha]at hz;cases hz;obtain⟨z',h1,h2⟩:=pC (x:=x) (x':=(Hk x.1 a.dst a.c.v,x.2)) rfl hy;refine⟨_,z',qz ha x,h1,λt=>?_,h2⟩;rw[dz h1,dz hy];simp only[dy,db b.c.fQ];by_cases c:a.dst=some t
 ·rw[if_pos c,if_neg (hd t c),if_pos c,Sx,hf]
 ·simp only[if_neg c]
theorem I7 {a b:DR} (hb:fP cm b=true) (hf:b.c.v.aP a.c.kil=b.c.v) (hd:∀t,a.dst=some t->b.dst≠some t) {x y z:SH} (hy:b.app x=some y) (hz:a.app y=some z):
  ∃y' z',a.app x=some y'/\b.app y'=some z'/\Cb z z':=by
 rw[qz hb]at hy;cases hy;obtain⟨y',h1,h2⟩:=pC (x:=(Hk x.1 b.dst b.c.v,x.2)) (x':=x) rfl hz;refine⟨y',_,h1,qz hb y',λt=>?_,h2⟩;rw[dz h1,dz hz];simp only[dy,db a.c.fQ];by_cases c:a.dst=some t
 ·simp only[if_pos c,if_neg (hd t c)]
 ·simp only[if_neg c];by_cases c':b.dst=some t
  ·simp only[if_pos c',Sx,hf]
  ·simp only[if_neg c']
theorem comm {a b:DR} (h:FB a b=true) (hd:∀t,a.dst=some t->b.dst≠some t) (hm:∀i,a.rS i->¬b.rS i) {x y z:SH} (hy:b.app x=some y) (hz:a.app y=some z):
  ∃y' z',a.app x=some y'/\b.app y'=some z'/\DK z z':=by
 obtain⟨ga,gb,hu⟩:=ig h;rw[iC gb]at hy;cases hy;rw[iC ga]at hz;cases hz;refine⟨_,_,iC ga x,iC gb _,λt=>?_,λi=>?_⟩
 ·simp only[dy];by_cases c:a.dst=some t
  ·rw[if_pos c,if_neg (hd t c),if_pos c]
  ·rw[if_neg c];by_cases c':b.dst=some t
   ·rw[if_pos c',if_pos c']
   ·rw[if_neg c',if_neg c',if_neg c]
 ·have swap:(look (aO b.n0 b.c.news) i).or (look (aO a.n0 a.c.news) i)=(look (aO a.n0 a.c.news) i).or (look (aO b.n0 b.c.news) i):=by
   by_cases c:a.rS i
   ·rw[DR.ni (hm i c)];simp
   ·rw[DR.ni c];simp
  have past:∀(r:DR) (u:aK),(∀i,r.rS i->look u i=none)->look (jd u (x.2++aO r.n0 r.c.news)) i=(look (jd u x.2) i).or (look (aO r.n0 r.c.news) i):=λr u hr=>by
   by_cases c:r.rS i
   ·rw[pB _ _ (hr i c),pB _ _ (hr i c),aG]
   ·rw[DR.ni c,Si];exact xC u (by rw[aG,DR.ni c,Si])
  rcases hu with⟨u1,u2⟩|⟨u1,u2⟩
  ·simp only[u1,jd,aG,Option.or_assoc];rw[past b _ u2,Option.or_assoc,swap]
  ·simp only[u1,jd,aG,Option.or_assoc];rw[past a _ u2,Option.or_assoc,swap]
theorem rU {p:Nat->Bool}:∀(l:List DR) (k:Nat) (x y X:SH),(∀(j:Nat) (r:DR),l[j]? =some r->p (k+j)=true->r.c.kil.2=[])->DK x y->replay p k l x=some X->∃Y,replay p k l y=some Y/\DK X Y
 |[],_,x,y,X,_,e,h=>by cases h;exact⟨y,rfl,e⟩
 |r::l,k,x,y,X,hg,e,h=>by
  have hg':∀(j:Nat) (r:DR),l[j]? =some r->p (k+1+j)=true->r.c.kil.2=[]:=λj r h1 h2=>hg (j+1) r (by simpa using h1) (by rwa [show k+(j+1)=k+1+j from by omega]);simp only[replay]at h⊢;cases hp:p k<;>simp only[hp,cond_false,cond_true]at h⊢
  ·exact rU l (k+1) x y X hg' e h
  ·rw[An]at h;obtain⟨x',hx',h⟩:=h;obtain⟨y',hy',e'⟩:=MR (hg 0 r rfl (by simpa using hp)) e hx';rw[hy'];exact rU l (k+1) x' y' X hg' e' h
theorem mP {p:Nat->Bool} {a:DR} (hi:fP cm a=true):∀(l:List DR) (k:Nat) (x X X':SH),
  (∀(j:Nat) (r:DR),l[j]? =some r->p (k+j)=true->a.c.v.aP r.c.kil=a.c.v/\(∀t,a.dst=some t->r.dst≠some t))->
  replay p k l x=some X->a.app X=some X'->∃x' X'',a.app x=some x'/\replay p k l x'=some X''/\Cb X' X''
 |[],_,x,X,X',_,h,ha=>by cases h;exact⟨X',X',ha,rfl,λ_=>rfl,rfl⟩
 |r::l,k,x,X,X',hc,h,ha=>by
  have hc':∀(j:Nat) (r:DR),l[j]? =some r->p (k+1+j)=true->a.c.v.aP r.c.kil=a.c.v/\(∀t,a.dst=some t->r.dst≠some t):=λj r h1 h2=>hc (j+1) r (by simpa using h1) (by rwa [show k+(j+1)=k+1+j from by omega]);simp only[replay]at h⊢;cases hp:p k<;>simp only[hp,cond_false,cond_true]at h⊢
  ·exact mP hi l (k+1) x X X' hc' h ha
  ·rw[An]at h;obtain⟨y,hy,h⟩:=h;obtain⟨y',Y'',h1,h2,h3⟩:=mP hi l (k+1) y X X' hc' h ha;obtain⟨c1,c2⟩:=hc 0 r rfl (by simpa using hp);obtain⟨x',z',g1,g2,g3⟩:=KM hi c1 c2 hy h1;obtain⟨W,w1,w2⟩:=pD l (k+1) y' z' Y'' g3 h2;exact⟨x',W,g1,by rw[g2];exact w1,λt=>(h3.1 t).trans (w2.1 t),h3.2.trans w2.2⟩
theorem mQ {p:Nat->Bool} {a:DR} (hi:fP cm a=false):∀(l:List DR) (k:Nat) (x X X':SH),
    (∀(j:Nat) (r:DR),l[j]? =some r->p (k+j)=true->ru cm a r=true/\(∀t,a.dst=some t->r.dst≠some t)/\∀i,a.rS i->¬r.rS i)->
    replay p k l x=some X->a.app X=some X'->∃x' X'',a.app x=some x'/\replay p k l x'=some X''/\DK X' X''
  |[],_,x,X,X',_,h,ha=>by cases h;exact⟨X',X',ha,rfl,DK.refl _⟩
  | r :: l, k, x, X, X', hc, h, ha => by
    have hc':∀(j:Nat) (r:DR),l[j]? =some r->p (k+1+j)=true->ru cm a r=true/\(∀t,a.dst=some t->r.dst≠some t)/\∀i,a.rS i->¬r.rS i:=λj r h1 h2=>hc (j+1) r (by simpa using h1) (by rwa [show k+(j+1)=k+1+j from by omega])
    have kil0:∀(r:DR),ru cm a r=true->r.c.kil.2=[]:=λr h=>by
      rcases fl h with⟨h1,_⟩|⟨h1,_⟩|⟨_,_,h1⟩
      · rw[hi]at h1;exact nomatch h1
      · exact(eP h1).2.1
      · exact(ig h1).2.1
    simp only[replay]at h⊢;cases hp:p k<;>simp only[hp,cond_false,cond_true]at h⊢
    · exact mQ hi l (k+1) x X X' hc' h ha
    · rw [An] at h;obtain⟨y,hy,h⟩:=h;obtain⟨y',Y'',h1,h2,h3⟩:=mQ hi l (k+1) y X X' hc' h ha;obtain⟨c1,c2,c3⟩:=hc 0 r rfl (by simpa using hp)
      have hcm:∃y'' z',a.app x=some y''/\r.app y''=some z'/\DK y' z':=by
        rcases fl c1 with⟨h1',_⟩|⟨h1',h2'⟩|⟨_,_,h1'⟩
        · rw[hi]at h1';exact nomatch h1'
        · obtain⟨u1,u2,u3,u4,u5⟩:=I7 h1' h2' c2 hy h1;exact⟨u1,u2,u3,u4,u5.same⟩
        · exact comm h1' c2 c3 hy h1
      obtain⟨x',z',g1,g2,g3⟩:=hcm;obtain⟨W,w1,w2⟩:=rU l (k+1) y' z' Y'' (λj r h1 h2=>kil0 r (hc' j r h1 h2).1) g3 h2;exact⟨x',W,g1,by rw[g2];exact w1,h3.trans w2⟩
theorem Cc {p:Nat->Bool} {a:DR} (l:List DR) (k:Nat) (x X X':SH)
  (hc:∀(j:Nat) (r:DR),l[j]? =some r->p (k+j)=true->ru cm a r=true/\(∀t,a.dst=some t->r.dst≠some t)/\∀i,a.rS i->¬r.rS i)
  (h:replay p k l x=some X) (ha:a.app X=some X'):∃x' X'',a.app x=some x'/\replay p k l x'=some X''/\DK X' X'':=by
 cases hi:fP cm a with
 |false=>exact mQ hi l k x X X' hc h ha
 |true=>
  obtain⟨u1,u2,u3,u4,u5⟩:=mP hi l k x X X' (λj r h1 h2=>by
   obtain⟨c1,c2,_⟩:=hc j r h1 h2;refine⟨?_,c2⟩
   rcases fl c1 with⟨_,h⟩|⟨h,_⟩|⟨h,_,_⟩
   ·exact h
   ·exact sS (eP h).2.1
   ·rw[hi]at h;exact nomatch h) h ha
  exact⟨u1,u2,u3,u4,u5.same⟩
theorem Ce {p p':Nat->Bool} {l:List DR} {i:Nat} {a:DR} {x X X':SH} (hi:l[i]? =some a) (hpi:p i=false) (hpi':p' i=true) (hpp:∀j,j≠i->p' j=p j)
  (hc:∀(j:Nat) (r:DR),i<j->l[j]? =some r->p j=true->ru cm a r=true/\(∀t,a.dst=some t->r.dst≠some t)/\∀i,a.rS i->¬r.rS i)
  (h:replay p 0 l x=some X) (ha:a.app X=some X'):∃X'',replay p' 0 l x=some X''/\DK X' X'':=by
 have hlt:=(Of.1 hi).1
 have hsplit:l=l.take i++a::l.drop (i+1):=by
  conv=>lhs;rw[<-Sv i l]
  rw[List.drop_eq_getElem_cons hlt,(Of.1 hi).2]
 have hl:(l.take i).length=i:=by simp;omega
 rw[hsplit,eo,An]at h;obtain⟨y,hy,h⟩:=h;rw[hl,Rr]at h;simp only[replay,hpi,cond_false]at h;obtain⟨y',X'',g1,g2,g3⟩:=Cc (l.drop (i+1)) (i+1) y X X' (λj r h1 h2=>hc (i+1+j) r (by omega) (by rwa [Rv]at h1) h2) h ha;refine⟨X'',?_,g3⟩;rw[hsplit,eo,hl,Rr];rw[jK (q:=p) (l.take i) 0 x λj hj=>by rw[hl]at hj;rw[Rr];exact hpp j (by omega),hy];simp only[Rs,replay,hpi',cond_true,g1];rw[jK (q:=p) (l.drop (i+1)) (i+1) y' λj hj=>hpp _ (by omega)];exact g2
theorem rV {p:Nat->Bool} {t:Nat} {x0:SV} (hx0:∀T,x0.aP T=x0):∀(l:List DR) (k:Nat) (x X:SH),replay p k l x=some X->(∀(j:Nat) (r:DR),l[j]? =some r->r.dst≠some t)->look x.1 t=some x0->look X.1 t=some x0
 |[],_,x,X,h,_,hx=>by cases h;exact hx
 |r::l,k,x,X,h,hd,hx=>by
  have hd':∀(j:Nat) (r:DR),l[j]? =some r->r.dst≠some t:=λj r h1=>hd (j+1) r (by simpa using h1);simp only[replay]at h;cases hp:p k<;>simp only[hp,cond_false,cond_true]at h
  ·exact rV hx0 l (k+1) x X h hd' hx
  ·rw[An]at h;obtain⟨y,hy,h⟩:=h;refine rV hx0 l (k+1) y X h hd' ?_;rw[dz hy,dy,if_neg (hd 0 r rfl)];rw[db r.c.fQ,hx,Sx,hx0]
end
section
variable [Tok]
def Rl (w0:World) (fp0:G0) (bs:Cell->Prop) (n:Nat) (st:St) (a:Act) (w:World):Prop:=∃pl,Rel w0 fp0 st pl a w/\pl.base=bs/\st.n=n
section
variable {w:World} {H H':aK} {pl:Pl}
theorem AA (e:xz H' H):lx ([],[]) w H pl w H' pl:=
 ⟨λi B hB _=>⟨B,(e i).trans hB,B.dk,rfl⟩,λd p u _ h hp=>⟨⟨h.1,λi B hB=>h.2 i B ((e i).symm.trans hB)⟩,hp⟩⟩
theorem cN.same (e:xz H' H) (h:cN H pl w):cN H' pl w:=
  ⟨λi B hB=>(h.blk i B ((e i).symm.trans hB)).bP (AA e) rfl (λ_=>T8) (λp u _ hu=>⟨hu,rfl⟩) B.dm,
   λi j B B' p h1 h2=>h.dis i j B B' p ((e i).symm.trans h1) ((e j).symm.trans h2),λi B p hB=>h.ob i B p ((e i).symm.trans hB),h.nb⟩
theorem Rel.congr {w0:World} {fp0:G0} {s s':List (Nat× SV)} {nid n:Nat} {gh:List (Option Nat)} {a:Act} (h:Rel w0 fp0 ⟨s,H,nid,n,gh⟩ pl a w) (hs:∀t v,look s' t=some v->look s t=some v) (e:xz H' H):
    Rel w0 fp0 ⟨s',H',nid,n,gh⟩ pl a w:=
  ⟨h.hr.same e,λt v hv=>(h.sl t v (hs t v hv)).v5 (AA e),h.sz,h.df,λi hi=>(e i).trans (h.fresh i hi),h.gr,λp u hp hn=>by
    obtain⟨g1,g2,g3⟩:=h.fr p u hp hn
    exact⟨λi B hB=>g1 i B ((e i).symm.trans hB),g2,g3⟩,λk i hi=>⟨(h.gk k i hi).1,λB hB=>(h.gk k i hi).2 B ((e i).symm.trans hB)⟩⟩
end
theorem Cf {h:aK} {k i:Nat} {b B:Blk} (e:look (IB h k b) i=some B):∃B',look h i=some B':=by
 induction h with
 |nil=>simp[IB,look]at e
 |cons x l ih=>
  obtain⟨k',u⟩:=x;rw[az];by_cases c:k'=i
  ·exact⟨u,by simp[c]⟩
  ·rw[if_neg c];simp only[IB]at e;cases hb:Nat.beq k' k<;>simp only[hb,cond_true,cond_false]at e
   ·rw[az,if_neg c]at e;exact ih e
   ·rw[az,if_neg (by have:=Re hb;omega)]at e;exact⟨B,e⟩
theorem rH:∀{l h:aK} {i:Nat} {B:Blk},look (jd l h) i=some B->∃B',look h i=some B'
 |[],h,i,B,e=>⟨B,e⟩
 |(k,b)::l,h,i,B,e=>by
  simp only[jd]at e;obtain⟨B',hB'⟩:=rH e;exact Cf hB'
theorem Rel.app {w0:World} {fp0:G0} {X X':SH} {nid n:Nat} {gh:List (Option Nat)} {pl pl':Pl} {a:Act} {w w':World} {r:DR} {H':aK} {u:Value}
  (h:Rel w0 fp0 ⟨X.1,X.2,nid,n,gh⟩ pl a w) (hx:r.app X=some X') (hup:∀i B,look r.c.upd i=some B->∃B',look X.2 i=some B')
  (hd:∀t,r.dst=some t->t+1<=n) (hg:∀(k i:Nat),gh[k]? =some (some i)->i<r.n0) (hn:r.n0+r.c.news.length<=nid) (ha:after X.2 r.n0 r.c=some H') (hs:cX X.2 H' r.c.kil pl pl' w w') (hv:aq w' H' pl' r.c.v u):
  Rel w0 fp0 ⟨X'.1,X'.2,nid,n,gh⟩ pl' (a.put r.dst u) w':=by
 have hsame:xz X'.2 H':=by
  unfold DR.app at hx;unfold after at ha;rw[uF hup]at ha;simp only[An,It]at hx ha;obtain⟨h1,e1,rfl⟩:=hx;obtain⟨h2,e2,rfl⟩:=ha;rw[e1]at e2;cases e2;exactλ_=>rfl
 have hfr:∀i,nid<=i->look H' i=none:=λi hi=>by
  rw[<-hsame i]
  cases hq:look X'.2 i with
  |none=>rfl
  |some B=>
   rcases nj (p:=λ_=>true) [r] 0 X X' (by simp[replay,hx]) i B hq with⟨B',hB'⟩|⟨j',r2,g1,_,g3⟩
   ·have:=h.fresh i hi;rw[hB']at this;exact nomatch this
   ·cases j' with
    |zero=>simp at g1;subst g1;have:=g3.2;omega
    |succ j'=>simp at g1
 have hsl:gB w' H' pl' (nR r.c.kil X.1) a:=h.sl.bP r.c.fQ hs.kp
 have hsl2:gB w' H' pl' X'.1 (a.put r.dst u):=by
  rw[dz hx]
  cases hdst:r.dst with
  |none=>exact hsl
  |some t=>
   have ht:=hd t hdst;exact gB.put (n:=n) (dst:=some t) hsl h.sz (by simp only[PO,Hk];rw[show Nat.ble (t+1) n=true from Sw ht];rfl) hv
 exact Rel.congr (s:=X'.1) (H:=H') ⟨hs.hr,hsl2,by rw[Act.BW];exact h.sz,by rw[Act.Kp];exact h.df,hfr,h.gr.trans hs.gr,λp q hp hno=>by
  obtain⟨g1,g2,g3⟩:=h.fr p q hp hno;obtain⟨f1,f2,f3⟩:=hs.fr p q g2 g1
  exact⟨f1,f2,f3.trans g3⟩,h.gk.step hs.kp (Rw _) λk i B hki hB=>by
   have hi:=hg k i hki;rw[<-hsame i]at hB;unfold DR.app at hx;simp only[An,It]at hx;obtain⟨h1,e1,rfl⟩:=hx;rw[aG,bq,if_neg (by omega),Si,cQ r.c.fQ e1 i]at hB;cases hm:mem i r.c.kil.1<;>simp only[hm,cond_true,cond_false]at hB
   ·obtain⟨B1,hB1,_⟩:=An.1 hB;exact⟨rfl,rH hB1⟩
   ·exact nomatch hB⟩ (λ_ _ h=>h) hsame
theorem uH (acc:List Nat) (j:Nat):∀l:List Edge,(Du acc l).testBit j=true↔∃e∈l,Region.binds .any e=true/\(j=e.on\/(acc.getD e.on 0).testBit j=true)
 |[]=>by simp[Du]
 |e::l=>by
  simp only[Du];cases hb:Region.binds .any e
  ·simp only[cond_false,uH acc j l,RD,exists_eq_or_imp,hb,SE,false_and,false_or]
  ·simp only[cond_true,Nat.testBit_or,Nat.testBit_two_pow,S6,decide_eq_true_eq,uH acc j l,RD,exists_eq_or_imp,hb,true_and];constructor
   ·rintro ((h|h)|h)
    ·exact .inl (.inr h)
    ·exact .inl (.inl h.symm)
    ·exact .inr h
   ·rintro ((h|h)|h)
    ·exact .inl (.inr h.symm)
    ·exact .inl (.inl h)
    ·exact .inr h
theorem jL {n:Nat}:∀{l:List Edge},uk n l=true->∀e∈l,Region.binds .any e=true->e.on<n
 |[],_,e,he,_=>by simp at he
 |x::l,h,e,he,hb=>by
  simp only[uk]at h;cases hx:Region.binds .any x<;>simp only[hx,cond_true,cond_false]at h
  ·rcases RD.1 he with rfl|he
   ·rw[hx]at hb;exact nomatch hb
   ·exact jL h e he hb
  ·cases hn:Nat.ble (x.on+1) n<;>simp only[hn,cond_true,cond_false]at h
   ·exact nomatch h
   ·rcases RD.1 he with rfl|he
    ·exact Ru hn
    ·exact jL h e he hb
structure F2 (ops:List Oper) (masks:List Nat):Prop where
 back:∀(i:Nat) (o:Oper),ops[i]? =some o->∀e∈o.after.toList,Region.binds .any e=true->e.on<i
 spec:∀(i:Nat) (o:Oper),ops[i]? =some o->∀j,(masks.getD i 0).testBit j=true↔∃e∈o.after.toList,Region.binds .any e=true/\(j=e.on\/(masks.getD e.on 0).testBit j=true)
theorem vB:∀(l:List Oper) (acc masks:List Nat),xf acc l=some masks->(∃t,masks=acc++t)/\
  ∀(k:Nat) (o:Oper),l[k]? =some o->(∀e∈o.after.toList,Region.binds .any e=true->e.on<acc.length+k)/\
   ∀j,(masks.getD (acc.length+k) 0).testBit j=true↔∃e∈o.after.toList,Region.binds .any e=true/\(j=e.on\/(masks.getD e.on 0).testBit j=true)
 |[],acc,masks,h=>by cases h;exact⟨⟨[],by simp⟩,λk o ho=>by simp at ho⟩
 |x::l,acc,masks,h=>by
  simp only[xf]at h;cases he:uk acc.length x.after.toList<;>simp only[he,cond_true,cond_false]at h
  ·exact nomatch h
  ·obtain⟨⟨t,ht⟩,hl⟩:=vB l _ masks h;refine⟨⟨Du acc x.after.toList::t,by rw[ht];simp⟩,λk o ho=>?_⟩
   cases k with
   |zero=>
    simp at ho;subst ho;refine⟨jL he,λj=>?_⟩
    have hm:masks.getD (acc.length+0) 0=Du acc x.after.toList:=by rw[ht];simp[List.getD]
    rw[hm,uH];constructor
    ·rintro ⟨e,h1,h2,h3⟩
     have hlt:=jL he e h1 h2;refine⟨e,h1,h2,h3.imp id λh3=>?_⟩;rw[ht];simpa[List.getD,Ri hlt,RC]using h3
    ·rintro ⟨e,h1,h2,h3⟩
     have hlt:=jL he e h1 h2;refine⟨e,h1,h2,h3.imp id λh3=>?_⟩
     rw[ht]at h3;simpa[List.getD,Ri hlt,RC]using h3
   |succ k=>
    have:=hl k o (by simpa using ho);simp only[Ro,Rm,RK]at this;rwa [show acc.length+(0+1)+k=acc.length+(k+1)from by omega]at this
theorem MS {ops:List Oper} {masks:List Nat} (h:xf [] ops=some masks):F2 ops masks:=by
 obtain⟨_,h2⟩:=vB ops [] masks h;exact⟨λi o ho=>by have:=(h2 i o ho).1;simpa using this,λi o ho=>by have:=(h2 i o ho).2;simpa using this⟩
theorem F2.closed {ops:List Oper} {masks:List Nat} (hm:F2 ops masks) {p:Nat->Bool} (hp:∀(j:Nat) (o:Oper),ops[j]? =some o->p j=true->∀e∈o.after.toList,Region.binds .any e=true->p e.on=true):
  ∀(n i:Nat) (o:Oper),i<=n->ops[i]? =some o->(∀e∈o.after.toList,Region.binds .any e=true->p e.on=true)->∀j,(masks.getD i 0).testBit j=true->p j=true
 |n,i,o,hn,ho,he,j,hj=>by
  obtain⟨e,h1,h2,h3⟩:=(hm.spec i o ho j).1 hj
  rcases h3 with rfl|h3
  ·exact he e h1 h2
  ·have hlt:=hm.back i o ho e h1 h2
   have hol:e.on<ops.length:=by have:=(Of.1 ho).1;omega
   cases n with
   |zero=>omega
   |succ n=>exact hm.closed hp n e.on _ (by omega) (On hol) (λe' h1' h2'=>hp e.on _ (On hol) (he e h1 h2) e' h1' h2') j h3
theorem F2.lt {ops:List Oper} {masks:List Nat} (hm:F2 ops masks) {i j:Nat} {o:Oper} (ho:ops[i]? =some o) (hj:(masks.getD i 0).testBit j=true):j<i:=
 of_decide_eq_true (hm.closed (p:=λj=>decide (j<i)) (λk o' ho' hk e h1 h2=>decide_eq_true (by have:=hm.back k o' ho' e h1 h2;have:=of_decide_eq_true hk;omega)) i i o (Rw _) ho
  (λe h1 h2=>decide_eq_true (hm.back i o ho e h1 h2)) j hj)
end
section
variable [Tok]
def KN (h H:aK):Prop:=∀i B,look h i=some B->∃B',look H i=some B'/\B.lW B'
def OH (P:Program) (o:Oper) (n:Nat) (c:CR) (s:List (Nat× SV)) (h:aK):Prop:=
 ∀(s':List (Nat× SV)) (H:aK) (a:Act) (w:World) (pl:Pl),Ext s s'->KN h H->cN H pl w->gB w H pl s' a->(∀k,k<c.news.length->look H (n+k)=none)->kv P o a w H pl n c
theorem zT {P:Program} {T:TypeId} {h H:aK} (e:KN h H) {x:SV} {k:Int} {v:SV} (hv:bT P T h x k=some v):bT P T H x k=some v:=by
 have sz:∀{t t':Ty},t.sz=t'.sz->slT P T t=slT P T t':=λ{t t'} e=>by unfold slT;rw[e]
 cases x with
 |own i=>
  simp only[bT]at hv⊢
  cases hl:look h i with
  |none=>rw[hl]at hv;exact nomatch hv
  |some B=>
   rw[hl]at hv;obtain⟨B',h1,h2⟩:=e i B hl
   cases B with
   |box cs=>exact nomatch hv
   |arr sh t xs=>
    cases B' with
    |box cs=>exact h2.elim
    |arr sh' t' ys=>
     rw[h1];simp only at hv⊢
     rwa [<-sz h2.1,<-h2.2]
 |sub i o n=>
  simp only[bT]at hv⊢
  cases hl:look h i with
  |none=>rw[hl]at hv;exact nomatch hv
  |some B=>
   rw[hl]at hv;obtain⟨B',h1,h2⟩:=e i B hl
   cases B with
   |box cs=>exact nomatch hv
   |arr sh t xs=>
    cases B' with
    |box cs=>exact h2.elim
    |arr sh' t' ys=>
     rw[h1];simp only at hv⊢
     rwa [<-sz h2.1]
 |r d x=>cases x<;>exact hv
 |_=>exact hv
def l4 (masks:List Nat) (i:Nat) (o:Oper) (rs:List DR) (t:Bool):Prop:=
 match o.guard with
 |none=>t=true
 |some (g,want)=>(masks.getD i 0).testBit g=true/\∃r d,rs[g]? =some r/\r.dst=some d/\((∃b,r.c.v=.r [] (.bool b)/\t=(b==want))\/(r.c.v=.tup []/\t=false))
def P9 (E:Env) (ops:List Oper) (masks dsts:List Nat) (s0:List (Nat× SV)) (h0:aK) (rs:List DR) (i:Nat) (o:Oper) (r:DR):Prop:=
 r.dst=o.dst/\okW E o.op r.c=true/\∃x t,replay (Nat.testBit (masks.getD i 0)) 0 (rs.take i) (na (MB masks i 0 ops) s0 (eN o.op.operands.toList),h0)=some x/\l4 masks i o rs t/\
  ((t=true/\r=Ou E masks i ops h0 x o r.n0 r.c/\(Kd E h0 x o=false->DI E.P o r.n0 r.c (na [] x.1 (eN o.op.operands.toList)) (ID E masks i ops x o))/\(Kd E h0 x o=true->OH E.P o r.n0 r.c (na [] x.1 (eN o.op.operands.toList)) (vA h0 (Dv x o))))\/(t=false/\r.c={v:=.tup []}/\r.len=false))
theorem OI {E:Env} {ρ:Type} {o:Oper} {s:List (Nat× SV)} {h0:aK} {n:Nat} {K:CR->Option ρ} {out:ρ} (hl:PZ o.op=true) (h:BH E s h0 n o.op K=some out):∃c,K c=some out/\OH E.P o n c s h0:=by
 cases ho:o.op with
 |indexAddr T x k=>
  rw[ho]at h;have h:nS E.P s h0 (.indexAddr T x k) (λv=>K {v:=v})=some out:=h;rw[nT]at h;obtain⟨v,hv,h⟩:=An.1 h;refine⟨_,h,λs' H a w pl es eh hr hs hn=>?_⟩
  have hv':gA E.P s' H (.indexAddr T x k)=some v:=by
   simp only[gA,An]at hv⊢;obtain⟨x',hx,k',hk,n',hn',hv⟩:=hv;exact⟨x',cZ es _ _ hx,k',cZ es _ _ hk,n',hn',zT eh hv⟩
  obtain⟨u,hu,hvr⟩:=kC hr hs hv' o ho
  exact nd hr hu hvr
 |_=>rw[ho]at hl;exact nomatch hl
structure DN (E:Env) (ops:List Oper) (masks dsts:List Nat) (s0:List (Nat× SV)) (h0:aK) (nid0:Nat) (rs:List DR) (m nid:Nat):Prop where
 len:rs.length=m
 QP:∀(i:Nat) (o:Oper) (r:DR),ops[i]? =some o->rs[i]? =some r->P9 E ops masks dsts s0 h0 rs i o r
 lo:∀(i:Nat) (r:DR),rs[i]? =some r->nid0<=r.n0/\r.n0+r.c.news.length<=nid
 ord:∀(i j:Nat) (a b:DR),i<j->rs[i]? =some a->rs[j]? =some b->a.n0+a.c.news.length<=b.n0
theorem l4.more {masks:List Nat} {i:Nat} {o:Oper} {rs:List DR} {t:Bool} (h:l4 masks i o rs t) (r:DR):l4 masks i o (rs++[r]) t:=by
 unfold l4 at*;split at h
 ·exact h
 ·obtain⟨h1,r',d,h2,h3,h4⟩:=h;exact⟨h1,r',d,by rw[Ri (Of.1 h2).1];exact h2,h3,h4⟩
section
variable {ρ:Type} {E:Env} {ops:List Oper} {masks dsts:List Nat} {s0:List (Nat× SV)} {h0:aK} {nid0:Nat}
theorem DN.push {rs:List DR} {m nid:Nat} (F:DN E ops masks dsts s0 h0 nid0 rs m nid) (h0n:nid0<=nid) {o:Oper} {r:DR} (ho:ops[m]? =some o) (hr:P9 E ops masks dsts s0 h0 (rs++[r]) m o r) (hn:r.n0=nid):
  DN E ops masks dsts s0 h0 nid0 (rs++[r]) (m+1) (nid+r.c.news.length):=by
 have hcase:∀(i:Nat) (b:DR),(rs++[r])[i]? =some b->(i<m/\rs[i]? =some b)\/(i=m/\b=r):=λi b hb=>by
  by_cases c:i<m
  ·rw[Ri (by rw[F.len];exact c)]at hb;exact .inl ⟨c,hb⟩
  ·rw[Rh (by rw[F.len];omega),F.len]at hb
   have hi:i-m<1:=by have:=(Of.1 hb).1;simpa using this
   have:i-m=0:=by omega
   rw[this]at hb;simp at hb;exact .inr ⟨by omega,hb.symm⟩
 refine⟨by simp[F.len],λi o' b ho' hb=>?_,λi b hb=>?_,λi j a b hij ha hb=>?_⟩
 ·rcases hcase i b hb with⟨hi,h⟩|⟨rfl,rfl⟩
  ·obtain⟨g1,g2,x,t,g3,g4,g5⟩:=F.QP i o' b ho' h;exact⟨g1,g2,x,t,by rw[Su (by rw[F.len];omega)];exact g3,g4.more r,g5⟩
  ·rw[ho]at ho';cases ho';exact hr
 ·rcases hcase i b hb with⟨hi,h⟩|⟨rfl,rfl⟩
  ·have:=F.lo i b h;exact⟨this.1,by omega⟩
  ·exact⟨by omega,by omega⟩
 ·rcases hcase j b hb with⟨hj,h⟩|⟨rfl,rfl⟩
  ·rcases hcase i a ha with⟨hi,h'⟩|⟨rfl,rfl⟩
   ·exact F.ord i j a b hij h' h
   ·omega
  ·rcases hcase i a ha with⟨hi,h'⟩|⟨rfl,rfl⟩
   ·have:=F.lo i a h';omega
   ·omega
theorem F3:∀{rs:List DR} {g:Nat} {r:DR} {v:SV},rs[g]? =some r->r.c.v=v->Ot rs g v=rs
 |[],_,_,_,h,_=>by simp at h
 |x::l,0,r,v,h,hv=>by simp at h;subst h;subst hv;rfl
 |x::l,g+1,r,v,h,hv=>by simp only[Ot];rw[F3 (rs:=l) (by simpa using h) hv]
theorem pE (hE:fR E) {out:ρ}:∀(rest:List Oper) (i nid:Nat) (rs:List DR) (K:List DR->Nat->Option ρ),o4 E ops masks dsts s0 h0 i rest nid rs K=some out->
  DN E ops masks dsts s0 h0 nid0 rs i nid->nid0<=nid->ops.drop i=rest->∃rs' nid',K rs' nid'=some out/\nid0<=nid'/\DN E ops masks dsts s0 h0 nid0 rs' (i+rest.length) nid'
 |[],i,nid,rs,K,h,F,hn,_=>⟨rs,nid,h,hn,F⟩
 |o::rest,i,nid,rs,K,h,F,hn,hd=>by
  have ho:ops[i]? =some o:=by rw[<-List.head?_drop,hd];rfl
  have hd':ops.drop (i+1)=rest:=by rw[<-List.drop_drop,hd];rfl
  have htake:∀r,(rs++[r]).take i=rs:=λr=>by rw[Su (by rw[F.len];omega),<-F.len,Sc]
  simp only[o4,An]at h;obtain⟨x,hx,h⟩:=h
  have exec:∀t,(∀r,l4 masks i o (rs++[r]) t)->t=true->(BH E (na [] x.1 (eN o.op.operands.toList)) (Ke E masks i ops h0 x o) nid o.op λc=>cond (okW E o.op c) (o4 E ops masks dsts s0 h0 (i+1) rest (nid+c.news.length) (rs++[Ou E masks i ops h0 x o nid c]) K) none)=some out->
    ∃rs' nid',K rs' nid'=some out/\nid0<=nid'/\DN E ops masks dsts s0 h0 nid0 rs' (i+(o::rest).length) nid':=λt hw ht h=>by
   obtain⟨c,hc,hg⟩:∃c,(cond (okW E o.op c) (o4 E ops masks dsts s0 h0 (i+1) rest (nid+c.news.length) (rs++[Ou E masks i ops h0 x o nid c]) K) none)=some out/\
     (Kd E h0 x o=false->DI E.P o nid c (na [] x.1 (eN o.op.operands.toList)) (ID E masks i ops x o))/\(Kd E h0 x o=true->OH E.P o nid c (na [] x.1 (eN o.op.operands.toList)) (vA h0 (Dv x o))):=by
    unfold Ke at h;cases hL:Kd E h0 x o<;>simp only[hL,cond_true,cond_false]at h
    ·obtain⟨c,hc,hg⟩:=DJ hE h;exact⟨c,hc,λ_=>hg,(λe=>nomatch e)⟩
    ·have hL':=hL;unfold Kd at hL';simp only[Rf]at hL';obtain⟨c,hc,hg⟩:=OI hL'.2.1 h;exact⟨c,hc,(λe=>nomatch e),λ_=>hg⟩
   cases hok:okW E o.op c<;>simp only[hok,cond_true,cond_false]at hc
   ·exact nomatch hc
   ·have F':=F.push hn (r:=Ou E masks i ops h0 x o nid c) ho ⟨rfl,hok,x,t,by rw[htake];exact hx,hw _,.inl ⟨ht,rfl,hg.1,hg.2⟩⟩ rfl;have:=pE hE rest (i+1) _ _ K hc F' (by omega) hd';rwa [show i+1+rest.length=i+(o::rest).length from by simp;omega]at this
  have skip:∀t,(∀r,l4 masks i o (rs++[r]) t)->t=false->o4 E ops masks dsts s0 h0 (i+1) rest nid (rs++[⟨o.dst,nid,{v:=.tup []},[],[],false⟩]) K=some out->
    ∃rs' nid',K rs' nid'=some out/\nid0<=nid'/\DN E ops masks dsts s0 h0 nid0 rs' (i+(o::rest).length) nid':=λt hw ht h=>by
   have F':=F.push hn (r:=⟨o.dst,nid,{v:=.tup []},[],[],false⟩) ho ⟨rfl,by simp only[okW,isNil,CR.kil,SD];cases lY E o.op<;>rfl,x,t,by rw[htake];exact hx,hw _,.inr ⟨ht,rfl,rfl⟩⟩ rfl;have:=pE hE rest (i+1) _ _ K h F' (by simpa using hn) hd';rwa [show i+1+rest.length=i+(o::rest).length from by simp;omega]at this
  split at h
  ·rename_i hg;exact exec true (λr=>by unfold l4;rw[hg]) rfl h
  ·rename_i g want hg;cases hb:(masks.getD i 0).testBit g<;>simp only[hb,cond_true,cond_false]at h
   ·exact nomatch h
   ·simp only[An]at h;obtain⟨r,hr,d,hdst,h⟩:=h;split at h
    ·rename_i hv
     exact skip false (λr'=>l4.more (by
      unfold l4;rw[hg];exact⟨hb,r,d,hr,hdst,.inr ⟨hv,rfl⟩⟩) r') rfl h
    ·rename_i b hv
     have hw:∀r',l4 masks i o (rs++[r']) (b==want):=λr'=>l4.more (by
      unfold l4;rw[hg];exact⟨hb,r,d,hr,hdst,.inl ⟨b,hv,rfl⟩⟩) r'
     cases b<;>simp only[cond_true,cond_false]at h
     ·rw[F3 hr hv]at h;cases want<;>simp only[cond_true,cond_false]at h
      ·exact exec _ hw rfl h
      ·exact skip _ hw rfl h
     ·rw[F3 hr hv]at h;cases want<;>simp only[cond_true,cond_false]at h
      ·exact skip _ hw rfl h
      ·exact exec _ hw rfl h
    ·exact nomatch h
end
theorem xD {cm:DR->Bool} {masks:List Nat} {i:Nat} {r:DR}:∀{l:List DR} {k:Nat},xh cm masks i r k l=true->∀(j:Nat) (b:DR),l[j]? =some b->(masks.getD (k+j) 0).testBit i=true\/ru cm r b=true
 |[],_,_,j,b,hb=>by simp at hb
 |x::l,k,h,j,b,hb=>by
  simp only[xh]at h
  have hl:xh cm masks i r (k+1) l=true/\((masks.getD k 0).testBit i=true\/ru cm r x=true):=by
   cases h1:(masks.getD k 0).testBit i<;>simp only[h1,cond_true,cond_false]at h
   ·cases h2:ru cm r x<;>simp only[h2,cond_true,cond_false]at h
    ·exact nomatch h
    ·exact⟨h,.inr rfl⟩
   ·exact⟨h,.inl rfl⟩
  cases j with
  |zero=>simp at hb;subst hb;exact hl.2
  |succ j=>have:=xD hl.1 j b (by simpa using hb);rwa [show k+1+j=k+(j+1)from by omega]at this
theorem rW {cm:DR->Bool} {masks:List Nat}:∀{l:List DR} {k:Nat},Ah cm masks k l=true->∀(i j:Nat) (a b:DR),i<j->l[i]? =some a->l[j]? =some b->(masks.getD (k+j) 0).testBit (k+i)=true\/ru cm a b=true
 |[],_,_,i,j,a,b,_,ha,_=>by simp at ha
 |x::l,k,h,i,j,a,b,hij,ha,hb=>by
  simp only[Ah]at h;cases h1:xh cm masks k x (k+1) l<;>simp only[h1,cond_true,cond_false]at h
  ·exact nomatch h
  ·obtain⟨j,rfl⟩:∃j',j=j'+1:=⟨j-1,by omega⟩
   cases i with
   |zero=>
    simp at ha;subst ha;have:=xD h1 j b (by simpa using hb)
    rwa [show k+1+j=k+(j+1)from by omega]at this
   |succ i=>
    have:=rW h i j a b (by omega) (by simpa using ha) (by simpa using hb);rwa [show k+1+j=k+(j+1)from by omega,show k+1+i=k+(i+1)from by omega]at this
theorem Rb {i:Nat} {l:List Nat}:mem i l=true↔i∈l:=by
 induction l with
 |nil=>simp[mem]
 |cons k l ih=>
  simp only[mem,RD];cases h:Nat.beq k i
  ·have:¬i=k:=λe=>by subst e;simp at h
   simp[ih,this]
  ·have:=Re h;simp[this]
theorem AB {n:Nat}:∀{l:List Nat},IC n l=true->∀i∈l,i+1<=n
 |[],_,i,hi=>by simp at hi
 |x::l,h,i,hi=>by
  simp only[IC]at h;cases hm:Nat.ble (x+1) n<;>simp only[hm,cond_true,cond_false]at h
  ·exact nomatch h
  ·rcases RD.1 hi with rfl|hi
   ·exact Ru hm
   ·exact AB h i hi
theorem qA:∀{ops:List Oper} {j:Nat} {o:Oper} {t:Nat},ops[j]? =some o->o.dst=some t->t∈ja ops
 |[],j,o,t,h,_=>by simp at h
 |x::l,0,o,t,h,hd=>by simp at h;subst h;simp[ja,hd]
 |x::l,j+1,o,t,h,hd=>by
  have:=qA (ops:=l) (by simpa using h) hd;simp only[ja];split<;>simp[this]
theorem AD:∀{ops:List Oper},(ja ops).Nodup->∀{i j:Nat} {a b:Oper} {t:Nat},i≠j->ops[i]? =some a->ops[j]? =some b->a.dst=some t->b.dst≠some t
 |[],_,i,j,a,b,t,_,h,_,_=>by simp at h
 |x::l,hn,i,j,a,b,t,hij,ha,hb,h1=>by
  have hl:(ja l).Nodup:=by
   simp only[ja]at hn;split at hn
   ·exact(Sl.1 hn).2
   ·exact hn
  have hx:∀t,x.dst=some t->t∉ja l:=λt ht=>by
   simp only[ja,ht]at hn;exact(Sl.1 hn).1
  intro h2
  cases i with
  |zero=>
   simp at ha;subst ha
   cases j with
   |zero=>exact hij rfl
   |succ j=>exact hx t h1 (qA (by simpa using hb) h2)
  |succ i=>
   cases j with
   |zero=>simp at hb;subst hb;exact hx t h2 (qA (by simpa using ha) h1)
   |succ j=>exact AD (i:=i) (j:=j) hl (by omega) (by simpa using ha) (by simpa using hb) h1 h2
theorem Cg {masks:List Nat} {i:Nat}:∀{ops:List Oper} {k j:Nat} {o:Oper} {t:Nat},ops[j]? =some o->o.dst=some t->(masks.getD (k+j) 0).testBit i=false->t∈MB masks i k ops
 |[],k,j,o,t,h,_,_=>by simp at h
 |x::l,k,0,o,t,h,hd,hb=>by simp at h;subst h;simp only[RP]at hb;simp only[MB,hb,cond_false,hd];exact RJ ..
 |x::l,k,j+1,o,t,h,hd,hb=>by
  have:=Cg (ops:=l) (k:=k+1) (by simpa using h) hd (by rw[show k+1+j=k+(j+1)from by omega];exact hb);simp only[MB];cases(masks.getD k 0).testBit i<;>simp only[cond_true,cond_false]
  ·split<;>simp[this]
  ·exact this
theorem I8 {T:List Nat} {s:List (Nat× SV)} {l:List Nat} {t:Nat} {v:SV} (h:look (na T s l) t=some v):v∈BJ s l:=by
 induction l with
 |nil=>exact nomatch h
 |cons k l ih=>
  simp only[na]at h;simp only[BJ];cases hm:mem k T<;>simp only[hm,cond_true,cond_false]at h
  ·cases hl:look s k with
   |none=>rw[hl]at h;exact ih h
   |some u=>
    rw[hl]at h;simp only[az]at h;by_cases c:k=t
    ·rw[if_pos c]at h;cases h;exact RJ
    ·rw[if_neg c]at h;exact RA _ (ih h)
  ·cases hl:look s k with
   |none=>exact ih h
   |some u=>exact RA _ (ih h)
theorem AE {k:Nat} {B:Blk}:∀{l:List DR},Kc k B l=true->∀r∈l,look r.c.upd k=none/\mem k r.c.kil.1=false/\B.JW r.c.kil=true
 |[],_,_,h=>nomatch h
 |r::l,h,r',hr=>by
  simp only[Kc]at h;cases hc:((look r.c.upd k).isNone&&(!mem k r.c.kil.1&&B.JW r.c.kil))<;>rw[hc]at h<;>simp only[cond_true,cond_false]at h
  ·exact nomatch h
  ·rw[Rf,Rf,Option.isNone_iff_eq_none,Te]at hc
   rcases RD.1 hr with rfl|hr
   ·exact hc
   ·exact AE h r' hr
theorem DP {h:aK} {rs:List DR} {k:Nat}:∀{L:List Nat},Qx h rs L=true->mem k L=true->∃B,look h k=some B/\∀r∈rs,look r.c.upd k=none/\mem k r.c.kil.1=false/\B.JW r.c.kil=true
 |[],_,hm=>nomatch hm
 |i::l,hc,hm=>by
  simp only[Qx]at hc;split at hc
  ·rename_i B hB;cases h1:Kc i B rs<;>rw[h1]at hc<;>simp only[cond_true,cond_false]at hc
   ·exact nomatch hc
   ·simp only[mem]at hm;cases hb:Nat.beq i k<;>rw[hb]at hm<;>simp only[cond_true,cond_false]at hm
    ·exact DP hc hm
    ·have:=Re hb;subst this;exact⟨B,hB,AE h1⟩
  ·exact nomatch hc
theorem vC:∀{L T:List Nat},xi L T=true->∀k,mem k L=true->mem k T=false
 |[],_,_,k,hk=>nomatch hk
 |i::l,T,h,k,hk=>by
  simp only[xi]at h;cases hm:mem i T<;>rw[hm]at h
  ·simp only[mem]at hk;cases hb:Nat.beq i k<;>rw[hb]at hk
   ·exact vC h k hk
   ·rw[<-Re hb];exact hm
  ·exact nomatch h
theorem vD {L:List Nat}:∀{rs:List DR},BK L rs=true->∀k,mem k L=true->∀r∈rs,mem k r.c.kil.1=false
 |[],_,_,_,_,hr=>nomatch hr
 |r::l,h,k,hk,r',hr=>by
  simp only[BK]at h;cases hn:xi L r.c.kil.1<;>rw[hn]at h
  ·exact nomatch h
  ·rcases RD.1 hr with rfl|hr
   ·exact vC hn k hk
   ·exact vD h k hk r' hr
theorem xE {cm:DR->Bool}:∀{rs:List DR},Ai cm rs=true->∀r∈rs,r.len=true->fP cm r=true
 |[],_,_,hr,_=>nomatch hr
 |r::l,h,r',hr,hl=>by
  simp only[Ai]at h;cases hn:(!r.len||fP cm r)<;>rw[hn]at h
  ·exact nomatch h
  ·rcases RD.1 hr with rfl|hr
   ·rw[hl]at hn;exact hn
   ·exact xE h r' hr hl
theorem MT {T:Kil} {B:Blk} (h:B.JW T=true):B.aP T=some B:=by
 cases B with
 |box cs=>simp only[Blk.aP,jj cs h]
 |arr sh t xs=>
  cases sh with
  |none=>rfl
  |some d=>simp only[Blk.aP,not_false h,cond_false]
theorem l5 {p:Nat->Bool} {k:Nat} {B:Blk}:∀(l:List DR) (j:Nat) (x X:SH),(∀r∈l,look r.c.upd k=none/\mem k r.c.kil.1=false/\B.JW r.c.kil=true)->look x.2 k=some B->replay p j l x=some X->look X.2 k=some B
 |[],_,x,X,_,hx,h=>by cases h;exact hx
 |r::l,j,x,X,hl,hx,h=>by
  simp only[replay]at h;have hl':=λr' hr=>hl r' (RA _ hr);cases hp:p j<;>rw[hp]at h<;>simp only[cond_true,cond_false]at h
  ·exact l5 l (j+1) x X hl' hx h
  ·rw[An]at h;obtain⟨y,hy,h⟩:=h;obtain⟨h1,hm,h2⟩:=hl r RJ;refine l5 l (j+1) y X hl' ?_ h;rw[wC hy,hm,cond_false,pB _ _ h1,hx,Rs,MT h2];rfl
theorem lf {T:List Nat} {s:List (Nat× SV)} {l:List Nat} {t:Nat} {v:SV} (h:look (na T s l) t=some v):t∉T/\look s t=some v:=by
 induction l with
 |nil=>exact nomatch h
 |cons k l ih=>
  simp only[na]at h;cases hm:mem k T<;>simp only[hm,cond_true,cond_false]at h
  ·cases hl:look s k with
   |none=>rw[hl]at h;exact ih h
   |some u=>
    rw[hl]at h;rw[az]at h;by_cases e:k=t
    ·subst e;rw[if_pos rfl]at h;cases h;exact⟨λh=>by rw[Rb.2 h]at hm;exact(nomatch hm),hl⟩
    ·rw[if_neg e]at h;exact ih h
  ·exact ih h
theorem xF {E:Env} {masks:List Nat} {i:Nat}:∀{l:List Oper} {k:Nat},vz E masks i k l=false->∀(j:Nat) (o:Oper),l[j]? =some o->lY E o.op=true->PW masks i (k+j)=true
 |[],_,_,j,o,h,_=>by simp at h
 |x::l,k,h,j,o,ho,hw=>by
  simp only[vz]at h
  have hl:vz E masks i (k+1) l=false/\(lY E x.op=true->PW masks i k=true):=by
   cases h1:lY E x.op<;>simp only[h1,cond_true,cond_false]at h
   ·exact⟨h,λh=>nomatch h⟩
   ·cases h2:PW masks i k<;>simp only[h2,cond_true,cond_false]at h
    ·exact nomatch h
    ·exact⟨h,λ_=>rfl⟩
  cases j with
  |zero=>simp at ho;subst ho;exact hl.2 hw
  |succ j=>have:=xF hl.1 j o (by simpa using ho) hw;rwa [show k+1+j=k+(j+1)from by omega]at this
end
end Go.Proofs.Ev
