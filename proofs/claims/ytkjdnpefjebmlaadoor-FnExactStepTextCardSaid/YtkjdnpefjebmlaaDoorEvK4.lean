/- The evaluator over the model's code, and that it is sound: part 4. -/
import Derived.Test.YtkjdnpefjebmlaaDoorEvK3
import Derived.Lib.SliceRun
import Derived.Laws.Cover3
import Derived.Orders
set_option linter.unusedVariables false
set_option linter.unusedSimpArgs false
set_option linter.unusedSectionVars false
namespace Go.Proofs.Ev
section
variable [Tok]
section
variable {w:World} {H:ak} {pl:Pl} {P:Program}
theorem fv {t:Ty} {ys:List t.El} {zs:List t.El} {q n i j:Nat} {r:R} (hn:q+n<=ys.length) (hz:zs.length=n) (h:af t (ys.take q++zs++ys.drop (q+n)) i j r):
  (q<=i/\i<q+n/\af t zs (i-q) j r)\/(¬(q<=i/\i<q+n)/\af t ys i j r):=by
 obtain⟨x,hx,hr⟩:=h
 have hl:(ys.take q).length=q:=by rw[Bj];omega
 by_cases c:q<=i/\i<q+n
 ·rw[A9,AX (by omega),hl,A1 (by omega)]at hx;exact .inl ⟨c.1,c.2,x,hx,hr⟩
 ·refine .inr ⟨c,x,?_,hr⟩;by_cases c1:i<q
  ·rw[A9,A1 (by omega),Bd,if_pos c1]at hx;exact hx
  ·rw[AX (by simp[hz];omega),A8]at hx;rw[<-hx];congr 1;simp[hz];omega
theorem tc {t:Ty} {d:List Nat} {ys:List t.El} {i q num:Nat} {H':ak} {zs:List t.El} {us:List Value} {b m n cap:Nat}
  (hr:aR H pl w) (hl:look H i=some (.arr (some d) t ys)) (hzl:zs.length=num) (hh:pl.hdr i=.slice (some ⟨b,m,none⟩) n cap) (hq:q+num<=ys.length) (hus:us.length=num*t.sz) (la:∀u∈us,one u=true)
  (hin:∀x j r,af t zs x j r->∃u,us[x*t.sz+j]? =some u/\RepR w (okd H pl d) r u) (hpos0:0<ys.length)
  (wL:hit [i] d=false) (ht:eK H H' ([],[i]) i (.arr (some d) t (ys.take q++zs++ys.drop (q+num)))):
  ∃w',(storeCells ⟨b,m+q*t.sz,none⟩ us).run P w=.ok () w'/\∃fp',aJ H H' ([],[i]) pl (pl.set i (pl.hdr i) fp') w w':=by
 obtain⟨⟨a,cp,b',o,vs,fs,hhd,hcap,ha,dx,hc,hrr,hd1,hd2,hfp⟩⟩:=(hr.blk i _ hl).xw;rw[hh]at hhd;cases hhd;have hsp:=t.b4
 have hab:b=b'/\m=o:=by
  rcases ha with h|h
  ·omega
  ·cases h;exact⟨rfl,rfl⟩
 obtain⟨rfl,rfl⟩:=hab
 have uN:q*t.sz+us.length<=cap*t.sz:=by
  have:(q+num)*t.sz<=cap*t.sz:=Bf _ (by omega);rw[Bm]at this;omega
 have hcell:∀j,j<us.length->∃u,w.at? (b,m+q*t.sz+j)=some u/\calm (w.bc (b,m+q*t.sz+j))=true:=λj hj=>by
  obtain⟨⟨u,q1⟩,q2⟩:=dx (q*t.sz+j) (by omega);rw[show m+q*t.sz+j=m+(q*t.sz+j)from by omega];exact⟨u,q1,fo q2⟩
 have hst:=run_storeCells_cells (P:=P) b (m+q*t.sz) us 0 w (λj hj=>by
   obtain⟨u,q1,_⟩:=hcell j hj;simp only[Bc];have q1:w.cell? ⟨b,m+q*t.sz+j,none⟩=some u:=q1
   rw[q1];rfl) (λj hj=>by
   obtain⟨u,q1,q2⟩:=hcell j hj
   simp only[Bc];exact de q1 q2) (λu hu=>en (la u hu))
 simp only[Bc]at hst
 have bQ:∀j,j<us.length->(w.setCells b (m+q*t.sz) us).at? (b,m+q*t.sz+j)=us[j]? :=λj hj=>by
  have:=World.cell?_setCells_in b us (m+q*t.sz) w (λj hj=>by
   obtain⟨u,q1,_⟩:=hcell j hj;have q1:w.cell? ⟨b,m+q*t.sz+j,none⟩=some u:=q1
   rw[q1];rfl) j hj
  rw[AU hj];simpa[World.at?]using this
 have aQ:∀p u,w.at? p=some u->¬(p.1=b/\m+q*t.sz<=p.2/\p.2<m+q*t.sz+us.length)->(w.setCells b (m+q*t.sz) us).at? p=some u:=λp u hp hno=>by
  unfold World.at? at*;rw[World.cell?_setCells_out b _ _ w _ (λe1 _=>by simp at e1;simp;omega)];exact hp
 have mg:∀p,(w.setCells b (m+q*t.sz) us).bc p=w.bc p:=λp=>bF _ _ _ _ _;have gL:∀p,reg b m (cap*t.sz) p->pl.fp i p:=λp hp=>(hfp p).2 (.inl hp);have kN:∀i' j r p,af t ys i' j r->fs i' j p->pl.fp i p:=λi' j r p hx hf=>(hfp p).2 (.inr ⟨i',j,r,hx,hf⟩)
 have hmi:mem i [i]=true:=by simp[mem]
 have mr:(ys.take q++zs++ys.drop (q+num)).length=ys.length:=by simp[hzl];omega
 refine⟨_,hst,λp=>reg b m (cap*t.sz) p\/∃i' j r,af t ys i' j r/\¬(q<=i'/\i'<q+num)/\fs i' j p,?_⟩;refine di (aV.setCells _ _ _ _) hr ht (λx hx=>nomatch hx) (λx hx=>?_) (.inr ⟨_,hl,hmi,by simp only[Blk.ec];exact⟨trivial,mr.symm⟩,rfl⟩) (λp u hp hno=>⟨aQ p u hp λhin=>?_,mg p⟩) (λp hp=>?_) (λp hp=>?_) λhkp=>?_
 ·refine .inr ?_;simp only[mem]at hx;cases hb:Nat.beq i x
  ·rw[hb]at hx;exact nomatch hx
  ·exact(AR hb).symm
 ·exact hno i _ hmi hl (gL p ⟨hin.1,by omega,by omega⟩)
 ·refine hr.nb p ?_
  cases hq':w.at? p with
  |none=>rfl
  |some u=>
   by_cases hin:p.1=b/\m+q*t.sz<=p.2/\p.2<m+q*t.sz+us.length
   ·obtain⟨p1,p2⟩:=p;obtain⟨e1,e2,e3⟩:=hin;simp only at e1 e2 e3;subst e1;have:=bQ (p2-(m+q*t.sz)) (by omega);rw[show m+q*t.sz+(p2-(m+q*t.sz))=p2 from by omega,hp,AU (by omega)]at this;exact nomatch this
   ·rw[aQ p u hq' hin]at hp;exact nomatch hp
 ·rcases hp with hp|⟨i',j,r,hx,_,hf⟩
  ·exact .inr ⟨i,_,hmi,hl,gL p hp⟩
  ·exact .inr ⟨i,_,hmi,hl,kN i' j r p hx hf⟩
 ·have jh:∀{i' j},j<t.sz->¬(q<=i'/\i'<q+num)->¬(m+q*t.sz<=m+(i'*t.sz+j)/\m+(i'*t.sz+j)<m+q*t.sz+us.length):=λ{i' j} hj hne ⟨g1,g2⟩=>by
   rcases Nat.lt_or_ge i' q with h|h
   ·have:(i'+1)*t.sz<=q*t.sz:=Bf _ h;rw[BG]at this;omega
   ·have h2:q+num<=i':=by omega
    have:(q+num)*t.sz<=i'*t.sz:=Bf _ h2;rw[Bm]at this;omega
  refine bo.gf ⟨some ⟨b,m,none⟩,cap,b,m,λi' j=>if q<=i'/\i'<q+num then(us[(i'-q)*t.sz+j]?).getD undef else vs i' j,λi' j p=>¬(q<=i'/\i'<q+num)/\fs i' j p,by rw[mr];simp[Pl.set,hh],by rw[mr];exact hcap,.inr rfl,λj hj=>⟨?_,by rw[mg];exact(dx j hj).2⟩,λi' j r hx=>?_,λi' j r hx=>?_,λi' j r p hx hf=>?_,λi' j r i2 j2 r2 p hx hx' hf hf'=>?_,λp=>?_⟩
  ·by_cases hin:q*t.sz<=j/\j<q*t.sz+us.length
   ·have:=bQ (j-q*t.sz) (by omega);rw[show m+q*t.sz+(j-q*t.sz)=m+j from by omega]at this;exact⟨_,this.trans (AU (by omega))⟩
   ·obtain⟨u,hu⟩:=(dx j hj).1;exact⟨u,aQ _ u hu λh=>hin ⟨by have:=h.2.1;simp at this;omega,by have:=h.2.2;simp at this;omega⟩⟩
  ·rcases fv hq hzl hx with⟨g1,g2,g3⟩|⟨g1,g2⟩
   ·rw[if_pos ⟨g1,g2⟩];obtain⟨u,hu,_⟩:=hin _ _ _ g3;have hlt:=(AQ.1 hu).1;have:=bQ _ hlt
    have e:m+q*t.sz+((i'-q)*t.sz+j)=m+(i'*t.sz+j):=by
     have:i'*t.sz=q*t.sz+(i'-q)*t.sz:=by rw[<-Bm];congr 1;omega
     omega
    rw[e]at this;rw[this,hu];rfl
   ·rw[if_neg g1];exact aQ _ _ (hc _ _ _ g2) λh=>jh (ao g2).2 g1 ⟨h.2.1,h.2.2⟩
  ·rcases fv hq hzl hx with⟨g1,g2,g3⟩|⟨g1,g2⟩
   ·rw[if_pos ⟨g1,g2⟩];obtain⟨u,hu,hI⟩:=hin _ _ _ g3;rw[hu,BL];have hno:∀p,¬(¬(q<=i'/\i'<q+num)/\fs i' j p):=λp hf=>hf.1 ⟨g1,g2⟩;rw[hh];exact⟨hI.frame λp u hp hu=>(hh▸hkp).k2 d p u (λx hx=>bB _ d wL x hx) hp hu,hno⟩
   ·simp only[if_neg g1];have hI:=hrr _ _ _ g2;rw[hh];exact⟨hI.1.frame λp u hp hu=>(hh▸hkp).k2 d p u (λx hx=>bB _ d wL x hx) hp hu,λp hf=>hI.2 p hf.2⟩
  ·rcases fv hq hzl hx with⟨g1,g2,g3⟩|⟨g1,g2⟩
   ·exact(hf.1 ⟨g1,g2⟩).elim
   ·exact hd1 _ _ _ p g2 hf.2
  ·rcases fv hq hzl hx with⟨g1,g2,g3⟩|⟨g1,g2⟩
   ·exact(hf.1 ⟨g1,g2⟩).elim
   ·rcases fv hq hzl hx' with⟨q1,q2,q3⟩|⟨q1,q2⟩
    ·exact(hf'.1 ⟨q1,q2⟩).elim
    ·exact hd2 _ _ _ _ _ _ p g2 q2 hf.2 hf'.2
  ·simp only[Pl.set,if_true];constructor
   ·rintro (h|⟨i',j,r,hx,hne,hf⟩)
    ·exact .inl h
    ·have hlt:=ao hx;obtain⟨r',hr'⟩:=aX (t:=t) (xs:=ys.take q++zs++ys.drop (q+num)) (i:=i') (j:=j) (by rw[mr];exact hlt.1) hlt.2;exact .inr ⟨i',j,r',hr',hne,hf⟩
   ·rintro (h|⟨i',j,r,hx,hf⟩)
    ·exact .inl h
    ·rcases fv hq hzl hx with⟨g1,g2,g3⟩|⟨g1,g2⟩
     ·exact(hf.1 ⟨g1,g2⟩).elim
     ·exact .inr ⟨_,_,_,g2,hf⟩
theorem td {i:Nat}:∀{d:List Nat},mem i d=false->hit [i] d=false
 |[],_=>rfl
 |k::l,h=>by
  simp only[mem]at h;cases hb:Nat.beq k i
  ·rw[hb,cond_false]at h
   have:mem k [i]=false:=by
    simp only[mem];cases hc:Nat.beq i k
    ·rfl
    ·have:=AR hc;subst this;simp at hb
   simp only[hit,this,cond_false];exact td h
  ·rw[hb]at h;exact nomatch h
theorem uR {o:Oper} {a:Act} {s:List (Nat× SV)} {n:Nat} {args:Array Operand} {tys:Array TypeId} {T e:TypeId} {sz:Nat} {t:Ty} {z:List SV} {d:List Nat} {xs:List t.El} {i q off num:Nat}
  (hr:aR H pl w) (hs:bI w H pl s a) (ho:o.op=.call {callee:=.builtin .append,args:=args,argTypes:=tys}) (hvs:fX s args.toList=some [.sub i 0 q,.sub i off num]) (hty:tys.toList=[T,T])
  (he:dc P T=some e) (hsz:b6 P e=some sz) (hts:t.sz=sz) (hz:bz P e=some z) (hl:look H i=some (.arr (some d) t xs)) (hd:mem i d=false) (hq:q+num<=xs.length) (zE:off+num<=xs.length) (uN:1<=xs.length):
  cH P o a w H pl n {v:=.sub i 0 (q+num),upd:=[(i,.arr (some d) t (xs.take q++(xs.drop off).take num++xs.drop (q+num)))],du:=[i]}:=by
 refine⟨λj B h=>?_,λH' next Q ha hN=>?_⟩
 ·rw[ae]at h;by_cases e:i=j
  ·subst e;exact⟨_,hl⟩
  ·rw[if_neg e]at h;simp[look]at h
 obtain⟨ht,_⟩:=gM (c:={v:=.sub i 0 (q+num),upd:=[(i,.arr (some d) t (xs.take q++(xs.drop off).take num++xs.drop (q+num)))],du:=[i]}) hl rfl rfl rfl ha;obtain⟨p,p',hpq,hp,hp'⟩:=fq hvs;have hpr:=aq hs hp;have Ae:=aq hs hp'
 have kQ:args.map a.eval=#[a.eval p,a.eval p']:=by rw[show args=#[p,p']from BI hpq];simp
 have hta:tys=#[T,T]:=BI hty
 obtain⟨ti,hti,rfl⟩:=c8 hsz;obtain⟨zu,hzu,hzc⟩:=cy hr hti hz;obtain⟨R⟩:=hr.blk i _ hl;have hcap:=R.hcap;have hA:R.a=some ⟨R.b,R.o,none⟩:=R.ha.resolve_left (by omega)
 have hhd:pl.hdr i=.slice (some ⟨R.b,R.o,none⟩) xs.length R.cap:=by rw[<-hA];exact R.ng
 have e1:a.eval p=.slice (some ⟨R.b,R.o,none⟩) q R.cap:=by
  generalize a.eval p=u at hpr
  cases hpr with
  |sub _ _ _ sh2 t2 xs2 a1 a2 cap1 cap2 hl2 hh2 hn1 hc hc' ha2=>
   rw[hl]at hl2;cases hl2;rw[hhd]at hh2;cases hh2
   have hcc:cap2=R.cap:=by omega
   subst hcc
   rcases ha2 with h|h
   ·omega
   ·rw[h];simp[Addr.add]
 obtain⟨A3,cap3,e2,hc3,hA3⟩:∃A3 cap3,a.eval p'=.slice A3 num cap3/\num<=cap3/\(num=0\/A3=some ⟨R.b,R.o+off*t.sz,none⟩):=by
  generalize a.eval p'=u at Ae
  cases Ae with
  |sub _ _ _ sh2 t2 xs2 a1 a2 cap1 cap2 hl2 hh2 hn1 hc hc' ha2=>
   rw[hl]at hl2;cases hl2;rw[hhd]at hh2;cases hh2;refine⟨a2,cap2,rfl,hc,?_⟩
   rcases ha2 with h|h
   ·exact .inl (by omega)
   ·exact .inr (by rw[h];simp[gJ])
 have hsp:=t.b4
 have gi:∀k,k<num*t.sz->∃r,af t xs (off+k/t.sz) (k %t.sz) r:=λk hk=>by
  have:k/t.sz<num:=by rw[BW hsp];exact hk
  exact aX (by omega) (Cr _ hsp)
 have hus:((List.range (num*t.sz)).map λk=>R.vs (off+k/t.sz) (k %t.sz)).length=num*t.sz:=by simp
 generalize Au:(List.range (num*t.sz)).map (λk=>R.vs (off+k/t.sz) (k %t.sz))=us at hus
 have mT:∀k,k<num*t.sz->us[k]? =some (R.vs (off+k/t.sz) (k %t.sz)):=λk hk=>by rw[<-Au,cd hk]
 have hcell:∀k,k<num*t.sz->w.at? (R.b,R.o+(off*t.sz+k))=some (R.vs (off+k/t.sz) (k %t.sz)):=λk hk=>by
  obtain⟨r,hx⟩:=gi k hk;have:=R.hc _ _ _ hx;rw[Bm,Bx,show k/t.sz*t.sz+k %t.sz=k from by rw[Bg];exact Nat.div_add_mod _ _]at this;exact this
 obtain⟨w',hst,fp',oU⟩:=tc (P:=P) (zs:=(xs.drop off).take num) (us:=us) hr hl (by rw[Bj,List.length_drop];omega) hhd hq hus (λu hu=>by
   obtain⟨k,hk⟩:=Bn hu
   have hkl:k<num*t.sz:=by rw[<-hus];exact(AQ.1 hk).1
   rw[mT k hkl]at hk;cases hk;obtain⟨r,hx⟩:=gi k hkl
   exact(R.hr _ _ _ hx).1.fZ) (λx j r hx=>by
   obtain⟨y,hy,hyr⟩:=hx
   have hxl:x<num:=by have:=(AQ.1 hy).1;rw[Bj]at this;omega
   have hjl:j<t.sz:=by have:=(AQ.1 hyr).1;rwa [Ty.aH]at this
   rw[Bd,if_pos hxl,A8]at hy;have hx':af t xs (off+x) j r:=⟨y,hy,hyr⟩;refine⟨R.vs (off+x) j,?_,(R.hr _ _ _ hx').1⟩;have hlt:x*t.sz+j<num*t.sz:=eS hxl hjl (Bh _);rw[mT _ hlt]
   have g1:(x*t.sz+j)/t.sz=x:=by rw[Bg,BT hsp,BQ hjl];simp
   have g2:(x*t.sz+j) %t.sz=j:=by rw[Bg,BC,Bz hjl]
   rw[g1,g2]) uN (td hd) ht
 have hfc:(Builtin.firstCells ti.size num (.slice A3 num cap3)).run P w=.ok us.toArray w:=by
  rw[<-hts]
  rcases hA3 with h0|hA3
  ·subst h0;have hn':us=[]:=Bi.1 (by simpa using hus);subst hn'
   cases A3 with
   |none=>exact run_firstCells_none w _ _ _ _
   |some A=>exact run_firstCells_some w t.sz 0 A 0 cap3 [] (by simp) (λj v hv=>by simp at hv)
  ·subst hA3;refine run_firstCells_some w t.sz num _ num cap3 us hus λj v hv=>?_
   have hj:j<num*t.sz:=by rw[<-hus];exact(AQ.1 hv).1
   rw[mT j hj]at hv;cases hv;have:=hcell j hj;rw[Addr.add_lit,Bx];exact this
 have dY:(Builtin.append_ #[T,T] o.type #[.slice (some ⟨R.b,R.o,none⟩) q R.cap,.slice A3 num cap3]).run P w=.ok (.slice (some ⟨R.b,R.o,none⟩) (q+num) R.cap) w':=by
  have s4:q+num<=R.cap:=by omega
  rw[hts]at hst;simp[Builtin.append_,run_underlying (c7 he),sizeOf,typeInfo,hti,Builtin.lenOf,s4,hfc,Addr.add_lit,hst]
 refine dh (u:=.slice (some ⟨R.b,R.o,none⟩) (q+num) R.cap) (w':=w') ?_ (hN _ _ w' oU ?_)
 ·rw[execOp,ho,hta];simp only[resolve,kQ,invoke,builtin,Sem.run_bind,Sem.run_pure,Result.andThen_ok,e1,e2,dY]
 ·refine .sub i 0 (q+num) (some d) t _ (some ⟨R.b,R.o,none⟩) _ R.cap R.cap ht.ze (by simp[Pl.set,hhd,BR];omega) (by simp;omega) (by omega) (by omega) (.inr (by simp[Addr.add]))
end
end
section
variable [Tok]
section
variable {w:World} {H:ak} {pl:Pl} {P:Program}
def mark (w:World) (b n:Nat):World:=w.freeze ⟨b,n,none⟩ 1
def tf (n:Nat) (fr:Nat× Nat):Nat× Nat:=if fr.1==fr.2 then(n,n+1)else(min fr.1 n,max fr.2 (n+1))
theorem iz {b n:Nat} {c:Array Value} {e:TypeId} {fr:Nat× Nat} (h:w.heap[b]? =some (.cells c e fr)):(mark w b n).heap[b]? =some (.cells c e (tf n fr)):=by
 unfold mark World.freeze tf;rw[if_neg (by decide)];simp only[Array.getElem?_modify,if_true,h];rfl
theorem iA {b n i:Nat} (h:i≠b):(mark w b n).heap[i]? =w.heap[i]? :=by
 unfold mark World.freeze;rw[if_neg (by decide)];simp only[Array.getElem?_modify];rw[if_neg (λe:b=i=>h e.symm)]
theorem tj {b n:Nat} {c:Array Value} {e:TypeId} {fr:Nat× Nat} (h:w.heap[b]? =some (.cells c e fr)) (p:Cell):(mark w b n).at? p=w.at? p:=by
 unfold World.at? World.cell?;by_cases q:p.1=b
 ·simp only[q,h,iz h]
 ·simp only[iA q]
theorem dJ {b n:Nat} {p:Cell} (h:p.1≠b):(mark w b n).bc p=w.bc p:=by
 unfold World.bc;rw[iA h]
theorem qv {b n j o m:Nat} {c:Array Value} {e:TypeId} {fr:Nat× Nat} (h:w.heap[b]? =some (.cells c e fr)) (hn:n=c.size) (hw:whole (w.bc (b,j)) o m=true):whole ((mark w b n).bc (b,j)) o m=true:=by
 unfold World.bc at*;simp only[h]at hw;simp only[iz h];unfold whole calm at*;simp only[AW,decide_eq_true_eq]at*;refine⟨?_,hw.2⟩;unfold tf;obtain⟨lo,hi⟩:=fr;simp only at hw⊢;by_cases q:lo=hi
 ·subst q;simp;omega
 ·have:(lo==hi)=false:=by simpa using q
  rw[this];simp only[BF,if_false];omega
theorem mu {b j:Nat} {u:Value} (h:w.at? (b,j)=some u):∃c e fr,w.heap[b]? =some (.cells c e fr)/\j<c.size:=by
 unfold World.at? World.cell? at h
 cases hb:w.heap[b]? with
 |none=>simp[hb]at h
 |some ob=>
  cases ob with
  |cells c e fr=>
   simp only[hb,B6,BF,if_false]at h
   exact⟨c,e,fr,rfl,(A2.1 h).1⟩
  |_=>simp[hb]at h
theorem tl {i b n cap:Nat} {sh:Option (List Nat)} {t:Ty} {xs:List t.El} {a:Option Addr} {o:Nat} {c:Array Value} {e:TypeId} {fr:Nat× Nat} (hr:aR H pl w) (hl:look H i=some (.arr sh t xs))
  (hb:w.heap[b]? =some (.cells c e fr)) (hc0:0<c.size) (hn:n=c.size) (hin:∀j,j<c.size->pl.fp i (b,j)) (hsz:c.size=cap*t.sz) (uu:bo (mark w b n) H pl i (.arr sh t xs)):
  aJ H H ([],[]) pl pl w (mark w b n):=by
 have hat:=λp=>tj (n:=n) hb p
 have o7:∀p u,w.at? p=some u->p.1=b->pl.fp i p:=λp u hp q=>by
  obtain⟨p1,p2⟩:=p;simp only at q;subst q;obtain⟨c',e',fr',h1,h2⟩:=mu hp;rw[hb]at h1;cases h1;exact hin p2 h2
 have hk:cT ([],[]) w H pl (mark w b n) H pl:=⟨λj B hB _=>⟨B,hB,B.aS,rfl⟩,λd p u _ ho hp=>⟨ho,(hat p).trans hp⟩⟩;refine⟨⟨λj B hB=>?_,hr.dis,hr.ob,λp hp=>hr.nb p ((hat p).symm.trans hp)⟩,hk,rfl,⟨rfl,rfl,λk hk'=>?_⟩,λp u hp hno=>⟨hno,(hat p).trans hp,dJ λq=>hno i _ hl (o7 p u hp q)⟩⟩
 ·by_cases q:j=i
  ·subst q;rw[hl]at hB;cases hB;exact uu
  ·refine(hr.blk j B hB).aY hk rfl (λ_=>Cn) (λp u hf hu=>⟨(hat p).trans hu,dJ λq'=>q (hr.dis j i B _ p hB hl hf (o7 p u hu q'))⟩) B.aO
 ·by_cases q:k=b
  ·subst q;rw[hb,iz hb];exact⟨rfl,.inr hc0,rfl⟩
  ·rw[iA q];split
   ·rename_i e1 e2;rw[e1]at e2;cases e2;exact⟨rfl,.inl rfl,rfl⟩
   ·rfl
theorem uS {o:Oper} {a:Act} {T:TypeId} {x:Operand} {m i:Nat} {sh:Option (List Nat)} {t:Ty} {y:t.El} {ys:List t.El} (hr:aR H pl w) (ho:o.op=.convert T T x) (hT:iU P T=true)
  (hl:look H i=some (.arr sh t (y::ys))) (hx:aa w H pl (.own i) (a.eval x)):cH P o a w H pl m {v:=.own i}:=by
 have ha:a.eval x=pl.hdr i:=by generalize a.eval x=u at hx;cases hx;rfl
 unfold iU dc at hT;split at hT
 ·rename_i e he;split at he
  ·rename_i e' hu;cases he;split at hT
   ·rename_i he8;have uu:=hr.blk i _ hl
    obtain⟨ad,cap,b,o',hh,hlen,zG,dx⟩:∃ad cap b o',pl.hdr i=.slice ad (y::ys).length cap/\(y::ys).length<=cap/\(cap=0\/ad=some ⟨b,o',none⟩)/\
      (∀j,j<cap*t.sz->(∃v,w.at? (b,o'+j)=some v)/\whole (w.bc (b,o'+j)) o' (cap*t.sz)=true/\pl.fp i (b,o'+j)):=by
     cases sh with
     |none=>obtain⟨⟨ad,cap,b,o',vs,fs,q1,q2,q3,q4,q5,q6,q7,q8,q9⟩⟩:=uu;exact⟨ad,cap,b,o',q1,q2,q3,λj hj=>⟨(q4 j hj).1,(q4 j hj).2,(q9 _).2 (.inl ⟨rfl,by simp,by simp;omega⟩)⟩⟩
     |some d=>obtain⟨⟨ad,cap,b,o',vs,fs,q1,q2,q3,q4,q5,q6,q7,q8,q9⟩⟩:=uu;exact⟨ad,cap,b,o',q1,q2,q3,λj hj=>⟨(q4 j hj).1,(q4 j hj).2,(q9 _).2 (.inl ⟨rfl,by simp,by simp;omega⟩)⟩⟩
    have hcap:0<cap:=by simp at hlen;omega
    have uN:0<cap*t.sz:=Nat.mul_pos hcap (Ty.b4 t);obtain⟨⟨v0,hv0⟩,hw0,_⟩:=dx 0 uN;obtain⟨c,ee,fr,hb,hc0⟩:=mu hv0
    have ho0:o'=0/\c.size=cap*t.sz:=by
     unfold whole World.bc at hw0;simp only[hb,AW,decide_eq_true_eq]at hw0;exact hw0.2
    obtain⟨rfl,hsz⟩:=ho0;have zG:=zG.resolve_left (by omega);subst zG
    have hin:∀j,j<c.size->pl.fp i (b,j):=λj hj=>by
     have:=(dx j (by omega)).2.2;rwa [AY]at this
    have yC:w.shape? b=some (ee,c.size):=by unfold World.shape?;rw[hb]
    have dY:(execOp a.eval o).run P w=.ok (.value (a.eval x)) (mark w b c.size):=by
     rw[execOp,ho,ha,hh];simp[ha,hh,convert,run_underlying hu,run_underlying he8,markStringish,yC,mark]
    have hat:=λp=>tj (n:=c.size) hb p;have hk:cT ([],[]) w H pl (mark w b c.size) H pl:=⟨λj B hB _=>⟨B,hB,B.aS,rfl⟩,λd p u _ ho hp=>⟨ho,(hat p).trans hp⟩⟩
    have hnb:∀p,reg b 0 (cap*t.sz) p\/p.1≠b\/w.at? p=none:=λp=>by
     by_cases q:p.1=b
     ·cases hp:w.at? p with
      |none=>exact .inr (.inr rfl)
      |some u=>
       obtain⟨p1,p2⟩:=p;simp only at q;subst q;obtain⟨c',e',fr',h1,h2⟩:=mu hp;rw[hb]at h1;cases h1;exact .inl ⟨rfl,Bo _,by simp only;omega⟩
     ·exact .inr (.inl q)
    have Av:bo (mark w b c.size) H pl i (.arr sh t (y::ys)):=by
     cases sh with
     |none=>
      obtain⟨⟨ad,cp,b',o',vs,fs,q1,q2,q3,q4,q5,q6,q7,q8,q9⟩⟩:=uu;rw[hh]at q1;cases q1;have q3:=q3.resolve_left (by omega);cases q3;refine⟨⟨_,cap,b,0,vs,fs,hh,q2,.inr rfl,λj hj=>⟨?_,qv hb rfl (q4 j hj).2⟩,λi' j r h=>(hat _).trans (q5 i' j r h),λi' j r h=>(q6 i' j r h).frame λp u hp hu=>⟨(hat p).trans hu,dJ λq=>?_⟩,q7,q8,q9⟩⟩
      ·obtain⟨⟨v,hv⟩,_⟩:=q4 j hj;exact⟨v,(hat _).trans hv⟩
      ·rcases hnb p with h1|h1|h1
       ·exact q7 _ _ _ p h hp h1
       ·exact h1 q
       ·rw[hu]at h1;exact nomatch h1
     |some d=>
      obtain⟨⟨ad,cp,b',o',vs,fs,q1,q2,q3,q4,q5,q6,q7,q8,q9⟩⟩:=uu;rw[hh]at q1;cases q1;have q3:=q3.resolve_left (by omega);cases q3;refine⟨⟨_,cap,b,0,vs,fs,hh,q2,.inr rfl,λj hj=>⟨?_,qv hb rfl (q4 j hj).2⟩,λi' j r h=>(hat _).trans (q5 i' j r h),λi' j r h=>⟨(q6 i' j r h).1.frame λp u hp hu=>⟨hp,(hat p).trans hu⟩,(q6 i' j r h).2⟩,q7,q8,q9⟩⟩;obtain⟨⟨v,hv⟩,_⟩:=q4 j hj;exact⟨v,(hat _).trans hv⟩
    refine⟨λj B h=>by simp[look]at h,λH' next Q ha' hN=>?_⟩;cases ha'
    have hH:fP [] H++au m []=H:=by simp[fP,au]
    simp only[hH]at hN;have hst:=tl (n:=c.size) hr hl hb hc0 rfl hin hsz Av (a:=some ⟨b,0,none⟩) (o:=0);exact dh dY (hN _ pl _ hst (hx.jg hk))
   ·exact nomatch hT
  ·exact nomatch he
 ·exact nomatch hT
end
end
section
variable [Tok] [Glo]
def qw (P:Program) (g:FuncId):Prop:=∀(args:Array Value) (w:World),(callFunc g args).run P w=.ok (.enter g args) w
theorem enters_of {P:Program} {g:FuncId} {fn:Func} (h:P.funcs[g]? =some fn) (hb:fn.body.isNone=false) (hn:(fn.name== "runtime.NumGoroutine")=false):qw P g:=by
 intro args w
 have hn':¬fn.name= "runtime.NumGoroutine":=by simpa using hn
 have hb':¬fn.body=none:=λe=>by rw[e]at hb;cases hb
 simp[callFunc,h,hb',hn']
def tn (P:Program) (g:FuncId) (nid:Nat) (vs:List SV) (H:ak) (c:CR):Prop:=
 qw P g/\(∀i B,look c.upd i=some B->∃B',look H i=some B')/\
 ∀(H1:ak) (pl:Pl) (w:World) (us:Array Value),Ext H H1->aR H1 pl w->xv w H1 pl->(∀k,k<c.news.length->look H1 (nid+k)=none)->vs.length=us.size->
  (∀(j:Nat) (x:SV) (u:Value),vs[j]? =some x->us[j]? =some u->aa w H1 pl x u)->∀H',after H1 nid c=some H'->
  Calls P g us w λe w'=>∃u pl',e=.returned u/\aJ H1 H' c.kil pl pl' w w'/\aa w' H' pl' c.v u
def jZ (P:Program) (g:FuncId) (o:Orc):Prop:=
 ∀(ρ:Type) nid vs H (K:CR->Option ρ) (out:ρ),o ρ nid vs H K=some out->∃c,K c=some out/\tn P g nid vs H c
theorem uT (P:Program) (g:FuncId):jZ P g xG:=λ_ _ _ _ _ _ h=>nomatch h
def fN (E:Env):Prop:=∀g,jZ E.P g (E.orc g)
section
variable {w:World} {H:ak} {pl:Pl} {P:Program}
theorem uU {o:Oper} {a:Act} {s:List (Nat× SV)} {f:Operand} {args:Array Operand} {tys:Array TypeId} {g:FuncId} {first vs cap:List SV} {n:Nat} {c:CR} {H0:ak}
  (he:Ext H0 H) (hr:aR H pl w) (hgl:xv w H pl) (hs:bI w H pl s a) (hn:∀k,k<c.news.length->look H (n+k)=none) (ho:o.op=.call {callee:=.value f,args:=args,argTypes:=tys})
  (hf:opd s f=some (.fn (.func g) first cap)) (hv:fX s args.toList=some vs) (hc:tn P g n (first++vs++cap) H0 c):cH P o a w H pl n c:=by
 obtain⟨hen,hup,wM⟩:=hc;refine⟨λi B hB=>(hup i B hB).imp λB' h=>he i B' h,λH' next Q ha hN=>?_⟩;have hfr:=aq hs hf;obtain⟨g1,g2⟩:=ma hs hv;generalize hfe:a.eval f=fe at hfr
 cases hfr with
 |fn _ _ _ us vs' hl h1 hl' h2=>
  have hlen:(first++vs++cap).length=(us++args.map a.eval++vs').size:=by simp only[BR,Array.size_append,hl,hl',g1]
  have hpt:∀(j:Nat) (x:SV) (u:Value),(first++vs++cap)[j]? =some x->(us++args.map a.eval++vs')[j]? =some u->aa w H pl x u:=λj x u hx hu=>by
   grind
  have hcl:=wM H pl w _ he hr hgl hn hlen hpt H' ha;unfold Oper.wp
  have dY:(execOp a.eval o).run P w=.ok (.enter g (us++args.map a.eval++vs')) w:=by
   rw[execOp,ho];simp only[resolve,hfe,Deferred.ofValue,invoke,Sem.run_bind,Sem.run_pure,Result.andThen_ok];exact hen _ w
  rw[dY];show Calls P g _ w _;refine hcl.mono λe w' ⟨u,pl',he,hst,hv⟩=>?_;grind
variable {ρ:Type}
def ns (P:Program) (o:Oper) (n:Nat) (c:CR) (s:List (Nat× SV)) (h:ak):Prop:=
 ∀(s':List (Nat× SV)) (H:ak) (a:Act) (w:World) (pl:Pl),Ext s s'->Ext h H->aR H pl w->bI w H pl s' a->(∀k,k<c.news.length->look H (n+k)=none)->xv w H pl->cH P o a w H pl n c
theorem mv {H:ak} {n:Nat} {B:Blk} (h:∀k,k<[B].length->look H (n+k)=none):look H n=none:=h 0 (by simp)
theorem wN (hr:aR H pl w) {o:Oper} {a:Act} {T:TypeId} {p:Operand} {n i x k:Nat} {t:Ty} {xs:List t.El} (ho:o.op=.load T p) (hT:qa P T=true)
  (hl:look H i=some (.arr none t xs)) (hk:k<t.sz) (hp:aa w H pl (.ptr i x k) (a.eval p)):cH P o a w H pl n {v:=.inn i x k}:=by
 generalize he:a.eval p=u at hp
 cases hp with
 |jI _ _ cs b m hl' hh=>grind
 |jn _ _ _ sh t' xs' b m nn cap hl' hx hh=>
  rw[hl]at hl';cases hl';obtain⟨⟨a',cp,b',o',vs,fs,h1,h2,h3,h4,h5,h6,h7,h8,h9⟩⟩:=hr.blk i _ hl;rw[hh]at h1;cases h1;have h3:=h3.resolve_left (by omega);cases h3;obtain⟨r,hcell⟩:=aX hx hk;have hat:=h5 x k r hcell;have la:one (vs x k)=true:=((h6 _ _ _ hcell).sQ (ok:=λ_=>True) (λ_ _=>trivial)).fZ;have hfp:pl.fp i (b,m+(x*t.sz+k)):=(h9 _).2 (.inl ⟨rfl,by simp,by have:=eS hx hk h2;simp;omega⟩);obtain⟨el,_,hu,_⟩:=l5 hT;refine dR (u:=vs x k) hr ?_ (.inn i x k none t xs b m _ _ _ hl hx hk hh ⟨hr.ob i _ _ hl hfp,λj B hB hm hf=>?_⟩ hat la)
  ·rw[execOp,ho];refine aZ ?_;rw[Instr.loadAt,he];have hat:w.cell? ⟨b,m+(x*t.sz+k),none⟩=some (vs x k):=hat
   have h1:(loadVar T ⟨b,m+(x*t.sz+k),none⟩).run P w=.ok (vs x k) w:=by simp[loadVar,c5 hu,jD,hu,hat]
   exact h1
  ·have:=hr.dis j i _ _ _ hB hl hf hfp;subst this;rw[hl]at hB;cases hB;have:=hm (by simp[mem]);cases this
theorem o8 {E:Env} {o:Oper} {s:List (Nat× SV)} {h0:ak} {n:Nat} {K:CR->Option ρ} {out:ρ} {args:Array Operand} {tys:Array TypeId} {b x:SV} {T T' e:TypeId} {sz:Nat} {t:Ty}
  (ho:o.op=.call {callee:=.builtin .append,args:=args,argTypes:=tys}) (hvs:fX s args.toList=some [b,x]) (hty:tys.toList=[T,T']) (he:dc E.P T=some e) (hsz:b6 E.P e=some sz)
  (h:oE E h0 n e sz t T' b x K=some out):∃c,K c=some out/\ns E.P o n c s h0:=by
 unfold oE at h;split at h
 ·cases hb:(xM E.P T'&&(eR E.P e&&Nat.beq t.sz sz))<;>simp only[hb,cond_true,cond_false,An]at h
  ·cases h
  simp only[AW]at hb;obtain⟨l,hl,z,hz,q,hq,h⟩:=h;cases hi:(isNil q.1&&Nat.beq z.length sz)<;>simp only[hi,cond_true,cond_false]at h
  ·cases h
  simp only[AW]at hi;split at h
  ·rename_i y hy;cases hd:decide (1<=l/\l<=(bO:Int))<;>simp only[hd,cond_true,cond_false]at h
   ·cases h
   have hd:=of_decide_eq_true hd
   have hq':b8 h0 t 1 z=some ([],[y]):=by rw[hq];obtain⟨q1,q2⟩:=q;simp only at hy hi;rw[hy,bf hi.1]
   exact⟨_,h,λs' H a w pl es eh hr hs hn hgl=>kL hr hs (mv hn) ho (ct es _ _ hvs) hty hl hb.1 he hsz hb.2.1 (AR hb.2.2) hz (AR hi.2) (cG eh _ _ _ _ hq') hd⟩
  ·cases h
 ·cases h
theorem o9 {P:Program} {o:Oper} {s:List (Nat× SV)} {h0:ak} {n:Nat} {K:CR->Option ρ} {out:ρ} {args:Array Operand} {tys:Array TypeId} {b x:SV} {T e:TypeId} {sz:Nat} {t:Ty} {z:List SV}
  (ho:o.op=.call {callee:=.builtin .append,args:=args,argTypes:=tys}) (hvs:fX s args.toList=some [b,x]) (hty:tys.toList=[T,T]) (he:dc P T=some e) (hsz:b6 P e=some sz) (hts:t.sz=sz) (hz:bz P e=some z)
  (h:oF h0 t b x K=some out):∃c,K c=some out/\ns P o n c s h0:=by
 unfold oF at h;split at h
 ·rename_i i a i' off num;cases hi:Nat.beq i i'<;>simp only[hi,cond_true,cond_false]at h
  ·cases h
  have:=AR hi;subst this;split at h
  ·rename_i d t' xs hl;split at h
   ·rename_i htt;subst htt;cases hm:mem i d<;>simp only[hm,cond_true,cond_false]at h
    rotate_left
    ·cases h
    cases hb:(Nat.ble (a+num) xs.length&&(Nat.ble (off+num) xs.length&&Nat.ble 1 xs.length))<;>simp only[hb,cond_true,cond_false]at h
    ·cases h
    simp only[AW]at hb;exact⟨_,h,λs' H a w pl es eh hr hs hn hgl=>uR hr hs ho (ct es _ _ hvs) hty he hsz hts hz (eh _ _ hl) hm (AZ hb.1) (AZ hb.2.1) (AZ hb.2.2)⟩
   ·cases h
  ·cases h
 ·cases h
theorem nt {E:Env} (hE:fN E) {o:Oper} {s:List (Nat× SV)} {h0:ak} {n:Nat} {K:CR->Option ρ} {out:ρ}
  (h:lU E s h0 n o.op K=some out):∃c,K c=some out/\ns E.P o n c s h0:=by
 unfold lU at h;split at h
 ·rename_i T ho;simp only[An]at h;obtain⟨z,hz,h⟩:=h;exact⟨_,h,λs' H a w pl es eh hr hs hn hgl=>sY hr (mv hn) ho hz⟩
 ·rename_i T x ho;simp only[An]at h;obtain⟨v,hv,cs,hcs,h⟩:=h;exact⟨_,h,λs' H a w pl es eh hr hs hn hgl=>wE hr (mv hn) ho (aq hs (aL es _ _ hv)) hcs⟩
 ·rename_i T k parts ho;simp only[An]at h;obtain⟨e,he,sz,hsz,ps,hps,z,hz,h⟩:=h;cases hb:(Nat.ble (k*sz) 16777216&&Nat.beq z.length sz)<;>simp only[hb,cond_true,cond_false,An]at h
  ·cases h
  obtain⟨cs,hcs,h⟩:=h;simp only[AW]at hb;have h1:=AZ hb.1;have h2:=AR hb.2
  have bx:K {v:=.bsl n k,news:=[.box cs]}=some out->∃c,K c=some out/\ns E.P o n c s h0:=λh=>
   ⟨_,h,λs' H a w pl es eh hr hs hn hgl=>kO hr hs (mv hn) ho he hsz (dP es _ _ hps) hz h2 h1 hcs⟩
  split at h
  ·exact bx h
  ·rename_i t ht;cases hc:((eQ t||Nat.beq k 0)&&Nat.beq t.sz sz)<;>simp only[hc,cond_true,cond_false,An]at h
   ·unfold z6 at h;cases hd:(E.lit&&Nat.beq t.sz sz)<;>simp only[hd,cond_true,cond_false]at h
    ·exact bx h
    simp only[AW]at hd;split at h
    ·rename_i xs hx;exact⟨_,h,λs' H a w pl es eh hr hs hn hgl=>fR hr hs (mv hn) ho he hsz (dP es _ _ hps) hz h2 h1 hcs (AR hd.2) (cG eh _ _ _ _ hx)⟩
    ·exact bx h
   simp only[AW]at hc;obtain⟨⟨ids,xs⟩,hx,h⟩:=h;cases hi:isNil ids<;>simp only[hi,cond_true,cond_false]at h
   ·cases h
   have:=bf hi;subst this;unfold z7 at h;cases hq:(!isNil E.tkt&&!isNil xs)<;>simp only[hq,cond_true,cond_false]at h
   rotate_left
   ·exact⟨_,h,λs' H a w pl es eh hr hs hn hgl=>mm hr hs ho he hsz (dP es _ _ hps) hz h2 h1 hcs (cG eh _ _ _ _ hx)⟩
   ·exact⟨_,h,λs' H a w pl es eh hr hs hn hgl=>fR hr hs (mv hn) ho he hsz (dP es _ _ hps) hz h2 h1 hcs (AR hc.2) (cG eh _ _ _ _ hx)⟩
 ·rename_i T l c ho;simp only[An]at h;obtain⟨e,he,sz,hsz,t,ht,z,hz,lv,hl,cv,hc,li,hli,ci,hci,h⟩:=h;cases hb:(eR E.P e&&Nat.beq t.sz sz)<;>simp only[hb,cond_true,cond_false,An]at h
  ·cases h
  simp only[AW]at hb;obtain⟨⟨ids,xs⟩,hx,h⟩:=h;cases hi:(isNil ids&&Nat.beq z.length sz)<;>simp only[hi,cond_true,cond_false]at h
  ·cases h
  simp only[AW]at hi;have vQ:=bf hi.1;subst vQ;split at h
  ·rename_i y;by_cases hd:0<=li/\li<=ci/\ci<=(bO:Int)
   ·simp only[hd,and_self,decide_true,cond_true]at h;exact⟨_,h,λs' H a w pl es eh hr hs hn hgl=>ml hr hs (mv hn) ho (aL es _ _ hl) (aL es _ _ hc) hli hci he hsz hb.1 (AR hb.2) hz (AR hi.2) (cG eh _ _ _ _ hx) hd⟩
   ·simp only[hd,decide_false,cond_false]at h;cases h
  ·cases h
 ·rename_i args tys ho;simp only[An]at h;obtain⟨vs,hvs,h⟩:=h;split at h
  ·rename_i b x T T' hty;simp only[An]at h;obtain⟨e,he,sz,hsz,t,ht,h⟩:=h;cases hb:(eR E.P e&&(Nat.beq t.sz sz&&Nat.beq T T'))<;>simp only[hb,cond_true,cond_false,An]at h
   ·exact o8 ho hvs hty he hsz h
   simp only[AW]at hb;have hTT:T=T':=AR hb.2.2;subst hTT;have hts:=AR hb.2.1;obtain⟨z,hz,h⟩:=h;cases hzl:Nat.beq z.length sz<;>simp only[hzl,cond_true,cond_false,An]at h
   ·cases h
   have hzl:=AR hzl;obtain⟨⟨sh1,ids,ys⟩,hy,h⟩:=h;split at h
   ·cases hh:hit ids (sh1.getD [])<;>simp only[hh,cond_true,cond_false]at h
    ·cases hn':Nat.ble ys.length bO<;>simp only[hn',cond_true,cond_false]at h
     ·cases h
     exact⟨_,h,λs' H a w pl es eh hr hs hn hgl=>lh (xs:=[]) hr hs (mv hn) ho (ct es _ _ hvs) hty he hsz hb.1 hts hz hzl (k6 eh _ _ _ hy) (.inl ⟨rfl,rfl,rfl,rfl⟩) hh (by simpa using AZ hn')⟩
    ·cases h
   ·rename_i i;split at h
    ·rename_i sh t' xs hl;split at h
     ·rename_i htt;subst htt;simp only[An]at h;obtain⟨sh',hj,h⟩:=h;cases hm:mem i ids<;>simp only[hm,cond_true,cond_false]at h
      rotate_left
      ·cases h
      cases hh:hit (i::ids) (sh'.getD [])<;>simp only[hh,cond_true,cond_false]at h
      rotate_left
      ·cases h
      cases hn':Nat.ble (xs.length+ys.length) bO<;>simp only[hn',cond_true,cond_false]at h
      ·cases h
      exact⟨_,h,λs' H a w pl es eh hr hs hn hgl=>lh hr hs (mv hn) ho (ct es _ _ hvs) hty he hsz hb.1 hts hz hzl (k6 eh _ _ _ hy) (.inr ⟨i,sh,rfl,eh _ _ hl,rfl,hm,hj⟩) hh (AZ hn')⟩
     ·cases h
    ·cases h
   ·exact o9 ho hvs hty he hsz hts hz h
  ·cases h
 ·rename_i args tys ho;simp only[An]at h;obtain⟨vs,hvs,h⟩:=h;split at h
  ·rename_i v T hty;simp only[An]at h;obtain⟨e,he,z,hz,⟨i,q,num⟩,hv,h⟩:=h;split at h
   ·rename_i sh t xs hl;cases hzl:Nat.beq z.length t.sz<;>simp only[hzl,cond_true,cond_false,An]at h
    ·cases h
    obtain⟨⟨ids,ys⟩,hy,h⟩:=h;cases hi:isNil ids<;>simp only[hi,cond_true,cond_false]at h
    ·cases h
    have vQ:=bf hi;subst vQ;split at h
    ·rename_i y;exact⟨_,h,λs' H a w pl es eh hr hs hn hgl=>tb hr hs ho (ct es _ _ hvs) hty he hz (AR hzl) (uQ eh hv) (eh _ _ hl) (cG eh _ _ _ _ hy)⟩
    ·cases h
   ·cases h
  ·cases h
 ·rename_i T p x ho;simp only[An]at h;obtain⟨p',hp,x',hx,h⟩:=h
  have arr:∀{i k off:Nat} {sh:Option (List Nat)} {t:Ty} {ys:List t.El},p'=.ptr i k off->look h0 i=some (.arr sh t ys)->jm E.P T h0 i sh t ys k off x' K=some out->∃c,K c=some out/\ns E.P o n c s h0:=λe hl h3=>by
   clear h;subst e;obtain⟨c,h1,h2⟩:=nq (n:=n) ho h3;exact⟨c,h1,λs' H a w pl es eh hr hs hn hgl=>h2 H a w pl eh (eh _ _ hl) hr (aq hs (aL es _ _ hp)) (aq hs (aL es _ _ hx))⟩
  split at h
  ·rename_i i k off;split at h
   ·rename_i cs hl;cases hk0:Nat.beq k 0<;>simp only[hk0,cond_true,cond_false,An]at h
    ·cases h
    have hk0:=AR hk0;subst hk0;obtain⟨xs,hxs,sz,hsz,h⟩:=h;cases hb:Nat.beq sz xs.length<;>simp only[hb,cond_true,cond_false,An]at h
    ·cases h
    ·obtain⟨cs',hcs,h⟩:=h;exact⟨_,h,λs' H a w pl es eh hr hs hn hgl=>sZ hr ho (eh _ _ hl) (aq hs (aL es _ _ hp)) (aq hs (aL es _ _ hx)) hxs hsz (AR hb) hcs⟩
   ·rename_i sh t ys hl;exact arr rfl hl h
   ·cases h
  ·cases h
 ·rename_i f args tys ho;simp only[An]at h;obtain⟨f',hf,vs,hvs,h⟩:=h;split at h
  ·rename_i g first cap
   obtain⟨c,hc,hcs⟩:=hE g _ _ _ _ _ _ h;exact⟨c,hc,λs' H a w pl es eh hr hs hn hgl=>uU eh hr hgl hs hn ho (aL es _ _ hf) (ct es _ _ hvs) hcs⟩
  ·cases h
 ·rename_i T x ho;unfold xO at h;cases hk:taken E x<;>simp only[hk,cond_true,cond_false]at h
  rotate_left
  ·split at h
   ·rename_i i y hx;split at h
    ·rename_i t xs hl;simp only[An]at h;obtain⟨e,he,v,hv,h⟩:=h;exact⟨_,h,λs' H a w pl es eh hr hs hn hgl=>qu (yA t) hr ho (eh _ _ hl) he hv (aq hs (aL es _ _ hx)) hn⟩
    ·cases h
   ·cases h
  split at h
  ·rename_i v hv;unfold xJ at hv;cases hi:E.inn<;>simp only[hi,cond_true,cond_false]at hv
   ·cases hv
   cases hT:qa E.P T<;>simp only[hT,cond_true,cond_false]at hv
   ·cases hv
   split at hv
   ·rename_i i y k hx;split at hv
    ·rename_i t xs hl;cases hk:Nat.ble (k+1) t.sz<;>simp only[hk,cond_true,cond_false,AP]at hv
     ·cases hv
     subst hv;exact⟨_,h,λs' H a w pl es eh hr hs hn hgl=>wN hr ho hT (eh _ _ hl) (AZ hk) (aq hs (aL es _ _ hx))⟩
    ·cases hv
   ·cases hv
  ·have dflt:ea E.P s h0 (.load T x) (λv=>K {v:=v})=some out->∃c,K c=some out/\ns E.P o n c s h0:=λh=>by
    rw[eb]at h;simp only[An]at h;obtain⟨v,hv,h⟩:=h
    exact⟨_,h,λs' H a w pl es eh hr hs hn hgl=>by
     obtain⟨u,hu,hvr⟩:=cU hr hs (il es eh _ _ hv) o ho
     exact dR hr hu hvr⟩
   unfold xN at h;cases ht:E.tak<;>simp only[ht,cond_true,cond_false]at h
   ·exact dflt h
   split at h
   ·rename_i i y hx;split at h
    ·rename_i st xs hl;cases hf:eQ (.st st)<;>simp only[hf,cond_true,cond_false]at h
     ·simp only[An]at h;obtain⟨e,he,v,hv,h⟩:=h;exact⟨_,h,λs' H a w pl es eh hr hs hn hgl=>qu (xZ st) hr ho (eh _ _ hl) he hv (aq hs (aL es _ _ hx)) hn⟩
     ·exact dflt h
    ·exact dflt h
   ·exact dflt h
 ·rename_i src dst x ho;split at h
  ·rename_i i hi;unfold xL at hi;cases hT:(Nat.beq src dst&&iU E.P src)<;>simp only[hT,cond_true,cond_false]at hi
   ·cases hi
   simp only[AW]at hT;have hsd:=AR hT.1;split at hi
   ·rename_i j hx;split at hi
    ·rename_i sh t y ys hl;cases hi;subst hsd;exact⟨_,h,λs' H a w pl es eh hr hs hn hgl=>uS hr ho hT.2 (eh _ _ hl) (aq hs (aL es _ _ hx))⟩
    ·cases hi
   ·cases hi
  ·rw[eb]at h;simp only[An]at h;obtain⟨v,hv,h⟩:=h
   exact⟨_,h,λs' H a w pl es eh hr hs hn hgl=>by
    obtain⟨u,hu,hvr⟩:=cU hr hs (il es eh _ _ hv) o ho
    exact dR hr hu hvr⟩
 ·rw[eb]at h;simp only[An]at h;obtain⟨v,hv,h⟩:=h
  exact⟨_,h,λs' H a w pl es eh hr hs hn hgl=>by
   obtain⟨u,hu,hvr⟩:=cU hr hs (il es eh _ _ hv) o rfl
   exact dR hr hu hvr⟩
theorem pb {E:Env} (hE:fN E) {o:Oper} {a:Act} {s:List (Nat× SV)} {n:Nat} {K:CR->Option ρ} {out:ρ}
  (hr:aR H pl w) (hgl:xv w H pl) (hs:bI w H pl s a) (hn:∀i,n<=i->look H i=none) (h:lU E s H n o.op K=some out):∃c,K c=some out/\cH E.P o a w H pl n c:=by
 obtain⟨c,h1,h2⟩:=nt hE h;exact⟨c,h1,h2 s H a w pl .rfl' .rfl' hr hs (λk _=>hn _ (Nat.le_add_right _ _)) hgl⟩
theorem tp {x y:Option ρ} {out:ρ} (h:both x y=some out):x=some out/\y=some out:=by
 unfold both at h;grind
theorem pc {op:Op} {T:TypeId} {x:Operand} {e:Bool} (h:qd op=some (T,x,e)):∃U,op=.binOp (cond e .eql .neq) T x (.const (.slice none 0 0)) U:=by
 unfold qd at h;grind
theorem tq (hr:aR H pl w) {v:SV} {u:Value} {K:Bool->Option ρ} {out:ρ} (h:zx H v K=some out) (hv:aa w H pl v u):
  ∃a n c,u=.slice a n c/\K a.isNone=some out:=by
 have fork:∀{α:Type} {xs:List α} {a:Option Addr},(xs=[]\/a.isSome=true)->cond (isNil xs) (both (K true) (K false)) (K false)=some out->K a.isNone=some out:=λ{α xs a} hx h=>by
  cases xs with
  |nil=>
   obtain⟨h1,h2⟩:=tp h
   cases a<;>assumption
  |cons y ys=>
   rcases hx with hx|hx
   ·cases hx
   ·cases a with
    |none=>cases hx
    |some a=>exact h
 unfold zx at h;split at h
 ·cases hv;exact⟨_,_,_,rfl,h⟩
 ·rename_i d t xs
  cases hv with
  |r _ _ _ hx=>cases hx with
   |sl _ _ a cap b o vs hcap ha hc hr'=>grind
 ·rename_i i
  cases hv with
  |own _ sh t xs hl=>
   simp only[hl]at h;have hb:=hr.blk i _ hl
   have:∃a cap b o,pl.hdr i=.slice a xs.length cap/\xs.length<=cap/\(cap=0\/a=some ⟨b,o,none⟩):=by
    cases sh with
    |none=>obtain⟨⟨a,cap,b,o,vs,fs,q1,q2,q3,_⟩⟩:=hb;exact⟨a,cap,b,o,q1,q2,q3⟩
    |some d=>obtain⟨⟨a,cap,b,o,vs,fs,q1,q2,q3,_⟩⟩:=hb;exact⟨a,cap,b,o,q1,q2,q3⟩
   obtain⟨a,cap,b,o,q1,q2,q3⟩:=this;refine⟨a,_,_,q1,fork ?_ h⟩
   rcases q3 with rfl|rfl
   ·grind
   ·exact .inr rfl
 ·cases h
theorem wO (hr:aR H pl w) {o:Oper} {a:Act} {T:TypeId} {x:Operand} {e:Bool} {n:Nat} (hT:qa P T=true) (ho:qd o.op=some (T,x,e)) {b:Option Addr} {l c:Nat} (hx:a.eval x=.slice b l c):
  cH P o a w H pl n {v:=.b (cond b.isNone e (!e))}:=by
 obtain⟨U,ho⟩:=pc ho;obtain⟨el,_,hu,_⟩:=l5 hT;refine dR (u:=.bool (cond b.isNone e (!e))) hr ?_ dy;rw[execOp,ho];have hc:a.eval (.const (.slice none 0 0))=.slice none 0 0:=rfl
 have key:(do eqGuard (cond e .eql .neq) T x (.const (.slice none 0 0)) (a.eval x) (a.eval (.const (.slice none 0 0)));binOp (cond e .eql .neq) T (a.eval x) (a.eval (.const (.slice none 0 0))):Sem Value).run P w=.ok (.bool (cond b.isNone e (!e))) w:=by
  rw[hc,hx];refine guarded (λh=>nomatch h) (λ_ h=>nomatch h) ?_;cases e
  ·rw[cond_false,run_neq_slice_nil w T el b l c hu];cases b<;>rfl
  ·rw[cond_true,Lib.run_eql_slice_nil w T el b l c _ _ hu];cases b<;>rfl
 simp only[Sem.run_bind,key,Result.andThen_ok];rfl
theorem rD {E:Env} (hE:fN E) {w0:World} {fp0:G0} {o:Oper} {st:St} {a:Act} {K:St->Option ρ} {out:ρ} {next:Act->World->Prop} {Q:Exit->Act->World->Prop}
  (hr:Rel w0 fp0 st pl a w) (h:xu E o st K=some out) (hK:∀st' pl' a' w',K st'=some out->pl'.base=pl.base->st'.n=st.n->Rel w0 fp0 st' pl' a' w'->next a' w'):o.wp E.P a w next Q:=by
 obtain⟨c,hc,hup,zH⟩:∃c,((st.take o.dst c).bind K)=some out/\cH E.P o a w st.heap pl st.nid c:=by
  unfold xu at h;split at h
  ·rename_i T x e ho;cases hT:qa E.P T<;>simp only[hT,cond_true,cond_false,An]at h
   ·cases h
   obtain⟨v,hv,h⟩:=h;obtain⟨b,l,c,hu,hk⟩:=tq hr.hr h (aq hr.sl hv);exact⟨_,hk,wO hr.hr hT ho hu⟩
  ·exact pb hE hr.hr hr.z8 hr.sl hr.fresh h
 simp only[An]at hc;obtain⟨st',ht,hk⟩:=hc
 refine zH st'.heap next Q (sX ht) λu pl' w' hst hv=>?_
 have hn:st'.n=st.n:=by
  simp only[St.take,An,AP]at ht;grind
 exact hK st' pl' _ w' hk hst.bs hn (hr.take ht hup hst hv)
end
end
section
variable [Tok] [Glo]
theorem cJ (h:ak) (n:Nat) (b:Blk) (i:Nat):look (qY h n b) i=if n=i then(look h i).map λ_=>b else look h i:=by
 induction h with
 |nil=>simp[qY,look]
 |cons x l ih=>
  obtain⟨k,u⟩:=x;simp only[qY];cases hb:Nat.beq k n
  ·simp only[cond_false,ae,ih]
   have hne:k≠n:=λe=>by subst e;simp at hb
   grind
  ·simp only[cond_true,ae];have:=AR hb;grind
theorem aT (s:List (Nat× SV)) (dst:Option Tmp) (v:SV) (t:Nat):look (qe s dst v) t=if dst=some t then some v else look s t:=by
 cases dst with
 |none=>simp[qe]
 |some d=>simp[qe,bd]
def j0 {α:Type} (x y:List (Nat× α)):Prop:=∀t,look x t=look y t
theorem tr {h h':ak} (e:j0 h h') (n:Nat) (b:Blk):j0 (qY h n b) (qY h' n b):=λt=>by rw[cJ,cJ,e t]
theorem rE {h h':ak} (e:j0 h h') (u:ak):j0 (cr u h) (cr u h'):=by
 induction u generalizing h h' with
 |nil=>exact e
 |cons x l ih=>obtain⟨k,b⟩:=x;exact ih (tr e k b)
theorem tu (u h:ak) (i:Nat):(look (cr u h) i).isSome=(look h i).isSome:=by
 induction u generalizing h with
 |nil=>rfl
 |cons x l ih=>
  obtain⟨k,b⟩:=x;rw[cr,ih,cJ];grind
theorem ll {u h:ak} {i:Nat}:look (cr u h) i=none↔look h i=none:=by
 have:=tu u h i;rw[<-Option.not_isSome_iff_eq_none,<-Option.not_isSome_iff_eq_none,this]
theorem rF {S:Nat->Prop} {h h':ak} (e:∀i B,S i->look h i=some B->look h' i=some B) (u:ak):∀i B,S i->look (cr u h) i=some B->look (cr u h') i=some B:=by
 induction u generalizing h h' with
 |nil=>exact e
 |cons x l ih=>
  obtain⟨k,b⟩:=x;refine ih λt v ht hv=>?_;rw[cJ]at hv⊢;by_cases c:k=t
  ·rw[if_pos c]at hv⊢;obtain⟨y,hy,rfl⟩:=AV.1 hv;grind
  ·grind
theorem e6 {i:Nat}:∀(u h:ak),look u i=none->look (cr u h) i=look h i
  |[],_,_=>rfl
  | (k, b) :: l, h, e => by
    rw[ae]at e;by_cases c:k=i
    · grind
    · rw[if_neg c]at e;show look (cr l (qY h k b)) i=_;rw[e6 l _ e,cJ,if_neg c]
theorem uV {h:ak} {k:Nat} (b:Blk) (hk:∃B,look h k=some B):put h k b=qY h k b:=by
 induction h with
 |nil=>obtain⟨B,hB⟩:=hk;cases hB
 |cons x l ih=>
  obtain⟨k',u⟩:=x;simp only[put,qY];obtain⟨B,hB⟩:=hk;rw[ae]at hB;cases hb:Nat.beq k' k
  ·have hne:k'≠k:=λe=>by subst e;simp at hb
   rw[if_neg hne]at hB;simp only[cond_false,ih ⟨B,hB⟩]
  ·rfl
theorem iB {u h:ak} (hd:∀i B,look u i=some B->∃B',look h i=some B'):fP u h=cr u h:=by
 induction u generalizing h with
 |nil=>rfl
 |cons x l ih=>
  obtain⟨k,b⟩:=x;have hk:=hd k b (by rw[ae];simp);simp only[fP,cr];rw[uV b hk];refine ih λi B hB=>?_;rw[cJ];by_cases e:k=i
  ·grind
  ·rw[if_neg e];exact hd i B (by rw[ae,if_neg e];exact hB)
def nu (x y:SH):Prop:=j0 x.1 y.1/\j0 x.2 y.2
theorem nu.refl (x:SH):nu x x:=⟨λ_=>rfl,λ_=>rfl⟩
theorem nu.trans {x y z:SH} (h:nu x y) (g:nu y z):nu x z:=⟨λt=>(h.1 t).trans (g.1 t),λt=>(h.2 t).trans (g.2 t)⟩
def DR.gm (r:DR) (i:Nat):Prop:=r.n0<=i/\i<r.n0+r.c.news.length
theorem DR.dU {r:DR} {i:Nat} (h:¬r.gm i):look (au r.n0 r.c.news) i=none:=by
 rw[ax];by_cases c:r.n0<=i
 ·rw[if_pos c];exact Bt (Nat.le_of_not_lt λh'=>h ⟨c,by omega⟩)
 ·rw[if_neg c]
theorem j1 {T:Kil} (h:T.2=[]) (x:List (Nat× SV)):dZ T x=x:=by unfold dZ;rw[h]
theorem pd {T:Kil} (h:T.2=[]) (x:ak):b5 T x=some x:=by unfold b5;rw[h]
theorem cg {r:DR} (hg:r.c.kil.2=[]) (x:SH):r.app x=some (qe x.1 r.dst r.c.v,cr r.c.upd x.2++au r.n0 r.c.news):=by
 unfold DR.app;rw[pd hg,j1 hg];rfl
theorem aU {r:DR} {x y:SH} (h:r.app x=some y):y.1=qe (dZ r.c.kil x.1) r.dst r.c.v:=by
 unfold DR.app at h;simp only[An,AP]at h;grind
theorem jr {r:DR} {x y:SH} (h:r.app x=some y) (i:Nat):look y.2 i=(cond (mem i r.c.kil.1) none ((look (cr r.c.upd x.2) i).bind (Blk.al r.c.kil))).or (look (au r.n0 r.c.news) i):=by
 unfold DR.app at h;simp only[An,AP]at h;obtain⟨hh,h1,rfl⟩:=h;show look (hh++_) i=_;rw[ag,aK r.c.bC h1 i]
theorem uW {r:DR} (hg:r.c.kil.2=[]) {x y:SH} (e:nu x y) {x':SH} (h:r.app x=some x'):∃y',r.app y=some y'/\nu x' y':=by
 rw[cg hg]at h;cases h;refine⟨_,cg hg y,λt=>?_,λi=>?_⟩
 ·show look (qe _ _ _) t=look (qe _ _ _) t;rw[aT,aT,e.1 t]
 ·show look (_++_) i=look (_++_) i;rw[ag,ag,rE e.2 _ i]
theorem ba (p:Nat->Bool):∀(l1 l2:List DR) (k:Nat) (x:SH),replay p k (l1++l2) x=(replay p k l1 x).bind (replay p (k+l1.length) l2)
 |[],l2,k,x=>by simp[replay]
 |r::l,l2,k,x=>by
  simp only[List.cons_append,replay,List.length_cons];cases p k
  ·simp only[cond_false];rw[ba p l l2 (k+1) x,show k+1+l.length=k+(l.length+1)from by omega]
  ·simp only[cond_true,Ba]
   congr 1;funext y;rw[ba p l l2 (k+1) y,show k+1+l.length=k+(l.length+1)from by omega]
theorem cK {p q:Nat->Bool}:∀(l:List DR) (k:Nat) (x:SH),(∀j,j<l.length->p (k+j)=q (k+j))->replay p k l x=replay q k l x
 |[],_,_,_=>rfl
 |r::l,k,x,h=>by
  simp only[replay];have h0:=h 0 (by simp);rw[Bc]at h0
  have ih:=λx=>cK (p:=p) (q:=q) l (k+1) x λj hj=>by have:=h (j+1) (by simpa using hj);rwa [show k+(j+1)=k+1+j from by omega]at this
  grind
theorem ep {p:Nat->Bool}:∀(l:List DR) (k:Nat) (x:SH),(∀j,j<l.length->p (k+j)=false)->replay p k l x=some x
 |[],_,_,_=>rfl
 |r::l,k,x,h=>by
  simp only[replay];have h0:=h 0 (by simp);rw[Bc]at h0;rw[h0,cond_false]
  exact ep l (k+1) x λj hj=>by have:=h (j+1) (by simpa using hj);rwa [show k+(j+1)=k+1+j from by omega]at this
theorem dV {p:Nat->Bool}:∀(l:List DR) (k:Nat) (x X:SH),replay p k l x=some X->∀i B,look X.2 i=some B->(∃B',look x.2 i=some B')\/∃(j:Nat) (r:DR),l[j]? =some r/\p (k+j)=true/\r.gm i
  |[],_,x,X,h,i,B,hB=>by cases h;exact .inl ⟨B,hB⟩
  | r :: l, k, x, X, h, i, B, hB => by
    simp only[replay]at h;cases hp:p k<;>simp only[hp,cond_false,cond_true]at h
    · rcases dV l (k+1) x X h i B hB with h'|⟨j,r',h1,h2,h3⟩
      · exact .inl h'
      · exact .inr ⟨j+1,r',by simpa using h1,by rwa [show k+(j+1)=k+1+j from by omega],h3⟩
    · rw [An] at h;obtain⟨y,hy,h⟩:=h
      rcases dV l (k+1) y X h i B hB with⟨B',h'⟩|⟨j,r',h1,h2,h3⟩
      · by_cases hm:r.gm i
        · exact .inr ⟨0,r,rfl,hp,hm⟩
        · left;rw[jr hy,DR.dU hm,Bq]at h'
          cases hx:look x.2 i with
          |none=>rw[ll.2 hx]at h';cases hm':mem i r.c.kil.1<;>simp[hm']at h'
          |some b=>grind
      · exact .inr ⟨j+1,r',by simpa using h1,by rwa [show k+(j+1)=k+1+j from by omega],h3⟩
theorem fw {q p:Nat->Bool}:∀(l:List DR) (k:Nat) (y z Y Z:SH),(∀j,q j=true->p j=true)->replay q k l y=some Y->replay p k l z=some Z->Ext y.1 z.1->
    (∀t v,look y.1 t=some v->∀(j:Nat) (r:DR),l[j]? =some r->p (k+j)=true->q (k+j)=false->r.dst≠some t)->
    (∀(j j':Nat) (r r':DR) t,j≠j'->l[j]? =some r->l[j']? =some r'->r.dst=some t->r'.dst≠some t)->
    (∀(j:Nat) (r:DR),l[j]? =some r->p (k+j)=true->q (k+j)=false->r.c.kil.2=[])->Ext Y.1 Z.1
  |[],_,y,z,Y,Z,_,hy,hz,he,_,_,_=>by cases hy;cases hz;exact he
  | r :: l, k, y, z, Y, Z, hqp, hy, hz, he, hd, hn, hg => by
    simp only[replay]at hy hz;have hn':∀(j j':Nat) (r r':DR) t,j≠j'->l[j]? =some r->l[j']? =some r'->r.dst=some t->r'.dst≠some t:=λj j' r r' t hne h1 h2=>hn (j+1) (j'+1) r r' t (by omega) (by simpa using h1) (by simpa using h2);have hg':∀(j:Nat) (r:DR),l[j]? =some r->p (k+1+j)=true->q (k+1+j)=false->r.c.kil.2=[]:=λj r h1 h2 h3=>hg (j+1) r (by simpa using h1) (by rwa [show k+(j+1)=k+1+j from by omega]) (by rwa [show k+(j+1)=k+1+j from by omega]);have hd':∀t v,look y.1 t=some v->∀(j:Nat) (r:DR),l[j]? =some r->p (k+1+j)=true->q (k+1+j)=false->r.dst≠some t:=λt v ht j r h1 h0 h2=>hd t v ht (j+1) r (by simpa using h1) (by rwa [show k+(j+1)=k+1+j from by omega]) (by rwa [show k+(j+1)=k+1+j from by omega]);cases hq:q k<;>simp only[hq,cond_false,cond_true]at hy
    · cases hp:p k<;>simp only[hp,cond_false,cond_true]at hz
      · exact fw l (k+1) y z Y Z hqp hy hz he hd' hn' hg'
      · rw[An]at hz;obtain⟨z',hz',hz⟩:=hz;have hgr:=hg 0 r rfl (by simpa using hp) (by simpa using hq);refine fw l (k+1) y z' Y Z hqp hy hz (λt v ht=>?_) hd' hn' hg';rw[aU hz',j1 hgr,aT,if_neg (hd t v ht 0 r rfl (by simpa using hp) (by simpa using hq))];exact he t v ht
    · rw [hqp k hq] at hz;simp only[cond_true]at hz;rw[An]at hy hz;obtain⟨y',hy',hy⟩:=hy;obtain⟨z',hz',hz⟩:=hz
      have hsl:∀t,look y'.1 t=if r.dst=some t then some r.c.v else(look y.1 t).map (SV.al r.c.kil):=λt=>by rw[aU hy',aT,aM r.c.bC]
      have Aw:∀t,look z'.1 t=if r.dst=some t then some r.c.v else(look z.1 t).map (SV.al r.c.kil):=λt=>by rw[aU hz',aT,aM r.c.bC]
      refine fw l (k+1) y' z' Y Z hqp hy hz (λt v ht=>?_) (λt v ht j r' h1 h0 h2=>?_) hn' hg'
      · rw[hsl]at ht;rw[Aw];by_cases c:r.dst=some t
        · grind
        · rw[if_neg c]at ht⊢;obtain⟨u,hu,rfl⟩:=AV.1 ht;rw[he t u hu];rfl
      · rw[hsl]at ht;by_cases c:r.dst=some t
        · exact hn 0 (j+1) r r' t (by omega) rfl (by simpa using h1) c
        · rw[if_neg c]at ht;obtain⟨u,hu,_⟩:=AV.1 ht;grind
theorem dk {S:Nat->Prop} {q p:Nat->Bool}:∀(l:List DR) (k:Nat) (y z Y Z:SH),(∀j,q j=true->p j=true)->replay q k l y=some Y->replay p k l z=some Z->(∀i B,S i->look y.2 i=some B->look z.2 i=some B)->
    (∀(j:Nat) (r:DR) i,l[j]? =some r->r.gm i->look z.2 i=none)->
    (∀(j j':Nat) (r r':DR) i,j≠j'->l[j]? =some r->l[j']? =some r'->r.gm i->¬r'.gm i)->
    (∀(j:Nat) (r:DR),l[j]? =some r->p (k+j)=true->q (k+j)=false->r.c.kil.2=[]/\∀i,S i->look r.c.upd i=none)->∀i B,S i->look Y.2 i=some B->look Z.2 i=some B
  |[],_,y,z,Y,Z,_,hy,hz,he,_,_,_=>by cases hy;cases hz;exact he
  | r :: l, k, y, z, Y, Z, hqp, hy, hz, he, hf, hn, hg => by
    simp only[replay]at hy hz;have hn':∀(j j':Nat) (r r':DR) i,j≠j'->l[j]? =some r->l[j']? =some r'->r.gm i->¬r'.gm i:=λj j' r r' t hne h1 h2=>hn (j+1) (j'+1) r r' t (by omega) (by simpa using h1) (by simpa using h2);have hg':∀(j:Nat) (r:DR),l[j]? =some r->p (k+1+j)=true->q (k+1+j)=false->r.c.kil.2=[]/\∀i,S i->look r.c.upd i=none:=λj r h1 h2 h3=>hg (j+1) r (by simpa using h1) (by rwa [show k+(j+1)=k+1+j from by omega]) (by rwa [show k+(j+1)=k+1+j from by omega]);have hf':∀(j:Nat) (r:DR) i,l[j]? =some r->r.gm i->look z.2 i=none:=λj r i h1 h2=>hf (j+1) r i (by simpa using h1) h2
    have iC:∀z',r.app z=some z'->∀(j:Nat) (r':DR) i,l[j]? =some r'->r'.gm i->look z'.2 i=none:=λz' hz' j r' i h1 h2=>by
      cases hx:look z'.2 i with
      |none=>rfl
      | some B =>
        rcases dV (p:=λ_=>true) [r] 0 z z' (by simp[replay,hz']) i B hx with⟨B',hB'⟩|⟨j',r2,g1,_,g3⟩
        · grind
        · cases j' with
          |zero=>simp at g1;subst g1;exact(hn 0 (j+1) r r' i (by omega) rfl (by simpa using h1) g3 h2).elim
          |succ j'=>simp at g1
    cases hq:q k<;>simp only[hq,cond_false,cond_true]at hy
    · cases hp:p k<;>simp only[hp,cond_false,cond_true]at hz
      · exact dk l (k+1) y z Y Z hqp hy hz he hf' hn' hg'
      · rw[An]at hz;obtain⟨z',hz',hz⟩:=hz;obtain⟨hgr,hur⟩:=hg 0 r rfl (by simpa using hp) (by simpa using hq);refine dk l (k+1) y z' Y Z hqp hy hz (λi B hS hB=>?_) (iC z' hz') hn' hg';rw[cg hgr]at hz';cases hz';show look (cr r.c.upd z.2++_) i=some B;rw[ag,e6 _ _ (hur i hS),he i B hS hB];rfl
    · rw [hqp k hq] at hz;simp only[cond_true]at hz;rw[An]at hy hz;obtain⟨y',hy',hy⟩:=hy;obtain⟨z',hz',hz⟩:=hz;refine dk l (k+1) y' z' Y Z hqp hy hz (λi B hS hB=>?_) (iC z' hz') hn' hg';rw[jr hy']at hB;rw[jr hz']
      cases hx:cond (mem i r.c.kil.1) none ((look (cr r.c.upd y.2) i).bind (Blk.al r.c.kil))with
      | some b =>
        rw[hx]at hB;cases hm:mem i r.c.kil.1<;>simp only[hm,cond_true,cond_false]at hx⊢
        · obtain⟨b0,hb0,hb1⟩:=An.1 hx;rw[rF he _ i b0 hS hb0];simp only[A5,hb1];exact hB
        · cases hx
      | none =>
        rw[hx,Option.none_or]at hB
        have hm:r.gm i:=Classical.byContradiction λh=>by rw[DR.dU h]at hB;cases hB
        rw[ll.2 (hf 0 r i rfl hm)];grind
theorem j3 {b:DR}:∀{U:ak},xR b U=true->∀i,b.gm i->look U i=none
  |[],_,_,_=>rfl
  | (k, _) :: l, h, i, hi => by
    simp only[xR]at h;cases hk:(Nat.ble (k+1) b.n0||Nat.ble (b.n0+b.c.news.length) k)<;>rw[hk]at h
    · cases h
    · rw[ae,if_neg,j3 h i hi];intro e;subst e;obtain⟨h1,h2⟩:=hi;rw[BV]at hk
      rcases hk with hk|hk<;>have:=AZ hk<;>omega
theorem bW {a b:DR} (h:oG a b=true):a.c.kil.2=[]/\b.c.kil.2=[]/\((b.c.upd=[]/\∀i,b.gm i->look a.c.upd i=none)\/(a.c.upd=[]/\∀i,a.gm i->look b.c.upd i=none)):=by
 simp only[oG,AW,BV]at h;have h:=h.1;refine⟨bf h.1.1,bf h.1.2,?_⟩
 rcases h.2 with h|h
 ·exact .inl ⟨bf h.1,j3 h.2⟩
 ·exact .inr ⟨bf h.1,j3 h.2⟩
theorem j4 {i:Nat}:∀(u:ak) {h h':ak},look h i=look h' i->look (cr u h) i=look (cr u h') i
 |[],_,_,e=>e
 |(k,b)::l,h,h',e=>by
  simp only[cr];exact j4 l (by rw[cJ,cJ,e])
theorem nv {a b:DR} (h:oG a b=true):uG b.see a.c.upd=false/\uG a.see b.c.upd=false:=by
 simp only[oG,AW,Bool.not_eq_true']at h;exact h.2
theorem nw {L:List Nat}:∀{U:ak},uG L U=false->∀i,mem i L=true->look U i=none
  |[],_,_,_=>rfl
  | (k, b) :: l, h, i, hi => by
    simp only[uG]at h;cases hk:mem k L<;>simp only[hk,cond_true,cond_false]at h
    · rw[ae,if_neg (λe=>by subst e;rw[hi]at hk;exact nomatch hk)];exact nw h i hi
    · cases h
theorem er {h:ak} {i:Nat} {B:Blk}:∀{L:List Nat},look (iW h L) i=some B->mem i L=true/\look h i=some B
 |[],e=>nomatch e
 |k::l,e=>by
  simp only[iW]at e
  cases hk:look h k with
  |none=>
   rw[hk]at e;obtain⟨g1,g2⟩:=er e
   exact⟨by simp only[mem];cases Nat.beq k i<;>simp[g1],g2⟩
  |some b=>
   rw[hk]at e;rw[ae]at e;by_cases c:k=i
   ·subst c;rw[if_pos rfl]at e;cases e;exact⟨by simp[mem],hk⟩
   ·rw[if_neg c]at e;obtain⟨g1,g2⟩:=er e;exact⟨by simp only[mem];cases Nat.beq k i<;>simp[g1],g2⟩
theorem not_false {b:Bool} (h:(!b)=true):b=false:=by cases b<;>first|rfl|exact nomatch h
mutual
theorem iD {T:Kil}:(v:SV)->v.si T=true->v.al T=v
 |.r d x,h=>by rw[SV.al,not_false h];rfl
 |.own j,h=>by rw[SV.al,not_false h];rfl
 |.sub j o n,h=>by rw[SV.al,not_false h];rfl
 |.bsl j n,h=>by rw[SV.al,not_false h];rfl
 |.ptr j x o,h=>by rw[SV.al,not_false h];rfl
 |.inn j x c,h=>by rw[SV.al,not_false h];rfl
 |.cY d cs,h=>by rw[SV.al,not_false h];rfl
 |.agg cs,h=>by rw[SV.al,cz cs h]
 |.tup cs,h=>by rw[SV.al,cz cs h]
 |.fn f a b,h=>by
  simp only[SV.si,AW]at h
  rw[SV.al,cz a h.1,cz b h.2]
 |.br,_=>rfl
 |.fK,_=>rfl
 |.undef,_=>rfl
theorem cz {T:Kil}:(l:List SV)->jF T l=true->bV T l=l
 |[],_=>rfl
 |v::l,h=>by
  simp only[jF,AW]at h;rw[bV,iD v h.1,cz l h.2]
end
theorem qx {c:CR} (h:c.kil.2=[]):c.kil=([],[]):=by
 unfold CR.kil at h⊢;rw[List.append_eq_nil_iff]at h;grind
mutual
theorem ln (T U:Kil):(v:SV)->(v.al T).al U=(v.al U).al T
 |.r d x=>by
  simp only[SV.al]
  cases h1:hit T.2 d<;>cases h2:hit U.2 d<;>simp only[cond_true,cond_false,SV.al,h1,h2]
 |.own j=>by
  simp only[SV.al]
  cases h1:mem j T.1<;>cases h2:mem j U.1<;>simp only[cond_true,cond_false,SV.al,h1,h2]
 |.sub j o n=>by
  simp only[SV.al]
  cases h1:mem j T.1<;>cases h2:mem j U.1<;>simp only[cond_true,cond_false,SV.al,h1,h2]
 |.bsl j n=>by
  simp only[SV.al]
  cases h1:mem j T.1<;>cases h2:mem j U.1<;>simp only[cond_true,cond_false,SV.al,h1,h2]
 |.ptr j x o=>by
  simp only[SV.al]
  cases h1:mem j T.1<;>cases h2:mem j U.1<;>simp only[cond_true,cond_false,SV.al,h1,h2]
 |.inn j x c=>by
  simp only[SV.al]
  cases h1:(mem j T.1||mem j T.2)<;>cases h2:(mem j U.1||mem j U.2)<;>simp only[cond_true,cond_false,SV.al,h1,h2]
 |.cY d cs=>by
  simp only[SV.al]
  cases h1:hit T.2 d<;>cases h2:hit U.2 d<;>simp only[cond_true,cond_false,SV.al,h1,h2]
 |.agg cs=>by simp only[SV.al,dm T U cs]
 |.tup cs=>by simp only[SV.al,dm T U cs]
 |.fn f a b=>by simp only[SV.al,dm T U a,dm T U b]
 |.br=>rfl
 |.fK=>rfl
 |.undef=>rfl
theorem dm (T U:Kil):(l:List SV)->bV U (bV T l)=bV T (bV U l)
 |[]=>rfl
 |v::l=>by simp only[bV,ln T U v,dm T U l]
end
variable {cm:DR->Bool}
theorem bh {r:DR} (h:bA cm r=true):cm r=true/\r.c.kil.2=[]/\r.c.upd=[]/\r.c.news=[]:=by
 simp only[bA,AW]at h;exact⟨h.2.2.2,bf h.1,bf h.2.1,bf h.2.2.1⟩
theorem lq {b a:DR} (h:ra b a=true):a.c.v.al b.c.kil=a.c.v:=by
 simp only[ra,AW]at h;exact iD _ h.1
theorem qy {T:Kil} {u:SV}:∀{l:List SV},jF T l=true->u∈l->u.si T=true
 |[],_,h=>nomatch h
 |v::l,h,hu=>by
  simp only[jF,AW]at h
  rcases Bb.1 hu with rfl|hu
  ·exact h.1
  ·exact qy h.2 hu
theorem qz {b a:DR} (h:ra b a=true):∀u∈a.uE,u.al b.c.kil=u:=by
 intro u hu;simp only[ra,AW]at h;exact iD _ (qy h.2 hu)
theorem gQ {b a:DR} (h:b.c.kil.2=[]):a.c.v.al b.c.kil=a.c.v:=by rw[qx h];exact aO _
theorem bm {a b:DR} (h:fL cm a b=true):
  (bA cm a=true/\a.c.v.al b.c.kil=a.c.v)\/(bA cm b=true/\b.c.v.al a.c.kil=b.c.v)\/(bA cm a=false/\bA cm b=false/\oG a b=true):=by
 simp only[fL,BV,AW]at h
 rcases h with h|⟨h2,h1⟩|⟨h2,h1⟩
 ·obtain⟨k1,k2,_⟩:=bW h;cases ha:bA cm a
  ·cases hb:bA cm b
   ·grind
   ·exact .inr (.inl ⟨rfl,gQ k1⟩)
  ·exact .inl ⟨rfl,gQ k2⟩
 ·exact .inl ⟨h1,lq h2⟩
 ·exact .inr (.inl ⟨h1,lq h2⟩)
theorem qA {a b:DR} (h:fL cm a b=true):
  (bA cm a=true->∀u∈a.uE,u.al b.c.kil=u)/\(bA cm b=true->∀u∈b.uE,u.al a.c.kil=u):=by
 have nl:∀{c:DR} (v:SV),c.c.kil.2=[]->v.al c.c.kil=v:=λ{c} v h=>by rw[qx h];exact aO _
 simp only[fL,BV,AW]at h
 rcases h with h|⟨h2,h1⟩|⟨h2,h1⟩
 ·obtain⟨k1,k2,_⟩:=bW h;grind
 ·exact⟨λ_=>qz h2,λ_ u _=>nl u (bh h1).2.1⟩
 ·exact⟨λ_ u _=>nl u (bh h1).2.1,λ_=>qz h2⟩
theorem fx {r:DR} (h:bA cm r=true) (x:SH):r.app x=some (qe x.1 r.dst r.c.v,x.2):=by
 obtain⟨_,h1,h2,h3⟩:=bh h;rw[cg h1,h2,h3];simp only[cr,au,Be]
theorem e7 {r:DR} {x x' y:SH} (e:x.2=x'.2) (h:r.app x=some y):∃y',r.app x'=some y'/\y.2=y'.2:=by
 unfold DR.app at h⊢;simp only[An,AP]at h;grind
def mx (x y:SH):Prop:=j0 x.1 y.1/\x.2=y.2
theorem mx.same {x y:SH} (h:mx x y):nu x y:=⟨h.1,λt=>by rw[h.2]⟩
theorem tv {r:DR} {x y:SH} (e:mx x y) {x':SH} (h:r.app x=some x'):∃y',r.app y=some y'/\mx x' y':=by
 obtain⟨y',h1,h2⟩:=e7 e.2 h;refine⟨y',h1,λt=>?_,h2⟩;rw[aU h,aU h1,aT,aT,aM r.c.bC,aM r.c.bC,e.1 t]
theorem e8 {p:Nat->Bool}:∀(l:List DR) (k:Nat) (x y X:SH),mx x y->replay p k l x=some X->∃Y,replay p k l y=some Y/\mx X Y
 |[],_,x,y,X,e,h=>by cases h;exact⟨y,rfl,e⟩
 |r::l,k,x,y,X,e,h=>by
  simp only[replay]at h⊢;cases hp:p k<;>simp only[hp,cond_false,cond_true]at h⊢
  ·exact e8 l (k+1) x y X e h
  ·rw[An]at h;obtain⟨x',hx',h⟩:=h;obtain⟨y',hy',e'⟩:=tv e hx';rw[hy'];exact e8 l (k+1) x' y' X e' h
theorem dn {p p':Nat->Bool}:∀(l:List DR) (k:Nat) (x x' X:SH),(∀(j:Nat) (r:DR),l[j]? =some r->p (k+j)≠p' (k+j)->bA cm r=true)->x.2=x'.2->replay p k l x=some X->
  ∃X',replay p' k l x'=some X'/\X.2=X'.2
 |[],_,x,x',X,_,e,h=>by cases h;exact⟨x',rfl,e⟩
 |r::l,k,x,x',X,hd,e,h=>by
  have hd':∀(j:Nat) (r:DR),l[j]? =some r->p (k+1+j)≠p' (k+1+j)->bA cm r=true:=λj r h1 h2=>hd (j+1) r (by simpa using h1) (by rwa [show k+(j+1)=k+1+j from by omega]);have h0:=hd 0 r rfl;rw[Bc]at h0;simp only[replay]at h⊢;cases hp:p k<;>cases hp':p' k<;>simp only[hp,cond_false,cond_true]at h⊢
  ·exact dn l (k+1) x x' X hd' e h
  ·rw[fx (h0 (by rw[hp,hp'];exactλh=>nomatch h)),A5];exact dn l (k+1) x (qe x'.1 r.dst r.c.v,x'.2) X hd' e h
  ·rw[fx (h0 (by rw[hp,hp'];exactλh=>nomatch h)),A5]at h;exact dn l (k+1) (qe x.1 r.dst r.c.v,x.2) x' X hd' e h
  ·rw[An]at h;obtain⟨y,hy,h⟩:=h;obtain⟨y',h1,h2⟩:=e7 e hy;rw[h1,A5];exact dn l (k+1) y y' X hd' h2 h
def fT:List Kil->SV->SV
 |[],v=>v
 |T::l,v=>fT l (v.al T)
theorem rG (l l':List Kil) (v:SV):fT (l++l') v=fT l' (fT l v):=by
 induction l generalizing v with
 |nil=>rfl
 |cons T l ih=>exact ih _
theorem pe (T:Kil) (l:List Kil) (v:SV):(fT l v).al T=fT l (v.al T):=by
 induction l generalizing v with
 |nil=>rfl
 |cons U l ih=>simp only[fT];rw[ih,ln]
theorem pf {l:List Kil} {v:SV} (h:∀T∈l,v.al T=v):fT l v=v:=by
 induction l with
 |nil=>rfl
 |cons U l ih=>simp only[fT];rw[h U (by simp)];exact ih λT hT=>h T (by simp[hT])
theorem et {q p:Nat->Bool} {t:Nat} {v:SV}:∀(l:List DR) (k:Nat) (y z Y Z:SH),(∀j,q j=true->p j=true)->replay q k l y=some Y->replay p k l z=some Z->look Y.1 t=some v->
  (∀(j:Nat) (r:DR),l[j]? =some r->p (k+j)=true->q (k+j)=false->r.dst≠some t/\v.al r.c.kil=v)->
  (∀u,look y.1 t=some u->∃Ts,look z.1 t=some (fT Ts u)/\∀T∈Ts,v.al T=v)->look Z.1 t=some v
 |[],_,y,z,Y,Z,_,hy,hz,hv,_,hi=>by
  cases hy;cases hz;obtain⟨Ts,h1,h2⟩:=hi v hv
  rw[h1,pf h2]
 |r::l,k,y,z,Y,Z,hqp,hy,hz,hv,hd,hi=>by
  simp only[replay]at hy hz;have hd':∀(j:Nat) (r:DR),l[j]? =some r->p (k+1+j)=true->q (k+1+j)=false->r.dst≠some t/\v.al r.c.kil=v:=λj r h1 h2 h3=>hd (j+1) r (by simpa using h1) (by rwa [show k+(j+1)=k+1+j from by omega]) (by rwa [show k+(j+1)=k+1+j from by omega]);cases hq:q k<;>simp only[hq,cond_false,cond_true]at hy
  ·cases hp:p k<;>simp only[hp,cond_false,cond_true]at hz
   ·exact et l (k+1) y z Y Z hqp hy hz hv hd' hi
   ·rw[An]at hz;obtain⟨z',hz',hz⟩:=hz;obtain⟨g1,g2⟩:=hd 0 r rfl (by simpa using hp) (by simpa using hq);refine et l (k+1) y z' Y Z hqp hy hz hv hd' λu hu=>?_;obtain⟨Ts,h1,h2⟩:=hi u hu;refine⟨Ts++[r.c.kil],?_,λT hT=>?_⟩
    ·rw[aU hz',aT,if_neg g1,aM r.c.bC,h1,rG];rfl
    ·grind
  ·rw[hqp k hq]at hz;simp only[cond_true]at hz;rw[An]at hy hz;obtain⟨y',hy',hy⟩:=hy;obtain⟨z',hz',hz⟩:=hz;refine et l (k+1) y' z' Y Z hqp hy hz hv hd' λu hu=>?_;rw[aU hy',aT,aM r.c.bC]at hu;rw[aU hz',aT,aM r.c.bC];by_cases c:r.dst=some t
   ·rw[if_pos c]at hu⊢;cases hu;exact⟨[],rfl,by simp⟩
   ·rw[if_neg c]at hu⊢;obtain⟨u0,hu0,rfl⟩:=AV.1 hu;obtain⟨Ts,h1,h2⟩:=hi u0 hu0;exact⟨Ts,by rw[h1,BO,pe],h2⟩
theorem eu {q:Nat->Bool} {t:Nat} {v:SV}:∀(l:List DR) (k:Nat) (y Y:SH),replay q k l y=some Y->look Y.1 t=some v->(∃u,look y.1 t=some u)\/∃(j:Nat) (r:DR),l[j]? =some r/\q (k+j)=true/\r.dst=some t
  |[],_,y,Y,h,hv=>by cases h;exact .inl ⟨v,hv⟩
  | r :: l, k, y, Y, h, hv => by
    simp only[replay]at h;cases hq:q k<;>simp only[hq,cond_false,cond_true]at h
    · rcases eu l (k+1) y Y h hv with h'|⟨j,r',h1,h2,h3⟩
      · exact .inl h'
      · exact .inr ⟨j+1,r',by simpa using h1,by rwa [show k+(j+1)=k+1+j from by omega],h3⟩
    · rw [An] at h;obtain⟨y',hy',h⟩:=h
      rcases eu l (k+1) y' Y h hv with⟨u,hu⟩|⟨j,r',h1,h2,h3⟩
      · rw[aU hy',aT,aM r.c.bC]at hu;by_cases c:r.dst=some t
        · exact .inr ⟨0,r,rfl,hq,c⟩
        · rw[if_neg c]at hu;obtain⟨u0,hu0,_⟩:=AV.1 hu;grind
      · exact .inr ⟨j+1,r',by simpa using h1,by rwa [show k+(j+1)=k+1+j from by omega],h3⟩
theorem tw {a b:DR} (ha:bA cm a=true) (hf:a.c.v.al b.c.kil=a.c.v) (hd:∀t,a.dst=some t->b.dst≠some t) {x y z:SH} (hy:b.app x=some y) (hz:a.app y=some z):
  ∃y' z',a.app x=some y'/\b.app y'=some z'/\mx z z':=by
 rw[fx ha]at hz;cases hz;obtain⟨z',h1,h2⟩:=e7 (x:=x) (x':=(qe x.1 a.dst a.c.v,x.2)) rfl hy;refine⟨_,z',fx ha x,h1,λt=>?_,h2⟩;rw[aU h1,aU hy];simp only[aT,aM b.c.bC];grind
theorem rH {a b:DR} (hb:bA cm b=true) (hf:b.c.v.al a.c.kil=b.c.v) (hd:∀t,a.dst=some t->b.dst≠some t) {x y z:SH} (hy:b.app x=some y) (hz:a.app y=some z):
  ∃y' z',a.app x=some y'/\b.app y'=some z'/\mx z z':=by
 rw[fx hb]at hy;cases hy;obtain⟨y',h1,h2⟩:=e7 (x:=(qe x.1 b.dst b.c.v,x.2)) (x':=x) rfl hz;refine⟨y',_,h1,fx hb y',λt=>?_,h2⟩;rw[aU h1,aU hz];simp only[aT,aM a.c.bC];grind
theorem comm {a b:DR} (h:oG a b=true) (hd:∀t,a.dst=some t->b.dst≠some t) (hm:∀i,a.gm i->¬b.gm i) {x y z:SH} (hy:b.app x=some y) (hz:a.app y=some z):
  ∃y' z',a.app x=some y'/\b.app y'=some z'/\nu z z':=by
 obtain⟨ga,gb,hu⟩:=bW h;rw[cg gb]at hy;cases hy;rw[cg ga]at hz;cases hz;refine⟨_,_,cg ga x,cg gb _,λt=>?_,λi=>?_⟩
 ·simp only[aT];grind
 ·have swap:(look (au b.n0 b.c.news) i).or (look (au a.n0 a.c.news) i)=(look (au a.n0 a.c.news) i).or (look (au b.n0 b.c.news) i):=by
   by_cases c:a.gm i
   ·rw[DR.dU (hm i c)];simp
   ·rw[DR.dU c];simp
  have past:∀(r:DR) (u:ak),(∀i,r.gm i->look u i=none)->look (cr u (x.2++au r.n0 r.c.news)) i=(look (cr u x.2) i).or (look (au r.n0 r.c.news) i):=λr u hr=>by
   by_cases c:r.gm i
   ·rw[e6 _ _ (hr i c),e6 _ _ (hr i c),ag]
   ·rw[DR.dU c,Bq];exact j4 u (by rw[ag,DR.dU c,Bq])
  rcases hu with⟨u1,u2⟩|⟨u1,u2⟩
  ·simp only[u1,cr,ag,Option.or_assoc];grind
  ·simp only[u1,cr,ag,Option.or_assoc];grind
theorem gn {p:Nat->Bool}:∀(l:List DR) (k:Nat) (x y X:SH),(∀(j:Nat) (r:DR),l[j]? =some r->p (k+j)=true->r.c.kil.2=[])->nu x y->replay p k l x=some X->∃Y,replay p k l y=some Y/\nu X Y
 |[],_,x,y,X,_,e,h=>by cases h;exact⟨y,rfl,e⟩
 |r::l,k,x,y,X,hg,e,h=>by
  have hg':∀(j:Nat) (r:DR),l[j]? =some r->p (k+1+j)=true->r.c.kil.2=[]:=λj r h1 h2=>hg (j+1) r (by simpa using h1) (by rwa [show k+(j+1)=k+1+j from by omega]);simp only[replay]at h⊢;cases hp:p k<;>simp only[hp,cond_false,cond_true]at h⊢
  ·exact gn l (k+1) x y X hg' e h
  ·rw[An]at h;obtain⟨x',hx',h⟩:=h;obtain⟨y',hy',e'⟩:=uW (hg 0 r rfl (by simpa using hp)) e hx';rw[hy'];exact gn l (k+1) x' y' X hg' e' h
theorem dK {p:Nat->Bool} {a:DR} (hi:bA cm a=true):∀(l:List DR) (k:Nat) (x X X':SH),
  (∀(j:Nat) (r:DR),l[j]? =some r->p (k+j)=true->a.c.v.al r.c.kil=a.c.v/\(∀t,a.dst=some t->r.dst≠some t))->
  replay p k l x=some X->a.app X=some X'->∃x' X'',a.app x=some x'/\replay p k l x'=some X''/\mx X' X''
 |[],_,x,X,X',_,h,ha=>by cases h;exact⟨X',X',ha,rfl,λ_=>rfl,rfl⟩
 |r::l,k,x,X,X',hc,h,ha=>by
  have hc':∀(j:Nat) (r:DR),l[j]? =some r->p (k+1+j)=true->a.c.v.al r.c.kil=a.c.v/\(∀t,a.dst=some t->r.dst≠some t):=λj r h1 h2=>hc (j+1) r (by simpa using h1) (by rwa [show k+(j+1)=k+1+j from by omega]);simp only[replay]at h⊢;cases hp:p k<;>simp only[hp,cond_false,cond_true]at h⊢
  ·exact dK hi l (k+1) x X X' hc' h ha
  ·rw[An]at h;obtain⟨y,hy,h⟩:=h;obtain⟨y',Y'',h1,h2,h3⟩:=dK hi l (k+1) y X X' hc' h ha;obtain⟨c1,c2⟩:=hc 0 r rfl (by simpa using hp);obtain⟨x',z',g1,g2,g3⟩:=tw hi c1 c2 hy h1;obtain⟨W,w1,w2⟩:=e8 l (k+1) y' z' Y'' g3 h2;exact⟨x',W,g1,by rw[g2];exact w1,λt=>(h3.1 t).trans (w2.1 t),h3.2.trans w2.2⟩
theorem dL {p:Nat->Bool} {a:DR} (hi:bA cm a=false):∀(l:List DR) (k:Nat) (x X X':SH),
    (∀(j:Nat) (r:DR),l[j]? =some r->p (k+j)=true->fL cm a r=true/\(∀t,a.dst=some t->r.dst≠some t)/\∀i,a.gm i->¬r.gm i)->
    replay p k l x=some X->a.app X=some X'->∃x' X'',a.app x=some x'/\replay p k l x'=some X''/\nu X' X''
  |[],_,x,X,X',_,h,ha=>by cases h;exact⟨X',X',ha,rfl,nu.refl _⟩
  | r :: l, k, x, X, X', hc, h, ha => by
    have hc':∀(j:Nat) (r:DR),l[j]? =some r->p (k+1+j)=true->fL cm a r=true/\(∀t,a.dst=some t->r.dst≠some t)/\∀i,a.gm i->¬r.gm i:=λj r h1 h2=>hc (j+1) r (by simpa using h1) (by rwa [show k+(j+1)=k+1+j from by omega])
    have kil0:∀(r:DR),fL cm a r=true->r.c.kil.2=[]:=λr h=>by
      rcases bm h with⟨h1,_⟩|⟨h1,_⟩|⟨_,_,h1⟩
      · grind
      · exact(bh h1).2.1
      · exact(bW h1).2.1
    simp only[replay]at h⊢;cases hp:p k<;>simp only[hp,cond_false,cond_true]at h⊢
    · exact dL hi l (k+1) x X X' hc' h ha
    · rw [An] at h;obtain⟨y,hy,h⟩:=h;obtain⟨y',Y'',h1,h2,h3⟩:=dL hi l (k+1) y X X' hc' h ha;obtain⟨c1,c2,c3⟩:=hc 0 r rfl (by simpa using hp)
      have hcm:∃y'' z',a.app x=some y''/\r.app y''=some z'/\nu y' z':=by
        rcases bm c1 with⟨h1',_⟩|⟨h1',h2'⟩|⟨_,_,h1'⟩
        · grind
        · obtain⟨u1,u2,u3,u4,u5⟩:=rH h1' h2' c2 hy h1;exact⟨u1,u2,u3,u4,u5.same⟩
        · exact comm h1' c2 c3 hy h1
      obtain⟨x',z',g1,g2,g3⟩:=hcm;obtain⟨W,w1,w2⟩:=gn l (k+1) y' z' Y'' (λj r h1 h2=>kil0 r (hc' j r h1 h2).1) g3 h2;exact⟨x',W,g1,by rw[g2];exact w1,h3.trans w2⟩
theorem my {p:Nat->Bool} {a:DR} (l:List DR) (k:Nat) (x X X':SH)
  (hc:∀(j:Nat) (r:DR),l[j]? =some r->p (k+j)=true->fL cm a r=true/\(∀t,a.dst=some t->r.dst≠some t)/\∀i,a.gm i->¬r.gm i)
  (h:replay p k l x=some X) (ha:a.app X=some X'):∃x' X'',a.app x=some x'/\replay p k l x'=some X''/\nu X' X'':=by
 cases hi:bA cm a with
 |false=>exact dL hi l k x X X' hc h ha
 |true=>
  obtain⟨u1,u2,u3,u4,u5⟩:=dK hi l k x X X' (λj r h1 h2=>by
   obtain⟨c1,c2,_⟩:=hc j r h1 h2;refine⟨?_,c2⟩
   rcases bm c1 with⟨_,h⟩|⟨h,_⟩|⟨h,_,_⟩
   ·exact h
   ·exact gQ (bh h).2.1
   ·rw[hi]at h;exact nomatch h) h ha
  exact⟨u1,u2,u3,u4,u5.same⟩
theorem mz {p p':Nat->Bool} {l:List DR} {i:Nat} {a:DR} {x X X':SH} (hi:l[i]? =some a) (hpi:p i=false) (zI:p' i=true) (hpp:∀j,j≠i->p' j=p j)
  (hc:∀(j:Nat) (r:DR),i<j->l[j]? =some r->p j=true->fL cm a r=true/\(∀t,a.dst=some t->r.dst≠some t)/\∀i,a.gm i->¬r.gm i)
  (h:replay p 0 l x=some X) (ha:a.app X=some X'):∃X'',replay p' 0 l x=some X''/\nu X' X'':=by
 have hlt:=(AQ.1 hi).1
 have fQ:l=l.take i++a::l.drop (i+1):=by
  conv=>lhs;rw[<-BD i l]
  rw[List.drop_eq_getElem_cons hlt,(AQ.1 hi).2]
 have hl:(l.take i).length=i:=by simp;omega
 rw[fQ,ba,An]at h;obtain⟨y,hy,h⟩:=h;rw[hl,AY]at h;simp only[replay,hpi,cond_false]at h;obtain⟨y',X'',g1,g2,g3⟩:=my (l.drop (i+1)) (i+1) y X X' (λj r h1 h2=>hc (i+1+j) r (by omega) (by rwa [A8]at h1) h2) h ha;refine⟨X'',?_,g3⟩;rw[fQ,ba,hl,AY];rw[cK (q:=p) (l.take i) 0 x λj hj=>by rw[hl]at hj;rw[AY];exact hpp j (by omega),hy];simp only[A5,replay,zI,cond_true,g1];rw[cK (q:=p) (l.drop (i+1)) (i+1) y' λj hj=>hpp _ (by omega)];exact g2
theorem gp {p:Nat->Bool} {t:Nat} {x0:SV} (hx0:∀T,x0.al T=x0):∀(l:List DR) (k:Nat) (x X:SH),replay p k l x=some X->(∀(j:Nat) (r:DR),l[j]? =some r->r.dst≠some t)->look x.1 t=some x0->look X.1 t=some x0
 |[],_,x,X,h,_,hx=>by cases h;exact hx
 |r::l,k,x,X,h,hd,hx=>by
  have hd':∀(j:Nat) (r:DR),l[j]? =some r->r.dst≠some t:=λj r h1=>hd (j+1) r (by simpa using h1);simp only[replay]at h;cases hp:p k<;>simp only[hp,cond_false,cond_true]at h
  ·exact gp hx0 l (k+1) x X h hd' hx
  ·rw[An]at h;obtain⟨y,hy,h⟩:=h;refine gp hx0 l (k+1) y X h hd' ?_;rw[aU hy,aT,if_neg (hd 0 r rfl)];rw[aM r.c.bC,hx,BO,hx0]
end
section
variable [Tok] [Glo]
def Rl (w0:World) (fp0:G0) (bs:Cell->Prop) (n:Nat) (st:St) (a:Act) (w:World):Prop:=∃pl,Rel w0 fp0 st pl a w/\pl.base=bs/\st.n=n
section
variable {w:World} {H H':ak} {pl:Pl}
theorem lr (e:j0 H' H):cT ([],[]) w H pl w H' pl:=
 ⟨λi B hB _=>⟨B,(e i).trans hB,B.aS,rfl⟩,λd p u _ h hp=>⟨⟨h.1,λi B hB=>h.2 i B ((e i).symm.trans hB)⟩,hp⟩⟩
theorem aR.same (e:j0 H' H) (h:aR H pl w):aR H' pl w:=
  ⟨λi B hB=>(h.blk i B ((e i).symm.trans hB)).aY (lr e) rfl (λ_=>Cn) (λp u _ hu=>⟨hu,rfl⟩) B.aO,
   λi j B B' p h1 h2=>h.dis i j B B' p ((e i).symm.trans h1) ((e j).symm.trans h2),λi B p hB=>h.ob i B p ((e i).symm.trans hB),h.nb⟩
theorem Rel.congr {w0:World} {fp0:G0} {s s':List (Nat× SV)} {nid n:Nat} {gh:List (Option Nat)} {a:Act} (h:Rel w0 fp0 ⟨s,H,nid,n,gh⟩ pl a w) (hs:∀t v,look s' t=some v->look s t=some v) (e:j0 H' H):
    Rel w0 fp0 ⟨s',H',nid,n,gh⟩ pl a w:=
  ⟨h.hr.same e,λt v hv=>(h.sl t v (hs t v hv)).jg (lr e),h.sz,h.df,λi hi=>(e i).trans (h.fresh i hi),h.gr,λp u hp hn=>by
    obtain⟨g1,g2,g3⟩:=h.fr p u hp hn
    exact⟨λi B hB=>g1 i B ((e i).symm.trans hB),g2,g3⟩,λk i hi=>⟨(h.gk k i hi).1,λB hB=>(h.gk k i hi).2 B ((e i).symm.trans hB)⟩⟩
end
theorem mA {h:ak} {k i:Nat} {b B:Blk} (e:look (qY h k b) i=some B):∃B',look h i=some B':=by
 induction h with
 |nil=>simp[qY,look]at e
 |cons x l ih=>
  obtain⟨k',u⟩:=x;rw[ae];by_cases c:k'=i
  ·exact⟨u,by simp[c]⟩
  ·rw[if_neg c];simp only[qY]at e;cases hb:Nat.beq k' k<;>simp only[hb,cond_true,cond_false]at e
   ·rw[ae,if_neg c]at e;exact ih e
   ·rw[ae,if_neg (by have:=AR hb;omega)]at e;exact⟨B,e⟩
theorem fU:∀{l h:ak} {i:Nat} {B:Blk},look (cr l h) i=some B->∃B',look h i=some B'
 |[],h,i,B,e=>⟨B,e⟩
 |(k,b)::l,h,i,B,e=>by
  simp only[cr]at e;obtain⟨B',hB'⟩:=fU e;exact mA hB'
theorem Rel.app {w0:World} {fp0:G0} {X X':SH} {nid n:Nat} {gh:List (Option Nat)} {pl pl':Pl} {a:Act} {w w':World} {r:DR} {H':ak} {u:Value}
  (h:Rel w0 fp0 ⟨X.1,X.2,nid,n,gh⟩ pl a w) (hx:r.app X=some X') (hup:∀i B,look r.c.upd i=some B->∃B',look X.2 i=some B')
  (hd:∀t,r.dst=some t->t+1<=n) (hg:∀(k i:Nat),gh[k]? =some (some i)->i<r.n0) (hn:r.n0+r.c.news.length<=nid) (ha:after X.2 r.n0 r.c=some H') (hs:aJ X.2 H' r.c.kil pl pl' w w') (hv:aa w' H' pl' r.c.v u):
  Rel w0 fp0 ⟨X'.1,X'.2,nid,n,gh⟩ pl' (a.put r.dst u) w':=by
 have jW:j0 X'.2 H':=by
  unfold DR.app at hx;unfold after at ha;rw[iB hup]at ha;simp only[An,AP]at hx ha;obtain⟨h1,e1,rfl⟩:=hx;obtain⟨h2,e2,rfl⟩:=ha;rw[e1]at e2;cases e2;exactλ_=>rfl
 have hfr:∀i,nid<=i->look H' i=none:=λi hi=>by
  rw[<-jW i]
  cases hq:look X'.2 i with
  |none=>rfl
  |some B=>
   rcases dV (p:=λ_=>true) [r] 0 X X' (by simp[replay,hx]) i B hq with⟨B',hB'⟩|⟨j',r2,g1,_,g3⟩
   ·have:=h.fresh i hi;rw[hB']at this;exact nomatch this
   ·cases j' with
    |zero=>simp at g1;subst g1;have:=g3.2;omega
    |succ j'=>simp at g1
 have hsl:bI w' H' pl' (dZ r.c.kil X.1) a:=h.sl.aY r.c.bC hs.kp
 have hsl2:bI w' H' pl' X'.1 (a.put r.dst u):=by
  rw[aU hx]
  cases wP:r.dst with
  |none=>exact hsl
  |some t=>
   have ht:=hd t wP;exact bI.put (n:=n) (dst:=some t) hsl h.sz (by simp only[xI,qe];rw[show Nat.ble (t+1) n=true from BN ht];rfl) hv
 exact Rel.congr (s:=X'.1) (H:=H') ⟨hs.hr,hsl2,by rw[Act.me];exact h.sz,by rw[Act.sW];exact h.df,hfr,h.gr.trans hs.gr,λp q hp hno=>by
  obtain⟨g1,g2,g3⟩:=h.fr p q hp hno;obtain⟨f1,f2,f3⟩:=hs.fr p q g2 g1
  exact⟨f1,f2,f3.trans g3⟩,h.gk.step hs.kp (Bh _) λk i B hki hB=>by
   have hi:=hg k i hki;rw[<-jW i]at hB;unfold DR.app at hx;simp only[An,AP]at hx;obtain⟨h1,e1,rfl⟩:=hx;rw[ag,ax,if_neg (by omega),Bq,aK r.c.bC e1 i]at hB;cases hm:mem i r.c.kil.1<;>simp only[hm,cond_true,cond_false]at hB
   ·obtain⟨B1,hB1,_⟩:=An.1 hB;exact⟨rfl,fU hB1⟩
   ·exact nomatch hB⟩ (λ_ _ h=>h) jW
theorem iE (acc:List Nat) (j:Nat):∀l:List Edge,(m9 acc l).testBit j=true↔∃e∈l,Region.binds .any e=true/\(j=e.on\/(acc.getD e.on 0).testBit j=true)
 |[]=>by simp[m9]
 |e::l=>by
  simp only[m9];cases hb:Region.binds .any e
  ·simp only[cond_false,iE acc j l,Bb,exists_eq_or_imp,hb,BF,false_and,false_or]
  ·simp only[cond_true,Nat.testBit_or,Nat.testBit_two_pow,BV,decide_eq_true_eq,iE acc j l,Bb,exists_eq_or_imp,hb,true_and];constructor
   ·rintro ((h|h)|h)
    ·exact .inl (.inr h)
    ·exact .inl (.inl h.symm)
    ·exact .inr h
   ·rintro ((h|h)|h)
    ·exact .inl (.inr h.symm)
    ·exact .inl (.inl h)
    ·exact .inr h
theorem cL {n:Nat}:∀{l:List Edge},ik n l=true->∀e∈l,Region.binds .any e=true->e.on<n
 |[],_,e,he,_=>by simp at he
 |x::l,h,e,he,hb=>by
  simp only[ik]at h;cases hx:Region.binds .any x<;>simp only[hx,cond_true,cond_false]at h
  ·rcases Bb.1 he with rfl|he
   ·rw[hx]at hb;exact nomatch hb
   ·exact cL h e he hb
  ·cases hn:Nat.ble (x.on+1) n<;>simp only[hn,cond_true,cond_false]at h
   ·exact nomatch h
   ·rcases Bb.1 he with rfl|he
    ·exact AZ hn
    ·exact cL h e he hb
structure pg (ops:List Oper) (ai:List Nat):Prop where
 back:∀(i:Nat) (o:Oper),ops[i]? =some o->∀e∈o.after.toList,Region.binds .any e=true->e.on<i
 spec:∀(i:Nat) (o:Oper),ops[i]? =some o->∀j,(ai.getD i 0).testBit j=true↔∃e∈o.after.toList,Region.binds .any e=true/\(j=e.on\/(ai.getD e.on 0).testBit j=true)
theorem iX:∀(l:List Oper) (acc ai:List Nat),jE acc l=some ai->(∃t,ai=acc++t)/\
  ∀(k:Nat) (o:Oper),l[k]? =some o->(∀e∈o.after.toList,Region.binds .any e=true->e.on<acc.length+k)/\
   ∀j,(ai.getD (acc.length+k) 0).testBit j=true↔∃e∈o.after.toList,Region.binds .any e=true/\(j=e.on\/(ai.getD e.on 0).testBit j=true)
 |[],acc,ai,h=>by cases h;exact⟨⟨[],by simp⟩,λk o ho=>by simp at ho⟩
 |x::l,acc,ai,h=>by
  simp only[jE]at h;cases he:ik acc.length x.after.toList<;>simp only[he,cond_true,cond_false]at h
  ·exact nomatch h
  ·obtain⟨⟨t,ht⟩,hl⟩:=iX l _ ai h;refine⟨⟨m9 acc x.after.toList::t,by rw[ht];simp⟩,λk o ho=>?_⟩
   cases k with
   |zero=>
    simp at ho;subst ho;refine⟨cL he,λj=>?_⟩
    have hm:ai.getD (acc.length+0) 0=m9 acc x.after.toList:=by rw[ht];simp[List.getD]
    rw[hm,iE];constructor
    ·rintro ⟨e,h1,h2,h3⟩
     have hlt:=cL he e h1 h2;refine⟨e,h1,h2,h3.imp id λh3=>?_⟩;rw[ht];simpa[List.getD,A1 hlt,A9]using h3
    ·rintro ⟨e,h1,h2,h3⟩
     have hlt:=cL he e h1 h2;refine⟨e,h1,h2,h3.imp id λh3=>?_⟩
     rw[ht]at h3;simpa[List.getD,A1 hlt,A9]using h3
   |succ k=>
    have:=hl k o (by simpa using ho);simp only[BR,List.length_cons,List.length_nil]at this;rwa [show acc.length+(0+1)+k=acc.length+(k+1)from by omega]at this
theorem uX {ops:List Oper} {ai:List Nat} (h:jE [] ops=some ai):pg ops ai:=by
 obtain⟨_,h2⟩:=iX ops [] ai h;exact⟨λi o ho=>by have:=(h2 i o ho).1;simpa using this,λi o ho=>by have:=(h2 i o ho).2;simpa using this⟩
theorem pg.closed {ops:List Oper} {ai:List Nat} (hm:pg ops ai) {p:Nat->Bool} (hp:∀(j:Nat) (o:Oper),ops[j]? =some o->p j=true->∀e∈o.after.toList,Region.binds .any e=true->p e.on=true):
  ∀(n i:Nat) (o:Oper),i<=n->ops[i]? =some o->(∀e∈o.after.toList,Region.binds .any e=true->p e.on=true)->∀j,(ai.getD i 0).testBit j=true->p j=true
 |n,i,o,hn,ho,he,j,hj=>by
  obtain⟨e,h1,h2,h3⟩:=(hm.spec i o ho j).1 hj
  rcases h3 with rfl|h3
  ·exact he e h1 h2
  ·have hlt:=hm.back i o ho e h1 h2
   have hol:e.on<ops.length:=by have:=(AQ.1 ho).1;omega
   cases n with
   |zero=>omega
   |succ n=>exact hm.closed hp n e.on _ (by omega) (AU hol) (λe' h1' h2'=>hp e.on _ (AU hol) (he e h1 h2) e' h1' h2') j h3
theorem pg.lt {ops:List Oper} {ai:List Nat} (hm:pg ops ai) {i j:Nat} {o:Oper} (ho:ops[i]? =some o) (hj:(ai.getD i 0).testBit j=true):j<i:=
 of_decide_eq_true (hm.closed (p:=λj=>decide (j<i)) (λk o' ho' hk e h1 h2=>decide_eq_true (by have:=hm.back k o' ho' e h1 h2;have:=of_decide_eq_true hk;omega)) i i o (Bh _) ho
  (λe h1 h2=>decide_eq_true (hm.back i o ho e h1 h2)) j hj)
end
section
variable [Tok] [Glo]
def tx (h H:ak):Prop:=∀i B,look h i=some B->∃B',look H i=some B'/\B.ec B'
def wQ (P:Program) (o:Oper) (n:Nat) (c:CR) (s:List (Nat× SV)) (h:ak):Prop:=
 ∀(s':List (Nat× SV)) (H:ak) (a:Act) (w:World) (pl:Pl),Ext s s'->tx h H->aR H pl w->bI w H pl s' a->(∀k,k<c.news.length->look H (n+k)=none)->cH P o a w H pl n c
theorem kR {P:Program} {T:TypeId} {h H:ak} (e:tx h H) {x:SV} {k:Int} {v:SV} (hv:az P T h x k=some v):az P T H x k=some v:=by
 have sz:∀{t t':Ty},t.sz=t'.sz->slT P T t=slT P T t':=λ{t t'} e=>by unfold slT;rw[e]
 cases x with
 |own i=>
  simp only[az]at hv⊢
  cases hl:look h i with
  |none=>rw[hl]at hv;exact nomatch hv
  |some B=>
   rw[hl]at hv;obtain⟨B',h1,h2⟩:=e i B hl
   cases B with
   |box cs=>exact nomatch hv
   |arr sh t xs=>
    cases B' with
    |box cs=>exact h2.elim
    |arr sh' t' ys=>
     rw[h1];simp only at hv⊢
     rwa [<-sz h2.1,<-h2.2]
 |sub i o n=>
  simp only[az]at hv⊢
  cases hl:look h i with
  |none=>rw[hl]at hv;exact nomatch hv
  |some B=>
   rw[hl]at hv;obtain⟨B',h1,h2⟩:=e i B hl
   cases B with
   |box cs=>exact nomatch hv
   |arr sh t xs=>
    cases B' with
    |box cs=>exact h2.elim
    |arr sh' t' ys=>
     rw[h1];simp only at hv⊢
     rwa [<-sz h2.1]
 |r d x=>cases x<;>exact hv
 |_=>exact hv
def dz (ai:List Nat) (i:Nat) (o:Oper) (rs:List DR) (t:Bool):Prop:=
 match o.guard with
 |none=>t=true
 |some (g,want)=>(ai.getD i 0).testBit g=true/\∃r d,rs[g]? =some r/\r.dst=some d/\((∃b,r.c.v=.r [] (.bool b)/\t=(b==want))\/(r.c.v=.tup []/\t=false))
def yD (E:Env) (ops:List Oper) (ai dsts:List Nat) (s0:List (Nat× SV)) (h0:ak) (rs:List DR) (i:Nat) (o:Oper) (r:DR):Prop:=
 r.dst=o.dst/\okW E o.op r.c=true/\∃x t,replay (Nat.testBit (ai.getD i 0)) 0 (rs.take i) (dO (uF ai i 0 ops) s0 (bg o.op.operands.toList),h0)=some x/\dz ai i o rs t/\
  ((t=true/\r=wA E ai i ops h0 x o r.n0 r.c/\(sI E h0 x o=false->ns E.P o r.n0 r.c (dO [] x.1 (bg o.op.operands.toList)) (q0 E ai i ops x o))/\(sI E h0 x o=true->wQ E.P o r.n0 r.c (dO [] x.1 (bg o.op.operands.toList)) (iW h0 (na x o))))\/(t=false/\r.c={v:=.tup []}/\r.len=false))
theorem wR {E:Env} {ρ:Type} {o:Oper} {s:List (Nat× SV)} {h0:ak} {n:Nat} {K:CR->Option ρ} {out:ρ} (hl:xS o.op=true) (h:lU E s h0 n o.op K=some out):∃c,K c=some out/\wQ E.P o n c s h0:=by
 cases ho:o.op with
 |indexAddr T x k=>
  rw[ho]at h;have h:ea E.P s h0 (.indexAddr T x k) (λv=>K {v:=v})=some out:=h;rw[eb]at h;obtain⟨v,hv,h⟩:=An.1 h;refine⟨_,h,λs' H a w pl es eh hr hs hn=>?_⟩
  have hv':bM E.P s' H (.indexAddr T x k)=some v:=by
   simp only[bM,An]at hv⊢;obtain⟨x',hx,k',hk,n',hn',hv⟩:=hv;exact⟨x',aL es _ _ hx,k',aL es _ _ hk,n',hn',kR eh hv⟩
  obtain⟨u,hu,hvr⟩:=cU hr hs hv' o ho
  exact dR hr hu hvr
 |_=>rw[ho]at hl;exact nomatch hl
structure nx (E:Env) (ops:List Oper) (ai dsts:List Nat) (s0:List (Nat× SV)) (h0:ak) (nid0:Nat) (rs:List DR) (m nid:Nat):Prop where
 len:rs.length=m
 zJ:∀(i:Nat) (o:Oper) (r:DR),ops[i]? =some o->rs[i]? =some r->yD E ops ai dsts s0 h0 rs i o r
 lo:∀(i:Nat) (r:DR),rs[i]? =some r->nid0<=r.n0/\r.n0+r.c.news.length<=nid
 ord:∀(i j:Nat) (a b:DR),i<j->rs[i]? =some a->rs[j]? =some b->a.n0+a.c.news.length<=b.n0
theorem dz.more {ai:List Nat} {i:Nat} {o:Oper} {rs:List DR} {t:Bool} (h:dz ai i o rs t) (r:DR):dz ai i o (rs++[r]) t:=by
 unfold dz at*;split at h
 ·exact h
 ·obtain⟨h1,r',d,h2,h3,h4⟩:=h;exact⟨h1,r',d,by rw[A1 (AQ.1 h2).1];exact h2,h3,h4⟩
section
variable {ρ:Type} {E:Env} {ops:List Oper} {ai dsts:List Nat} {s0:List (Nat× SV)} {h0:ak} {nid0:Nat}
theorem nx.push {rs:List DR} {m nid:Nat} (F:nx E ops ai dsts s0 h0 nid0 rs m nid) (h0n:nid0<=nid) {o:Oper} {r:DR} (ho:ops[m]? =some o) (hr:yD E ops ai dsts s0 h0 (rs++[r]) m o r) (hn:r.n0=nid):
  nx E ops ai dsts s0 h0 nid0 (rs++[r]) (m+1) (nid+r.c.news.length):=by
 have ji:∀(i:Nat) (b:DR),(rs++[r])[i]? =some b->(i<m/\rs[i]? =some b)\/(i=m/\b=r):=λi b hb=>by
  by_cases c:i<m
  ·rw[A1 (by rw[F.len];exact c)]at hb;exact .inl ⟨c,hb⟩
  ·rw[AX (by rw[F.len];omega),F.len]at hb
   have hi:i-m<1:=by have:=(AQ.1 hb).1;simpa using this
   have:i-m=0:=by omega
   rw[this]at hb;simp at hb;exact .inr ⟨by omega,hb.symm⟩
 refine⟨by simp[F.len],λi o' b ho' hb=>?_,λi b hb=>?_,λi j a b hij ha hb=>?_⟩
 ·rcases ji i b hb with⟨hi,h⟩|⟨rfl,rfl⟩
  ·obtain⟨g1,g2,x,t,g3,g4,g5⟩:=F.zJ i o' b ho' h;exact⟨g1,g2,x,t,by rw[List.take_append_of_le_length (by rw[F.len];omega)];exact g3,g4.more r,g5⟩
  ·rw[ho]at ho';cases ho';exact hr
 ·rcases ji i b hb with⟨hi,h⟩|⟨rfl,rfl⟩
  ·have:=F.lo i b h;exact⟨this.1,by omega⟩
  ·exact⟨by omega,by omega⟩
 ·rcases ji j b hb with⟨hj,h⟩|⟨rfl,rfl⟩
  ·rcases ji i a ha with⟨hi,h'⟩|⟨rfl,rfl⟩
   ·exact F.ord i j a b hij h' h
   ·omega
  ·rcases ji i a ha with⟨hi,h'⟩|⟨rfl,rfl⟩
   ·have:=F.lo i a h';omega
   ·omega
theorem ph:∀{rs:List DR} {g:Nat} {r:DR} {v:SV},rs[g]? =some r->r.c.v=v->wz rs g v=rs
 |[],_,_,_,h,_=>by simp at h
 |x::l,0,r,v,h,hv=>by simp at h;subst h;subst hv;rfl
 |x::l,g+1,r,v,h,hv=>by simp only[wz];rw[ph (rs:=l) (by simpa using h) hv]
theorem e9 (hE:fN E) {out:ρ}:∀(rest:List Oper) (i nid:Nat) (rs:List DR) (K:List DR->Nat->Option ρ),eJ E ops ai dsts s0 h0 i rest nid rs K=some out->
  nx E ops ai dsts s0 h0 nid0 rs i nid->nid0<=nid->ops.drop i=rest->∃rs' kJ,K rs' kJ=some out/\nid0<=kJ/\nx E ops ai dsts s0 h0 nid0 rs' (i+rest.length) kJ
 |[],i,nid,rs,K,h,F,hn,_=>⟨rs,nid,h,hn,F⟩
 |o::rest,i,nid,rs,K,h,F,hn,hd=>by
  have ho:ops[i]? =some o:=by rw[<-List.head?_drop,hd];rfl
  have hd':ops.drop (i+1)=rest:=by rw[<-List.drop_drop,hd];rfl
  have yE:∀r,(rs++[r]).take i=rs:=λr=>by rw[List.take_append_of_le_length (by rw[F.len];omega),<-F.len,List.take_length]
  simp only[eJ,An]at h;obtain⟨x,hx,h⟩:=h
  have exec:∀t,(∀r,dz ai i o (rs++[r]) t)->t=true->(lU E (dO [] x.1 (bg o.op.operands.toList)) (sJ E ai i ops h0 x o) nid o.op λc=>cond (okW E o.op c) (eJ E ops ai dsts s0 h0 (i+1) rest (nid+c.news.length) (rs++[wA E ai i ops h0 x o nid c]) K) none)=some out->
    ∃rs' kJ,K rs' kJ=some out/\nid0<=kJ/\nx E ops ai dsts s0 h0 nid0 rs' (i+(o::rest).length) kJ:=λt hw ht h=>by
   obtain⟨c,hc,hg⟩:∃c,(cond (okW E o.op c) (eJ E ops ai dsts s0 h0 (i+1) rest (nid+c.news.length) (rs++[wA E ai i ops h0 x o nid c]) K) none)=some out/\
     (sI E h0 x o=false->ns E.P o nid c (dO [] x.1 (bg o.op.operands.toList)) (q0 E ai i ops x o))/\(sI E h0 x o=true->wQ E.P o nid c (dO [] x.1 (bg o.op.operands.toList)) (iW h0 (na x o))):=by
    unfold sJ at h;cases hL:sI E h0 x o<;>simp only[hL,cond_true,cond_false]at h
    ·obtain⟨c,hc,hg⟩:=nt hE h;exact⟨c,hc,λ_=>hg,(λe=>nomatch e)⟩
    ·have hL':=hL;unfold sI at hL';simp only[AW]at hL';obtain⟨c,hc,hg⟩:=wR hL'.2.1 h;exact⟨c,hc,(λe=>nomatch e),λ_=>hg⟩
   cases hok:okW E o.op c<;>simp only[hok,cond_true,cond_false]at hc
   ·exact nomatch hc
   ·have F':=F.push hn (r:=wA E ai i ops h0 x o nid c) ho ⟨rfl,hok,x,t,by rw[yE];exact hx,hw _,.inl ⟨ht,rfl,hg.1,hg.2⟩⟩ rfl;have:=e9 hE rest (i+1) _ _ K hc F' (by omega) hd';rwa [show i+1+rest.length=i+(o::rest).length from by simp;omega]at this
  have skip:∀t,(∀r,dz ai i o (rs++[r]) t)->t=false->eJ E ops ai dsts s0 h0 (i+1) rest nid (rs++[⟨o.dst,nid,{v:=.tup []},[],[],false⟩]) K=some out->
    ∃rs' kJ,K rs' kJ=some out/\nid0<=kJ/\nx E ops ai dsts s0 h0 nid0 rs' (i+(o::rest).length) kJ:=λt hw ht h=>by
   have F':=F.push hn (r:=⟨o.dst,nid,{v:=.tup []},[],[],false⟩) ho ⟨rfl,by simp only[okW,isNil,CR.kil,List.nil_append];cases dw E o.op<;>rfl,x,t,by rw[yE];exact hx,hw _,.inr ⟨ht,rfl,rfl⟩⟩ rfl;have:=e9 hE rest (i+1) _ _ K h F' (by simpa using hn) hd';rwa [show i+1+rest.length=i+(o::rest).length from by simp;omega]at this
  split at h
  ·rename_i hg;exact exec true (λr=>by unfold dz;rw[hg]) rfl h
  ·rename_i g want hg;cases hb:(ai.getD i 0).testBit g<;>simp only[hb,cond_true,cond_false]at h
   ·exact nomatch h
   ·simp only[An]at h;obtain⟨r,hr,d,wP,h⟩:=h;split at h
    ·rename_i hv
     exact skip false (λr'=>dz.more (by
      unfold dz;rw[hg];exact⟨hb,r,d,hr,wP,.inr ⟨hv,rfl⟩⟩) r') rfl h
    ·rename_i b hv
     have hw:∀r',dz ai i o (rs++[r']) (b==want):=λr'=>dz.more (by
      unfold dz;rw[hg];exact⟨hb,r,d,hr,wP,.inl ⟨b,hv,rfl⟩⟩) r'
     cases b<;>simp only[cond_true,cond_false]at h
     ·rw[ph hr hv]at h;cases want<;>simp only[cond_true,cond_false]at h
      ·exact exec _ hw rfl h
      ·exact skip _ hw rfl h
     ·rw[ph hr hv]at h;cases want<;>simp only[cond_true,cond_false]at h
      ·exact skip _ hw rfl h
      ·exact exec _ hw rfl h
    ·exact nomatch h
end
theorem j5 {cm:DR->Bool} {ai:List Nat} {i:Nat} {r:DR}:∀{l:List DR} {k:Nat},jG cm ai i r k l=true->∀(j:Nat) (b:DR),l[j]? =some b->(ai.getD (k+j) 0).testBit i=true\/fL cm r b=true
 |[],_,_,j,b,hb=>by simp at hb
 |x::l,k,h,j,b,hb=>by
  simp only[jG]at h
  have hl:jG cm ai i r (k+1) l=true/\((ai.getD k 0).testBit i=true\/fL cm r x=true):=by
   cases h1:(ai.getD k 0).testBit i<;>simp only[h1,cond_true,cond_false]at h
   ·cases h2:fL cm r x<;>simp only[h2,cond_true,cond_false]at h
    ·exact nomatch h
    ·exact⟨h,.inr rfl⟩
   ·exact⟨h,.inl rfl⟩
  cases j with
  |zero=>simp at hb;subst hb;exact hl.2
  |succ j=>have:=j5 hl.1 j b (by simpa using hb);rwa [show k+1+j=k+(j+1)from by omega]at this
theorem gq {cm:DR->Bool} {ai:List Nat}:∀{l:List DR} {k:Nat},kZ cm ai k l=true->∀(i j:Nat) (a b:DR),i<j->l[i]? =some a->l[j]? =some b->(ai.getD (k+j) 0).testBit (k+i)=true\/fL cm a b=true
 |[],_,_,i,j,a,b,_,ha,_=>by simp at ha
 |x::l,k,h,i,j,a,b,hij,ha,hb=>by
  simp only[kZ]at h;cases h1:jG cm ai k x (k+1) l<;>simp only[h1,cond_true,cond_false]at h
  ·exact nomatch h
  ·obtain⟨j,rfl⟩:∃j',j=j'+1:=⟨j-1,by omega⟩
   cases i with
   |zero=>
    simp at ha;subst ha;have:=j5 h1 j b (by simpa using hb)
    rwa [show k+1+j=k+(j+1)from by omega]at this
   |succ i=>
    have:=gq h i j a b (by omega) (by simpa using ha) (by simpa using hb);rwa [show k+1+j=k+(j+1)from by omega,show k+1+i=k+(i+1)from by omega]at this
theorem Ax {i:Nat} {l:List Nat}:mem i l=true↔i∈l:=by
 induction l with
 |nil=>simp[mem]
 |cons k l ih=>
  simp only[mem,Bb];cases h:Nat.beq k i
  ·have:¬i=k:=λe=>by subst e;simp at h
   simp[ih,this]
  ·have:=AR h;simp[this]
theorem lu {n:Nat}:∀{l:List Nat},qZ n l=true->∀i∈l,i+1<=n
 |[],_,i,hi=>by simp at hi
 |x::l,h,i,hi=>by
  simp only[qZ]at h;cases hm:Nat.ble (x+1) n<;>simp only[hm,cond_true,cond_false]at h
  ·exact nomatch h
  ·rcases Bb.1 hi with rfl|hi
   ·exact AZ hm
   ·exact lu h i hi
theorem fy:∀{ops:List Oper} {j:Nat} {o:Oper} {t:Nat},ops[j]? =some o->o.dst=some t->t∈cn ops
 |[],j,o,t,h,_=>by simp at h
 |x::l,0,o,t,h,hd=>by simp at h;subst h;simp[cn,hd]
 |x::l,j+1,o,t,h,hd=>by
  have:=fy (ops:=l) (by simpa using h) hd;simp only[cn];split<;>simp[this]
theorem lx:∀{ops:List Oper},(cn ops).Nodup->∀{i j:Nat} {a b:Oper} {t:Nat},i≠j->ops[i]? =some a->ops[j]? =some b->a.dst=some t->b.dst≠some t
 |[],_,i,j,a,b,t,_,h,_,_=>by simp at h
 |x::l,hn,i,j,a,b,t,hij,ha,hb,h1=>by
  have hl:(cn l).Nodup:=by
   simp only[cn]at hn;split at hn
   ·exact(BJ.1 hn).2
   ·exact hn
  have hx:∀t,x.dst=some t->t∉cn l:=λt ht=>by
   simp only[cn,ht]at hn;exact(BJ.1 hn).1
  intro h2
  cases i with
  |zero=>
   simp at ha;subst ha
   cases j with
   |zero=>exact hij rfl
   |succ j=>exact hx t h1 (fy (by simpa using hb) h2)
  |succ i=>
   cases j with
   |zero=>simp at hb;subst hb;exact hx t h2 (fy (by simpa using ha) h1)
   |succ j=>exact lx (i:=i) (j:=j) hl (by omega) (by simpa using ha) (by simpa using hb) h1 h2
theorem mB {ai:List Nat} {i:Nat}:∀{ops:List Oper} {k j:Nat} {o:Oper} {t:Nat},ops[j]? =some o->o.dst=some t->(ai.getD (k+j) 0).testBit i=false->t∈uF ai i k ops
 |[],k,j,o,t,h,_,_=>by simp at h
 |x::l,k,0,o,t,h,hd,hb=>by simp at h;subst h;simp only[Bc]at hb;simp only[uF,hb,cond_false,hd];exact Bp ..
 |x::l,k,j+1,o,t,h,hd,hb=>by
  have:=mB (ops:=l) (k:=k+1) (by simpa using h) hd (by rw[show k+1+j=k+(j+1)from by omega];exact hb);simp only[uF];cases(ai.getD k 0).testBit i<;>simp only[cond_true,cond_false]
  ·split<;>simp[this]
  ·exact this
theorem rI {T:List Nat} {s:List (Nat× SV)} {l:List Nat} {t:Nat} {v:SV} (h:look (dO T s l) t=some v):v∈lW s l:=by
 induction l with
 |nil=>exact nomatch h
 |cons k l ih=>
  simp only[dO]at h;simp only[lW];cases hm:mem k T<;>simp only[hm,cond_true,cond_false]at h
  ·cases hl:look s k with
   |none=>rw[hl]at h;exact ih h
   |some u=>
    rw[hl]at h;simp only[ae]at h;by_cases c:k=t
    ·rw[if_pos c]at h;cases h;exact Bp
    ·rw[if_neg c]at h;exact BH _ (ih h)
  ·cases hl:look s k with
   |none=>exact ih h
   |some u=>exact BH _ (ih h)
theorem ly {k:Nat} {B:Blk}:∀{l:List DR},sH k B l=true->∀r∈l,look r.c.upd k=none/\mem k r.c.kil.1=false/\B.si r.c.kil=true
 |[],_,_,h=>nomatch h
 |r::l,h,r',hr=>by
  simp only[sH]at h;cases hc:((look r.c.upd k).isNone&&(!mem k r.c.kil.1&&B.si r.c.kil))<;>rw[hc]at h<;>simp only[cond_true,cond_false]at h
  ·exact nomatch h
  ·rw[AW,AW,Option.isNone_iff_eq_none,Bool.not_eq_true']at hc
   rcases Bb.1 hr with rfl|hr
   ·exact hc
   ·exact ly h r' hr
theorem ny {h:ak} {rs:List DR} {k:Nat}:∀{L:List Nat},zb h rs L=true->mem k L=true->∃B,look h k=some B/\∀r∈rs,look r.c.upd k=none/\mem k r.c.kil.1=false/\B.si r.c.kil=true
 |[],_,hm=>nomatch hm
 |i::l,hc,hm=>by
  simp only[zb]at hc;split at hc
  ·rename_i B hB;cases h1:sH i B rs<;>rw[h1]at hc<;>simp only[cond_true,cond_false]at hc
   ·exact nomatch hc
   ·simp only[mem]at hm;cases hb:Nat.beq i k<;>rw[hb]at hm<;>simp only[cond_true,cond_false]at hm
    ·exact ny hc hm
    ·have:=AR hb;subst this;exact⟨B,hB,ly h1⟩
  ·exact nomatch hc
theorem iY:∀{L T:List Nat},jH L T=true->∀k,mem k L=true->mem k T=false
 |[],_,_,k,hk=>nomatch hk
 |i::l,T,h,k,hk=>by
  simp only[jH]at h;cases hm:mem i T<;>rw[hm]at h
  ·simp only[mem]at hk;cases hb:Nat.beq i k<;>rw[hb]at hk
   ·exact iY h k hk
   ·rw[<-AR hb];exact hm
  ·exact nomatch h
theorem iZ {L:List Nat}:∀{rs:List DR},lX L rs=true->∀k,mem k L=true->∀r∈rs,mem k r.c.kil.1=false
 |[],_,_,_,_,hr=>nomatch hr
 |r::l,h,k,hk,r',hr=>by
  simp only[lX]at h;cases hn:jH L r.c.kil.1<;>rw[hn]at h
  ·exact nomatch h
  ·rcases Bb.1 hr with rfl|hr
   ·exact iY hn k hk
   ·exact iZ h k hk r' hr
theorem j6 {cm:DR->Bool}:∀{rs:List DR},k5 cm rs=true->∀r∈rs,r.len=true->bA cm r=true
 |[],_,_,hr,_=>nomatch hr
 |r::l,h,r',hr,hl=>by
  simp only[k5]at h;cases hn:(!r.len||bA cm r)<;>rw[hn]at h
  ·exact nomatch h
  ·rcases Bb.1 hr with rfl|hr
   ·rw[hl]at hn;exact hn
   ·exact j6 h r' hr hl
theorem uY {T:Kil} {B:Blk} (h:B.si T=true):B.al T=some B:=by
 cases B with
 |box cs=>simp only[Blk.al,cz cs h]
 |arr sh t xs=>
  cases sh with
  |none=>rfl
  |some d=>simp only[Blk.al,not_false h,cond_false]
theorem dA {p:Nat->Bool} {k:Nat} {B:Blk}:∀(l:List DR) (j:Nat) (x X:SH),(∀r∈l,look r.c.upd k=none/\mem k r.c.kil.1=false/\B.si r.c.kil=true)->look x.2 k=some B->replay p j l x=some X->look X.2 k=some B
 |[],_,x,X,_,hx,h=>by cases h;exact hx
 |r::l,j,x,X,hl,hx,h=>by
  simp only[replay]at h;have hl':=λr' hr=>hl r' (BH _ hr);cases hp:p j<;>rw[hp]at h<;>simp only[cond_true,cond_false]at h
  ·exact dA l (j+1) x X hl' hx h
  ·rw[An]at h;obtain⟨y,hy,h⟩:=h;obtain⟨h1,hm,h2⟩:=hl r Bp;refine dA l (j+1) y X hl' ?_ h;rw[jr hy,hm,cond_false,e6 _ _ h1,hx,A5,uY h2];rfl
theorem c9 {T:List Nat} {s:List (Nat× SV)} {l:List Nat} {t:Nat} {v:SV} (h:look (dO T s l) t=some v):t∉T/\look s t=some v:=by
 induction l with
 |nil=>exact nomatch h
 |cons k l ih=>
  simp only[dO]at h;cases hm:mem k T<;>simp only[hm,cond_true,cond_false]at h
  ·cases hl:look s k with
   |none=>rw[hl]at h;exact ih h
   |some u=>
    rw[hl]at h;rw[ae]at h;by_cases e:k=t
    ·subst e;rw[if_pos rfl]at h;cases h;exact⟨λh=>by rw[Ax.2 h]at hm;exact(nomatch hm),hl⟩
    ·rw[if_neg e]at h;exact ih h
  ·exact ih h
theorem j7 {E:Env} {ai:List Nat} {i:Nat}:∀{l:List Oper} {k:Nat},iV E ai i k l=false->∀(j:Nat) (o:Oper),l[j]? =some o->dw E o.op=true->xP ai i (k+j)=true
 |[],_,_,j,o,h,_=>by simp at h
 |x::l,k,h,j,o,ho,hw=>by
  simp only[iV]at h
  have hl:iV E ai i (k+1) l=false/\(dw E x.op=true->xP ai i k=true):=by
   cases h1:dw E x.op<;>simp only[h1,cond_true,cond_false]at h
   ·exact⟨h,λh=>nomatch h⟩
   ·cases h2:xP ai i k<;>simp only[h2,cond_true,cond_false]at h
    ·exact nomatch h
    ·exact⟨h,λ_=>rfl⟩
  cases j with
  |zero=>simp at ho;subst ho;exact hl.2 hw
  |succ j=>have:=j7 hl.1 j o (by simpa using ho) hw;rwa [show k+1+j=k+(j+1)from by omega]at this
end
end Go.Proofs.Ev
