/- The evaluator over the model's code, and that it is sound: part 4. -/
import Derived.Test.YtpiopmjbcadfbaaGreatEvK3
import Derived.Lib.SliceRun
import Derived.Laws.Cover3
import Derived.Orders
set_option linter.unusedVariables false
set_option linter.unusedSimpArgs false
set_option linter.unusedSectionVars false
namespace Go.Proofs.Ev
section
variable [Tok]
section
variable {w:World} {H:aK} {pl:Pl} {P:Program}
theorem qf {t:Ty} {ys:List t.El} {zs:List t.El} {q n i j:Nat} {r:R} (hn:q+n<=ys.length) (hz:zs.length=n) (h:ax t (ys.take q++zs++ys.drop (q+n)) i j r):
  (q<=i/\i<q+n/\ax t zs (i-q) j r)\/(¬(q<=i/\i<q+n)/\ax t ys i j r):=by
 obtain⟨x,hx,hr⟩:=h
 have hl:(ys.take q).length=q:=by rw[RC];omega
 by_cases c:q<=i/\i<q+n
 ·rw[Rj,QZ (by omega),hl,Q0 (by omega)]at hx;exact .inl ⟨c.1,c.2,x,hx,hr⟩
 ·refine .inr ⟨c,x,?_,hr⟩;by_cases c1:i<q
  ·rw[Rj,Q0 (by omega),Ry,if_pos c1]at hx;exact hx
  ·rw[QZ (by simp[hz];omega),Rc]at hx;rw[<-hx];congr 1;simp[hz];omega
theorem Ki {t:Ty} {d:List Nat} {ys:List t.El} {i q num:Nat} {H':aK} {zs:List t.El} {us:List Value} {b m n cap:Nat}
  (hr:cN H pl w) (hl:look H i=some (.arr (some d) t ys)) (hzl:zs.length=num) (hh:pl.hdr i=.slice (some ⟨b,m,none⟩) n cap) (hq:q+num<=ys.length) (hus:us.length=num*t.sz) (hone:∀u∈us,one u=true)
  (hin:∀x j r,ax t zs x j r->∃u,us[x*t.sz+j]? =some u/\jb w (okd H pl d) r u) (hpos0:0<ys.length)
  (hit':hit [i] d=false) (ht:mX H H' ([],[i]) i (.arr (some d) t (ys.take q++zs++ys.drop (q+num)))):
  ∃w',(storeCells ⟨b,m+q*t.sz,none⟩ us).run P w=.ok () w'/\∃fp',cY H H' ([],[i]) pl (pl.set i (pl.hdr i) fp') w w':=by
 obtain⟨⟨a,cap',b',o,vs,fs,hhd,il,ha,ki,hc,hrr,hd1,hd2,hfp⟩⟩:=(hr.blk i _ hl).Od;rw[hh]at hhd;cases hhd;have hsp:=t.gq
 have hab:b=b'/\m=o:=by
  rcases ha with h|h
  ·omega
  ·cases h;exact⟨rfl,rfl⟩
 obtain⟨rfl,rfl⟩:=hab
 have hpos:q*t.sz+us.length<=cap*t.sz:=by
  have:(q+num)*t.sz<=cap*t.sz:=Rg _ (by omega);rw[Rp]at this;omega
 have hcell:∀j,j<us.length->∃u,w.at? (b,m+q*t.sz+j)=some u/\calm (w.eC (b,m+q*t.sz+j))=true:=λj hj=>by
  obtain⟨⟨u,q1⟩,q2⟩:=ki (q*t.sz+j) (by omega);rw[show m+q*t.sz+j=m+(q*t.sz+j)from by omega];exact⟨u,q1,qb q2⟩
 have hst:=run_storeCells_cells (P:=P) b (m+q*t.sz) us 0 w (λj hj=>by
   obtain⟨u,q1,_⟩:=hcell j hj;simp only[Rw];have q1:w.cell? ⟨b,m+q*t.sz+j,none⟩=some u:=q1
   rw[q1];rfl) (λj hj=>by
   obtain⟨u,q1,q2⟩:=hcell j hj
   simp only[Rw];exact lh q1 q2) (λu hu=>nN (hone u hu))
 simp only[Rw]at hst
 have hcellin:∀j,j<us.length->(w.setCells b (m+q*t.sz) us).at? (b,m+q*t.sz+j)=us[j]? :=λj hj=>by
  have:=World.cell?_setCells_in b us (m+q*t.sz) w (λj hj=>by
   obtain⟨u,q1,_⟩:=hcell j hj;have q1:w.cell? ⟨b,m+q*t.sz+j,none⟩=some u:=q1
   rw[q1];rfl) j hj
  rw[On hj];simpa[World.at?]using this
 have hcellout:∀p u,w.at? p=some u->¬(p.1=b/\m+q*t.sz<=p.2/\p.2<m+q*t.sz+us.length)->(w.setCells b (m+q*t.sz) us).at? p=some u:=λp u hp hno=>by
  unfold World.at? at*;rw[World.cell?_setCells_out b _ _ w _ (λe1 _=>by simp at e1;simp;omega)];exact hp
 have hice:∀p,(w.setCells b (m+q*t.sz) us).eC p=w.eC p:=λp=>fW _ _ _ _ _;have hregin:∀p,reg b m (cap*t.sz) p->pl.fp i p:=λp hp=>(hfp p).2 (.inl hp);have hfsin:∀i' j r p,ax t ys i' j r->fs i' j p->pl.fp i p:=λi' j r p hx hf=>(hfp p).2 (.inr ⟨i',j,r,hx,hf⟩)
 have hmi:mem i [i]=true:=by simp[mem]
 have hylen:(ys.take q++zs++ys.drop (q+num)).length=ys.length:=by simp[hzl];omega
 refine⟨_,hst,λp=>reg b m (cap*t.sz) p\/∃i' j r,ax t ys i' j r/\¬(q<=i'/\i'<q+num)/\fs i' j p,?_⟩;refine jD (dN.setCells _ _ _ _) hr ht (λx hx=>nomatch hx) (λx hx=>?_) (.inr ⟨_,hl,hmi,by simp only[Blk.lR];exact⟨trivial,hylen.symm⟩,rfl⟩) (λp u hp hno=>⟨hcellout p u hp λhin=>?_,hice p⟩) (λp hp=>?_) (λp hp=>?_) λhkp=>?_
 ·refine .inr ?_;simp only[mem]at hx;cases hb:Nat.beq i x
  ·rw[hb]at hx;exact nomatch hx
  ·exact(QW hb).symm
 ·exact hno i _ hmi hl (hregin p ⟨hin.1,by omega,by omega⟩)
 ·refine hr.nb p ?_
  cases hq':w.at? p with
  |none=>rfl
  |some u=>
   by_cases hin:p.1=b/\m+q*t.sz<=p.2/\p.2<m+q*t.sz+us.length
   ·obtain⟨p1,p2⟩:=p;obtain⟨e1,e2,e3⟩:=hin;simp only at e1 e2 e3;subst e1;have:=hcellin (p2-(m+q*t.sz)) (by omega);rw[show m+q*t.sz+(p2-(m+q*t.sz))=p2 from by omega,hp,On (by omega)]at this;exact nomatch this
   ·rw[hcellout p u hq' hin]at hp;exact nomatch hp
 ·rcases hp with hp|⟨i',j,r,hx,_,hf⟩
  ·exact .inr ⟨i,_,hmi,hl,hregin p hp⟩
  ·exact .inr ⟨i,_,hmi,hl,hfsin i' j r p hx hf⟩
 ·have vN:∀{i' j},j<t.sz->¬(q<=i'/\i'<q+num)->¬(m+q*t.sz<=m+(i'*t.sz+j)/\m+(i'*t.sz+j)<m+q*t.sz+us.length):=λ{i' j} hj hne ⟨g1,g2⟩=>by
   rcases Nat.lt_or_ge i' q with h|h
   ·have:(i'+1)*t.sz<=q*t.sz:=Rg _ h;rw[Sd]at this;omega
   ·have h2:q+num<=i':=by omega
    have:(q+num)*t.sz<=i'*t.sz:=Rg _ h2;rw[Rp]at this;omega
  refine dX.mF ⟨some ⟨b,m,none⟩,cap,b,m,λi' j=>if q<=i'/\i'<q+num then(us[(i'-q)*t.sz+j]?).getD undef else vs i' j,λi' j p=>¬(q<=i'/\i'<q+num)/\fs i' j p,by rw[hylen];simp[Pl.set,hh],by rw[hylen];exact il,.inr rfl,λj hj=>⟨?_,by rw[hice];exact(ki j hj).2⟩,λi' j r hx=>?_,λi' j r hx=>?_,λi' j r p hx hf=>?_,λi' j r i2 j2 r2 p hx hx' hf hf'=>?_,λp=>?_⟩
  ·by_cases hin:q*t.sz<=j/\j<q*t.sz+us.length
   ·have:=hcellin (j-q*t.sz) (by omega);rw[show m+q*t.sz+(j-q*t.sz)=m+j from by omega]at this;exact⟨_,this.trans (On (by omega))⟩
   ·obtain⟨u,hu⟩:=(ki j hj).1;exact⟨u,hcellout _ u hu λh=>hin ⟨by have:=h.2.1;simp at this;omega,by have:=h.2.2;simp at this;omega⟩⟩
  ·rcases qf hq hzl hx with⟨g1,g2,g3⟩|⟨g1,g2⟩
   ·rw[if_pos ⟨g1,g2⟩];obtain⟨u,hu,_⟩:=hin _ _ _ g3;have hlt:=(Of.1 hu).1;have:=hcellin _ hlt
    have e:m+q*t.sz+((i'-q)*t.sz+j)=m+(i'*t.sz+j):=by
     have:i'*t.sz=q*t.sz+(i'-q)*t.sz:=by rw[<-Rp];congr 1;omega
     omega
    rw[e]at this;rw[this,hu];rfl
   ·rw[if_neg g1];exact hcellout _ _ (hc _ _ _ g2) λh=>vN (aN g2).2 g1 ⟨h.2.1,h.2.2⟩
  ·rcases qf hq hzl hx with⟨g1,g2,g3⟩|⟨g1,g2⟩
   ·rw[if_pos ⟨g1,g2⟩];obtain⟨u,hu,hI⟩:=hin _ _ _ g3;rw[hu,Sm];have hno:∀p,¬(¬(q<=i'/\i'<q+num)/\fs i' j p):=λp hf=>hf.1 ⟨g1,g2⟩;rw[hh];exact⟨hI.frame λp u hp hu=>(hh▸hkp).k2 d p u (λx hx=>fy _ d hit' x hx) hp hu,hno⟩
   ·simp only[if_neg g1];have hI:=hrr _ _ _ g2;rw[hh];exact⟨hI.1.frame λp u hp hu=>(hh▸hkp).k2 d p u (λx hx=>fy _ d hit' x hx) hp hu,λp hf=>hI.2 p hf.2⟩
  ·rcases qf hq hzl hx with⟨g1,g2,g3⟩|⟨g1,g2⟩
   ·exact(hf.1 ⟨g1,g2⟩).elim
   ·exact hd1 _ _ _ p g2 hf.2
  ·rcases qf hq hzl hx with⟨g1,g2,g3⟩|⟨g1,g2⟩
   ·exact(hf.1 ⟨g1,g2⟩).elim
   ·rcases qf hq hzl hx' with⟨q1,q2,q3⟩|⟨q1,q2⟩
    ·exact(hf'.1 ⟨q1,q2⟩).elim
    ·exact hd2 _ _ _ _ _ _ p g2 q2 hf.2 hf'.2
  ·simp only[Pl.set,if_true];constructor
   ·rintro (h|⟨i',j,r,hx,hne,hf⟩)
    ·exact .inl h
    ·have hlt:=aN hx;obtain⟨r',hr'⟩:=dy (t:=t) (xs:=ys.take q++zs++ys.drop (q+num)) (i:=i') (j:=j) (by rw[hylen];exact hlt.1) hlt.2;exact .inr ⟨i',j,r',hr',hne,hf⟩
   ·rintro (h|⟨i',j,r,hx,hf⟩)
    ·exact .inl h
    ·rcases qf hq hzl hx with⟨g1,g2,g3⟩|⟨g1,g2⟩
     ·exact(hf.1 ⟨g1,g2⟩).elim
     ·exact .inr ⟨_,_,_,g2,hf⟩
theorem Kj {i:Nat}:∀{d:List Nat},mem i d=false->hit [i] d=false
 |[],_=>rfl
 |k::l,h=>by
  simp only[mem]at h;cases hb:Nat.beq k i
  ·rw[hb,cond_false]at h
   have:mem k [i]=false:=by
    simp only[mem];cases hc:Nat.beq i k
    ·rfl
    ·have:=QW hc;subst this;simp at hb
   simp only[hit,this,cond_false];exact Kj h
  ·rw[hb]at h;exact nomatch h
theorem Mt {o:Oper} {a:Act} {s:List (Nat× SV)} {n:Nat} {args:Array Operand} {tys:Array TypeId} {T e:TypeId} {sz:Nat} {t:Ty} {z:List SV} {d:List Nat} {xs:List t.El} {i q off num:Nat}
  (hr:cN H pl w) (hs:gy w H pl s a) (ho:o.op=.call {callee:=.builtin .append,args:=args,argTypes:=tys}) (hvs:rv s args.toList=some [.sub i 0 q,.sub i off num]) (hty:tys.toList=[T,T])
  (he:lP P T=some e) (hsz:iS P e=some sz) (hts:t.sz=sz) (hz:gu P e=some z) (hl:look H i=some (.arr (some d) t xs)) (hd:mem i d=false) (hq:q+num<=xs.length) (hoff:off+num<=xs.length) (hpos:1<=xs.length):
  kn P o a w H pl n {v:=.sub i 0 (q+num),upd:=[(i,.arr (some d) t (xs.take q++(xs.drop off).take num++xs.drop (q+num)))],lf:=[i]}:=by
 refine⟨λj B h=>?_,λH' next Q ha hN=>?_⟩
 ·rw[ay]at h;by_cases e:i=j
  ·subst e;exact⟨_,hl⟩
  ·rw[if_neg e]at h;simp[look]at h
 obtain⟨ht,_⟩:=sy (c:={v:=.sub i 0 (q+num),upd:=[(i,.arr (some d) t (xs.take q++(xs.drop off).take num++xs.drop (q+num)))],lf:=[i]}) hl rfl rfl rfl ha;obtain⟨p,p',hpq,hp,hp'⟩:=qc hvs;have hpr:=aT hs hp;have hpr':=aT hs hp'
 have hargs:args.map a.eval=#[a.eval p,a.eval p']:=by rw[show args=#[p,p']from SD hpq];simp
 have hta:tys=#[T,T]:=SD hty
 obtain⟨ti,hti,rfl⟩:=k6 hsz;obtain⟨zu,hzu,hzc⟩:=je hr hti hz;obtain⟨R⟩:=hr.blk i _ hl;have il:=R.il;have hA:R.a=some ⟨R.b,R.o,none⟩:=R.ha.resolve_left (by omega)
 have hhd:pl.hdr i=.slice (some ⟨R.b,R.o,none⟩) xs.length R.cap:=by rw[<-hA];exact R.wU
 have e1:a.eval p=.slice (some ⟨R.b,R.o,none⟩) q R.cap:=by
  generalize a.eval p=u at hpr
  cases hpr with
  |sub _ _ _ sh2 t2 xs2 a1 a2 cap1 cap2 hl2 hh2 hn1 hc hc' ha2=>
   rw[hl]at hl2;cases hl2;rw[hhd]at hh2;cases hh2
   have hcc:cap2=R.cap:=by omega
   subst hcc
   rcases ha2 with h|h
   ·omega
   ·rw[h];simp[Addr.add]
 obtain⟨A3,cap3,e2,hc3,hA3⟩:∃A3 cap3,a.eval p'=.slice A3 num cap3/\num<=cap3/\(num=0\/A3=some ⟨R.b,R.o+off*t.sz,none⟩):=by
  generalize a.eval p'=u at hpr'
  cases hpr' with
  |sub _ _ _ sh2 t2 xs2 a1 a2 cap1 cap2 hl2 hh2 hn1 hc hc' ha2=>
   rw[hl]at hl2;cases hl2;rw[hhd]at hh2;cases hh2;refine⟨a2,cap2,rfl,hc,?_⟩
   rcases ha2 with h|h
   ·exact .inl (by omega)
   ·exact .inr (by rw[h];simp[su])
 have hsp:=t.gq
 have hback:∀k,k<num*t.sz->∃r,ax t xs (off+k/t.sz) (k %t.sz) r:=λk hk=>by
  have:k/t.sz<num:=by rw[SU hsp];exact hk
  exact dy (by omega) (Tp _ hsp)
 have hus:((List.range (num*t.sz)).map λk=>R.vs (off+k/t.sz) (k %t.sz)).length=num*t.sz:=by simp
 generalize husd:(List.range (num*t.sz)).map (λk=>R.vs (off+k/t.sz) (k %t.sz))=us at hus
 have hget:∀k,k<num*t.sz->us[k]? =some (R.vs (off+k/t.sz) (k %t.sz)):=λk hk=>by rw[<-husd,ix hk]
 have hcell:∀k,k<num*t.sz->w.at? (R.b,R.o+(off*t.sz+k))=some (R.vs (off+k/t.sz) (k %t.sz)):=λk hk=>by
  obtain⟨r,hx⟩:=hback k hk;have:=R.hc _ _ _ hx;rw[Rp,RV,show k/t.sz*t.sz+k %t.sz=k from by rw[Rx];exact SS _ _]at this;exact this
 obtain⟨w',hst,fp',hstep⟩:=Ki (P:=P) (zs:=(xs.drop off).take num) (us:=us) hr hl (by rw[RC,R5];omega) hhd hq hus (λu hu=>by
   obtain⟨k,hk⟩:=RN hu
   have hkl:k<num*t.sz:=by rw[<-hus];exact(Of.1 hk).1
   rw[hget k hkl]at hk;cases hk;obtain⟨r,hx⟩:=hback k hkl
   exact(R.hr _ _ _ hx).1.ra) (λx j r hx=>by
   obtain⟨y,hy,hyr⟩:=hx
   have hxl:x<num:=by have:=(Of.1 hy).1;rw[RC]at this;omega
   have hjl:j<t.sz:=by have:=(Of.1 hyr).1;rwa [Ty.cp]at this
   rw[Ry,if_pos hxl,Rc]at hy;have hx':ax t xs (off+x) j r:=⟨y,hy,hyr⟩;refine⟨R.vs (off+x) j,?_,(R.hr _ _ _ hx').1⟩;have hlt:x*t.sz+j<num*t.sz:=o6 hxl hjl (Rd _);rw[hget _ hlt]
   have g1:(x*t.sz+j)/t.sz=x:=by rw[Rx,Sp hsp,R7 hjl];simp
   have g2:(x*t.sz+j) %t.sz=j:=by rw[Rx,RY,RE hjl]
   rw[g1,g2]) hpos (Kj hd) ht
 have hfc:(Builtin.firstCells ti.size num (.slice A3 num cap3)).run P w=.ok us.toArray w:=by
  rw[<-hts]
  rcases hA3 with h0|hA3
  ·subst h0;have hn':us=[]:=RK.1 (by simpa using hus);subst hn'
   cases A3 with
   |none=>exact run_firstCells_none w _ _ _ _
   |some A=>exact run_firstCells_some w t.sz 0 A 0 cap3 [] (by simp) (λj v hv=>by simp at hv)
  ·subst hA3;refine run_firstCells_some w t.sz num _ num cap3 us hus λj v hv=>?_
   have hj:j<num*t.sz:=by rw[<-hus];exact(Of.1 hv).1
   rw[hget j hj]at hv;cases hv;have:=hcell j hj;rw[Addr.add_lit,RV];exact this
 have hrun:(Builtin.append_ #[T,T] o.type #[.slice (some ⟨R.b,R.o,none⟩) q R.cap,.slice A3 num cap3]).run P w=.ok (.slice (some ⟨R.b,R.o,none⟩) (q+num) R.cap) w':=by
  have hroom:q+num<=R.cap:=by omega
  rw[hts]at hst;simp[Builtin.append_,run_underlying (kZ he),sizeOf,typeInfo,hti,Builtin.lenOf,hroom,hfc,Addr.add_lit,hst]
 refine mE (u:=.slice (some ⟨R.b,R.o,none⟩) (q+num) R.cap) (w':=w') ?_ (hN _ _ w' hstep ?_)
 ·rw[execOp,ho,hta];simp only[resolve,hargs,invoke,builtin,Sem.run_bind,Sem.run_pure,Result.andThen_ok,e1,e2,hrun]
 ·refine .sub i 0 (q+num) (some d) t _ (some ⟨R.b,R.o,none⟩) _ R.cap R.cap ht.PM (by simp[Pl.set,hhd,Q5];omega) (by simp;omega) (by omega) (by omega) (.inr (by simp[Addr.add]))
end
end
section
variable [Tok]
section
variable {w:World} {H:aK} {pl:Pl} {P:Program}
def mark (w:World) (b n:Nat):World:=w.freeze ⟨b,n,none⟩ 1
def Kk (n:Nat) (fr:Nat× Nat):Nat× Nat:=if fr.1==fr.2 then(n,n+1)else(min fr.1 n,max fr.2 (n+1))
theorem ug {b n:Nat} {c:Array Value} {e:TypeId} {fr:Nat× Nat} (h:w.heap[b]? =some (.cells c e fr)):(mark w b n).heap[b]? =some (.cells c e (Kk n fr)):=by
 unfold mark World.freeze Kk;rw[if_neg (by decide)];simp only[Array.getElem?_modify,if_true,h];rfl
theorem uh {b n i:Nat} (h:i≠b):(mark w b n).heap[i]? =w.heap[i]? :=by
 unfold mark World.freeze;rw[if_neg (by decide)];simp only[Array.getElem?_modify];rw[if_neg (λe:b=i=>h e.symm)]
theorem Kl {b n:Nat} {c:Array Value} {e:TypeId} {fr:Nat× Nat} (h:w.heap[b]? =some (.cells c e fr)) (p:Cell):(mark w b n).at? p=w.at? p:=by
 unfold World.at? World.cell?;by_cases q:p.1=b
 ·simp only[q,h,ug h]
 ·simp only[uh q]
theorem mG {b n:Nat} {p:Cell} (h:p.1≠b):(mark w b n).eC p=w.eC p:=by
 unfold World.eC;rw[uh h]
theorem Hg {b n j o m:Nat} {c:Array Value} {e:TypeId} {fr:Nat× Nat} (h:w.heap[b]? =some (.cells c e fr)) (hn:n=c.size) (hw:whole (w.eC (b,j)) o m=true):whole ((mark w b n).eC (b,j)) o m=true:=by
 unfold World.eC at*;simp only[h]at hw;simp only[ug h];unfold whole calm at*;simp only[QX,decide_eq_true_eq]at*;refine⟨?_,hw.2⟩;unfold Kk;obtain⟨lo,hi⟩:=fr;simp only at hw⊢;by_cases q:lo=hi
 ·subst q;simp;omega
 ·have:(lo==hi)=false:=by simpa using q
  rw[this];simp only[Sj,if_false];omega
theorem BN {b j:Nat} {u:Value} (h:w.at? (b,j)=some u):∃c e fr,w.heap[b]? =some (.cells c e fr)/\j<c.size:=by
 unfold World.at? World.cell? at h
 cases hb:w.heap[b]? with
 |none=>simp[hb]at h
 |some ob=>
  cases ob with
  |cells c e fr=>
   simp only[hb,RW,Sj,if_false]at h
   exact⟨c,e,fr,rfl,(Rm.1 h).1⟩
  |_=>simp[hb]at h
theorem Km {i b n cap:Nat} {sh:Option (List Nat)} {t:Ty} {xs:List t.El} {a:Option Addr} {o:Nat} {c:Array Value} {e:TypeId} {fr:Nat× Nat} (hr:cN H pl w) (hl:look H i=some (.arr sh t xs))
  (hb:w.heap[b]? =some (.cells c e fr)) (hc0:0<c.size) (hn:n=c.size) (hin:∀j,j<c.size->pl.fp i (b,j)) (hsz:c.size=cap*t.sz) (hrow:dX (mark w b n) H pl i (.arr sh t xs)):
  cY H H ([],[]) pl pl w (mark w b n):=by
 have hat:=λp=>Kl (n:=n) hb p
 have hmine:∀p u,w.at? p=some u->p.1=b->pl.fp i p:=λp u hp q=>by
  obtain⟨p1,p2⟩:=p;simp only at q;subst q;obtain⟨c',e',fr',h1,h2⟩:=BN hp;rw[hb]at h1;cases h1;exact hin p2 h2
 have hk:lj ([],[]) w H pl (mark w b n) H pl:=⟨λj B hB _=>⟨B,hB,B.dm,rfl⟩,λd p u _ ho hp=>⟨ho,(hat p).trans hp⟩⟩;refine⟨⟨λj B hB=>?_,hr.dis,hr.ob,λp hp=>hr.nb p ((hat p).symm.trans hp)⟩,hk,rfl,⟨rfl,rfl,λk hk'=>?_⟩,λp u hp hno=>⟨hno,(hat p).trans hp,mG λq=>hno i _ hl (hmine p u hp q)⟩⟩
 ·by_cases q:j=i
  ·subst q;rw[hl]at hB;cases hB;exact hrow
  ·refine(hr.blk j B hB).bR hk rfl (λ_=>TL) (λp u hf hu=>⟨(hat p).trans hu,mG λq'=>q (hr.dis j i B _ p hB hl hf (hmine p u hu q'))⟩) B.dn
 ·by_cases q:k=b
  ·subst q;rw[hb,ug hb];exact⟨rfl,.inr hc0,rfl⟩
  ·rw[uh q];split
   ·rename_i e1 e2;rw[e1]at e2;cases e2;exact⟨rfl,.inl rfl,rfl⟩
   ·rfl
theorem Mu {o:Oper} {a:Act} {T:TypeId} {x:Operand} {m i:Nat} {sh:Option (List Nat)} {t:Ty} {y:t.El} {ys:List t.El} (hr:cN H pl w) (ho:o.op=.convert T T x) (hT:vh P T=true)
  (hl:look H i=some (.arr sh t (y::ys))) (hx:aq w H pl (.own i) (a.eval x)):kn P o a w H pl m {v:=.own i}:=by
 have ha:a.eval x=pl.hdr i:=by generalize a.eval x=u at hx;cases hx;rfl
 unfold vh lP at hT;split at hT
 ·rename_i e he;split at he
  ·rename_i e' hu;cases he;split at hT
   ·rename_i he8;have hrow:=hr.blk i _ hl
    obtain⟨ad,cap,b,o',hh,hlen,hadr,ki⟩:∃ad cap b o',pl.hdr i=.slice ad (y::ys).length cap/\(y::ys).length<=cap/\(cap=0\/ad=some ⟨b,o',none⟩)/\
      (∀j,j<cap*t.sz->(∃v,w.at? (b,o'+j)=some v)/\whole (w.eC (b,o'+j)) o' (cap*t.sz)=true/\pl.fp i (b,o'+j)):=by
     cases sh with
     |none=>obtain⟨⟨ad,cap,b,o',vs,fs,q1,q2,q3,q4,q5,q6,q7,q8,q9⟩⟩:=hrow;exact⟨ad,cap,b,o',q1,q2,q3,λj hj=>⟨(q4 j hj).1,(q4 j hj).2,(q9 _).2 (.inl ⟨rfl,by simp,by simp;omega⟩)⟩⟩
     |some d=>obtain⟨⟨ad,cap,b,o',vs,fs,q1,q2,q3,q4,q5,q6,q7,q8,q9⟩⟩:=hrow;exact⟨ad,cap,b,o',q1,q2,q3,λj hj=>⟨(q4 j hj).1,(q4 j hj).2,(q9 _).2 (.inl ⟨rfl,by simp,by simp;omega⟩)⟩⟩
    have il:0<cap:=by simp at hlen;omega
    have hpos:0<cap*t.sz:=Nat.mul_pos il (Ty.gq t);obtain⟨⟨v0,hv0⟩,hw0,_⟩:=ki 0 hpos;obtain⟨c,ee,fr,hb,hc0⟩:=BN hv0
    have ho0:o'=0/\c.size=cap*t.sz:=by
     unfold whole World.eC at hw0;simp only[hb,QX,decide_eq_true_eq]at hw0;exact hw0.2
    obtain⟨rfl,hsz⟩:=ho0;have hadr:=hadr.resolve_left (by omega);subst hadr
    have hin:∀j,j<c.size->pl.fp i (b,j):=λj hj=>by
     have:=(ki j (by omega)).2.2;rwa [Q8]at this
    have hshape:w.shape? b=some (ee,c.size):=by unfold World.shape?;rw[hb]
    have hrun:(execOp a.eval o).run P w=.ok (.value (a.eval x)) (mark w b c.size):=by
     rw[execOp,ho,ha,hh];simp[ha,hh,convert,run_underlying hu,run_underlying he8,markStringish,hshape,mark]
    have hat:=λp=>Kl (n:=c.size) hb p;have hk:lj ([],[]) w H pl (mark w b c.size) H pl:=⟨λj B hB _=>⟨B,hB,B.dm,rfl⟩,λd p u _ ho hp=>⟨ho,(hat p).trans hp⟩⟩
    have hnb:∀p,reg b 0 (cap*t.sz) p\/p.1≠b\/w.at? p=none:=λp=>by
     by_cases q:p.1=b
     ·cases hp:w.at? p with
      |none=>exact .inr (.inr rfl)
      |some u=>
       obtain⟨p1,p2⟩:=p;simp only at q;subst q;obtain⟨c',e',fr',h1,h2⟩:=BN hp;rw[hb]at h1;cases h1;exact .inl ⟨rfl,Rv _,by simp only;omega⟩
     ·exact .inr (.inl q)
    have hblk:dX (mark w b c.size) H pl i (.arr sh t (y::ys)):=by
     cases sh with
     |none=>
      obtain⟨⟨ad,cap',b',o',vs,fs,q1,q2,q3,q4,q5,q6,q7,q8,q9⟩⟩:=hrow;rw[hh]at q1;cases q1;have q3:=q3.resolve_left (by omega);cases q3;refine⟨⟨_,cap,b,0,vs,fs,hh,q2,.inr rfl,λj hj=>⟨?_,Hg hb rfl (q4 j hj).2⟩,λi' j r h=>(hat _).trans (q5 i' j r h),λi' j r h=>(q6 i' j r h).frame λp u hp hu=>⟨(hat p).trans hu,mG λq=>?_⟩,q7,q8,q9⟩⟩
      ·obtain⟨⟨v,hv⟩,_⟩:=q4 j hj;exact⟨v,(hat _).trans hv⟩
      ·rcases hnb p with h1|h1|h1
       ·exact q7 _ _ _ p h hp h1
       ·exact h1 q
       ·rw[hu]at h1;exact nomatch h1
     |some d=>
      obtain⟨⟨ad,cap',b',o',vs,fs,q1,q2,q3,q4,q5,q6,q7,q8,q9⟩⟩:=hrow;rw[hh]at q1;cases q1;have q3:=q3.resolve_left (by omega);cases q3;refine⟨⟨_,cap,b,0,vs,fs,hh,q2,.inr rfl,λj hj=>⟨?_,Hg hb rfl (q4 j hj).2⟩,λi' j r h=>(hat _).trans (q5 i' j r h),λi' j r h=>⟨(q6 i' j r h).1.frame λp u hp hu=>⟨hp,(hat p).trans hu⟩,(q6 i' j r h).2⟩,q7,q8,q9⟩⟩;obtain⟨⟨v,hv⟩,_⟩:=q4 j hj;exact⟨v,(hat _).trans hv⟩
    refine⟨λj B h=>by simp[look]at h,λH' next Q ha' hN=>?_⟩;cases ha'
    have hH:rj [] H++aO m []=H:=by simp[rj,aO]
    simp only[hH]at hN;have hst:=Km (n:=c.size) hr hl hb hc0 rfl hin hsz hblk (a:=some ⟨b,0,none⟩) (o:=0);exact mE hrun (hN _ pl _ hst (hx.vM hk))
   ·exact nomatch hT
  ·exact nomatch he
 ·exact nomatch hT
end
end
section
variable [Tok]
def Hh (P:Program) (g:FuncId):Prop:=∀(args:Array Value) (w:World),(callFunc g args).run P w=.ok (.enter g args) w
theorem Dq {P:Program} {g:FuncId} {fn:Func} (h:P.funcs[g]? =some fn) (hb:fn.body.isNone=false) (hn:(fn.name== "runtime.NumGoroutine")=false):Hh P g:=by
 intro args w
 have hn':¬fn.name= "runtime.NumGoroutine":=by simpa using hn
 have hb':¬fn.body=none:=λe=>by rw[e]at hb;exact nomatch hb
 simp[callFunc,h,hb',hn']
def Kn (P:Program) (g:FuncId) (nid:Nat) (vs:List SV) (H:aK) (c:CR):Prop:=
 Hh P g/\(∀i B,look c.upd i=some B->∃B',look H i=some B')/\
 ∀(H1:aK) (pl:Pl) (w:World) (us:Array Value),Ext H H1->cN H1 pl w->(∀k,k<c.news.length->look H1 (nid+k)=none)->vs.length=us.size->
  (∀(j:Nat) (x:SV) (u:Value),vs[j]? =some x->us[j]? =some u->aq w H1 pl x u)->∀H',after H1 nid c=some H'->
  Calls P g us w λe w'=>∃u pl',e=.returned u/\cY H1 H' c.kil pl pl' w w'/\aq w' H' pl' c.v u
def rb (P:Program) (g:FuncId) (o:Orc):Prop:=
 ∀(ρ:Type) nid vs H (K:CR->Option ρ) (out:ρ),o ρ nid vs H K=some out->∃c,K c=some out/\Kn P g nid vs H c
theorem Mv (P:Program) (g:FuncId):rb P g Pt:=λ_ _ _ _ _ _ h=>nomatch h
def fP (E:Env):Prop:=∀g,rb E.P g (E.orc g)
section
variable {w:World} {H:aK} {pl:Pl} {P:Program}
theorem Mw {o:Oper} {a:Act} {s:List (Nat× SV)} {f:Operand} {args:Array Operand} {tys:Array TypeId} {g:FuncId} {first vs cap:List SV} {n:Nat} {c:CR} {H0:aK}
  (he:Ext H0 H) (hr:cN H pl w) (hs:gy w H pl s a) (hn:∀k,k<c.news.length->look H (n+k)=none) (ho:o.op=.call {callee:=.value f,args:=args,argTypes:=tys})
  (hf:opd s f=some (.fn (.func g) first cap)) (hv:rv s args.toList=some vs) (hc:Kn P g n (first++vs++cap) H0 c):kn P o a w H pl n c:=by
 obtain⟨hen,hup,hcall⟩:=hc;refine⟨λi B hB=>(hup i B hB).imp λB' h=>he i B' h,λH' next Q ha hN=>?_⟩;have hfr:=aT hs hf;obtain⟨g1,g2⟩:=BB hs hv;generalize hfe:a.eval f=fe at hfr
 cases hfr with
 |fn _ _ _ us vs' hl h1 hl' h2=>
  have hlen:(first++vs++cap).length=(us++args.map a.eval++vs').size:=by simp only[Q5,Array.size_append,hl,hl',g1]
  have hpt:∀(j:Nat) (x:SV) (u:Value),(first++vs++cap)[j]? =some x->(us++args.map a.eval++vs')[j]? =some u->aq w H pl x u:=λj x u hx hu=>by
   by_cases c1:j<first.length
   ·rw[Rj,Q0 c1]at hx;rw[SG,RS (by omega)]at hu;exact h1 j x u hx hu
   ·by_cases c2:j<first.length+vs.length
    ·rw[Rj,QZ (by omega),Q0 (by omega)]at hx;rw[SG,SE (by omega),RS (by omega)]at hu;rw[<-hl]at hu;exact g2 _ x u hx hu
    ·rw[Rj,QZ (by omega),QZ (by omega)]at hx;rw[SG,SE (by omega),SE (by omega)]at hu;rw[<-hl,<-g1]at hu;exact h2 _ x u hx hu
  have hcl:=hcall H pl w _ he hr hn hlen hpt H' ha;unfold Oper.wp
  have hrun:(execOp a.eval o).run P w=.ok (.enter g (us++args.map a.eval++vs')) w:=by
   rw[execOp,ho];simp only[resolve,hfe,Deferred.ofValue,invoke,Sem.run_bind,Sem.run_pure,Result.andThen_ok];exact hen _ w
  rw[hrun];show Calls P g _ w _;refine hcl.mono λe w' ⟨u,pl',he,hst,hv⟩=>?_;subst he;exact hN u pl' w' hst hv
variable {ρ:Type}
def Dr (P:Program) (o:Oper) (n:Nat) (c:CR) (s:List (Nat× SV)) (h:aK):Prop:=
 ∀(s':List (Nat× SV)) (H:aK) (a:Act) (w:World) (pl:Pl),Ext s s'->Ext h H->cN H pl w->gy w H pl s' a->(∀k,k<c.news.length->look H (n+k)=none)->kn P o a w H pl n c
theorem BO {H:aK} {n:Nat} {B:Blk} (h:∀k,k<[B].length->look H (n+k)=none):look H n=none:=h 0 (by simp)
theorem Oh (hr:cN H pl w) {o:Oper} {a:Act} {T:TypeId} {p:Operand} {n i x k:Nat} {t:Ty} {xs:List t.El} (ho:o.op=.load T p) (hT:GW P T=true)
  (hl:look H i=some (.arr none t xs)) (hk:k<t.sz) (hp:aq w H pl (.ptr i x k) (a.eval p)):kn P o a w H pl n {v:=.inn i x k}:=by
 generalize he:a.eval p=u at hp
 cases hp with
 |tW _ _ cs b m hl' hh=>rw[hl]at hl';exact nomatch hl'
 |sf _ _ _ sh t' xs' b m nn cap hl' hx hh=>
  rw[hl]at hl';cases hl';obtain⟨⟨a',cap',b',o',vs,fs,h1,h2,h3,h4,h5,h6,h7,h8,h9⟩⟩:=hr.blk i _ hl;rw[hh]at h1;cases h1;have h3:=h3.resolve_left (by omega);cases h3;obtain⟨r,hcell⟩:=dy hx hk;have hat:=h5 x k r hcell;have hone:one (vs x k)=true:=((h6 _ _ _ hcell).L7 (ok:=λ_=>True) (λ_ _=>trivial)).ra;have hfp:pl.fp i (b,m+(x*t.sz+k)):=(h9 _).2 (.inl ⟨rfl,by simp,by have:=o6 hx hk h2;simp;omega⟩);obtain⟨el,_,hu,_⟩:=Bw hT;refine mW (u:=vs x k) hr ?_ (.inn i x k none t xs b m _ _ _ hl hx hk hh ⟨hr.ob i _ _ hl hfp,λj B hB hm hf=>?_⟩ hat hone)
  ·rw[execOp,ho];refine en ?_;rw[Instr.loadAt,he];have hat:w.cell? ⟨b,m+(x*t.sz+k),none⟩=some (vs x k):=hat
   have h1:(loadVar T ⟨b,m+(x*t.sz+k),none⟩).run P w=.ok (vs x k) w:=by simp[loadVar,kX hu,wP,hu,hat]
   exact h1
  ·have:=hr.dis j i _ _ _ hB hl hf hfp;subst this;rw[hl]at hB;cases hB;have:=hm (by simp[mem]);exact nomatch this
theorem FB {E:Env} {o:Oper} {s:List (Nat× SV)} {h0:aK} {n:Nat} {K:CR->Option ρ} {out:ρ} {args:Array Operand} {tys:Array TypeId} {b x:SV} {T T' e:TypeId} {sz:Nat} {t:Ty}
  (ho:o.op=.call {callee:=.builtin .append,args:=args,argTypes:=tys}) (hvs:rv s args.toList=some [b,x]) (hty:tys.toList=[T,T']) (he:lP E.P T=some e) (hsz:iS E.P e=some sz)
  (h:Ff E h0 n e sz t T' b x K=some out):∃c,K c=some out/\Dr E.P o n c s h0:=by
 unfold Ff at h;split at h
 ·cases hb:(Pz E.P T'&&(o4 E.P e&&Nat.beq t.sz sz))<;>simp only[hb,cond_true,cond_false,An]at h
  ·exact nomatch h
  simp only[QX]at hb;obtain⟨l,hl,z,hz,q,hq,h⟩:=h;cases hi:(isNil q.1&&Nat.beq z.length sz)<;>simp only[hi,cond_true,cond_false]at h
  ·exact nomatch h
  simp only[QX]at hi;split at h
  ·rename_i y hy;cases hd:decide (1<=l/\l<=(aU:Int))<;>simp only[hd,cond_true,cond_false]at h
   ·exact nomatch h
   have hd:=of_decide_eq_true hd
   have hq':iV h0 t 1 z=some ([],[y]):=by rw[hq];obtain⟨q1,q2⟩:=q;simp only at hy hi;rw[hy,ek hi.1]
   exact⟨_,h,λs' H a w pl es eh hr hs hn=>zy hr hs (BO hn) ho (ja es _ _ hvs) hty hl hb.1 he hsz hb.2.1 (QW hb.2.2) hz (QW hi.2) (lg eh _ _ _ _ hq') hd⟩
  ·exact nomatch h
 ·exact nomatch h
theorem FC {P:Program} {o:Oper} {s:List (Nat× SV)} {h0:aK} {n:Nat} {K:CR->Option ρ} {out:ρ} {args:Array Operand} {tys:Array TypeId} {b x:SV} {T e:TypeId} {sz:Nat} {t:Ty} {z:List SV}
  (ho:o.op=.call {callee:=.builtin .append,args:=args,argTypes:=tys}) (hvs:rv s args.toList=some [b,x]) (hty:tys.toList=[T,T]) (he:lP P T=some e) (hsz:iS P e=some sz) (hts:t.sz=sz) (hz:gu P e=some z)
  (h:Fg h0 t b x K=some out):∃c,K c=some out/\Dr P o n c s h0:=by
 unfold Fg at h;split at h
 ·rename_i i a i' off num;cases hi:Nat.beq i i'<;>simp only[hi,cond_true,cond_false]at h
  ·exact nomatch h
  have:=QW hi;subst this;split at h
  ·rename_i d t' xs hl;split at h
   ·rename_i htt;subst htt;cases hm:mem i d<;>simp only[hm,cond_true,cond_false]at h
    rotate_left
    ·exact nomatch h
    cases hb:(Nat.ble (a+num) xs.length&&(Nat.ble (off+num) xs.length&&Nat.ble 1 xs.length))<;>simp only[hb,cond_true,cond_false]at h
    ·exact nomatch h
    simp only[QX]at hb;exact⟨_,h,λs' H a w pl es eh hr hs hn=>Mt hr hs ho (ja es _ _ hvs) hty he hsz hts hz (eh _ _ hl) hm (Rb hb.1) (Rb hb.2.1) (Rb hb.2.2)⟩
   ·exact nomatch h
  ·exact nomatch h
 ·exact nomatch h
theorem Ds {E:Env} (hE:fP E) {o:Oper} {s:List (Nat× SV)} {h0:aK} {n:Nat} {K:CR->Option ρ} {out:ρ}
  (h:Bo E s h0 n o.op K=some out):∃c,K c=some out/\Dr E.P o n c s h0:=by
 unfold Bo at h;split at h
 ·rename_i T ho;simp only[An]at h;obtain⟨z,hz,h⟩:=h;exact⟨_,h,λs' H a w pl es eh hr hs hn=>J9 hr (BO hn) ho hz⟩
 ·rename_i T x ho;simp only[An]at h;obtain⟨v,hv,cs,hcs,h⟩:=h;exact⟨_,h,λs' H a w pl es eh hr hs hn=>Ob hr (BO hn) ho (aT hs (c7 es _ _ hv)) hcs⟩
 ·rename_i T k parts ho;simp only[An]at h;obtain⟨e,he,sz,hsz,ps,hps,z,hz,h⟩:=h;cases hb:(Nat.ble (k*sz) 16777216&&Nat.beq z.length sz)<;>simp only[hb,cond_true,cond_false,An]at h
  ·exact nomatch h
  obtain⟨cs,hcs,h⟩:=h;simp only[QX]at hb;have h1:=Rb hb.1;have h2:=QW hb.2
  have bx:K {v:=.bsl n k,news:=[.box cs]}=some out->∃c,K c=some out/\Dr E.P o n c s h0:=λh=>
   ⟨_,h,λs' H a w pl es eh hr hs hn=>zA hr hs (BO hn) ho he hsz (o5 es _ _ hps) hz h2 h1 hcs⟩
  split at h
  ·exact bx h
  ·rename_i t ht;cases hc:((oZ t||Nat.beq k 0)&&Nat.beq t.sz sz)<;>simp only[hc,cond_true,cond_false,An]at h
   ·unfold QM at h;cases hd:(E.lit&&Nat.beq t.sz sz)<;>simp only[hd,cond_true,cond_false]at h
    ·exact bx h
    simp only[QX]at hd;split at h
    ·rename_i xs hx;exact⟨_,h,λs' H a w pl es eh hr hs hn=>rk hr hs (BO hn) ho he hsz (o5 es _ _ hps) hz h2 h1 hcs (QW hd.2) (lg eh _ _ _ _ hx)⟩
    ·exact bx h
   simp only[QX]at hc;obtain⟨⟨ids,xs⟩,hx,h⟩:=h;cases hi:isNil ids<;>simp only[hi,cond_true,cond_false]at h
   ·exact nomatch h
   have:=ek hi;subst this;exact⟨_,h,λs' H a w pl es eh hr hs hn=>rk hr hs (BO hn) ho he hsz (o5 es _ _ hps) hz h2 h1 hcs (QW hc.2) (lg eh _ _ _ _ hx)⟩
 ·rename_i T l c ho;simp only[An]at h;obtain⟨e,he,sz,hsz,t,ht,z,hz,lv,hl,cv,hc,li,hli,ci,hci,h⟩:=h;cases hb:(o4 E.P e&&Nat.beq t.sz sz)<;>simp only[hb,cond_true,cond_false,An]at h
  ·exact nomatch h
  simp only[QX]at hb;obtain⟨⟨ids,xs⟩,hx,h⟩:=h;cases hi:(isNil ids&&Nat.beq z.length sz)<;>simp only[hi,cond_true,cond_false]at h
  ·exact nomatch h
  simp only[QX]at hi;have hids:=ek hi.1;subst hids;split at h
  ·rename_i y;by_cases hd:0<=li/\li<=ci/\ci<=(aU:Int)
   ·simp only[hd,and_self,decide_true,cond_true]at h;exact⟨_,h,λs' H a w pl es eh hr hs hn=>BJ hr hs (BO hn) ho (c7 es _ _ hl) (c7 es _ _ hc) hli hci he hsz hb.1 (QW hb.2) hz (QW hi.2) (lg eh _ _ _ _ hx) hd⟩
   ·simp only[hd,decide_false,cond_false]at h;exact nomatch h
  ·exact nomatch h
 ·rename_i args tys ho;simp only[An]at h;obtain⟨vs,hvs,h⟩:=h;split at h
  ·rename_i b x T T' hty;simp only[An]at h;obtain⟨e,he,sz,hsz,t,ht,h⟩:=h;cases hb:(o4 E.P e&&(Nat.beq t.sz sz&&Nat.beq T T'))<;>simp only[hb,cond_true,cond_false,An]at h
   ·exact FB ho hvs hty he hsz h
   simp only[QX]at hb;have hTT:T=T':=QW hb.2.2;subst hTT;have hts:=QW hb.2.1;obtain⟨z,hz,h⟩:=h;cases hzl:Nat.beq z.length sz<;>simp only[hzl,cond_true,cond_false,An]at h
   ·exact nomatch h
   have hzl:=QW hzl;obtain⟨⟨sh1,ids,ys⟩,hy,h⟩:=h;split at h
   ·cases hh:hit ids (sh1.getD [])<;>simp only[hh,cond_true,cond_false]at h
    ·cases hn':Nat.ble ys.length aU<;>simp only[hn',cond_true,cond_false]at h
     ·exact nomatch h
     exact⟨_,h,λs' H a w pl es eh hr hs hn=>Ab (xs:=[]) hr hs (BO hn) ho (ja es _ _ hvs) hty he hsz hb.1 hts hz hzl (zS eh _ _ _ hy) (.inl ⟨rfl,rfl,rfl,rfl⟩) hh (by simpa using Rb hn')⟩
    ·exact nomatch h
   ·rename_i i;split at h
    ·rename_i sh t' xs hl;split at h
     ·rename_i htt;subst htt;simp only[An]at h;obtain⟨sh',hj,h⟩:=h;cases hm:mem i ids<;>simp only[hm,cond_true,cond_false]at h
      rotate_left
      ·exact nomatch h
      cases hh:hit (i::ids) (sh'.getD [])<;>simp only[hh,cond_true,cond_false]at h
      rotate_left
      ·exact nomatch h
      cases hn':Nat.ble (xs.length+ys.length) aU<;>simp only[hn',cond_true,cond_false]at h
      ·exact nomatch h
      exact⟨_,h,λs' H a w pl es eh hr hs hn=>Ab hr hs (BO hn) ho (ja es _ _ hvs) hty he hsz hb.1 hts hz hzl (zS eh _ _ _ hy) (.inr ⟨i,sh,rfl,eh _ _ hl,rfl,hm,hj⟩) hh (Rb hn')⟩
     ·exact nomatch h
    ·exact nomatch h
   ·exact FC ho hvs hty he hsz hts hz h
  ·exact nomatch h
 ·rename_i args tys ho;simp only[An]at h;obtain⟨vs,hvs,h⟩:=h;split at h
  ·rename_i v T hty;simp only[An]at h;obtain⟨e,he,z,hz,⟨i,q,num⟩,hv,h⟩:=h;split at h
   ·rename_i sh t xs hl;cases hzl:Nat.beq z.length t.sz<;>simp only[hzl,cond_true,cond_false,An]at h
    ·exact nomatch h
    obtain⟨⟨ids,ys⟩,hy,h⟩:=h;cases hi:isNil ids<;>simp only[hi,cond_true,cond_false]at h
    ·exact nomatch h
    have hids:=ek hi;subst hids;split at h
    ·rename_i y;exact⟨_,h,λs' H a w pl es eh hr hs hn=>Kh hr hs ho (ja es _ _ hvs) hty he hz (QW hzl) (Ms eh hv) (eh _ _ hl) (lg eh _ _ _ _ hy)⟩
    ·exact nomatch h
   ·exact nomatch h
  ·exact nomatch h
 ·rename_i T p x ho;simp only[An]at h;obtain⟨p',hp,x',hx,h⟩:=h
  have arr:∀{i k off:Nat} {sh:Option (List Nat)} {t:Ty} {ys:List t.El},p'=.ptr i k off->look h0 i=some (.arr sh t ys)->v3 E.P T h0 i sh t ys k off x' K=some out->∃c,K c=some out/\Dr E.P o n c s h0:=λe hl h3=>by
   clear h;subst e;obtain⟨c,h1,h2⟩:=Dn (n:=n) ho h3;exact⟨c,h1,λs' H a w pl es eh hr hs hn=>h2 H a w pl eh (eh _ _ hl) hr (aT hs (c7 es _ _ hp)) (aT hs (c7 es _ _ hx))⟩
  split at h
  ·rename_i i k off;split at h
   ·rename_i cs hl;cases hk0:Nat.beq k 0<;>simp only[hk0,cond_true,cond_false,An]at h
    ·exact nomatch h
    have hk0:=QW hk0;subst hk0;obtain⟨xs,hxs,sz,hsz,h⟩:=h;cases hb:Nat.beq sz xs.length<;>simp only[hb,cond_true,cond_false,An]at h
    ·exact nomatch h
    ·obtain⟨cs',hcs,h⟩:=h;exact⟨_,h,λs' H a w pl es eh hr hs hn=>Ka hr ho (eh _ _ hl) (aT hs (c7 es _ _ hp)) (aT hs (c7 es _ _ hx)) hxs hsz (QW hb) hcs⟩
   ·rename_i sh t ys hl;exact arr rfl hl h
   ·exact nomatch h
  ·exact nomatch h
 ·rename_i f args tys ho;simp only[An]at h;obtain⟨f',hf,vs,hvs,h⟩:=h;split at h
  ·rename_i g first cap
   obtain⟨c,hc,hcs⟩:=hE g _ _ _ _ _ _ h;exact⟨c,hc,λs' H a w pl es eh hr hs hn=>Mw eh hr hs hn ho (c7 es _ _ hf) (ja es _ _ hvs) hcs⟩
  ·exact nomatch h
 ·rename_i T x ho;unfold PB at h;cases hk:taken E x<;>simp only[hk,cond_true,cond_false]at h
  rotate_left
  ·split at h
   ·rename_i i y hx;split at h
    ·rename_i t xs hl;simp only[An]at h;obtain⟨e,he,v,hv,h⟩:=h;exact⟨_,h,λs' H a w pl es eh hr hs hn=>Hf (PO t) hr ho (eh _ _ hl) he hv (aT hs (c7 es _ _ hx)) hn⟩
    ·exact nomatch h
   ·exact nomatch h
  split at h
  ·rename_i v hv;unfold Pw at hv;cases hi:E.inn<;>simp only[hi,cond_true,cond_false]at hv
   ·exact nomatch hv
   cases hT:GW E.P T<;>simp only[hT,cond_true,cond_false]at hv
   ·exact nomatch hv
   split at hv
   ·rename_i i y k hx;split at hv
    ·rename_i t xs hl;cases hk:Nat.ble (k+1) t.sz<;>simp only[hk,cond_true,cond_false,It]at hv
     ·exact nomatch hv
     subst hv;exact⟨_,h,λs' H a w pl es eh hr hs hn=>Oh hr ho hT (eh _ _ hl) (Rb hk) (aT hs (c7 es _ _ hx))⟩
    ·exact nomatch hv
   ·exact nomatch hv
  ·have dflt:nI E.P s h0 (.load T x) (λv=>K {v:=v})=some out->∃c,K c=some out/\Dr E.P o n c s h0:=λh=>by
    rw[nJ]at h;simp only[An]at h;obtain⟨v,hv,h⟩:=h
    exact⟨_,h,λs' H a w pl es eh hr hs hn=>by
     obtain⟨u,hu,hvr⟩:=ku hr hs (tV es eh _ _ hv) o ho
     exact mW hr hu hvr⟩
   unfold PA at h;cases ht:E.tak<;>simp only[ht,cond_true,cond_false]at h
   ·exact dflt h
   split at h
   ·rename_i i y hx;split at h
    ·rename_i st xs hl;cases hf:oZ (.st st)<;>simp only[hf,cond_true,cond_false]at h
     ·simp only[An]at h;obtain⟨e,he,v,hv,h⟩:=h;exact⟨_,h,λs' H a w pl es eh hr hs hn=>Hf (PN st) hr ho (eh _ _ hl) he hv (aT hs (c7 es _ _ hx)) hn⟩
     ·exact dflt h
    ·exact dflt h
   ·exact dflt h
 ·rename_i src dst x ho;split at h
  ·rename_i i hi;unfold Py at hi;cases hT:(Nat.beq src dst&&vh E.P src)<;>simp only[hT,cond_true,cond_false]at hi
   ·exact nomatch hi
   simp only[QX]at hT;have hsd:=QW hT.1;split at hi
   ·rename_i j hx;split at hi
    ·rename_i sh t y ys hl;cases hi;subst hsd;exact⟨_,h,λs' H a w pl es eh hr hs hn=>Mu hr ho hT.2 (eh _ _ hl) (aT hs (c7 es _ _ hx))⟩
    ·exact nomatch hi
   ·exact nomatch hi
  ·rw[nJ]at h;simp only[An]at h;obtain⟨v,hv,h⟩:=h
   exact⟨_,h,λs' H a w pl es eh hr hs hn=>by
    obtain⟨u,hu,hvr⟩:=ku hr hs (tV es eh _ _ hv) o ho
    exact mW hr hu hvr⟩
 ·rw[nJ]at h;simp only[An]at h;obtain⟨v,hv,h⟩:=h
  exact⟨_,h,λs' H a w pl es eh hr hs hn=>by
   obtain⟨u,hu,hvr⟩:=ku hr hs (tV es eh _ _ hv) o rfl
   exact mW hr hu hvr⟩
theorem FD {E:Env} (hE:fP E) {o:Oper} {a:Act} {s:List (Nat× SV)} {n:Nat} {K:CR->Option ρ} {out:ρ}
  (hr:cN H pl w) (hs:gy w H pl s a) (hn:∀i,n<=i->look H i=none) (h:Bo E s H n o.op K=some out):∃c,K c=some out/\kn E.P o a w H pl n c:=by
 obtain⟨c,h1,h2⟩:=Ds hE h;exact⟨c,h1,h2 s H a w pl .rfl' .rfl' hr hs λk _=>hn _ (Nat.le_add_right _ _)⟩
theorem Ko {x y:Option ρ} {out:ρ} (h:both x y=some out):x=some out/\y=some out:=by
 unfold both at h;split at h
 ·rename_i e;exact⟨h,e▸h⟩
 ·exact nomatch h
theorem FE {op:Op} {T:TypeId} {x:Operand} {e:Bool} (h:GZ op=some (T,x,e)):∃U,op=.binOp (cond e .eql .neq) T x (.const (.slice none 0 0)) U:=by
 unfold GZ at h;split at h
 ·cases h;exact⟨_,rfl⟩
 ·cases h;exact⟨_,rfl⟩
 ·exact nomatch h
theorem Kp (hr:cN H pl w) {v:SV} {u:Value} {K:Bool->Option ρ} {out:ρ} (h:Qr H v K=some out) (hv:aq w H pl v u):
  ∃a n c,u=.slice a n c/\K a.isNone=some out:=by
 have fork:∀{α:Type} {xs:List α} {a:Option Addr},(xs=[]\/a.isSome=true)->cond (isNil xs) (both (K true) (K false)) (K false)=some out->K a.isNone=some out:=λ{α xs a} hx h=>by
  cases xs with
  |nil=>
   obtain⟨h1,h2⟩:=Ko h
   cases a<;>assumption
  |cons y ys=>
   rcases hx with hx|hx
   ·exact nomatch hx
   ·cases a with
    |none=>exact nomatch hx
    |some a=>exact h
 unfold Qr at h;split at h
 ·cases hv;exact⟨_,_,_,rfl,h⟩
 ·rename_i d t xs
  cases hv with
  |r _ _ _ hx=>cases hx with
   |sl _ _ a cap b o vs il ha hc hr'=>exact⟨_,_,_,rfl,fork (ha.imp_right λe=>by rw[e];rfl) h⟩
 ·rename_i i
  cases hv with
  |own _ sh t xs hl=>
   simp only[hl]at h;have hb:=hr.blk i _ hl
   have:∃a cap b o,pl.hdr i=.slice a xs.length cap/\xs.length<=cap/\(cap=0\/a=some ⟨b,o,none⟩):=by
    cases sh with
    |none=>obtain⟨⟨a,cap,b,o,vs,fs,q1,q2,q3,_⟩⟩:=hb;exact⟨a,cap,b,o,q1,q2,q3⟩
    |some d=>obtain⟨⟨a,cap,b,o,vs,fs,q1,q2,q3,_⟩⟩:=hb;exact⟨a,cap,b,o,q1,q2,q3⟩
   obtain⟨a,cap,b,o,q1,q2,q3⟩:=this;refine⟨a,_,_,q1,fork ?_ h⟩
   rcases q3 with rfl|rfl
   ·exact .inl (RK.1 (by omega))
   ·exact .inr rfl
 ·exact nomatch h
theorem Oi (hr:cN H pl w) {o:Oper} {a:Act} {T:TypeId} {x:Operand} {e:Bool} {n:Nat} (hT:GW P T=true) (ho:GZ o.op=some (T,x,e)) {b:Option Addr} {l c:Nat} (hx:a.eval x=.slice b l c):
  kn P o a w H pl n {v:=.b (cond b.isNone e (!e))}:=by
 obtain⟨U,ho⟩:=FE ho;obtain⟨el,_,hu,_⟩:=Bw hT;refine mW (u:=.bool (cond b.isNone e (!e))) hr ?_ lU;rw[execOp,ho];have hc:a.eval (.const (.slice none 0 0))=.slice none 0 0:=rfl
 have key:(do eqGuard (cond e .eql .neq) T x (.const (.slice none 0 0)) (a.eval x) (a.eval (.const (.slice none 0 0)));binOp (cond e .eql .neq) T (a.eval x) (a.eval (.const (.slice none 0 0))):Sem Value).run P w=.ok (.bool (cond b.isNone e (!e))) w:=by
  rw[hc,hx];refine guarded (λh=>nomatch h) (λ_ h=>nomatch h) ?_;cases e
  ·rw[cond_false,run_neq_slice_nil w T el b l c hu];cases b<;>rfl
  ·rw[cond_true,Lib.run_eql_slice_nil w T el b l c _ _ hu];cases b<;>rfl
 simp only[Sem.run_bind,key,Result.andThen_ok];rfl
theorem IE {E:Env} (hE:fP E) {w0:World} {fp0:G0} {o:Oper} {st:St} {a:Act} {K:St->Option ρ} {out:ρ} {next:Act->World->Prop} {Q:Exit->Act->World->Prop}
  (hr:Rel w0 fp0 st pl a w) (h:Pf E o st K=some out) (hK:∀st' pl' a' w',K st'=some out->pl'.base=pl.base->st'.n=st.n->Rel w0 fp0 st' pl' a' w'->next a' w'):o.wp E.P a w next Q:=by
 obtain⟨c,hc,hup,hsem⟩:∃c,((st.take o.dst c).bind K)=some out/\kn E.P o a w st.heap pl st.nid c:=by
  unfold Pf at h;split at h
  ·rename_i T x e ho;cases hT:GW E.P T<;>simp only[hT,cond_true,cond_false,An]at h
   ·exact nomatch h
   obtain⟨v,hv,h⟩:=h;obtain⟨b,l,c,hu,hk⟩:=Kp hr.hr h (aT hr.sl hv);exact⟨_,hk,Oi hr.hr hT ho hu⟩
  ·exact FD hE hr.hr hr.sl hr.fresh h
 simp only[An]at hc;obtain⟨st',ht,hk⟩:=hc
 refine hsem st'.heap next Q (J8 ht) λu pl' w' hst hv=>?_
 have hn:st'.n=st.n:=by
  simp only[St.take,An,It]at ht;obtain⟨h1,e1,s,h2,rfl⟩:=ht;rfl
 exact hK st' pl' _ w' hk hst.bs hn (hr.take ht hup hst hv)
end
end
section
variable [Tok]
theorem jE (h:aK) (n:Nat) (b:Blk) (i:Nat):look (Ig h n b) i=if n=i then(look h i).map λ_=>b else look h i:=by
 induction h with
 |nil=>simp[Ig,look]
 |cons x l ih=>
  obtain⟨k,u⟩:=x;simp only[Ig];cases hb:Nat.beq k n
  ·simp only[cond_false,ay,ih]
   have hne:k≠n:=λe=>by subst e;simp at hb
   by_cases e:k=i
   ·subst e;simp only[if_true];rw[if_neg (λe=>hne e.symm)]
   ·simp only[if_neg e]
  ·simp only[cond_true,ay];have:=QW hb;subst this;by_cases e:k=i<;>simp[e]
theorem dz (s:List (Nat× SV)) (dst:Option Tmp) (v:SV) (t:Nat):look (G1 s dst v) t=if dst=some t then some v else look s t:=by
 cases dst with
 |none=>simp[G1]
 |some d=>simp[G1,eI]
def xj {α:Type} (x y:List (Nat× α)):Prop:=∀t,look x t=look y t
theorem Kq {h h':aK} (e:xj h h') (n:Nat) (b:Blk):xj (Ig h n b) (Ig h' n b):=λt=>by rw[jE,jE,e t]
theorem IG {h h':aK} (e:xj h h') (u:aK):xj (iZ u h) (iZ u h'):=by
 induction u generalizing h h' with
 |nil=>exact e
 |cons x l ih=>obtain⟨k,b⟩:=x;exact ih (Kq e k b)
theorem Kr (u h:aK) (i:Nat):(look (iZ u h) i).isSome=(look h i).isSome:=by
 induction u generalizing h with
 |nil=>rfl
 |cons x l ih=>
  obtain⟨k,b⟩:=x;rw[iZ,ih,jE];by_cases e:k=i<;>simp[e]
theorem Ae {u h:aK} {i:Nat}:look (iZ u h) i=none↔look h i=none:=by
 have:=Kr u h i;rw[<-Option.not_isSome_iff_eq_none,<-Option.not_isSome_iff_eq_none,this]
theorem IH {S:Nat->Prop} {h h':aK} (e:∀i B,S i->look h i=some B->look h' i=some B) (u:aK):∀i B,S i->look (iZ u h) i=some B->look (iZ u h') i=some B:=by
 induction u generalizing h h' with
 |nil=>exact e
 |cons x l ih=>
  obtain⟨k,b⟩:=x;refine ih λt v ht hv=>?_;rw[jE]at hv⊢;by_cases c:k=t
  ·rw[if_pos c]at hv⊢;obtain⟨y,hy,rfl⟩:=Q2.1 hv;rw[e t y ht hy];rfl
  ·rw[if_neg c]at hv⊢;exact e t v ht hv
theorem pf {i:Nat}:∀(u h:aK),look u i=none->look (iZ u h) i=look h i
  |[],_,_=>rfl
  | (k, b) :: l, h, e => by
    rw[ay]at e;by_cases c:k=i
    · rw[if_pos c]at e;exact nomatch e
    · rw[if_neg c]at e;show look (iZ l (Ig h k b)) i=_;rw[pf l _ e,jE,if_neg c]
theorem Mx {h:aK} {k:Nat} (b:Blk) (hk:∃B,look h k=some B):put h k b=Ig h k b:=by
 induction h with
 |nil=>obtain⟨B,hB⟩:=hk;exact nomatch hB
 |cons x l ih=>
  obtain⟨k',u⟩:=x;simp only[put,Ig];obtain⟨B,hB⟩:=hk;rw[ay]at hB;cases hb:Nat.beq k' k
  ·have hne:k'≠k:=λe=>by subst e;simp at hb
   rw[if_neg hne]at hB;simp only[cond_false,ih ⟨B,hB⟩]
  ·rfl
theorem ui {u h:aK} (hd:∀i B,look u i=some B->∃B',look h i=some B'):rj u h=iZ u h:=by
 induction u generalizing h with
 |nil=>rfl
 |cons x l ih=>
  obtain⟨k,b⟩:=x;have hk:=hd k b (by rw[ay];simp);simp only[rj,iZ];rw[Mx b hk];refine ih λi B hB=>?_;rw[jE];by_cases e:k=i
  ·subst e;obtain⟨B',hB'⟩:=hk;exact⟨b,by simp[hB']⟩
  ·rw[if_neg e];exact hd i B (by rw[ay,if_neg e];exact hB)
def Dt (x y:SH):Prop:=xj x.1 y.1/\xj x.2 y.2
theorem Dt.refl (x:SH):Dt x x:=⟨λ_=>rfl,λ_=>rfl⟩
theorem Dt.trans {x y z:SH} (h:Dt x y) (g:Dt y z):Dt x z:=⟨λt=>(h.1 t).trans (g.1 t),λt=>(h.2 t).trans (g.2 t)⟩
def DR.rD (r:DR) (i:Nat):Prop:=r.n0<=i/\i<r.n0+r.c.news.length
theorem DR.mZ {r:DR} {i:Nat} (h:¬r.rD i):look (aO r.n0 r.c.news) i=none:=by
 rw[bp];by_cases c:r.n0<=i
 ·rw[if_pos c];exact Rq (Nat.le_of_not_lt λh'=>h ⟨c,by omega⟩)
 ·rw[if_neg c]
theorem xk {T:Kil} (h:T.2=[]) (x:List (Nat× SV)):nH T x=x:=by unfold nH;rw[h]
theorem FF {T:Kil} (h:T.2=[]) (x:aK):ir T x=some x:=by unfold ir;rw[h]
theorem iz {r:DR} (hg:r.c.kil.2=[]) (x:SH):r.app x=some (G1 x.1 r.dst r.c.v,iZ r.c.upd x.2++aO r.n0 r.c.news):=by
 unfold DR.app;rw[FF hg,xk hg];rfl
theorem dA {r:DR} {x y:SH} (h:r.app x=some y):y.1=G1 (nH r.c.kil x.1) r.dst r.c.v:=by
 unfold DR.app at h;simp only[An,It]at h;obtain⟨hh,h1,rfl⟩:=h;rfl
theorem v8 {r:DR} {x y:SH} (h:r.app x=some y) (i:Nat):look y.2 i=(cond (mem i r.c.kil.1) none ((look (iZ r.c.upd x.2) i).bind (Blk.aP r.c.kil))).or (look (aO r.n0 r.c.news) i):=by
 unfold DR.app at h;simp only[An,It]at h;obtain⟨hh,h1,rfl⟩:=h;show look (hh++_) i=_;rw[aG,cQ r.c.fO h1 i]
theorem My {r:DR} (hg:r.c.kil.2=[]) {x y:SH} (e:Dt x y) {x':SH} (h:r.app x=some x'):∃y',r.app y=some y'/\Dt x' y':=by
 rw[iz hg]at h;cases h;refine⟨_,iz hg y,λt=>?_,λi=>?_⟩
 ·show look (G1 _ _ _) t=look (G1 _ _ _) t;rw[dz,dz,e.1 t]
 ·show look (_++_) i=look (_++_) i;rw[aG,aG,IG e.2 _ i]
theorem eo (p:Nat->Bool):∀(l1 l2:List DR) (k:Nat) (x:SH),replay p k (l1++l2) x=(replay p k l1 x).bind (replay p (k+l1.length) l2)
 |[],l2,k,x=>by simp[replay]
 |r::l,l2,k,x=>by
  simp only[Sl,replay,Q4];cases p k
  ·simp only[cond_false];rw[eo p l l2 (k+1) x,show k+1+l.length=k+(l.length+1)from by omega]
  ·simp only[cond_true,Rn]
   congr 1;funext y;rw[eo p l l2 (k+1) y,show k+1+l.length=k+(l.length+1)from by omega]
theorem jF {p q:Nat->Bool}:∀(l:List DR) (k:Nat) (x:SH),(∀j,j<l.length->p (k+j)=q (k+j))->replay p k l x=replay q k l x
 |[],_,_,_=>rfl
 |r::l,k,x,h=>by
  simp only[replay];have h0:=h 0 (by simp);rw[Rw]at h0
  have ih:=λx=>jF (p:=p) (q:=q) l (k+1) x λj hj=>by have:=h (j+1) (by simpa using hj);rwa [show k+(j+1)=k+1+j from by omega]at this
  rw[h0,ih x];congr 1;congr 1;exact funext ih
theorem nO {p:Nat->Bool}:∀(l:List DR) (k:Nat) (x:SH),(∀j,j<l.length->p (k+j)=false)->replay p k l x=some x
 |[],_,_,_=>rfl
 |r::l,k,x,h=>by
  simp only[replay];have h0:=h 0 (by simp);rw[Rw]at h0;rw[h0,cond_false]
  exact nO l (k+1) x λj hj=>by have:=h (j+1) (by simpa using hj);rwa [show k+(j+1)=k+1+j from by omega]at this
theorem m7 {p:Nat->Bool}:∀(l:List DR) (k:Nat) (x X:SH),replay p k l x=some X->∀i B,look X.2 i=some B->(∃B',look x.2 i=some B')\/∃(j:Nat) (r:DR),l[j]? =some r/\p (k+j)=true/\r.rD i
  |[],_,x,X,h,i,B,hB=>by cases h;exact .inl ⟨B,hB⟩
  | r :: l, k, x, X, h, i, B, hB => by
    simp only[replay]at h;cases hp:p k<;>simp only[hp,cond_false,cond_true]at h
    · rcases m7 l (k+1) x X h i B hB with h'|⟨j,r',h1,h2,h3⟩
      · exact .inl h'
      · exact .inr ⟨j+1,r',by simpa using h1,by rwa [show k+(j+1)=k+1+j from by omega],h3⟩
    · rw [An] at h;obtain⟨y,hy,h⟩:=h
      rcases m7 l (k+1) y X h i B hB with⟨B',h'⟩|⟨j,r',h1,h2,h3⟩
      · by_cases hm:r.rD i
        · exact .inr ⟨0,r,rfl,hp,hm⟩
        · left;rw[v8 hy,DR.mZ hm,RX]at h'
          cases hx:look x.2 i with
          |none=>rw[Ae.2 hx]at h';cases hm':mem i r.c.kil.1<;>simp[hm']at h'
          |some b=>exact⟨b,rfl⟩
      · exact .inr ⟨j+1,r',by simpa using h1,by rwa [show k+(j+1)=k+1+j from by omega],h3⟩
theorem qg {q p:Nat->Bool}:∀(l:List DR) (k:Nat) (y z Y Z:SH),(∀j,q j=true->p j=true)->replay q k l y=some Y->replay p k l z=some Z->Ext y.1 z.1->
    (∀t v,look y.1 t=some v->∀(j:Nat) (r:DR),l[j]? =some r->p (k+j)=true->q (k+j)=false->r.dst≠some t)->
    (∀(j j':Nat) (r r':DR) t,j≠j'->l[j]? =some r->l[j']? =some r'->r.dst=some t->r'.dst≠some t)->
    (∀(j:Nat) (r:DR),l[j]? =some r->p (k+j)=true->q (k+j)=false->r.c.kil.2=[])->Ext Y.1 Z.1
  |[],_,y,z,Y,Z,_,hy,hz,he,_,_,_=>by cases hy;cases hz;exact he
  | r :: l, k, y, z, Y, Z, hqp, hy, hz, he, hd, hn, hg => by
    simp only[replay]at hy hz;have hn':∀(j j':Nat) (r r':DR) t,j≠j'->l[j]? =some r->l[j']? =some r'->r.dst=some t->r'.dst≠some t:=λj j' r r' t hne h1 h2=>hn (j+1) (j'+1) r r' t (by omega) (by simpa using h1) (by simpa using h2);have hg':∀(j:Nat) (r:DR),l[j]? =some r->p (k+1+j)=true->q (k+1+j)=false->r.c.kil.2=[]:=λj r h1 h2 h3=>hg (j+1) r (by simpa using h1) (by rwa [show k+(j+1)=k+1+j from by omega]) (by rwa [show k+(j+1)=k+1+j from by omega]);have hd':∀t v,look y.1 t=some v->∀(j:Nat) (r:DR),l[j]? =some r->p (k+1+j)=true->q (k+1+j)=false->r.dst≠some t:=λt v ht j r h1 h0 h2=>hd t v ht (j+1) r (by simpa using h1) (by rwa [show k+(j+1)=k+1+j from by omega]) (by rwa [show k+(j+1)=k+1+j from by omega]);cases hq:q k<;>simp only[hq,cond_false,cond_true]at hy
    · cases hp:p k<;>simp only[hp,cond_false,cond_true]at hz
      · exact qg l (k+1) y z Y Z hqp hy hz he hd' hn' hg'
      · rw[An]at hz;obtain⟨z',hz',hz⟩:=hz;have hgr:=hg 0 r rfl (by simpa using hp) (by simpa using hq);refine qg l (k+1) y z' Y Z hqp hy hz (λt v ht=>?_) hd' hn' hg';rw[dA hz',xk hgr,dz,if_neg (hd t v ht 0 r rfl (by simpa using hp) (by simpa using hq))];exact he t v ht
    · rw [hqp k hq] at hz;simp only[cond_true]at hz;rw[An]at hy hz;obtain⟨y',hy',hy⟩:=hy;obtain⟨z',hz',hz⟩:=hz
      have hsl:∀t,look y'.1 t=if r.dst=some t then some r.c.v else(look y.1 t).map (SV.aP r.c.kil):=λt=>by rw[dA hy',dz,dc r.c.fO]
      have hslz:∀t,look z'.1 t=if r.dst=some t then some r.c.v else(look z.1 t).map (SV.aP r.c.kil):=λt=>by rw[dA hz',dz,dc r.c.fO]
      refine qg l (k+1) y' z' Y Z hqp hy hz (λt v ht=>?_) (λt v ht j r' h1 h0 h2=>?_) hn' hg'
      · rw[hsl]at ht;rw[hslz];by_cases c:r.dst=some t
        · rw[if_pos c]at ht⊢;exact ht
        · rw[if_neg c]at ht⊢;obtain⟨u,hu,rfl⟩:=Q2.1 ht;rw[he t u hu];rfl
      · rw[hsl]at ht;by_cases c:r.dst=some t
        · exact hn 0 (j+1) r r' t (by omega) rfl (by simpa using h1) c
        · rw[if_neg c]at ht;obtain⟨u,hu,_⟩:=Q2.1 ht;exact hd' t u hu j r' h1 h0 h2
theorem lq {S:Nat->Prop} {q p:Nat->Bool}:∀(l:List DR) (k:Nat) (y z Y Z:SH),(∀j,q j=true->p j=true)->replay q k l y=some Y->replay p k l z=some Z->(∀i B,S i->look y.2 i=some B->look z.2 i=some B)->
    (∀(j:Nat) (r:DR) i,l[j]? =some r->r.rD i->look z.2 i=none)->
    (∀(j j':Nat) (r r':DR) i,j≠j'->l[j]? =some r->l[j']? =some r'->r.rD i->¬r'.rD i)->
    (∀(j:Nat) (r:DR),l[j]? =some r->p (k+j)=true->q (k+j)=false->r.c.kil.2=[]/\∀i,S i->look r.c.upd i=none)->∀i B,S i->look Y.2 i=some B->look Z.2 i=some B
  |[],_,y,z,Y,Z,_,hy,hz,he,_,_,_=>by cases hy;cases hz;exact he
  | r :: l, k, y, z, Y, Z, hqp, hy, hz, he, hf, hn, hg => by
    simp only[replay]at hy hz;have hn':∀(j j':Nat) (r r':DR) i,j≠j'->l[j]? =some r->l[j']? =some r'->r.rD i->¬r'.rD i:=λj j' r r' t hne h1 h2=>hn (j+1) (j'+1) r r' t (by omega) (by simpa using h1) (by simpa using h2);have hg':∀(j:Nat) (r:DR),l[j]? =some r->p (k+1+j)=true->q (k+1+j)=false->r.c.kil.2=[]/\∀i,S i->look r.c.upd i=none:=λj r h1 h2 h3=>hg (j+1) r (by simpa using h1) (by rwa [show k+(j+1)=k+1+j from by omega]) (by rwa [show k+(j+1)=k+1+j from by omega]);have hf':∀(j:Nat) (r:DR) i,l[j]? =some r->r.rD i->look z.2 i=none:=λj r i h1 h2=>hf (j+1) r i (by simpa using h1) h2
    have rE:∀z',r.app z=some z'->∀(j:Nat) (r':DR) i,l[j]? =some r'->r'.rD i->look z'.2 i=none:=λz' hz' j r' i h1 h2=>by
      cases hx:look z'.2 i with
      |none=>rfl
      | some B =>
        rcases m7 (p:=λ_=>true) [r] 0 z z' (by simp[replay,hz']) i B hx with⟨B',hB'⟩|⟨j',r2,g1,_,g3⟩
        · rw[hf' j r' i h1 h2]at hB';exact nomatch hB'
        · cases j' with
          |zero=>simp at g1;subst g1;exact(hn 0 (j+1) r r' i (by omega) rfl (by simpa using h1) g3 h2).elim
          |succ j'=>simp at g1
    cases hq:q k<;>simp only[hq,cond_false,cond_true]at hy
    · cases hp:p k<;>simp only[hp,cond_false,cond_true]at hz
      · exact lq l (k+1) y z Y Z hqp hy hz he hf' hn' hg'
      · rw[An]at hz;obtain⟨z',hz',hz⟩:=hz;obtain⟨hgr,hur⟩:=hg 0 r rfl (by simpa using hp) (by simpa using hq);refine lq l (k+1) y z' Y Z hqp hy hz (λi B hS hB=>?_) (rE z' hz') hn' hg';rw[iz hgr]at hz';cases hz';show look (iZ r.c.upd z.2++_) i=some B;rw[aG,pf _ _ (hur i hS),he i B hS hB];rfl
    · rw [hqp k hq] at hz;simp only[cond_true]at hz;rw[An]at hy hz;obtain⟨y',hy',hy⟩:=hy;obtain⟨z',hz',hz⟩:=hz;refine lq l (k+1) y' z' Y Z hqp hy hz (λi B hS hB=>?_) (rE z' hz') hn' hg';rw[v8 hy']at hB;rw[v8 hz']
      cases hx:cond (mem i r.c.kil.1) none ((look (iZ r.c.upd y.2) i).bind (Blk.aP r.c.kil))with
      | some b =>
        rw[hx]at hB;cases hm:mem i r.c.kil.1<;>simp only[hm,cond_true,cond_false]at hx⊢
        · obtain⟨b0,hb0,hb1⟩:=An.1 hx;rw[IH he _ i b0 hS hb0];simp only[Q9,hb1];exact hB
        · exact nomatch hx
      | none =>
        rw[hx,Option.none_or]at hB
        have hm:r.rD i:=Classical.byContradiction λh=>by rw[DR.mZ h]at hB;exact nomatch hB
        rw[Ae.2 (hf 0 r i rfl hm)];cases mem i r.c.kil.1<;>exact hB
theorem xl {b:DR}:∀{U:aK},PE b U=true->∀i,b.rD i->look U i=none
  |[],_,_,_=>rfl
  | (k, _) :: l, h, i, hi => by
    simp only[PE]at h;cases hk:(Nat.ble (k+1) b.n0||Nat.ble (b.n0+b.c.news.length) k)<;>rw[hk]at h
    · exact nomatch h
    · rw[ay,if_neg,xl h i hi];intro e;subst e;obtain⟨h1,h2⟩:=hi;rw[SL]at hk
      rcases hk with hk|hk<;>have:=Rb hk<;>omega
theorem ib {a b:DR} (h:Fh a b=true):a.c.kil.2=[]/\b.c.kil.2=[]/\((b.c.upd=[]/\∀i,b.rD i->look a.c.upd i=none)\/(a.c.upd=[]/\∀i,a.rD i->look b.c.upd i=none)):=by
 simp only[Fh,QX,SL]at h;have h:=h.1;refine⟨ek h.1.1,ek h.1.2,?_⟩
 rcases h.2 with h|h
 ·exact .inl ⟨ek h.1,xl h.2⟩
 ·exact .inr ⟨ek h.1,xl h.2⟩
theorem xm {i:Nat}:∀(u:aK) {h h':aK},look h i=look h' i->look (iZ u h) i=look (iZ u h') i
 |[],_,_,e=>e
 |(k,b)::l,h,h',e=>by
  simp only[iZ];exact xm l (by rw[jE,jE,e])
theorem Du {a b:DR} (h:Fh a b=true):Mk b.see a.c.upd=false/\Mk a.see b.c.upd=false:=by
 simp only[Fh,QX,SW]at h;exact h.2
theorem Dv {L:List Nat}:∀{U:aK},Mk L U=false->∀i,mem i L=true->look U i=none
  |[],_,_,_=>rfl
  | (k, b) :: l, h, i, hi => by
    simp only[Mk]at h;cases hk:mem k L<;>simp only[hk,cond_true,cond_false]at h
    · rw[ay,if_neg (λe=>by subst e;rw[hi]at hk;exact nomatch hk)];exact Dv h i hi
    · exact nomatch h
theorem nP {h:aK} {i:Nat} {B:Blk}:∀{L:List Nat},look (vj h L) i=some B->mem i L=true/\look h i=some B
 |[],e=>nomatch e
 |k::l,e=>by
  simp only[vj]at e
  cases hk:look h k with
  |none=>
   rw[hk]at e;obtain⟨g1,g2⟩:=nP e
   exact⟨by simp only[mem];cases Nat.beq k i<;>simp[g1],g2⟩
  |some b=>
   rw[hk]at e;rw[ay]at e;by_cases c:k=i
   ·subst c;rw[if_pos rfl]at e;cases e;exact⟨by simp[mem],hk⟩
   ·rw[if_neg c]at e;obtain⟨g1,g2⟩:=nP e;exact⟨by simp only[mem];cases Nat.beq k i<;>simp[g1],g2⟩
theorem not_false {b:Bool} (h:(!b)=true):b=false:=by cases b<;>first|rfl|exact nomatch h
mutual
theorem uj {T:Kil}:(v:SV)->v.JE T=true->v.aP T=v
 |.r d x,h=>by rw[SV.aP,not_false h];rfl
 |.own j,h=>by rw[SV.aP,not_false h];rfl
 |.sub j o n,h=>by rw[SV.aP,not_false h];rfl
 |.bsl j n,h=>by rw[SV.aP,not_false h];rfl
 |.ptr j x o,h=>by rw[SV.aP,not_false h];rfl
 |.inn j x c,h=>by rw[SV.aP,not_false h];rfl
 |.kh d cs,h=>by rw[SV.aP,not_false h];rfl
 |.agg cs,h=>by rw[SV.aP,jf cs h]
 |.tup cs,h=>by rw[SV.aP,jf cs h]
 |.fn f a b,h=>by
  simp only[SV.JE,QX]at h
  rw[SV.aP,jf a h.1,jf b h.2]
 |.cr,_=>rfl
 |.oW,_=>rfl
 |.undef,_=>rfl
theorem jf {T:Kil}:(l:List SV)->wR T l=true->ia T l=l
 |[],_=>rfl
 |v::l,h=>by
  simp only[wR,QX]at h;rw[ia,uj v h.1,jf l h.2]
end
theorem Hi {c:CR} (h:c.kil.2=[]):c.kil=([],[]):=by
 unfold CR.kil at h⊢;rw[List.append_eq_nil_iff]at h;rw[h.1,h.2];rfl
mutual
theorem Af (T U:Kil):(v:SV)->(v.aP T).aP U=(v.aP U).aP T
 |.r d x=>by
  simp only[SV.aP]
  cases h1:hit T.2 d<;>cases h2:hit U.2 d<;>simp only[cond_true,cond_false,SV.aP,h1,h2]
 |.own j=>by
  simp only[SV.aP]
  cases h1:mem j T.1<;>cases h2:mem j U.1<;>simp only[cond_true,cond_false,SV.aP,h1,h2]
 |.sub j o n=>by
  simp only[SV.aP]
  cases h1:mem j T.1<;>cases h2:mem j U.1<;>simp only[cond_true,cond_false,SV.aP,h1,h2]
 |.bsl j n=>by
  simp only[SV.aP]
  cases h1:mem j T.1<;>cases h2:mem j U.1<;>simp only[cond_true,cond_false,SV.aP,h1,h2]
 |.ptr j x o=>by
  simp only[SV.aP]
  cases h1:mem j T.1<;>cases h2:mem j U.1<;>simp only[cond_true,cond_false,SV.aP,h1,h2]
 |.inn j x c=>by
  simp only[SV.aP]
  cases h1:(mem j T.1||mem j T.2)<;>cases h2:(mem j U.1||mem j U.2)<;>simp only[cond_true,cond_false,SV.aP,h1,h2]
 |.kh d cs=>by
  simp only[SV.aP]
  cases h1:hit T.2 d<;>cases h2:hit U.2 d<;>simp only[cond_true,cond_false,SV.aP,h1,h2]
 |.agg cs=>by simp only[SV.aP,lr T U cs]
 |.tup cs=>by simp only[SV.aP,lr T U cs]
 |.fn f a b=>by simp only[SV.aP,lr T U a,lr T U b]
 |.cr=>rfl
 |.oW=>rfl
 |.undef=>rfl
theorem lr (T U:Kil):(l:List SV)->ia U (ia T l)=ia T (ia U l)
 |[]=>rfl
 |v::l=>by simp only[ia,Af T U v,lr T U l]
end
variable {cm:DR->Bool}
theorem eN {r:DR} (h:fN cm r=true):cm r=true/\r.c.kil.2=[]/\r.c.upd=[]/\r.c.news=[]:=by
 simp only[fN,QX]at h;exact⟨h.2.2.2,ek h.1,ek h.2.1,ek h.2.2.1⟩
theorem Ag {b a:DR} (h:Ij b a=true):a.c.v.aP b.c.kil=a.c.v:=by
 simp only[Ij,QX]at h;exact uj _ h.1
theorem Hj {T:Kil} {u:SV}:∀{l:List SV},wR T l=true->u∈l->u.JE T=true
 |[],_,h=>nomatch h
 |v::l,h,hu=>by
  simp only[wR,QX]at h
  rcases Rk.1 hu with rfl|hu
  ·exact h.1
  ·exact Hj h.2 hu
theorem Hk {b a:DR} (h:Ij b a=true):∀u∈a.Mi,u.aP b.c.kil=u:=by
 intro u hu;simp only[Ij,QX]at h;exact uj _ (Hj h.2 hu)
theorem sD {b a:DR} (h:b.c.kil.2=[]):a.c.v.aP b.c.kil=a.c.v:=by rw[Hi h];exact dn _
theorem fi {a b:DR} (h:qZ cm a b=true):
  (fN cm a=true/\a.c.v.aP b.c.kil=a.c.v)\/(fN cm b=true/\b.c.v.aP a.c.kil=b.c.v)\/(fN cm a=false/\fN cm b=false/\Fh a b=true):=by
 simp only[qZ,SL,QX]at h
 rcases h with h|⟨h2,h1⟩|⟨h2,h1⟩
 ·obtain⟨k1,k2,_⟩:=ib h;cases ha:fN cm a
  ·cases hb:fN cm b
   ·exact .inr (.inr ⟨rfl,rfl,h⟩)
   ·exact .inr (.inl ⟨rfl,sD k1⟩)
  ·exact .inl ⟨rfl,sD k2⟩
 ·exact .inl ⟨h1,Ag h2⟩
 ·exact .inr (.inl ⟨h1,Ag h2⟩)
theorem Hl {a b:DR} (h:qZ cm a b=true):
  (fN cm a=true->∀u∈a.Mi,u.aP b.c.kil=u)/\(fN cm b=true->∀u∈b.Mi,u.aP a.c.kil=u):=by
 have nl:∀{c:DR} (v:SV),c.c.kil.2=[]->v.aP c.c.kil=v:=λ{c} v h=>by rw[Hi h];exact dn _
 simp only[qZ,SL,QX]at h
 rcases h with h|⟨h2,h1⟩|⟨h2,h1⟩
 ·obtain⟨k1,k2,_⟩:=ib h;exact⟨λ_ u _=>nl u k2,λ_ u _=>nl u k1⟩
 ·exact⟨λ_=>Hk h2,λ_ u _=>nl u (eN h1).2.1⟩
 ·exact⟨λ_ u _=>nl u (eN h1).2.1,λ_=>Hk h2⟩
theorem qh {r:DR} (h:fN cm r=true) (x:SH):r.app x=some (G1 x.1 r.dst r.c.v,x.2):=by
 obtain⟨_,h1,h2,h3⟩:=eN h;rw[iz h1,h2,h3];simp only[iZ,aO,RA]
theorem pg {r:DR} {x x' y:SH} (e:x.2=x'.2) (h:r.app x=some y):∃y',r.app x'=some y'/\y.2=y'.2:=by
 unfold DR.app at h⊢;simp only[An,It]at h;obtain⟨hh,h1,rfl⟩:=h;rw[<-e,h1];exact⟨_,rfl,rfl⟩
def BP (x y:SH):Prop:=xj x.1 y.1/\x.2=y.2
theorem BP.same {x y:SH} (h:BP x y):Dt x y:=⟨h.1,λt=>by rw[h.2]⟩
theorem Ks {r:DR} {x y:SH} (e:BP x y) {x':SH} (h:r.app x=some x'):∃y',r.app y=some y'/\BP x' y':=by
 obtain⟨y',h1,h2⟩:=pg e.2 h;refine⟨y',h1,λt=>?_,h2⟩;rw[dA h,dA h1,dz,dz,dc r.c.fO,dc r.c.fO,e.1 t]
theorem ph {p:Nat->Bool}:∀(l:List DR) (k:Nat) (x y X:SH),BP x y->replay p k l x=some X->∃Y,replay p k l y=some Y/\BP X Y
 |[],_,x,y,X,e,h=>by cases h;exact⟨y,rfl,e⟩
 |r::l,k,x,y,X,e,h=>by
  simp only[replay]at h⊢;cases hp:p k<;>simp only[hp,cond_false,cond_true]at h⊢
  ·exact ph l (k+1) x y X e h
  ·rw[An]at h;obtain⟨x',hx',h⟩:=h;obtain⟨y',hy',e'⟩:=Ks e hx';rw[hy'];exact ph l (k+1) x' y' X e' h
theorem lu {p p':Nat->Bool}:∀(l:List DR) (k:Nat) (x x' X:SH),(∀(j:Nat) (r:DR),l[j]? =some r->p (k+j)≠p' (k+j)->fN cm r=true)->x.2=x'.2->replay p k l x=some X->
  ∃X',replay p' k l x'=some X'/\X.2=X'.2
 |[],_,x,x',X,_,e,h=>by cases h;exact⟨x',rfl,e⟩
 |r::l,k,x,x',X,hd,e,h=>by
  have hd':∀(j:Nat) (r:DR),l[j]? =some r->p (k+1+j)≠p' (k+1+j)->fN cm r=true:=λj r h1 h2=>hd (j+1) r (by simpa using h1) (by rwa [show k+(j+1)=k+1+j from by omega]);have h0:=hd 0 r rfl;rw[Rw]at h0;simp only[replay]at h⊢;cases hp:p k<;>cases hp':p' k<;>simp only[hp,cond_false,cond_true]at h⊢
  ·exact lu l (k+1) x x' X hd' e h
  ·rw[qh (h0 (by rw[hp,hp'];exactλh=>nomatch h)),Q9];exact lu l (k+1) x (G1 x'.1 r.dst r.c.v,x'.2) X hd' e h
  ·rw[qh (h0 (by rw[hp,hp'];exactλh=>nomatch h)),Q9]at h;exact lu l (k+1) (G1 x.1 r.dst r.c.v,x.2) x' X hd' e h
  ·rw[An]at h;obtain⟨y,hy,h⟩:=h;obtain⟨y',h1,h2⟩:=pg e hy;rw[h1,Q9];exact lu l (k+1) y y' X hd' h2 h
def rm:List Kil->SV->SV
 |[],v=>v
 |T::l,v=>rm l (v.aP T)
theorem II (l l':List Kil) (v:SV):rm (l++l') v=rm l' (rm l v):=by
 induction l generalizing v with
 |nil=>rfl
 |cons T l ih=>exact ih _
theorem FG (T:Kil) (l:List Kil) (v:SV):(rm l v).aP T=rm l (v.aP T):=by
 induction l generalizing v with
 |nil=>rfl
 |cons U l ih=>simp only[rm];rw[ih,Af]
theorem FH {l:List Kil} {v:SV} (h:∀T∈l,v.aP T=v):rm l v=v:=by
 induction l with
 |nil=>rfl
 |cons U l ih=>simp only[rm];rw[h U (by simp)];exact ih λT hT=>h T (by simp[hT])
theorem nQ {q p:Nat->Bool} {t:Nat} {v:SV}:∀(l:List DR) (k:Nat) (y z Y Z:SH),(∀j,q j=true->p j=true)->replay q k l y=some Y->replay p k l z=some Z->look Y.1 t=some v->
  (∀(j:Nat) (r:DR),l[j]? =some r->p (k+j)=true->q (k+j)=false->r.dst≠some t/\v.aP r.c.kil=v)->
  (∀u,look y.1 t=some u->∃Ts,look z.1 t=some (rm Ts u)/\∀T∈Ts,v.aP T=v)->look Z.1 t=some v
 |[],_,y,z,Y,Z,_,hy,hz,hv,_,hi=>by
  cases hy;cases hz;obtain⟨Ts,h1,h2⟩:=hi v hv
  rw[h1,FH h2]
 |r::l,k,y,z,Y,Z,hqp,hy,hz,hv,hd,hi=>by
  simp only[replay]at hy hz;have hd':∀(j:Nat) (r:DR),l[j]? =some r->p (k+1+j)=true->q (k+1+j)=false->r.dst≠some t/\v.aP r.c.kil=v:=λj r h1 h2 h3=>hd (j+1) r (by simpa using h1) (by rwa [show k+(j+1)=k+1+j from by omega]) (by rwa [show k+(j+1)=k+1+j from by omega]);cases hq:q k<;>simp only[hq,cond_false,cond_true]at hy
  ·cases hp:p k<;>simp only[hp,cond_false,cond_true]at hz
   ·exact nQ l (k+1) y z Y Z hqp hy hz hv hd' hi
   ·rw[An]at hz;obtain⟨z',hz',hz⟩:=hz;obtain⟨g1,g2⟩:=hd 0 r rfl (by simpa using hp) (by simpa using hq);refine nQ l (k+1) y z' Y Z hqp hy hz hv hd' λu hu=>?_;obtain⟨Ts,h1,h2⟩:=hi u hu;refine⟨Ts++[r.c.kil],?_,λT hT=>?_⟩
    ·rw[dA hz',dz,if_neg g1,dc r.c.fO,h1,II];rfl
    ·rcases Sg.1 hT with h|h
     ·exact h2 T h
     ·simp at h;subst h;exact g2
  ·rw[hqp k hq]at hz;simp only[cond_true]at hz;rw[An]at hy hz;obtain⟨y',hy',hy⟩:=hy;obtain⟨z',hz',hz⟩:=hz;refine nQ l (k+1) y' z' Y Z hqp hy hz hv hd' λu hu=>?_;rw[dA hy',dz,dc r.c.fO]at hu;rw[dA hz',dz,dc r.c.fO];by_cases c:r.dst=some t
   ·rw[if_pos c]at hu⊢;cases hu;exact⟨[],rfl,by simp⟩
   ·rw[if_neg c]at hu⊢;obtain⟨u0,hu0,rfl⟩:=Q2.1 hu;obtain⟨Ts,h1,h2⟩:=hi u0 hu0;exact⟨Ts,by rw[h1,Sc,FG],h2⟩
theorem nR {q:Nat->Bool} {t:Nat} {v:SV}:∀(l:List DR) (k:Nat) (y Y:SH),replay q k l y=some Y->look Y.1 t=some v->(∃u,look y.1 t=some u)\/∃(j:Nat) (r:DR),l[j]? =some r/\q (k+j)=true/\r.dst=some t
  |[],_,y,Y,h,hv=>by cases h;exact .inl ⟨v,hv⟩
  | r :: l, k, y, Y, h, hv => by
    simp only[replay]at h;cases hq:q k<;>simp only[hq,cond_false,cond_true]at h
    · rcases nR l (k+1) y Y h hv with h'|⟨j,r',h1,h2,h3⟩
      · exact .inl h'
      · exact .inr ⟨j+1,r',by simpa using h1,by rwa [show k+(j+1)=k+1+j from by omega],h3⟩
    · rw [An] at h;obtain⟨y',hy',h⟩:=h
      rcases nR l (k+1) y' Y h hv with⟨u,hu⟩|⟨j,r',h1,h2,h3⟩
      · rw[dA hy',dz,dc r.c.fO]at hu;by_cases c:r.dst=some t
        · exact .inr ⟨0,r,rfl,hq,c⟩
        · rw[if_neg c]at hu;obtain⟨u0,hu0,_⟩:=Q2.1 hu;exact .inl ⟨u0,hu0⟩
      · exact .inr ⟨j+1,r',by simpa using h1,by rwa [show k+(j+1)=k+1+j from by omega],h3⟩
theorem Kt {a b:DR} (ha:fN cm a=true) (hf:a.c.v.aP b.c.kil=a.c.v) (hd:∀t,a.dst=some t->b.dst≠some t) {x y z:SH} (hy:b.app x=some y) (hz:a.app y=some z):
  ∃y' z',a.app x=some y'/\b.app y'=some z'/\BP z z':=by
 rw[qh ha]at hz;cases hz;obtain⟨z',h1,h2⟩:=pg (x:=x) (x':=(G1 x.1 a.dst a.c.v,x.2)) rfl hy;refine⟨_,z',qh ha x,h1,λt=>?_,h2⟩;rw[dA h1,dA hy];simp only[dz,dc b.c.fO];by_cases c:a.dst=some t
 ·rw[if_pos c,if_neg (hd t c),if_pos c,Sc,hf]
 ·simp only[if_neg c]
theorem IJ {a b:DR} (hb:fN cm b=true) (hf:b.c.v.aP a.c.kil=b.c.v) (hd:∀t,a.dst=some t->b.dst≠some t) {x y z:SH} (hy:b.app x=some y) (hz:a.app y=some z):
  ∃y' z',a.app x=some y'/\b.app y'=some z'/\BP z z':=by
 rw[qh hb]at hy;cases hy;obtain⟨y',h1,h2⟩:=pg (x:=(G1 x.1 b.dst b.c.v,x.2)) (x':=x) rfl hz;refine⟨y',_,h1,qh hb y',λt=>?_,h2⟩;rw[dA h1,dA hz];simp only[dz,dc a.c.fO];by_cases c:a.dst=some t
 ·simp only[if_pos c,if_neg (hd t c)]
 ·simp only[if_neg c];by_cases c':b.dst=some t
  ·simp only[if_pos c',Sc,hf]
  ·simp only[if_neg c']
theorem comm {a b:DR} (h:Fh a b=true) (hd:∀t,a.dst=some t->b.dst≠some t) (hm:∀i,a.rD i->¬b.rD i) {x y z:SH} (hy:b.app x=some y) (hz:a.app y=some z):
  ∃y' z',a.app x=some y'/\b.app y'=some z'/\Dt z z':=by
 obtain⟨ga,gb,hu⟩:=ib h;rw[iz gb]at hy;cases hy;rw[iz ga]at hz;cases hz;refine⟨_,_,iz ga x,iz gb _,λt=>?_,λi=>?_⟩
 ·simp only[dz];by_cases c:a.dst=some t
  ·rw[if_pos c,if_neg (hd t c),if_pos c]
  ·rw[if_neg c];by_cases c':b.dst=some t
   ·rw[if_pos c',if_pos c']
   ·rw[if_neg c',if_neg c',if_neg c]
 ·have swap:(look (aO b.n0 b.c.news) i).or (look (aO a.n0 a.c.news) i)=(look (aO a.n0 a.c.news) i).or (look (aO b.n0 b.c.news) i):=by
   by_cases c:a.rD i
   ·rw[DR.mZ (hm i c)];simp
   ·rw[DR.mZ c];simp
  have past:∀(r:DR) (u:aK),(∀i,r.rD i->look u i=none)->look (iZ u (x.2++aO r.n0 r.c.news)) i=(look (iZ u x.2) i).or (look (aO r.n0 r.c.news) i):=λr u hr=>by
   by_cases c:r.rD i
   ·rw[pf _ _ (hr i c),pf _ _ (hr i c),aG]
   ·rw[DR.mZ c,RX];exact xm u (by rw[aG,DR.mZ c,RX])
  rcases hu with⟨u1,u2⟩|⟨u1,u2⟩
  ·simp only[u1,iZ,aG,Option.or_assoc];rw[past b _ u2,Option.or_assoc,swap]
  ·simp only[u1,iZ,aG,Option.or_assoc];rw[past a _ u2,Option.or_assoc,swap]
theorem rF {p:Nat->Bool}:∀(l:List DR) (k:Nat) (x y X:SH),(∀(j:Nat) (r:DR),l[j]? =some r->p (k+j)=true->r.c.kil.2=[])->Dt x y->replay p k l x=some X->∃Y,replay p k l y=some Y/\Dt X Y
 |[],_,x,y,X,_,e,h=>by cases h;exact⟨y,rfl,e⟩
 |r::l,k,x,y,X,hg,e,h=>by
  have hg':∀(j:Nat) (r:DR),l[j]? =some r->p (k+1+j)=true->r.c.kil.2=[]:=λj r h1 h2=>hg (j+1) r (by simpa using h1) (by rwa [show k+(j+1)=k+1+j from by omega]);simp only[replay]at h⊢;cases hp:p k<;>simp only[hp,cond_false,cond_true]at h⊢
  ·exact rF l (k+1) x y X hg' e h
  ·rw[An]at h;obtain⟨x',hx',h⟩:=h;obtain⟨y',hy',e'⟩:=My (hg 0 r rfl (by simpa using hp)) e hx';rw[hy'];exact rF l (k+1) x' y' X hg' e' h
theorem mH {p:Nat->Bool} {a:DR} (hi:fN cm a=true):∀(l:List DR) (k:Nat) (x X X':SH),
  (∀(j:Nat) (r:DR),l[j]? =some r->p (k+j)=true->a.c.v.aP r.c.kil=a.c.v/\(∀t,a.dst=some t->r.dst≠some t))->
  replay p k l x=some X->a.app X=some X'->∃x' X'',a.app x=some x'/\replay p k l x'=some X''/\BP X' X''
 |[],_,x,X,X',_,h,ha=>by cases h;exact⟨X',X',ha,rfl,λ_=>rfl,rfl⟩
 |r::l,k,x,X,X',hc,h,ha=>by
  have hc':∀(j:Nat) (r:DR),l[j]? =some r->p (k+1+j)=true->a.c.v.aP r.c.kil=a.c.v/\(∀t,a.dst=some t->r.dst≠some t):=λj r h1 h2=>hc (j+1) r (by simpa using h1) (by rwa [show k+(j+1)=k+1+j from by omega]);simp only[replay]at h⊢;cases hp:p k<;>simp only[hp,cond_false,cond_true]at h⊢
  ·exact mH hi l (k+1) x X X' hc' h ha
  ·rw[An]at h;obtain⟨y,hy,h⟩:=h;obtain⟨y',Y'',h1,h2,h3⟩:=mH hi l (k+1) y X X' hc' h ha;obtain⟨c1,c2⟩:=hc 0 r rfl (by simpa using hp);obtain⟨x',z',g1,g2,g3⟩:=Kt hi c1 c2 hy h1;obtain⟨W,w1,w2⟩:=ph l (k+1) y' z' Y'' g3 h2;exact⟨x',W,g1,by rw[g2];exact w1,λt=>(h3.1 t).trans (w2.1 t),h3.2.trans w2.2⟩
theorem mI {p:Nat->Bool} {a:DR} (hi:fN cm a=false):∀(l:List DR) (k:Nat) (x X X':SH),
    (∀(j:Nat) (r:DR),l[j]? =some r->p (k+j)=true->qZ cm a r=true/\(∀t,a.dst=some t->r.dst≠some t)/\∀i,a.rD i->¬r.rD i)->
    replay p k l x=some X->a.app X=some X'->∃x' X'',a.app x=some x'/\replay p k l x'=some X''/\Dt X' X''
  |[],_,x,X,X',_,h,ha=>by cases h;exact⟨X',X',ha,rfl,Dt.refl _⟩
  | r :: l, k, x, X, X', hc, h, ha => by
    have hc':∀(j:Nat) (r:DR),l[j]? =some r->p (k+1+j)=true->qZ cm a r=true/\(∀t,a.dst=some t->r.dst≠some t)/\∀i,a.rD i->¬r.rD i:=λj r h1 h2=>hc (j+1) r (by simpa using h1) (by rwa [show k+(j+1)=k+1+j from by omega])
    have kil0:∀(r:DR),qZ cm a r=true->r.c.kil.2=[]:=λr h=>by
      rcases fi h with⟨h1,_⟩|⟨h1,_⟩|⟨_,_,h1⟩
      · rw[hi]at h1;exact nomatch h1
      · exact(eN h1).2.1
      · exact(ib h1).2.1
    simp only[replay]at h⊢;cases hp:p k<;>simp only[hp,cond_false,cond_true]at h⊢
    · exact mI hi l (k+1) x X X' hc' h ha
    · rw [An] at h;obtain⟨y,hy,h⟩:=h;obtain⟨y',Y'',h1,h2,h3⟩:=mI hi l (k+1) y X X' hc' h ha;obtain⟨c1,c2,c3⟩:=hc 0 r rfl (by simpa using hp)
      have hcm:∃y'' z',a.app x=some y''/\r.app y''=some z'/\Dt y' z':=by
        rcases fi c1 with⟨h1',_⟩|⟨h1',h2'⟩|⟨_,_,h1'⟩
        · rw[hi]at h1';exact nomatch h1'
        · obtain⟨u1,u2,u3,u4,u5⟩:=IJ h1' h2' c2 hy h1;exact⟨u1,u2,u3,u4,u5.same⟩
        · exact comm h1' c2 c3 hy h1
      obtain⟨x',z',g1,g2,g3⟩:=hcm;obtain⟨W,w1,w2⟩:=rF l (k+1) y' z' Y'' (λj r h1 h2=>kil0 r (hc' j r h1 h2).1) g3 h2;exact⟨x',W,g1,by rw[g2];exact w1,h3.trans w2⟩
theorem BQ {p:Nat->Bool} {a:DR} (l:List DR) (k:Nat) (x X X':SH)
  (hc:∀(j:Nat) (r:DR),l[j]? =some r->p (k+j)=true->qZ cm a r=true/\(∀t,a.dst=some t->r.dst≠some t)/\∀i,a.rD i->¬r.rD i)
  (h:replay p k l x=some X) (ha:a.app X=some X'):∃x' X'',a.app x=some x'/\replay p k l x'=some X''/\Dt X' X'':=by
 cases hi:fN cm a with
 |false=>exact mI hi l k x X X' hc h ha
 |true=>
  obtain⟨u1,u2,u3,u4,u5⟩:=mH hi l k x X X' (λj r h1 h2=>by
   obtain⟨c1,c2,_⟩:=hc j r h1 h2;refine⟨?_,c2⟩
   rcases fi c1 with⟨_,h⟩|⟨h,_⟩|⟨h,_,_⟩
   ·exact h
   ·exact sD (eN h).2.1
   ·rw[hi]at h;exact nomatch h) h ha
  exact⟨u1,u2,u3,u4,u5.same⟩
theorem BR {p p':Nat->Bool} {l:List DR} {i:Nat} {a:DR} {x X X':SH} (hi:l[i]? =some a) (hpi:p i=false) (hpi':p' i=true) (hpp:∀j,j≠i->p' j=p j)
  (hc:∀(j:Nat) (r:DR),i<j->l[j]? =some r->p j=true->qZ cm a r=true/\(∀t,a.dst=some t->r.dst≠some t)/\∀i,a.rD i->¬r.rD i)
  (h:replay p 0 l x=some X) (ha:a.app X=some X'):∃X'',replay p' 0 l x=some X''/\Dt X' X'':=by
 have hlt:=(Of.1 hi).1
 have hsplit:l=l.take i++a::l.drop (i+1):=by
  conv=>lhs;rw[<-Sa i l]
  rw[List.drop_eq_getElem_cons hlt,(Of.1 hi).2]
 have hl:(l.take i).length=i:=by simp;omega
 rw[hsplit,eo,An]at h;obtain⟨y,hy,h⟩:=h;rw[hl,Q8]at h;simp only[replay,hpi,cond_false]at h;obtain⟨y',X'',g1,g2,g3⟩:=BQ (l.drop (i+1)) (i+1) y X X' (λj r h1 h2=>hc (i+1+j) r (by omega) (by rwa [Rc]at h1) h2) h ha;refine⟨X'',?_,g3⟩;rw[hsplit,eo,hl,Q8];rw[jF (q:=p) (l.take i) 0 x λj hj=>by rw[hl]at hj;rw[Q8];exact hpp j (by omega),hy];simp only[Q9,replay,hpi',cond_true,g1];rw[jF (q:=p) (l.drop (i+1)) (i+1) y' λj hj=>hpp _ (by omega)];exact g2
theorem rG {p:Nat->Bool} {t:Nat} {x0:SV} (hx0:∀T,x0.aP T=x0):∀(l:List DR) (k:Nat) (x X:SH),replay p k l x=some X->(∀(j:Nat) (r:DR),l[j]? =some r->r.dst≠some t)->look x.1 t=some x0->look X.1 t=some x0
 |[],_,x,X,h,_,hx=>by cases h;exact hx
 |r::l,k,x,X,h,hd,hx=>by
  have hd':∀(j:Nat) (r:DR),l[j]? =some r->r.dst≠some t:=λj r h1=>hd (j+1) r (by simpa using h1);simp only[replay]at h;cases hp:p k<;>simp only[hp,cond_false,cond_true]at h
  ·exact rG hx0 l (k+1) x X h hd' hx
  ·rw[An]at h;obtain⟨y,hy,h⟩:=h;refine rG hx0 l (k+1) y X h hd' ?_;rw[dA hy,dz,if_neg (hd 0 r rfl)];rw[dc r.c.fO,hx,Sc,hx0]
end
section
variable [Tok]
def Rl (w0:World) (fp0:G0) (bs:Cell->Prop) (n:Nat) (st:St) (a:Act) (w:World):Prop:=∃pl,Rel w0 fp0 st pl a w/\pl.base=bs/\st.n=n
section
variable {w:World} {H H':aK} {pl:Pl}
theorem Ah (e:xj H' H):lj ([],[]) w H pl w H' pl:=
 ⟨λi B hB _=>⟨B,(e i).trans hB,B.dm,rfl⟩,λd p u _ h hp=>⟨⟨h.1,λi B hB=>h.2 i B ((e i).symm.trans hB)⟩,hp⟩⟩
theorem cN.same (e:xj H' H) (h:cN H pl w):cN H' pl w:=
  ⟨λi B hB=>(h.blk i B ((e i).symm.trans hB)).bR (Ah e) rfl (λ_=>TL) (λp u _ hu=>⟨hu,rfl⟩) B.dn,
   λi j B B' p h1 h2=>h.dis i j B B' p ((e i).symm.trans h1) ((e j).symm.trans h2),λi B p hB=>h.ob i B p ((e i).symm.trans hB),h.nb⟩
theorem Rel.congr {w0:World} {fp0:G0} {s s':List (Nat× SV)} {nid n:Nat} {gh:List (Option Nat)} {a:Act} (h:Rel w0 fp0 ⟨s,H,nid,n,gh⟩ pl a w) (hs:∀t v,look s' t=some v->look s t=some v) (e:xj H' H):
    Rel w0 fp0 ⟨s',H',nid,n,gh⟩ pl a w:=
  ⟨h.hr.same e,λt v hv=>(h.sl t v (hs t v hv)).vM (Ah e),h.sz,h.df,λi hi=>(e i).trans (h.fresh i hi),h.gr,λp u hp hn=>by
    obtain⟨g1,g2,g3⟩:=h.fr p u hp hn
    exact⟨λi B hB=>g1 i B ((e i).symm.trans hB),g2,g3⟩,λk i hi=>⟨(h.gk k i hi).1,λB hB=>(h.gk k i hi).2 B ((e i).symm.trans hB)⟩⟩
end
theorem BS {h:aK} {k i:Nat} {b B:Blk} (e:look (Ig h k b) i=some B):∃B',look h i=some B':=by
 induction h with
 |nil=>simp[Ig,look]at e
 |cons x l ih=>
  obtain⟨k',u⟩:=x;rw[ay];by_cases c:k'=i
  ·exact⟨u,by simp[c]⟩
  ·rw[if_neg c];simp only[Ig]at e;cases hb:Nat.beq k' k<;>simp only[hb,cond_true,cond_false]at e
   ·rw[ay,if_neg c]at e;exact ih e
   ·rw[ay,if_neg (by have:=QW hb;omega)]at e;exact⟨B,e⟩
theorem rn:∀{l h:aK} {i:Nat} {B:Blk},look (iZ l h) i=some B->∃B',look h i=some B'
 |[],h,i,B,e=>⟨B,e⟩
 |(k,b)::l,h,i,B,e=>by
  simp only[iZ]at e;obtain⟨B',hB'⟩:=rn e;exact BS hB'
theorem Rel.app {w0:World} {fp0:G0} {X X':SH} {nid n:Nat} {gh:List (Option Nat)} {pl pl':Pl} {a:Act} {w w':World} {r:DR} {H':aK} {u:Value}
  (h:Rel w0 fp0 ⟨X.1,X.2,nid,n,gh⟩ pl a w) (hx:r.app X=some X') (hup:∀i B,look r.c.upd i=some B->∃B',look X.2 i=some B')
  (hd:∀t,r.dst=some t->t+1<=n) (hg:∀(k i:Nat),gh[k]? =some (some i)->i<r.n0) (hn:r.n0+r.c.news.length<=nid) (ha:after X.2 r.n0 r.c=some H') (hs:cY X.2 H' r.c.kil pl pl' w w') (hv:aq w' H' pl' r.c.v u):
  Rel w0 fp0 ⟨X'.1,X'.2,nid,n,gh⟩ pl' (a.put r.dst u) w':=by
 have hsame:xj X'.2 H':=by
  unfold DR.app at hx;unfold after at ha;rw[ui hup]at ha;simp only[An,It]at hx ha;obtain⟨h1,e1,rfl⟩:=hx;obtain⟨h2,e2,rfl⟩:=ha;rw[e1]at e2;cases e2;exactλ_=>rfl
 have hfr:∀i,nid<=i->look H' i=none:=λi hi=>by
  rw[<-hsame i]
  cases hq:look X'.2 i with
  |none=>rfl
  |some B=>
   rcases m7 (p:=λ_=>true) [r] 0 X X' (by simp[replay,hx]) i B hq with⟨B',hB'⟩|⟨j',r2,g1,_,g3⟩
   ·have:=h.fresh i hi;rw[hB']at this;exact nomatch this
   ·cases j' with
    |zero=>simp at g1;subst g1;have:=g3.2;omega
    |succ j'=>simp at g1
 have hsl:gy w' H' pl' (nH r.c.kil X.1) a:=h.sl.bR r.c.fO hs.kp
 have hsl2:gy w' H' pl' X'.1 (a.put r.dst u):=by
  rw[dA hx]
  cases hdst:r.dst with
  |none=>exact hsl
  |some t=>
   have ht:=hd t hdst;exact gy.put (n:=n) (dst:=some t) hsl h.sz (by simp only[Pv,G1];rw[show Nat.ble (t+1) n=true from Sb ht];rfl) hv
 exact Rel.congr (s:=X'.1) (H:=H') ⟨hs.hr,hsl2,by rw[Act.BF];exact h.sz,by rw[Act.J7];exact h.df,hfr,h.gr.trans hs.gr,λp q hp hno=>by
  obtain⟨g1,g2,g3⟩:=h.fr p q hp hno;obtain⟨f1,f2,f3⟩:=hs.fr p q g2 g1
  exact⟨f1,f2,f3.trans g3⟩,h.gk.step hs.kp (Rd _) λk i B hki hB=>by
   have hi:=hg k i hki;rw[<-hsame i]at hB;unfold DR.app at hx;simp only[An,It]at hx;obtain⟨h1,e1,rfl⟩:=hx;rw[aG,bp,if_neg (by omega),RX,cQ r.c.fO e1 i]at hB;cases hm:mem i r.c.kil.1<;>simp only[hm,cond_true,cond_false]at hB
   ·obtain⟨B1,hB1,_⟩:=An.1 hB;exact⟨rfl,rn hB1⟩
   ·exact nomatch hB⟩ (λ_ _ h=>h) hsame
theorem uk (acc:List Nat) (j:Nat):∀l:List Edge,(Dc acc l).testBit j=true↔∃e∈l,Region.binds .any e=true/\(j=e.on\/(acc.getD e.on 0).testBit j=true)
 |[]=>by simp[Dc]
 |e::l=>by
  simp only[Dc];cases hb:Region.binds .any e
  ·simp only[cond_false,uk acc j l,Rk,exists_eq_or_imp,hb,Sj,false_and,false_or]
  ·simp only[cond_true,Nat.testBit_or,Nat.testBit_two_pow,SL,decide_eq_true_eq,uk acc j l,Rk,exists_eq_or_imp,hb,true_and];constructor
   ·rintro ((h|h)|h)
    ·exact .inl (.inr h)
    ·exact .inl (.inl h.symm)
    ·exact .inr h
   ·rintro ((h|h)|h)
    ·exact .inl (.inr h.symm)
    ·exact .inl (.inl h)
    ·exact .inr h
theorem jG {n:Nat}:∀{l:List Edge},tU n l=true->∀e∈l,Region.binds .any e=true->e.on<n
 |[],_,e,he,_=>by simp at he
 |x::l,h,e,he,hb=>by
  simp only[tU]at h;cases hx:Region.binds .any x<;>simp only[hx,cond_true,cond_false]at h
  ·rcases Rk.1 he with rfl|he
   ·rw[hx]at hb;exact nomatch hb
   ·exact jG h e he hb
  ·cases hn:Nat.ble (x.on+1) n<;>simp only[hn,cond_true,cond_false]at h
   ·exact nomatch h
   ·rcases Rk.1 he with rfl|he
    ·exact Rb hn
    ·exact jG h e he hb
structure FI (ops:List Oper) (masks:List Nat):Prop where
 back:∀(i:Nat) (o:Oper),ops[i]? =some o->∀e∈o.after.toList,Region.binds .any e=true->e.on<i
 spec:∀(i:Nat) (o:Oper),ops[i]? =some o->∀j,(masks.getD i 0).testBit j=true↔∃e∈o.after.toList,Region.binds .any e=true/\(j=e.on\/(masks.getD e.on 0).testBit j=true)
theorem vk:∀(l:List Oper) (acc masks:List Nat),wQ acc l=some masks->(∃t,masks=acc++t)/\
  ∀(k:Nat) (o:Oper),l[k]? =some o->(∀e∈o.after.toList,Region.binds .any e=true->e.on<acc.length+k)/\
   ∀j,(masks.getD (acc.length+k) 0).testBit j=true↔∃e∈o.after.toList,Region.binds .any e=true/\(j=e.on\/(masks.getD e.on 0).testBit j=true)
 |[],acc,masks,h=>by cases h;exact⟨⟨[],by simp⟩,λk o ho=>by simp at ho⟩
 |x::l,acc,masks,h=>by
  simp only[wQ]at h;cases he:tU acc.length x.after.toList<;>simp only[he,cond_true,cond_false]at h
  ·exact nomatch h
  ·obtain⟨⟨t,ht⟩,hl⟩:=vk l _ masks h;refine⟨⟨Dc acc x.after.toList::t,by rw[ht];simp⟩,λk o ho=>?_⟩
   cases k with
   |zero=>
    simp at ho;subst ho;refine⟨jG he,λj=>?_⟩
    have hm:masks.getD (acc.length+0) 0=Dc acc x.after.toList:=by rw[ht];simp[List.getD]
    rw[hm,uk];constructor
    ·rintro ⟨e,h1,h2,h3⟩
     have hlt:=jG he e h1 h2;refine⟨e,h1,h2,h3.imp id λh3=>?_⟩;rw[ht];simpa[List.getD,Q0 hlt,Rj]using h3
    ·rintro ⟨e,h1,h2,h3⟩
     have hlt:=jG he e h1 h2;refine⟨e,h1,h2,h3.imp id λh3=>?_⟩
     rw[ht]at h3;simpa[List.getD,Q0 hlt,Rj]using h3
   |succ k=>
    have:=hl k o (by simpa using ho);simp only[Q5,Q4,Rs]at this;rwa [show acc.length+(0+1)+k=acc.length+(k+1)from by omega]at this
theorem Mz {ops:List Oper} {masks:List Nat} (h:wQ [] ops=some masks):FI ops masks:=by
 obtain⟨_,h2⟩:=vk ops [] masks h;exact⟨λi o ho=>by have:=(h2 i o ho).1;simpa using this,λi o ho=>by have:=(h2 i o ho).2;simpa using this⟩
theorem FI.closed {ops:List Oper} {masks:List Nat} (hm:FI ops masks) {p:Nat->Bool} (hp:∀(j:Nat) (o:Oper),ops[j]? =some o->p j=true->∀e∈o.after.toList,Region.binds .any e=true->p e.on=true):
  ∀(n i:Nat) (o:Oper),i<=n->ops[i]? =some o->(∀e∈o.after.toList,Region.binds .any e=true->p e.on=true)->∀j,(masks.getD i 0).testBit j=true->p j=true
 |n,i,o,hn,ho,he,j,hj=>by
  obtain⟨e,h1,h2,h3⟩:=(hm.spec i o ho j).1 hj
  rcases h3 with rfl|h3
  ·exact he e h1 h2
  ·have hlt:=hm.back i o ho e h1 h2
   have hol:e.on<ops.length:=by have:=(Of.1 ho).1;omega
   cases n with
   |zero=>omega
   |succ n=>exact hm.closed hp n e.on _ (by omega) (On hol) (λe' h1' h2'=>hp e.on _ (On hol) (he e h1 h2) e' h1' h2') j h3
theorem FI.lt {ops:List Oper} {masks:List Nat} (hm:FI ops masks) {i j:Nat} {o:Oper} (ho:ops[i]? =some o) (hj:(masks.getD i 0).testBit j=true):j<i:=
 of_decide_eq_true (hm.closed (p:=λj=>decide (j<i)) (λk o' ho' hk e h1 h2=>decide_eq_true (by have:=hm.back k o' ho' e h1 h2;have:=of_decide_eq_true hk;omega)) i i o (Rd _) ho
  (λe h1 h2=>decide_eq_true (hm.back i o ho e h1 h2)) j hj)
end
section
variable [Tok]
def Ku (h H:aK):Prop:=∀i B,look h i=some B->∃B',look H i=some B'/\B.lR B'
def Oj (P:Program) (o:Oper) (n:Nat) (c:CR) (s:List (Nat× SV)) (h:aK):Prop:=
 ∀(s':List (Nat× SV)) (H:aK) (a:Act) (w:World) (pl:Pl),Ext s s'->Ku h H->cN H pl w->gy w H pl s' a->(∀k,k<c.news.length->look H (n+k)=none)->kn P o a w H pl n c
theorem zC {P:Program} {T:TypeId} {h H:aK} (e:Ku h H) {x:SV} {k:Int} {v:SV} (hv:bT P T h x k=some v):bT P T H x k=some v:=by
 have sz:∀{t t':Ty},t.sz=t'.sz->slT P T t=slT P T t':=λ{t t'} e=>by unfold slT;rw[e]
 cases x with
 |own i=>
  simp only[bT]at hv⊢
  cases hl:look h i with
  |none=>rw[hl]at hv;exact nomatch hv
  |some B=>
   rw[hl]at hv;obtain⟨B',h1,h2⟩:=e i B hl
   cases B with
   |box cs=>exact nomatch hv
   |arr sh t xs=>
    cases B' with
    |box cs=>exact h2.elim
    |arr sh' t' ys=>
     rw[h1];simp only at hv⊢
     rwa [<-sz h2.1,<-h2.2]
 |sub i o n=>
  simp only[bT]at hv⊢
  cases hl:look h i with
  |none=>rw[hl]at hv;exact nomatch hv
  |some B=>
   rw[hl]at hv;obtain⟨B',h1,h2⟩:=e i B hl
   cases B with
   |box cs=>exact nomatch hv
   |arr sh t xs=>
    cases B' with
    |box cs=>exact h2.elim
    |arr sh' t' ys=>
     rw[h1];simp only at hv⊢
     rwa [<-sz h2.1]
 |r d x=>cases x<;>exact hv
 |_=>exact hv
def lW (masks:List Nat) (i:Nat) (o:Oper) (rs:List DR) (t:Bool):Prop:=
 match o.guard with
 |none=>t=true
 |some (g,want)=>(masks.getD i 0).testBit g=true/\∃r d,rs[g]? =some r/\r.dst=some d/\((∃b,r.c.v=.r [] (.bool b)/\t=(b==want))\/(r.c.v=.tup []/\t=false))
def PR (E:Env) (ops:List Oper) (masks dsts:List Nat) (s0:List (Nat× SV)) (h0:aK) (rs:List DR) (i:Nat) (o:Oper) (r:DR):Prop:=
 r.dst=o.dst/\okW E o.op r.c=true/\∃x t,replay (Nat.testBit (masks.getD i 0)) 0 (rs.take i) (mU (Mj masks i 0 ops) s0 (eL o.op.operands.toList),h0)=some x/\lW masks i o rs t/\
  ((t=true/\r=N6 E masks i ops h0 x o r.n0 r.c/\(JV E h0 x o=false->Dr E.P o r.n0 r.c (mU [] x.1 (eL o.op.operands.toList)) (Ii E masks i ops x o))/\(JV E h0 x o=true->Oj E.P o r.n0 r.c (mU [] x.1 (eL o.op.operands.toList)) (vj h0 (Dd x o))))\/(t=false/\r.c={v:=.tup []}/\r.len=false))
theorem Ol {E:Env} {ρ:Type} {o:Oper} {s:List (Nat× SV)} {h0:aK} {n:Nat} {K:CR->Option ρ} {out:ρ} (hl:PF o.op=true) (h:Bo E s h0 n o.op K=some out):∃c,K c=some out/\Oj E.P o n c s h0:=by
 cases ho:o.op with
 |indexAddr T x k=>
  rw[ho]at h;have h:nI E.P s h0 (.indexAddr T x k) (λv=>K {v:=v})=some out:=h;rw[nJ]at h;obtain⟨v,hv,h⟩:=An.1 h;refine⟨_,h,λs' H a w pl es eh hr hs hn=>?_⟩
  have hv':gx E.P s' H (.indexAddr T x k)=some v:=by
   simp only[gx,An]at hv⊢;obtain⟨x',hx,k',hk,n',hn',hv⟩:=hv;exact⟨x',c7 es _ _ hx,k',c7 es _ _ hk,n',hn',zC eh hv⟩
  obtain⟨u,hu,hvr⟩:=ku hr hs hv' o ho
  exact mW hr hu hvr
 |_=>rw[ho]at hl;exact nomatch hl
structure Dw (E:Env) (ops:List Oper) (masks dsts:List Nat) (s0:List (Nat× SV)) (h0:aK) (nid0:Nat) (rs:List DR) (m nid:Nat):Prop where
 len:rs.length=m
 Qx:∀(i:Nat) (o:Oper) (r:DR),ops[i]? =some o->rs[i]? =some r->PR E ops masks dsts s0 h0 rs i o r
 lo:∀(i:Nat) (r:DR),rs[i]? =some r->nid0<=r.n0/\r.n0+r.c.news.length<=nid
 ord:∀(i j:Nat) (a b:DR),i<j->rs[i]? =some a->rs[j]? =some b->a.n0+a.c.news.length<=b.n0
theorem lW.more {masks:List Nat} {i:Nat} {o:Oper} {rs:List DR} {t:Bool} (h:lW masks i o rs t) (r:DR):lW masks i o (rs++[r]) t:=by
 unfold lW at*;split at h
 ·exact h
 ·obtain⟨h1,r',d,h2,h3,h4⟩:=h;exact⟨h1,r',d,by rw[Q0 (Of.1 h2).1];exact h2,h3,h4⟩
section
variable {ρ:Type} {E:Env} {ops:List Oper} {masks dsts:List Nat} {s0:List (Nat× SV)} {h0:aK} {nid0:Nat}
theorem Dw.push {rs:List DR} {m nid:Nat} (F:Dw E ops masks dsts s0 h0 nid0 rs m nid) (h0n:nid0<=nid) {o:Oper} {r:DR} (ho:ops[m]? =some o) (hr:PR E ops masks dsts s0 h0 (rs++[r]) m o r) (hn:r.n0=nid):
  Dw E ops masks dsts s0 h0 nid0 (rs++[r]) (m+1) (nid+r.c.news.length):=by
 have hcase:∀(i:Nat) (b:DR),(rs++[r])[i]? =some b->(i<m/\rs[i]? =some b)\/(i=m/\b=r):=λi b hb=>by
  by_cases c:i<m
  ·rw[Q0 (by rw[F.len];exact c)]at hb;exact .inl ⟨c,hb⟩
  ·rw[QZ (by rw[F.len];omega),F.len]at hb
   have hi:i-m<1:=by have:=(Of.1 hb).1;simpa using this
   have:i-m=0:=by omega
   rw[this]at hb;simp at hb;exact .inr ⟨by omega,hb.symm⟩
 refine⟨by simp[F.len],λi o' b ho' hb=>?_,λi b hb=>?_,λi j a b hij ha hb=>?_⟩
 ·rcases hcase i b hb with⟨hi,h⟩|⟨rfl,rfl⟩
  ·obtain⟨g1,g2,x,t,g3,g4,g5⟩:=F.Qx i o' b ho' h;exact⟨g1,g2,x,t,by rw[R9 (by rw[F.len];omega)];exact g3,g4.more r,g5⟩
  ·rw[ho]at ho';cases ho';exact hr
 ·rcases hcase i b hb with⟨hi,h⟩|⟨rfl,rfl⟩
  ·have:=F.lo i b h;exact⟨this.1,by omega⟩
  ·exact⟨by omega,by omega⟩
 ·rcases hcase j b hb with⟨hj,h⟩|⟨rfl,rfl⟩
  ·rcases hcase i a ha with⟨hi,h'⟩|⟨rfl,rfl⟩
   ·exact F.ord i j a b hij h' h
   ·omega
  ·rcases hcase i a ha with⟨hi,h'⟩|⟨rfl,rfl⟩
   ·have:=F.lo i a h';omega
   ·omega
theorem FJ:∀{rs:List DR} {g:Nat} {r:DR} {v:SV},rs[g]? =some r->r.c.v=v->N5 rs g v=rs
 |[],_,_,_,h,_=>by simp at h
 |x::l,0,r,v,h,hv=>by simp at h;subst h;subst hv;rfl
 |x::l,g+1,r,v,h,hv=>by simp only[N5];rw[FJ (rs:=l) (by simpa using h) hv]
theorem pj (hE:fP E) {out:ρ}:∀(rest:List Oper) (i nid:Nat) (rs:List DR) (K:List DR->Nat->Option ρ),oN E ops masks dsts s0 h0 i rest nid rs K=some out->
  Dw E ops masks dsts s0 h0 nid0 rs i nid->nid0<=nid->ops.drop i=rest->∃rs' nid',K rs' nid'=some out/\nid0<=nid'/\Dw E ops masks dsts s0 h0 nid0 rs' (i+rest.length) nid'
 |[],i,nid,rs,K,h,F,hn,_=>⟨rs,nid,h,hn,F⟩
 |o::rest,i,nid,rs,K,h,F,hn,hd=>by
  have ho:ops[i]? =some o:=by rw[<-List.head?_drop,hd];rfl
  have hd':ops.drop (i+1)=rest:=by rw[<-List.drop_drop,hd];rfl
  have htake:∀r,(rs++[r]).take i=rs:=λr=>by rw[R9 (by rw[F.len];omega),<-F.len,RR]
  simp only[oN,An]at h;obtain⟨x,hx,h⟩:=h
  have exec:∀t,(∀r,lW masks i o (rs++[r]) t)->t=true->(Bo E (mU [] x.1 (eL o.op.operands.toList)) (JW E masks i ops h0 x o) nid o.op λc=>cond (okW E o.op c) (oN E ops masks dsts s0 h0 (i+1) rest (nid+c.news.length) (rs++[N6 E masks i ops h0 x o nid c]) K) none)=some out->
    ∃rs' nid',K rs' nid'=some out/\nid0<=nid'/\Dw E ops masks dsts s0 h0 nid0 rs' (i+(o::rest).length) nid':=λt hw ht h=>by
   obtain⟨c,hc,hg⟩:∃c,(cond (okW E o.op c) (oN E ops masks dsts s0 h0 (i+1) rest (nid+c.news.length) (rs++[N6 E masks i ops h0 x o nid c]) K) none)=some out/\
     (JV E h0 x o=false->Dr E.P o nid c (mU [] x.1 (eL o.op.operands.toList)) (Ii E masks i ops x o))/\(JV E h0 x o=true->Oj E.P o nid c (mU [] x.1 (eL o.op.operands.toList)) (vj h0 (Dd x o))):=by
    unfold JW at h;cases hL:JV E h0 x o<;>simp only[hL,cond_true,cond_false]at h
    ·obtain⟨c,hc,hg⟩:=Ds hE h;exact⟨c,hc,λ_=>hg,(λe=>nomatch e)⟩
    ·have hL':=hL;unfold JV at hL';simp only[QX]at hL';obtain⟨c,hc,hg⟩:=Ol hL'.2.1 h;exact⟨c,hc,(λe=>nomatch e),λ_=>hg⟩
   cases hok:okW E o.op c<;>simp only[hok,cond_true,cond_false]at hc
   ·exact nomatch hc
   ·have F':=F.push hn (r:=N6 E masks i ops h0 x o nid c) ho ⟨rfl,hok,x,t,by rw[htake];exact hx,hw _,.inl ⟨ht,rfl,hg.1,hg.2⟩⟩ rfl;have:=pj hE rest (i+1) _ _ K hc F' (by omega) hd';rwa [show i+1+rest.length=i+(o::rest).length from by simp;omega]at this
  have skip:∀t,(∀r,lW masks i o (rs++[r]) t)->t=false->oN E ops masks dsts s0 h0 (i+1) rest nid (rs++[⟨o.dst,nid,{v:=.tup []},[],[],false⟩]) K=some out->
    ∃rs' nid',K rs' nid'=some out/\nid0<=nid'/\Dw E ops masks dsts s0 h0 nid0 rs' (i+(o::rest).length) nid':=λt hw ht h=>by
   have F':=F.push hn (r:=⟨o.dst,nid,{v:=.tup []},[],[],false⟩) ho ⟨rfl,by simp only[okW,isNil,CR.kil,Si];cases lT E o.op<;>rfl,x,t,by rw[htake];exact hx,hw _,.inr ⟨ht,rfl,rfl⟩⟩ rfl;have:=pj hE rest (i+1) _ _ K h F' (by simpa using hn) hd';rwa [show i+1+rest.length=i+(o::rest).length from by simp;omega]at this
  split at h
  ·rename_i hg;exact exec true (λr=>by unfold lW;rw[hg]) rfl h
  ·rename_i g want hg;cases hb:(masks.getD i 0).testBit g<;>simp only[hb,cond_true,cond_false]at h
   ·exact nomatch h
   ·simp only[An]at h;obtain⟨r,hr,d,hdst,h⟩:=h;split at h
    ·rename_i hv
     exact skip false (λr'=>lW.more (by
      unfold lW;rw[hg];exact⟨hb,r,d,hr,hdst,.inr ⟨hv,rfl⟩⟩) r') rfl h
    ·rename_i b hv
     have hw:∀r',lW masks i o (rs++[r']) (b==want):=λr'=>lW.more (by
      unfold lW;rw[hg];exact⟨hb,r,d,hr,hdst,.inl ⟨b,hv,rfl⟩⟩) r'
     cases b<;>simp only[cond_true,cond_false]at h
     ·rw[FJ hr hv]at h;cases want<;>simp only[cond_true,cond_false]at h
      ·exact exec _ hw rfl h
      ·exact skip _ hw rfl h
     ·rw[FJ hr hv]at h;cases want<;>simp only[cond_true,cond_false]at h
      ·exact skip _ hw rfl h
      ·exact exec _ hw rfl h
    ·exact nomatch h
end
theorem xn {cm:DR->Bool} {masks:List Nat} {i:Nat} {r:DR}:∀{l:List DR} {k:Nat},wS cm masks i r k l=true->∀(j:Nat) (b:DR),l[j]? =some b->(masks.getD (k+j) 0).testBit i=true\/qZ cm r b=true
 |[],_,_,j,b,hb=>by simp at hb
 |x::l,k,h,j,b,hb=>by
  simp only[wS]at h
  have hl:wS cm masks i r (k+1) l=true/\((masks.getD k 0).testBit i=true\/qZ cm r x=true):=by
   cases h1:(masks.getD k 0).testBit i<;>simp only[h1,cond_true,cond_false]at h
   ·cases h2:qZ cm r x<;>simp only[h2,cond_true,cond_false]at h
    ·exact nomatch h
    ·exact⟨h,.inr rfl⟩
   ·exact⟨h,.inl rfl⟩
  cases j with
  |zero=>simp at hb;subst hb;exact hl.2
  |succ j=>have:=xn hl.1 j b (by simpa using hb);rwa [show k+1+j=k+(j+1)from by omega]at this
theorem rH {cm:DR->Bool} {masks:List Nat}:∀{l:List DR} {k:Nat},zQ cm masks k l=true->∀(i j:Nat) (a b:DR),i<j->l[i]? =some a->l[j]? =some b->(masks.getD (k+j) 0).testBit (k+i)=true\/qZ cm a b=true
 |[],_,_,i,j,a,b,_,ha,_=>by simp at ha
 |x::l,k,h,i,j,a,b,hij,ha,hb=>by
  simp only[zQ]at h;cases h1:wS cm masks k x (k+1) l<;>simp only[h1,cond_true,cond_false]at h
  ·exact nomatch h
  ·obtain⟨j,rfl⟩:∃j',j=j'+1:=⟨j-1,by omega⟩
   cases i with
   |zero=>
    simp at ha;subst ha;have:=xn h1 j b (by simpa using hb)
    rwa [show k+1+j=k+(j+1)from by omega]at this
   |succ i=>
    have:=rH h i j a b (by omega) (by simpa using ha) (by simpa using hb);rwa [show k+1+j=k+(j+1)from by omega,show k+1+i=k+(i+1)from by omega]at this
theorem QT {i:Nat} {l:List Nat}:mem i l=true↔i∈l:=by
 induction l with
 |nil=>simp[mem]
 |cons k l ih=>
  simp only[mem,Rk];cases h:Nat.beq k i
  ·have:¬i=k:=λe=>by subst e;simp at h
   simp[ih,this]
  ·have:=QW h;simp[this]
theorem Ai {n:Nat}:∀{l:List Nat},Ih n l=true->∀i∈l,i+1<=n
 |[],_,i,hi=>by simp at hi
 |x::l,h,i,hi=>by
  simp only[Ih]at h;cases hm:Nat.ble (x+1) n<;>simp only[hm,cond_true,cond_false]at h
  ·exact nomatch h
  ·rcases Rk.1 hi with rfl|hi
   ·exact Rb hm
   ·exact Ai h i hi
theorem qi:∀{ops:List Oper} {j:Nat} {o:Oper} {t:Nat},ops[j]? =some o->o.dst=some t->t∈iW ops
 |[],j,o,t,h,_=>by simp at h
 |x::l,0,o,t,h,hd=>by simp at h;subst h;simp[iW,hd]
 |x::l,j+1,o,t,h,hd=>by
  have:=qi (ops:=l) (by simpa using h) hd;simp only[iW];split<;>simp[this]
theorem Aj:∀{ops:List Oper},(iW ops).Nodup->∀{i j:Nat} {a b:Oper} {t:Nat},i≠j->ops[i]? =some a->ops[j]? =some b->a.dst=some t->b.dst≠some t
 |[],_,i,j,a,b,t,_,h,_,_=>by simp at h
 |x::l,hn,i,j,a,b,t,hij,ha,hb,h1=>by
  have hl:(iW l).Nodup:=by
   simp only[iW]at hn;split at hn
   ·exact(RZ.1 hn).2
   ·exact hn
  have hx:∀t,x.dst=some t->t∉iW l:=λt ht=>by
   simp only[iW,ht]at hn;exact(RZ.1 hn).1
  intro h2
  cases i with
  |zero=>
   simp at ha;subst ha
   cases j with
   |zero=>exact hij rfl
   |succ j=>exact hx t h1 (qi (by simpa using hb) h2)
  |succ i=>
   cases j with
   |zero=>simp at hb;subst hb;exact hx t h2 (qi (by simpa using ha) h1)
   |succ j=>exact Aj (i:=i) (j:=j) hl (by omega) (by simpa using ha) (by simpa using hb) h1 h2
theorem BT {masks:List Nat} {i:Nat}:∀{ops:List Oper} {k j:Nat} {o:Oper} {t:Nat},ops[j]? =some o->o.dst=some t->(masks.getD (k+j) 0).testBit i=false->t∈Mj masks i k ops
 |[],k,j,o,t,h,_,_=>by simp at h
 |x::l,k,0,o,t,h,hd,hb=>by simp at h;subst h;simp only[Rw]at hb;simp only[Mj,hb,cond_false,hd];exact Rr ..
 |x::l,k,j+1,o,t,h,hd,hb=>by
  have:=BT (ops:=l) (k:=k+1) (by simpa using h) hd (by rw[show k+1+j=k+(j+1)from by omega];exact hb);simp only[Mj];cases(masks.getD k 0).testBit i<;>simp only[cond_true,cond_false]
  ·split<;>simp[this]
  ·exact this
theorem IK {T:List Nat} {s:List (Nat× SV)} {l:List Nat} {t:Nat} {v:SV} (h:look (mU T s l) t=some v):v∈Bq s l:=by
 induction l with
 |nil=>exact nomatch h
 |cons k l ih=>
  simp only[mU]at h;simp only[Bq];cases hm:mem k T<;>simp only[hm,cond_true,cond_false]at h
  ·cases hl:look s k with
   |none=>rw[hl]at h;exact ih h
   |some u=>
    rw[hl]at h;simp only[ay]at h;by_cases c:k=t
    ·rw[if_pos c]at h;cases h;exact Rr
    ·rw[if_neg c]at h;exact Rh _ (ih h)
  ·cases hl:look s k with
   |none=>exact ih h
   |some u=>exact Rh _ (ih h)
theorem Ak {k:Nat} {B:Blk}:∀{l:List DR},JU k B l=true->∀r∈l,look r.c.upd k=none/\mem k r.c.kil.1=false/\B.JE r.c.kil=true
 |[],_,_,h=>nomatch h
 |r::l,h,r',hr=>by
  simp only[JU]at h;cases hc:((look r.c.upd k).isNone&&(!mem k r.c.kil.1&&B.JE r.c.kil))<;>rw[hc]at h<;>simp only[cond_true,cond_false]at h
  ·exact nomatch h
  ·rw[QX,QX,Option.isNone_iff_eq_none,SW]at hc
   rcases Rk.1 hr with rfl|hr
   ·exact hc
   ·exact Ak h r' hr
theorem Dx {h:aK} {rs:List DR} {k:Nat}:∀{L:List Nat},Qf h rs L=true->mem k L=true->∃B,look h k=some B/\∀r∈rs,look r.c.upd k=none/\mem k r.c.kil.1=false/\B.JE r.c.kil=true
 |[],_,hm=>nomatch hm
 |i::l,hc,hm=>by
  simp only[Qf]at hc;split at hc
  ·rename_i B hB;cases h1:JU i B rs<;>rw[h1]at hc<;>simp only[cond_true,cond_false]at hc
   ·exact nomatch hc
   ·simp only[mem]at hm;cases hb:Nat.beq i k<;>rw[hb]at hm<;>simp only[cond_true,cond_false]at hm
    ·exact Dx hc hm
    ·have:=QW hb;subst this;exact⟨B,hB,Ak h1⟩
  ·exact nomatch hc
theorem vl:∀{L T:List Nat},wT L T=true->∀k,mem k L=true->mem k T=false
 |[],_,_,k,hk=>nomatch hk
 |i::l,T,h,k,hk=>by
  simp only[wT]at h;cases hm:mem i T<;>rw[hm]at h
  ·simp only[mem]at hk;cases hb:Nat.beq i k<;>rw[hb]at hk
   ·exact vl h k hk
   ·rw[<-QW hb];exact hm
  ·exact nomatch h
theorem vm {L:List Nat}:∀{rs:List DR},Br L rs=true->∀k,mem k L=true->∀r∈rs,mem k r.c.kil.1=false
 |[],_,_,_,_,hr=>nomatch hr
 |r::l,h,k,hk,r',hr=>by
  simp only[Br]at h;cases hn:wT L r.c.kil.1<;>rw[hn]at h
  ·exact nomatch h
  ·rcases Rk.1 hr with rfl|hr
   ·exact vl hn k hk
   ·exact vm h k hk r' hr
theorem xo {cm:DR->Bool}:∀{rs:List DR},zR cm rs=true->∀r∈rs,r.len=true->fN cm r=true
 |[],_,_,hr,_=>nomatch hr
 |r::l,h,r',hr,hl=>by
  simp only[zR]at h;cases hn:(!r.len||fN cm r)<;>rw[hn]at h
  ·exact nomatch h
  ·rcases Rk.1 hr with rfl|hr
   ·rw[hl]at hn;exact hn
   ·exact xo h r' hr hl
theorem MA {T:Kil} {B:Blk} (h:B.JE T=true):B.aP T=some B:=by
 cases B with
 |box cs=>simp only[Blk.aP,jf cs h]
 |arr sh t xs=>
  cases sh with
  |none=>rfl
  |some d=>simp only[Blk.aP,not_false h,cond_false]
theorem lX {p:Nat->Bool} {k:Nat} {B:Blk}:∀(l:List DR) (j:Nat) (x X:SH),(∀r∈l,look r.c.upd k=none/\mem k r.c.kil.1=false/\B.JE r.c.kil=true)->look x.2 k=some B->replay p j l x=some X->look X.2 k=some B
 |[],_,x,X,_,hx,h=>by cases h;exact hx
 |r::l,j,x,X,hl,hx,h=>by
  simp only[replay]at h;have hl':=λr' hr=>hl r' (Rh _ hr);cases hp:p j<;>rw[hp]at h<;>simp only[cond_true,cond_false]at h
  ·exact lX l (j+1) x X hl' hx h
  ·rw[An]at h;obtain⟨y,hy,h⟩:=h;obtain⟨h1,hm,h2⟩:=hl r Rr;refine lX l (j+1) y X hl' ?_ h;rw[v8 hy,hm,cond_false,pf _ _ h1,hx,Q9,MA h2];rfl
theorem k7 {T:List Nat} {s:List (Nat× SV)} {l:List Nat} {t:Nat} {v:SV} (h:look (mU T s l) t=some v):t∉T/\look s t=some v:=by
 induction l with
 |nil=>exact nomatch h
 |cons k l ih=>
  simp only[mU]at h;cases hm:mem k T<;>simp only[hm,cond_true,cond_false]at h
  ·cases hl:look s k with
   |none=>rw[hl]at h;exact ih h
   |some u=>
    rw[hl]at h;rw[ay]at h;by_cases e:k=t
    ·subst e;rw[if_pos rfl]at h;cases h;exact⟨λh=>by rw[QT.2 h]at hm;exact(nomatch hm),hl⟩
    ·rw[if_neg e]at h;exact ih h
  ·exact ih h
theorem xp {E:Env} {masks:List Nat} {i:Nat}:∀{l:List Oper} {k:Nat},vi E masks i k l=false->∀(j:Nat) (o:Oper),l[j]? =some o->lT E o.op=true->PC masks i (k+j)=true
 |[],_,_,j,o,h,_=>by simp at h
 |x::l,k,h,j,o,ho,hw=>by
  simp only[vi]at h
  have hl:vi E masks i (k+1) l=false/\(lT E x.op=true->PC masks i k=true):=by
   cases h1:lT E x.op<;>simp only[h1,cond_true,cond_false]at h
   ·exact⟨h,λh=>nomatch h⟩
   ·cases h2:PC masks i k<;>simp only[h2,cond_true,cond_false]at h
    ·exact nomatch h
    ·exact⟨h,λ_=>rfl⟩
  cases j with
  |zero=>simp at ho;subst ho;exact hl.2 hw
  |succ j=>have:=xp hl.1 j o (by simpa using ho) hw;rwa [show k+1+j=k+(j+1)from by omega]at this
end
end Go.Proofs.Ev
