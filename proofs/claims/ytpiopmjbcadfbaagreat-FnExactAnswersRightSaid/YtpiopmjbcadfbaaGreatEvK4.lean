/- The evaluator over the model's code, and that it is sound: part 4. -/
import Derived.Test.YtpiopmjbcadfbaaGreatEvK3
import Derived.Lib.SliceRun
import Derived.Laws.Cover3
import Derived.Orders
set_option linter.unusedVariables false
set_option linter.unusedSimpArgs false
set_option linter.unusedSectionVars false
namespace Go.Proofs.Ev
section
variable [Tok]
section
variable {w:World} {H:aF} {pl:Pl} {P:Program}
theorem qt {t:Ty} {ys:List t.El} {zs:List t.El} {q n i j:Nat} {r:R} (hn:q+n<=ys.length) (hz:zs.length=n) (h:az t (ys.take q++zs++ys.drop (q+n)) i j r):
  (q<=i/\i<q+n/\az t zs (i-q) j r)\/(¬(q<=i/\i<q+n)/\az t ys i j r):=by
 obtain⟨x,hx,hr⟩:=h
 have hl:(ys.take q).length=q:=by rw[R2];omega
 by_cases c:q<=i/\i<q+n
 ·rw[RH,Rn (by omega),hl,Ro (by omega)]at hx;exact .inl ⟨c.1,c.2,x,hx,hr⟩
 ·refine .inr ⟨c,x,?_,hr⟩;by_cases c1:i<q
  ·rw[RH,Ro (by omega),RW,if_pos c1]at hx;exact hx
  ·rw[Rn (by simp[hz];omega),RA]at hx;rw[<-hx];congr 1;simp[hz];omega
theorem KC {t:Ty} {d:List Nat} {ys:List t.El} {i q num:Nat} {H':aF} {zs:List t.El} {us:List Value} {b m n cap:Nat}
  (hr:cM H pl w) (hl:look H i=some (.arr (some d) t ys)) (hzl:zs.length=num) (hh:pl.hdr i=.slice (some ⟨b,m,none⟩) n cap) (hq:q+num<=ys.length) (hus:us.length=num*t.sz) (hone:∀u∈us,one u=true)
  (hin:∀x j r,az t zs x j r->∃u,us[x*t.sz+j]? =some u/\jd w (okd H pl d) r u) (hpos0:0<ys.length)
  (hit':hit [i] d=false) (ht:nd H H' ([],[i]) i (.arr (some d) t (ys.take q++zs++ys.drop (q+num)))):
  ∃w',(storeCells ⟨b,m+q*t.sz,none⟩ us).run P w=.ok () w'/\∃fp',cW H H' ([],[i]) pl (pl.set i (pl.hdr i) fp') w w':=by
 obtain⟨⟨a,cap',b',o,vs,fs,hhd,iq,ha,ku,hc,hrr,hd1,hd2,hfp⟩⟩:=(hr.blk i _ hl).OB;rw[hh]at hhd;cases hhd;have hsp:=t.gj
 have hab:b=b'/\m=o:=by
  rcases ha with h|h
  ·omega
  ·cases h;exact⟨rfl,rfl⟩
 obtain⟨rfl,rfl⟩:=hab
 have hpos:q*t.sz+us.length<=cap*t.sz:=by
  have:(q+num)*t.sz<=cap*t.sz:=RD _ (by omega);rw[RM]at this;omega
 have hcell:∀j,j<us.length->∃u,w.at? (b,m+q*t.sz+j)=some u/\calm (w.eB (b,m+q*t.sz+j))=true:=λj hj=>by
  obtain⟨⟨u,q1⟩,q2⟩:=ku (q*t.sz+j) (by omega);rw[show m+q*t.sz+j=m+(q*t.sz+j)from by omega];exact⟨u,q1,ql q2⟩
 have hst:=run_storeCells_cells (P:=P) b (m+q*t.sz) us 0 w (λj hj=>by
   obtain⟨u,q1,_⟩:=hcell j hj;simp only[RS];have q1:w.cell? ⟨b,m+q*t.sz+j,none⟩=some u:=q1
   rw[q1];rfl) (λj hj=>by
   obtain⟨u,q1,q2⟩:=hcell j hj
   simp only[RS];exact lx q1 q2) (λu hu=>nU (hone u hu))
 simp only[RS]at hst
 have hcellin:∀j,j<us.length->(w.setCells b (m+q*t.sz) us).at? (b,m+q*t.sz+j)=us[j]? :=λj hj=>by
  have:=World.cell?_setCells_in b us (m+q*t.sz) w (λj hj=>by
   obtain⟨u,q1,_⟩:=hcell j hj;have q1:w.cell? ⟨b,m+q*t.sz+j,none⟩=some u:=q1
   rw[q1];rfl) j hj
  rw[On hj];simpa[World.at?]using this
 have hcellout:∀p u,w.at? p=some u->¬(p.1=b/\m+q*t.sz<=p.2/\p.2<m+q*t.sz+us.length)->(w.setCells b (m+q*t.sz) us).at? p=some u:=λp u hp hno=>by
  unfold World.at? at*;rw[World.cell?_setCells_out b _ _ w _ (λe1 _=>by simp at e1;simp;omega)];exact hp
 have hice:∀p,(w.setCells b (m+q*t.sz) us).eB p=w.eB p:=λp=>fP _ _ _ _ _;have hregin:∀p,reg b m (cap*t.sz) p->pl.fp i p:=λp hp=>(hfp p).2 (.inl hp);have hfsin:∀i' j r p,az t ys i' j r->fs i' j p->pl.fp i p:=λi' j r p hx hf=>(hfp p).2 (.inr ⟨i',j,r,hx,hf⟩)
 have hmi:mem i [i]=true:=by simp[mem]
 have hylen:(ys.take q++zs++ys.drop (q+num)).length=ys.length:=by simp[hzl];omega
 refine⟨_,hst,λp=>reg b m (cap*t.sz) p\/∃i' j r,az t ys i' j r/\¬(q<=i'/\i'<q+num)/\fs i' j p,?_⟩;refine jG (dO.setCells _ _ _ _) hr ht (λx hx=>nomatch hx) (λx hx=>?_) (.inr ⟨_,hl,hmi,by simp only[Blk.lV];exact⟨trivial,hylen.symm⟩,rfl⟩) (λp u hp hno=>⟨hcellout p u hp λhin=>?_,hice p⟩) (λp hp=>?_) (λp hp=>?_) λhkp=>?_
 ·refine .inr ?_;simp only[mem]at hx;cases hb:Nat.beq i x
  ·rw[hb]at hx;exact nomatch hx
  ·exact(Rj hb).symm
 ·exact hno i _ hmi hl (hregin p ⟨hin.1,by omega,by omega⟩)
 ·refine hr.nb p ?_
  cases hq':w.at? p with
  |none=>rfl
  |some u=>
   by_cases hin:p.1=b/\m+q*t.sz<=p.2/\p.2<m+q*t.sz+us.length
   ·obtain⟨p1,p2⟩:=p;obtain⟨e1,e2,e3⟩:=hin;simp only at e1 e2 e3;subst e1;have:=hcellin (p2-(m+q*t.sz)) (by omega);rw[show m+q*t.sz+(p2-(m+q*t.sz))=p2 from by omega,hp,On (by omega)]at this;exact nomatch this
   ·rw[hcellout p u hq' hin]at hp;exact nomatch hp
 ·rcases hp with hp|⟨i',j,r,hx,_,hf⟩
  ·exact .inr ⟨i,_,hmi,hl,hregin p hp⟩
  ·exact .inr ⟨i,_,hmi,hl,hfsin i' j r p hx hf⟩
 ·have vZ:∀{i' j},j<t.sz->¬(q<=i'/\i'<q+num)->¬(m+q*t.sz<=m+(i'*t.sz+j)/\m+(i'*t.sz+j)<m+q*t.sz+us.length):=λ{i' j} hj hne ⟨g1,g2⟩=>by
   rcases Nat.lt_or_ge i' q with h|h
   ·have:(i'+1)*t.sz<=q*t.sz:=RD _ h;rw[SI]at this;omega
   ·have h2:q+num<=i':=by omega
    have:(q+num)*t.sz<=i'*t.sz:=RD _ h2;rw[RM]at this;omega
  refine dW.mN ⟨some ⟨b,m,none⟩,cap,b,m,λi' j=>if q<=i'/\i'<q+num then(us[(i'-q)*t.sz+j]?).getD undef else vs i' j,λi' j p=>¬(q<=i'/\i'<q+num)/\fs i' j p,by rw[hylen];simp[Pl.set,hh],by rw[hylen];exact iq,.inr rfl,λj hj=>⟨?_,by rw[hice];exact(ku j hj).2⟩,λi' j r hx=>?_,λi' j r hx=>?_,λi' j r p hx hf=>?_,λi' j r i2 j2 r2 p hx hx' hf hf'=>?_,λp=>?_⟩
  ·by_cases hin:q*t.sz<=j/\j<q*t.sz+us.length
   ·have:=hcellin (j-q*t.sz) (by omega);rw[show m+q*t.sz+(j-q*t.sz)=m+j from by omega]at this;exact⟨_,this.trans (On (by omega))⟩
   ·obtain⟨u,hu⟩:=(ku j hj).1;exact⟨u,hcellout _ u hu λh=>hin ⟨by have:=h.2.1;simp at this;omega,by have:=h.2.2;simp at this;omega⟩⟩
  ·rcases qt hq hzl hx with⟨g1,g2,g3⟩|⟨g1,g2⟩
   ·rw[if_pos ⟨g1,g2⟩];obtain⟨u,hu,_⟩:=hin _ _ _ g3;have hlt:=(Of.1 hu).1;have:=hcellin _ hlt
    have e:m+q*t.sz+((i'-q)*t.sz+j)=m+(i'*t.sz+j):=by
     have:i'*t.sz=q*t.sz+(i'-q)*t.sz:=by rw[<-RM];congr 1;omega
     omega
    rw[e]at this;rw[this,hu];rfl
   ·rw[if_neg g1];exact hcellout _ _ (hc _ _ _ g2) λh=>vZ (aI g2).2 g1 ⟨h.2.1,h.2.2⟩
  ·rcases qt hq hzl hx with⟨g1,g2,g3⟩|⟨g1,g2⟩
   ·rw[if_pos ⟨g1,g2⟩];obtain⟨u,hu,hI⟩:=hin _ _ _ g3;rw[hu,SQ];have hno:∀p,¬(¬(q<=i'/\i'<q+num)/\fs i' j p):=λp hf=>hf.1 ⟨g1,g2⟩;rw[hh];exact⟨hI.frame λp u hp hu=>(hh▸hkp).k2 d p u (λx hx=>fl _ d hit' x hx) hp hu,hno⟩
   ·simp only[if_neg g1];have hI:=hrr _ _ _ g2;rw[hh];exact⟨hI.1.frame λp u hp hu=>(hh▸hkp).k2 d p u (λx hx=>fl _ d hit' x hx) hp hu,λp hf=>hI.2 p hf.2⟩
  ·rcases qt hq hzl hx with⟨g1,g2,g3⟩|⟨g1,g2⟩
   ·exact(hf.1 ⟨g1,g2⟩).elim
   ·exact hd1 _ _ _ p g2 hf.2
  ·rcases qt hq hzl hx with⟨g1,g2,g3⟩|⟨g1,g2⟩
   ·exact(hf.1 ⟨g1,g2⟩).elim
   ·rcases qt hq hzl hx' with⟨q1,q2,q3⟩|⟨q1,q2⟩
    ·exact(hf'.1 ⟨q1,q2⟩).elim
    ·exact hd2 _ _ _ _ _ _ p g2 q2 hf.2 hf'.2
  ·simp only[Pl.set,if_true];constructor
   ·rintro (h|⟨i',j,r,hx,hne,hf⟩)
    ·exact .inl h
    ·have hlt:=aI hx;obtain⟨r',hr'⟩:=dA (t:=t) (xs:=ys.take q++zs++ys.drop (q+num)) (i:=i') (j:=j) (by rw[hylen];exact hlt.1) hlt.2;exact .inr ⟨i',j,r',hr',hne,hf⟩
   ·rintro (h|⟨i',j,r,hx,hf⟩)
    ·exact .inl h
    ·rcases qt hq hzl hx with⟨g1,g2,g3⟩|⟨g1,g2⟩
     ·exact(hf.1 ⟨g1,g2⟩).elim
     ·exact .inr ⟨_,_,_,g2,hf⟩
theorem KE {i:Nat}:∀{d:List Nat},mem i d=false->hit [i] d=false
 |[],_=>rfl
 |k::l,h=>by
  simp only[mem]at h;cases hb:Nat.beq k i
  ·rw[hb,cond_false]at h
   have:mem k [i]=false:=by
    simp only[mem];cases hc:Nat.beq i k
    ·rfl
    ·have:=Rj hc;subst this;simp at hb
   simp only[hit,this,cond_false];exact KE h
  ·rw[hb]at h;exact nomatch h
theorem MM {o:Oper} {a:Act} {s:List (Nat× SV)} {n:Nat} {args:Array Operand} {tys:Array TypeId} {T e:TypeId} {sz:Nat} {t:Ty} {z:List SV} {d:List Nat} {xs:List t.El} {i q off num:Nat}
  (hr:cM H pl w) (hs:gu w H pl s a) (ho:o.op=.call {callee:=.builtin .append,args:=args,argTypes:=tys}) (hvs:rG s args.toList=some [.sub i 0 q,.sub i off num]) (hty:tys.toList=[T,T])
  (he:lT P T=some e) (hsz:iV P e=some sz) (hts:t.sz=sz) (hz:gl P e=some z) (hl:look H i=some (.arr (some d) t xs)) (hd:mem i d=false) (hq:q+num<=xs.length) (hoff:off+num<=xs.length) (hpos:1<=xs.length):
  ky P o a w H pl n {v:=.sub i 0 (q+num),upd:=[(i,.arr (some d) t (xs.take q++(xs.drop off).take num++xs.drop (q+num)))],lr:=[i]}:=by
 refine⟨λj B h=>?_,λH' next Q ha hN=>?_⟩
 ·rw[aA]at h;by_cases e:i=j
  ·subst e;exact⟨_,hl⟩
  ·rw[if_neg e]at h;simp[look]at h
 obtain⟨ht,_⟩:=sM (c:={v:=.sub i 0 (q+num),upd:=[(i,.arr (some d) t (xs.take q++(xs.drop off).take num++xs.drop (q+num)))],lr:=[i]}) hl rfl rfl rfl ha;obtain⟨p,p',hpq,hp,hp'⟩:=qm hvs;have hpr:=aP hs hp;have hpr':=aP hs hp'
 have hargs:args.map a.eval=#[a.eval p,a.eval p']:=by rw[show args=#[p,p']from S4 hpq];simp
 have hta:tys=#[T,T]:=S4 hty
 obtain⟨ti,hti,rfl⟩:=lb hsz;obtain⟨zu,hzu,hzc⟩:=jg hr hti hz;obtain⟨R⟩:=hr.blk i _ hl;have iq:=R.iq;have hA:R.a=some ⟨R.b,R.o,none⟩:=R.ha.resolve_left (by omega)
 have hhd:pl.hdr i=.slice (some ⟨R.b,R.o,none⟩) xs.length R.cap:=by rw[<-hA];exact R.xa
 have e1:a.eval p=.slice (some ⟨R.b,R.o,none⟩) q R.cap:=by
  generalize a.eval p=u at hpr
  cases hpr with
  |sub _ _ _ sh2 t2 xs2 a1 a2 cap1 cap2 hl2 hh2 hn1 hc hc' ha2=>
   rw[hl]at hl2;cases hl2;rw[hhd]at hh2;cases hh2
   have hcc:cap2=R.cap:=by omega
   subst hcc
   rcases ha2 with h|h
   ·omega
   ·rw[h];simp[Addr.add]
 obtain⟨A3,cap3,e2,hc3,hA3⟩:∃A3 cap3,a.eval p'=.slice A3 num cap3/\num<=cap3/\(num=0\/A3=some ⟨R.b,R.o+off*t.sz,none⟩):=by
  generalize a.eval p'=u at hpr'
  cases hpr' with
  |sub _ _ _ sh2 t2 xs2 a1 a2 cap1 cap2 hl2 hh2 hn1 hc hc' ha2=>
   rw[hl]at hl2;cases hl2;rw[hhd]at hh2;cases hh2;refine⟨a2,cap2,rfl,hc,?_⟩
   rcases ha2 with h|h
   ·exact .inl (by omega)
   ·exact .inr (by rw[h];simp[sJ])
 have hsp:=t.gj
 have hback:∀k,k<num*t.sz->∃r,az t xs (off+k/t.sz) (k %t.sz) r:=λk hk=>by
  have:k/t.sz<num:=by rw[Tj hsp];exact hk
  exact dA (by omega) (TR _ hsp)
 have hus:((List.range (num*t.sz)).map λk=>R.vs (off+k/t.sz) (k %t.sz)).length=num*t.sz:=by simp
 generalize husd:(List.range (num*t.sz)).map (λk=>R.vs (off+k/t.sz) (k %t.sz))=us at hus
 have hget:∀k,k<num*t.sz->us[k]? =some (R.vs (off+k/t.sz) (k %t.sz)):=λk hk=>by rw[<-husd,iz hk]
 have hcell:∀k,k<num*t.sz->w.at? (R.b,R.o+(off*t.sz+k))=some (R.vs (off+k/t.sz) (k %t.sz)):=λk hk=>by
  obtain⟨r,hx⟩:=hback k hk;have:=R.hc _ _ _ hx;rw[RM,Sp,show k/t.sz*t.sz+k %t.sz=k from by rw[RV];exact Ti _ _]at this;exact this
 obtain⟨w',hst,fp',hstep⟩:=KC (P:=P) (zs:=(xs.drop off).take num) (us:=us) hr hl (by rw[R2,Sy];omega) hhd hq hus (λu hu=>by
   obtain⟨k,hk⟩:=Si hu
   have hkl:k<num*t.sz:=by rw[<-hus];exact(Of.1 hk).1
   rw[hget k hkl]at hk;cases hk;obtain⟨r,hx⟩:=hback k hkl
   exact(R.hr _ _ _ hx).1.ri) (λx j r hx=>by
   obtain⟨y,hy,hyr⟩:=hx
   have hxl:x<num:=by have:=(Of.1 hy).1;rw[R2]at this;omega
   have hjl:j<t.sz:=by have:=(Of.1 hyr).1;rwa [Ty.cp]at this
   rw[RW,if_pos hxl,RA]at hy;have hx':az t xs (off+x) j r:=⟨y,hy,hyr⟩;refine⟨R.vs (off+x) j,?_,(R.hr _ _ _ hx').1⟩;have hlt:x*t.sz+j<num*t.sz:=pk hxl hjl (RE _);rw[hget _ hlt]
   have g1:(x*t.sz+j)/t.sz=x:=by rw[RV,SU hsp,SA hjl];simp
   have g2:(x*t.sz+j) %t.sz=j:=by rw[RV,Ss,R4 hjl]
   rw[g1,g2]) hpos (KE hd) ht
 have hfc:(Builtin.firstCells ti.size num (.slice A3 num cap3)).run P w=.ok us.toArray w:=by
  rw[<-hts]
  rcases hA3 with h0|hA3
  ·subst h0;have hn':us=[]:=Sf.1 (by simpa using hus);subst hn'
   cases A3 with
   |none=>exact run_firstCells_none w _ _ _ _
   |some A=>exact run_firstCells_some w t.sz 0 A 0 cap3 [] (by simp) (λj v hv=>by simp at hv)
  ·subst hA3;refine run_firstCells_some w t.sz num _ num cap3 us hus λj v hv=>?_
   have hj:j<num*t.sz:=by rw[<-hus];exact(Of.1 hv).1
   rw[hget j hj]at hv;cases hv;have:=hcell j hj;rw[Addr.add_lit,Sp];exact this
 have hrun:(Builtin.append_ #[T,T] o.type #[.slice (some ⟨R.b,R.o,none⟩) q R.cap,.slice A3 num cap3]).run P w=.ok (.slice (some ⟨R.b,R.o,none⟩) (q+num) R.cap) w':=by
  have hroom:q+num<=R.cap:=by omega
  rw[hts]at hst;simp[Builtin.append_,run_underlying (la he),sizeOf,typeInfo,hti,Builtin.lenOf,hroom,hfc,Addr.add_lit,hst]
 refine mM (u:=.slice (some ⟨R.b,R.o,none⟩) (q+num) R.cap) (w':=w') ?_ (hN _ _ w' hstep ?_)
 ·rw[execOp,ho,hta];simp only[resolve,hargs,invoke,builtin,Sem.run_bind,Sem.run_pure,Result.andThen_ok,e1,e2,hrun]
 ·refine .sub i 0 (q+num) (some d) t _ (some ⟨R.b,R.o,none⟩) _ R.cap R.cap ht.P3 (by simp[Pl.set,hhd,Rz];omega) (by simp;omega) (by omega) (by omega) (.inr (by simp[Addr.add]))
end
end
section
variable [Tok]
section
variable {w:World} {H:aF} {pl:Pl} {P:Program}
def mark (w:World) (b n:Nat):World:=w.freeze ⟨b,n,none⟩ 1
def KF (n:Nat) (fr:Nat× Nat):Nat× Nat:=if fr.1==fr.2 then(n,n+1)else(min fr.1 n,max fr.2 (n+1))
theorem uy {b n:Nat} {c:Array Value} {e:TypeId} {fr:Nat× Nat} (h:w.heap[b]? =some (.cells c e fr)):(mark w b n).heap[b]? =some (.cells c e (KF n fr)):=by
 unfold mark World.freeze KF;rw[if_neg (by decide)];simp only[Array.getElem?_modify,if_true,h];rfl
theorem uz {b n i:Nat} (h:i≠b):(mark w b n).heap[i]? =w.heap[i]? :=by
 unfold mark World.freeze;rw[if_neg (by decide)];simp only[Array.getElem?_modify];rw[if_neg (λe:b=i=>h e.symm)]
theorem KG {b n:Nat} {c:Array Value} {e:TypeId} {fr:Nat× Nat} (h:w.heap[b]? =some (.cells c e fr)) (p:Cell):(mark w b n).at? p=w.at? p:=by
 unfold World.at? World.cell?;by_cases q:p.1=b
 ·simp only[q,h,uy h]
 ·simp only[uz q]
theorem mO {b n:Nat} {p:Cell} (h:p.1≠b):(mark w b n).eB p=w.eB p:=by
 unfold World.eB;rw[uz h]
theorem Hv {b n j o m:Nat} {c:Array Value} {e:TypeId} {fr:Nat× Nat} (h:w.heap[b]? =some (.cells c e fr)) (hn:n=c.size) (hw:whole (w.eB (b,j)) o m=true):whole ((mark w b n).eB (b,j)) o m=true:=by
 unfold World.eB at*;simp only[h]at hw;simp only[uy h];unfold whole calm at*;simp only[Rk,decide_eq_true_eq]at*;refine⟨?_,hw.2⟩;unfold KF;obtain⟨lo,hi⟩:=fr;simp only at hw⊢;by_cases q:lo=hi
 ·subst q;simp;omega
 ·have:(lo==hi)=false:=by simpa using q
  rw[this];simp only[SM,if_false];omega
theorem BZ {b j:Nat} {u:Value} (h:w.at? (b,j)=some u):∃c e fr,w.heap[b]? =some (.cells c e fr)/\j<c.size:=by
 unfold World.at? World.cell? at h
 cases hb:w.heap[b]? with
 |none=>simp[hb]at h
 |some ob=>
  cases ob with
  |cells c e fr=>
   simp only[hb,Sq,SM,if_false]at h
   exact⟨c,e,fr,rfl,(RK.1 h).1⟩
  |_=>simp[hb]at h
theorem KH {i b n cap:Nat} {sh:Option (List Nat)} {t:Ty} {xs:List t.El} {a:Option Addr} {o:Nat} {c:Array Value} {e:TypeId} {fr:Nat× Nat} (hr:cM H pl w) (hl:look H i=some (.arr sh t xs))
  (hb:w.heap[b]? =some (.cells c e fr)) (hc0:0<c.size) (hn:n=c.size) (hin:∀j,j<c.size->pl.fp i (b,j)) (hsz:c.size=cap*t.sz) (hrow:dW (mark w b n) H pl i (.arr sh t xs)):
  cW H H ([],[]) pl pl w (mark w b n):=by
 have hat:=λp=>KG (n:=n) hb p
 have hmine:∀p u,w.at? p=some u->p.1=b->pl.fp i p:=λp u hp q=>by
  obtain⟨p1,p2⟩:=p;simp only at q;subst q;obtain⟨c',e',fr',h1,h2⟩:=BZ hp;rw[hb]at h1;cases h1;exact hin p2 h2
 have hk:ly ([],[]) w H pl (mark w b n) H pl:=⟨λj B hB _=>⟨B,hB,B.dn,rfl⟩,λd p u _ ho hp=>⟨ho,(hat p).trans hp⟩⟩;refine⟨⟨λj B hB=>?_,hr.dis,hr.ob,λp hp=>hr.nb p ((hat p).symm.trans hp)⟩,hk,rfl,⟨rfl,rfl,λk hk'=>?_⟩,λp u hp hno=>⟨hno,(hat p).trans hp,mO λq=>hno i _ hl (hmine p u hp q)⟩⟩
 ·by_cases q:j=i
  ·subst q;rw[hl]at hB;cases hB;exact hrow
  ·refine(hr.blk j B hB).bN hk rfl (λ_=>Ud) (λp u hf hu=>⟨(hat p).trans hu,mO λq'=>q (hr.dis j i B _ p hB hl hf (hmine p u hu q'))⟩) B.dp
 ·by_cases q:k=b
  ·subst q;rw[hb,uy hb];exact⟨rfl,.inr hc0,rfl⟩
  ·rw[uz q];split
   ·rename_i e1 e2;rw[e1]at e2;cases e2;exact⟨rfl,.inl rfl,rfl⟩
   ·rfl
theorem MN {o:Oper} {a:Act} {T:TypeId} {x:Operand} {m i:Nat} {sh:Option (List Nat)} {t:Ty} {y:t.El} {ys:List t.El} (hr:cM H pl w) (ho:o.op=.convert T T x) (hT:vy P T=true)
  (hl:look H i=some (.arr sh t (y::ys))) (hx:au w H pl (.own i) (a.eval x)):ky P o a w H pl m {v:=.own i}:=by
 have ha:a.eval x=pl.hdr i:=by generalize a.eval x=u at hx;cases hx;rfl
 unfold vy lT at hT;split at hT
 ·rename_i e he;split at he
  ·rename_i e' hu;cases he;split at hT
   ·rename_i he8;have hrow:=hr.blk i _ hl
    obtain⟨ad,cap,b,o',hh,hlen,hadr,ku⟩:∃ad cap b o',pl.hdr i=.slice ad (y::ys).length cap/\(y::ys).length<=cap/\(cap=0\/ad=some ⟨b,o',none⟩)/\
      (∀j,j<cap*t.sz->(∃v,w.at? (b,o'+j)=some v)/\whole (w.eB (b,o'+j)) o' (cap*t.sz)=true/\pl.fp i (b,o'+j)):=by
     cases sh with
     |none=>obtain⟨⟨ad,cap,b,o',vs,fs,q1,q2,q3,q4,q5,q6,q7,q8,q9⟩⟩:=hrow;exact⟨ad,cap,b,o',q1,q2,q3,λj hj=>⟨(q4 j hj).1,(q4 j hj).2,(q9 _).2 (.inl ⟨rfl,by simp,by simp;omega⟩)⟩⟩
     |some d=>obtain⟨⟨ad,cap,b,o',vs,fs,q1,q2,q3,q4,q5,q6,q7,q8,q9⟩⟩:=hrow;exact⟨ad,cap,b,o',q1,q2,q3,λj hj=>⟨(q4 j hj).1,(q4 j hj).2,(q9 _).2 (.inl ⟨rfl,by simp,by simp;omega⟩)⟩⟩
    have iq:0<cap:=by simp at hlen;omega
    have hpos:0<cap*t.sz:=Nat.mul_pos iq (Ty.gj t);obtain⟨⟨v0,hv0⟩,hw0,_⟩:=ku 0 hpos;obtain⟨c,ee,fr,hb,hc0⟩:=BZ hv0
    have ho0:o'=0/\c.size=cap*t.sz:=by
     unfold whole World.eB at hw0;simp only[hb,Rk,decide_eq_true_eq]at hw0;exact hw0.2
    obtain⟨rfl,hsz⟩:=ho0;have hadr:=hadr.resolve_left (by omega);subst hadr
    have hin:∀j,j<c.size->pl.fp i (b,j):=λj hj=>by
     have:=(ku j (by omega)).2.2;rwa [Ru]at this
    have hshape:w.shape? b=some (ee,c.size):=by unfold World.shape?;rw[hb]
    have hrun:(execOp a.eval o).run P w=.ok (.value (a.eval x)) (mark w b c.size):=by
     rw[execOp,ho,ha,hh];simp[ha,hh,convert,run_underlying hu,run_underlying he8,markStringish,hshape,mark]
    have hat:=λp=>KG (n:=c.size) hb p;have hk:ly ([],[]) w H pl (mark w b c.size) H pl:=⟨λj B hB _=>⟨B,hB,B.dn,rfl⟩,λd p u _ ho hp=>⟨ho,(hat p).trans hp⟩⟩
    have hnb:∀p,reg b 0 (cap*t.sz) p\/p.1≠b\/w.at? p=none:=λp=>by
     by_cases q:p.1=b
     ·cases hp:w.at? p with
      |none=>exact .inr (.inr rfl)
      |some u=>
       obtain⟨p1,p2⟩:=p;simp only at q;subst q;obtain⟨c',e',fr',h1,h2⟩:=BZ hp;rw[hb]at h1;cases h1;exact .inl ⟨rfl,RX _,by simp only;omega⟩
     ·exact .inr (.inl q)
    have hblk:dW (mark w b c.size) H pl i (.arr sh t (y::ys)):=by
     cases sh with
     |none=>
      obtain⟨⟨ad,cap',b',o',vs,fs,q1,q2,q3,q4,q5,q6,q7,q8,q9⟩⟩:=hrow;rw[hh]at q1;cases q1;have q3:=q3.resolve_left (by omega);cases q3;refine⟨⟨_,cap,b,0,vs,fs,hh,q2,.inr rfl,λj hj=>⟨?_,Hv hb rfl (q4 j hj).2⟩,λi' j r h=>(hat _).trans (q5 i' j r h),λi' j r h=>(q6 i' j r h).frame λp u hp hu=>⟨(hat p).trans hu,mO λq=>?_⟩,q7,q8,q9⟩⟩
      ·obtain⟨⟨v,hv⟩,_⟩:=q4 j hj;exact⟨v,(hat _).trans hv⟩
      ·rcases hnb p with h1|h1|h1
       ·exact q7 _ _ _ p h hp h1
       ·exact h1 q
       ·rw[hu]at h1;exact nomatch h1
     |some d=>
      obtain⟨⟨ad,cap',b',o',vs,fs,q1,q2,q3,q4,q5,q6,q7,q8,q9⟩⟩:=hrow;rw[hh]at q1;cases q1;have q3:=q3.resolve_left (by omega);cases q3;refine⟨⟨_,cap,b,0,vs,fs,hh,q2,.inr rfl,λj hj=>⟨?_,Hv hb rfl (q4 j hj).2⟩,λi' j r h=>(hat _).trans (q5 i' j r h),λi' j r h=>⟨(q6 i' j r h).1.frame λp u hp hu=>⟨hp,(hat p).trans hu⟩,(q6 i' j r h).2⟩,q7,q8,q9⟩⟩;obtain⟨⟨v,hv⟩,_⟩:=q4 j hj;exact⟨v,(hat _).trans hv⟩
    refine⟨λj B h=>by simp[look]at h,λH' next Q ha' hN=>?_⟩;cases ha'
    have hH:rp [] H++aJ m []=H:=by simp[rp,aJ]
    simp only[hH]at hN;have hst:=KH (n:=c.size) hr hl hb hc0 rfl hin hsz hblk (a:=some ⟨b,0,none⟩) (o:=0);exact mM hrun (hN _ pl _ hst (hx.vY hk))
   ·exact nomatch hT
  ·exact nomatch he
 ·exact nomatch hT
end
end
section
variable [Tok]
def Hw (P:Program) (g:FuncId):Prop:=∀(args:Array Value) (w:World),(callFunc g args).run P w=.ok (.enter g args) w
theorem Dz {P:Program} {g:FuncId} {fn:Func} (h:P.funcs[g]? =some fn) (hb:fn.body.isNone=false) (hn:(fn.name== "runtime.NumGoroutine")=false):Hw P g:=by
 intro args w
 have hn':¬fn.name= "runtime.NumGoroutine":=by simpa using hn
 have hb':¬fn.body=none:=λe=>by rw[e]at hb;exact nomatch hb
 simp[callFunc,h,hb',hn']
def KI (P:Program) (g:FuncId) (nid:Nat) (vs:List SV) (H:aF) (c:CR):Prop:=
 Hw P g/\(∀i B,look c.upd i=some B->∃B',look H i=some B')/\
 ∀(H1:aF) (pl:Pl) (w:World) (us:Array Value),Ext H H1->cM H1 pl w->(∀k,k<c.news.length->look H1 (nid+k)=none)->vs.length=us.size->
  (∀(j:Nat) (x:SV) (u:Value),vs[j]? =some x->us[j]? =some u->au w H1 pl x u)->∀H',after H1 nid c=some H'->
  Calls P g us w λe w'=>∃u pl',e=.returned u/\cW H1 H' c.kil pl pl' w w'/\au w' H' pl' c.v u
def rj (P:Program) (g:FuncId) (o:Orc):Prop:=
 ∀(ρ:Type) nid vs H (K:CR->Option ρ) (out:ρ),o ρ nid vs H K=some out->∃c,K c=some out/\KI P g nid vs H c
theorem MO (P:Program) (g:FuncId):rj P g PK:=λ_ _ _ _ _ _ h=>nomatch h
def mP (E:Env):Prop:=∀g,rj E.P g (E.orc g)
section
variable {w:World} {H:aF} {pl:Pl} {P:Program}
theorem MP {o:Oper} {a:Act} {s:List (Nat× SV)} {f:Operand} {args:Array Operand} {tys:Array TypeId} {g:FuncId} {first vs cap:List SV} {n:Nat} {c:CR} {H0:aF}
  (he:Ext H0 H) (hr:cM H pl w) (hs:gu w H pl s a) (hn:∀k,k<c.news.length->look H (n+k)=none) (ho:o.op=.call {callee:=.value f,args:=args,argTypes:=tys})
  (hf:opd s f=some (.fn (.func g) first cap)) (hv:rG s args.toList=some vs) (hc:KI P g n (first++vs++cap) H0 c):ky P o a w H pl n c:=by
 obtain⟨hen,hup,hcall⟩:=hc;refine⟨λi B hB=>(hup i B hB).imp λB' h=>he i B' h,λH' next Q ha hN=>?_⟩;have hfr:=aP hs hf;obtain⟨g1,g2⟩:=BN hs hv;generalize hfe:a.eval f=fe at hfr
 cases hfr with
 |fn _ _ _ us vs' hl h1 hl' h2=>
  have hlen:(first++vs++cap).length=(us++args.map a.eval++vs').size:=by simp only[Rz,Array.size_append,hl,hl',g1]
  have hpt:∀(j:Nat) (x:SV) (u:Value),(first++vs++cap)[j]? =some x->(us++args.map a.eval++vs')[j]? =some u->au w H pl x u:=λj x u hx hu=>by
   by_cases c1:j<first.length
   ·rw[RH,Ro c1]at hx;rw[S7,Sn (by omega)]at hu;exact h1 j x u hx hu
   ·by_cases c2:j<first.length+vs.length
    ·rw[RH,Rn (by omega),Ro (by omega)]at hx;rw[S7,S5 (by omega),Sn (by omega)]at hu;rw[<-hl]at hu;exact g2 _ x u hx hu
    ·rw[RH,Rn (by omega),Rn (by omega)]at hx;rw[S7,S5 (by omega),S5 (by omega)]at hu;rw[<-hl,<-g1]at hu;exact h2 _ x u hx hu
  have hcl:=hcall H pl w _ he hr hn hlen hpt H' ha;unfold Oper.wp
  have hrun:(execOp a.eval o).run P w=.ok (.enter g (us++args.map a.eval++vs')) w:=by
   rw[execOp,ho];simp only[resolve,hfe,Deferred.ofValue,invoke,Sem.run_bind,Sem.run_pure,Result.andThen_ok];exact hen _ w
  rw[hrun];show Calls P g _ w _;refine hcl.mono λe w' ⟨u,pl',he,hst,hv⟩=>?_;subst he;exact hN u pl' w' hst hv
variable {ρ:Type}
def DA (P:Program) (o:Oper) (n:Nat) (c:CR) (s:List (Nat× SV)) (h:aF):Prop:=
 ∀(s':List (Nat× SV)) (H:aF) (a:Act) (w:World) (pl:Pl),Ext s s'->Ext h H->cM H pl w->gu w H pl s' a->(∀k,k<c.news.length->look H (n+k)=none)->ky P o a w H pl n c
theorem B4 {H:aF} {n:Nat} {B:Blk} (h:∀k,k<[B].length->look H (n+k)=none):look H n=none:=h 0 (by simp)
theorem OE (hr:cM H pl w) {o:Oper} {a:Act} {T:TypeId} {p:Operand} {n i x k:Nat} {t:Ty} {xs:List t.El} (ho:o.op=.load T p) (hT:Hc P T=true)
  (hl:look H i=some (.arr none t xs)) (hk:k<t.sz) (hp:au w H pl (.ptr i x k) (a.eval p)):ky P o a w H pl n {v:=.inn i x k}:=by
 generalize he:a.eval p=u at hp
 cases hp with
 |uh _ _ cs b m hl' hh=>rw[hl]at hl';exact nomatch hl'
 |sB _ _ _ sh t' xs' b m nn cap hl' hx hh=>
  rw[hl]at hl';cases hl';obtain⟨⟨a',cap',b',o',vs,fs,h1,h2,h3,h4,h5,h6,h7,h8,h9⟩⟩:=hr.blk i _ hl;rw[hh]at h1;cases h1;have h3:=h3.resolve_left (by omega);cases h3;obtain⟨r,hcell⟩:=dA hx hk;have hat:=h5 x k r hcell;have hone:one (vs x k)=true:=((h6 _ _ _ hcell).Mq (ok:=λ_=>True) (λ_ _=>trivial)).ri;have hfp:pl.fp i (b,m+(x*t.sz+k)):=(h9 _).2 (.inl ⟨rfl,by simp,by have:=pk hx hk h2;simp;omega⟩);obtain⟨el,_,hu,_⟩:=BJ hT;refine nc (u:=vs x k) hr ?_ (.inn i x k none t xs b m _ _ _ hl hx hk hh ⟨hr.ob i _ _ hl hfp,λj B hB hm hf=>?_⟩ hat hone)
  ·rw[execOp,ho];refine en ?_;rw[Instr.loadAt,he];have hat:w.cell? ⟨b,m+(x*t.sz+k),none⟩=some (vs x k):=hat
   have h1:(loadVar T ⟨b,m+(x*t.sz+k),none⟩).run P w=.ok (vs x k) w:=by simp[loadVar,k8 hu,wV,hu,hat]
   exact h1
  ·have:=hr.dis j i _ _ _ hB hl hf hfp;subst this;rw[hl]at hB;cases hB;have:=hm (by simp[mem]);exact nomatch this
theorem FN {E:Env} {o:Oper} {s:List (Nat× SV)} {h0:aF} {n:Nat} {K:CR->Option ρ} {out:ρ} {args:Array Operand} {tys:Array TypeId} {b x:SV} {T T' e:TypeId} {sz:Nat} {t:Ty}
  (ho:o.op=.call {callee:=.builtin .append,args:=args,argTypes:=tys}) (hvs:rG s args.toList=some [b,x]) (hty:tys.toList=[T,T']) (he:lT E.P T=some e) (hsz:iV E.P e=some sz)
  (h:Ft E h0 n e sz t T' b x K=some out):∃c,K c=some out/\DA E.P o n c s h0:=by
 unfold Ft at h;split at h
 ·cases hb:(PR E.P T'&&(ph E.P e&&Nat.beq t.sz sz))<;>simp only[hb,cond_true,cond_false,An]at h
  ·exact nomatch h
  simp only[Rk]at hb;obtain⟨l,hl,z,hz,q,hq,h⟩:=h;cases hi:(isNil q.1&&Nat.beq z.length sz)<;>simp only[hi,cond_true,cond_false]at h
  ·exact nomatch h
  simp only[Rk]at hi;split at h
  ·rename_i y hy;cases hd:decide (1<=l/\l<=(aQ:Int))<;>simp only[hd,cond_true,cond_false]at h
   ·exact nomatch h
   have hd:=of_decide_eq_true hd
   have hq':iX h0 t 1 z=some ([],[y]):=by rw[hq];obtain⟨q1,q2⟩:=q;simp only at hy hi;rw[hy,ek hi.1]
   exact⟨_,h,λs' H a w pl es eh hr hs hn=>zH hr hs (B4 hn) ho (jc es _ _ hvs) hty hl hb.1 he hsz hb.2.1 (Rj hb.2.2) hz (Rj hi.2) (lu eh _ _ _ _ hq') hd⟩
  ·exact nomatch h
 ·exact nomatch h
theorem FO {P:Program} {o:Oper} {s:List (Nat× SV)} {h0:aF} {n:Nat} {K:CR->Option ρ} {out:ρ} {args:Array Operand} {tys:Array TypeId} {b x:SV} {T e:TypeId} {sz:Nat} {t:Ty} {z:List SV}
  (ho:o.op=.call {callee:=.builtin .append,args:=args,argTypes:=tys}) (hvs:rG s args.toList=some [b,x]) (hty:tys.toList=[T,T]) (he:lT P T=some e) (hsz:iV P e=some sz) (hts:t.sz=sz) (hz:gl P e=some z)
  (h:Fu h0 t b x K=some out):∃c,K c=some out/\DA P o n c s h0:=by
 unfold Fu at h;split at h
 ·rename_i i a i' off num;cases hi:Nat.beq i i'<;>simp only[hi,cond_true,cond_false]at h
  ·exact nomatch h
  have:=Rj hi;subst this;split at h
  ·rename_i d t' xs hl;split at h
   ·rename_i htt;subst htt;cases hm:mem i d<;>simp only[hm,cond_true,cond_false]at h
    rotate_left
    ·exact nomatch h
    cases hb:(Nat.ble (a+num) xs.length&&(Nat.ble (off+num) xs.length&&Nat.ble 1 xs.length))<;>simp only[hb,cond_true,cond_false]at h
    ·exact nomatch h
    simp only[Rk]at hb;exact⟨_,h,λs' H a w pl es eh hr hs hn=>MM hr hs ho (jc es _ _ hvs) hty he hsz hts hz (eh _ _ hl) hm (Ry hb.1) (Ry hb.2.1) (Ry hb.2.2)⟩
   ·exact nomatch h
  ·exact nomatch h
 ·exact nomatch h
theorem DB {E:Env} (hE:mP E) {o:Oper} {s:List (Nat× SV)} {h0:aF} {n:Nat} {K:CR->Option ρ} {out:ρ}
  (h:BA E s h0 n o.op K=some out):∃c,K c=some out/\DA E.P o n c s h0:=by
 unfold BA at h;split at h
 ·rename_i T ho;simp only[An]at h;obtain⟨z,hz,h⟩:=h;exact⟨_,h,λs' H a w pl es eh hr hs hn=>Kt hr (B4 hn) ho hz⟩
 ·rename_i T x ho;simp only[An]at h;obtain⟨v,hv,cs,hcs,h⟩:=h;exact⟨_,h,λs' H a w pl es eh hr hs hn=>Oz hr (B4 hn) ho (aP hs (cZ es _ _ hv)) hcs⟩
 ·rename_i T k parts ho;simp only[An]at h;obtain⟨e,he,sz,hsz,ps,hps,z,hz,h⟩:=h;cases hb:(Nat.ble (k*sz) 16777216&&Nat.beq z.length sz)<;>simp only[hb,cond_true,cond_false,An]at h
  ·exact nomatch h
  obtain⟨cs,hcs,h⟩:=h;simp only[Rk]at hb;have h1:=Ry hb.1;have h2:=Rj hb.2
  have bx:K {v:=.bsl n k,news:=[.box cs]}=some out->∃c,K c=some out/\DA E.P o n c s h0:=λh=>
   ⟨_,h,λs' H a w pl es eh hr hs hn=>zJ hr hs (B4 hn) ho he hsz (pj es _ _ hps) hz h2 h1 hcs⟩
  split at h
  ·exact bx h
  ·rename_i t ht;cases hc:((pg t||Nat.beq k 0)&&Nat.beq t.sz sz)<;>simp only[hc,cond_true,cond_false,An]at h
   ·unfold Rb at h;cases hd:(E.lit&&Nat.beq t.sz sz)<;>simp only[hd,cond_true,cond_false]at h
    ·exact bx h
    simp only[Rk]at hd;split at h
    ·rename_i xs hx;exact⟨_,h,λs' H a w pl es eh hr hs hn=>rq hr hs (B4 hn) ho he hsz (pj es _ _ hps) hz h2 h1 hcs (Rj hd.2) (lu eh _ _ _ _ hx)⟩
    ·exact bx h
   simp only[Rk]at hc;obtain⟨⟨ids,xs⟩,hx,h⟩:=h;cases hi:isNil ids<;>simp only[hi,cond_true,cond_false]at h
   ·exact nomatch h
   have:=ek hi;subst this;exact⟨_,h,λs' H a w pl es eh hr hs hn=>rq hr hs (B4 hn) ho he hsz (pj es _ _ hps) hz h2 h1 hcs (Rj hc.2) (lu eh _ _ _ _ hx)⟩
 ·rename_i T l c ho;simp only[An]at h;obtain⟨e,he,sz,hsz,t,ht,z,hz,lv,hl,cv,hc,li,hli,ci,hci,h⟩:=h;cases hb:(ph E.P e&&Nat.beq t.sz sz)<;>simp only[hb,cond_true,cond_false,An]at h
  ·exact nomatch h
  simp only[Rk]at hb;obtain⟨⟨ids,xs⟩,hx,h⟩:=h;cases hi:(isNil ids&&Nat.beq z.length sz)<;>simp only[hi,cond_true,cond_false]at h
  ·exact nomatch h
  simp only[Rk]at hi;have hids:=ek hi.1;subst hids;split at h
  ·rename_i y;by_cases hd:0<=li/\li<=ci/\ci<=(aQ:Int)
   ·simp only[hd,and_self,decide_true,cond_true]at h;exact⟨_,h,λs' H a w pl es eh hr hs hn=>BU hr hs (B4 hn) ho (cZ es _ _ hl) (cZ es _ _ hc) hli hci he hsz hb.1 (Rj hb.2) hz (Rj hi.2) (lu eh _ _ _ _ hx) hd⟩
   ·simp only[hd,decide_false,cond_false]at h;exact nomatch h
  ·exact nomatch h
 ·rename_i args tys ho;simp only[An]at h;obtain⟨vs,hvs,h⟩:=h;split at h
  ·rename_i b x T T' hty;simp only[An]at h;obtain⟨e,he,sz,hsz,t,ht,h⟩:=h;cases hb:(ph E.P e&&(Nat.beq t.sz sz&&Nat.beq T T'))<;>simp only[hb,cond_true,cond_false,An]at h
   ·exact FN ho hvs hty he hsz h
   simp only[Rk]at hb;have hTT:T=T':=Rj hb.2.2;subst hTT;have hts:=Rj hb.2.1;obtain⟨z,hz,h⟩:=h;cases hzl:Nat.beq z.length sz<;>simp only[hzl,cond_true,cond_false,An]at h
   ·exact nomatch h
   have hzl:=Rj hzl;obtain⟨⟨sh1,ids,ys⟩,hy,h⟩:=h;split at h
   ·cases hh:hit ids (sh1.getD [])<;>simp only[hh,cond_true,cond_false]at h
    ·cases hn':Nat.ble ys.length aQ<;>simp only[hn',cond_true,cond_false]at h
     ·exact nomatch h
     exact⟨_,h,λs' H a w pl es eh hr hs hn=>Ap (xs:=[]) hr hs (B4 hn) ho (jc es _ _ hvs) hty he hsz hb.1 hts hz hzl (Af eh _ _ _ hy) (.inl ⟨rfl,rfl,rfl,rfl⟩) hh (by simpa using Ry hn')⟩
    ·exact nomatch h
   ·rename_i i;split at h
    ·rename_i sh t' xs hl;split at h
     ·rename_i htt;subst htt;simp only[An]at h;obtain⟨sh',hj,h⟩:=h;cases hm:mem i ids<;>simp only[hm,cond_true,cond_false]at h
      rotate_left
      ·exact nomatch h
      cases hh:hit (i::ids) (sh'.getD [])<;>simp only[hh,cond_true,cond_false]at h
      rotate_left
      ·exact nomatch h
      cases hn':Nat.ble (xs.length+ys.length) aQ<;>simp only[hn',cond_true,cond_false]at h
      ·exact nomatch h
      exact⟨_,h,λs' H a w pl es eh hr hs hn=>Ap hr hs (B4 hn) ho (jc es _ _ hvs) hty he hsz hb.1 hts hz hzl (Af eh _ _ _ hy) (.inr ⟨i,sh,rfl,eh _ _ hl,rfl,hm,hj⟩) hh (Ry hn')⟩
     ·exact nomatch h
    ·exact nomatch h
   ·exact FO ho hvs hty he hsz hts hz h
  ·exact nomatch h
 ·rename_i args tys ho;simp only[An]at h;obtain⟨vs,hvs,h⟩:=h;split at h
  ·rename_i v T hty;simp only[An]at h;obtain⟨e,he,z,hz,⟨i,q,num⟩,hv,h⟩:=h;split at h
   ·rename_i sh t xs hl;cases hzl:Nat.beq z.length t.sz<;>simp only[hzl,cond_true,cond_false,An]at h
    ·exact nomatch h
    obtain⟨⟨ids,ys⟩,hy,h⟩:=h;cases hi:isNil ids<;>simp only[hi,cond_true,cond_false]at h
    ·exact nomatch h
    have hids:=ek hi;subst hids;split at h
    ·rename_i y;exact⟨_,h,λs' H a w pl es eh hr hs hn=>KB hr hs ho (jc es _ _ hvs) hty he hz (Rj hzl) (ML eh hv) (eh _ _ hl) (lu eh _ _ _ _ hy)⟩
    ·exact nomatch h
   ·exact nomatch h
  ·exact nomatch h
 ·rename_i T p x ho;simp only[An]at h;obtain⟨p',hp,x',hx,h⟩:=h
  have arr:∀{i k off:Nat} {sh:Option (List Nat)} {t:Ty} {ys:List t.El},p'=.ptr i k off->look h0 i=some (.arr sh t ys)->wi E.P T h0 i sh t ys k off x' K=some out->∃c,K c=some out/\DA E.P o n c s h0:=λe hl h3=>by
   clear h;subst e;obtain⟨c,h1,h2⟩:=Dx (n:=n) ho h3;exact⟨c,h1,λs' H a w pl es eh hr hs hn=>h2 H a w pl eh (eh _ _ hl) hr (aP hs (cZ es _ _ hp)) (aP hs (cZ es _ _ hx))⟩
  split at h
  ·rename_i i k off;split at h
   ·rename_i cs hl;cases hk0:Nat.beq k 0<;>simp only[hk0,cond_true,cond_false,An]at h
    ·exact nomatch h
    have hk0:=Rj hk0;subst hk0;obtain⟨xs,hxs,sz,hsz,h⟩:=h;cases hb:Nat.beq sz xs.length<;>simp only[hb,cond_true,cond_false,An]at h
    ·exact nomatch h
    ·obtain⟨cs',hcs,h⟩:=h;exact⟨_,h,λs' H a w pl es eh hr hs hn=>Ku hr ho (eh _ _ hl) (aP hs (cZ es _ _ hp)) (aP hs (cZ es _ _ hx)) hxs hsz (Rj hb) hcs⟩
   ·rename_i sh t ys hl;exact arr rfl hl h
   ·exact nomatch h
  ·exact nomatch h
 ·rename_i f args tys ho;simp only[An]at h;obtain⟨f',hf,vs,hvs,h⟩:=h;split at h
  ·rename_i g first cap
   obtain⟨c,hc,hcs⟩:=hE g _ _ _ _ _ _ h;exact⟨c,hc,λs' H a w pl es eh hr hs hn=>MP eh hr hs hn ho (cZ es _ _ hf) (jc es _ _ hvs) hcs⟩
  ·exact nomatch h
 ·rename_i T x ho;unfold PT at h;cases hk:taken E x<;>simp only[hk,cond_true,cond_false]at h
  rotate_left
  ·split at h
   ·rename_i i y hx;split at h
    ·rename_i t xs hl;simp only[An]at h;obtain⟨e,he,v,hv,h⟩:=h;exact⟨_,h,λs' H a w pl es eh hr hs hn=>Hu (P5 t) hr ho (eh _ _ hl) he hv (aP hs (cZ es _ _ hx)) hn⟩
    ·exact nomatch h
   ·exact nomatch h
  split at h
  ·rename_i v hv;unfold PN at hv;cases hi:E.inn<;>simp only[hi,cond_true,cond_false]at hv
   ·exact nomatch hv
   cases hT:Hc E.P T<;>simp only[hT,cond_true,cond_false]at hv
   ·exact nomatch hv
   split at hv
   ·rename_i i y k hx;split at hv
    ·rename_i t xs hl;cases hk:Nat.ble (k+1) t.sz<;>simp only[hk,cond_true,cond_false,It]at hv
     ·exact nomatch hv
     subst hv;exact⟨_,h,λs' H a w pl es eh hr hs hn=>OE hr ho hT (eh _ _ hl) (Ry hk) (aP hs (cZ es _ _ hx))⟩
    ·exact nomatch hv
   ·exact nomatch hv
  ·have dflt:nP E.P s h0 (.load T x) (λv=>K {v:=v})=some out->∃c,K c=some out/\DA E.P o n c s h0:=λh=>by
    rw[nQ]at h;simp only[An]at h;obtain⟨v,hv,h⟩:=h
    exact⟨_,h,λs' H a w pl es eh hr hs hn=>by
     obtain⟨u,hu,hvr⟩:=kC hr hs (ug es eh _ _ hv) o ho
     exact nc hr hu hvr⟩
   unfold PS at h;cases ht:E.tak<;>simp only[ht,cond_true,cond_false]at h
   ·exact dflt h
   split at h
   ·rename_i i y hx;split at h
    ·rename_i st xs hl;cases hf:pg (.st st)<;>simp only[hf,cond_true,cond_false]at h
     ·simp only[An]at h;obtain⟨e,he,v,hv,h⟩:=h;exact⟨_,h,λs' H a w pl es eh hr hs hn=>Hu (P4 st) hr ho (eh _ _ hl) he hv (aP hs (cZ es _ _ hx)) hn⟩
     ·exact dflt h
    ·exact dflt h
   ·exact dflt h
 ·rename_i src dst x ho;split at h
  ·rename_i i hi;unfold PQ at hi;cases hT:(Nat.beq src dst&&vy E.P src)<;>simp only[hT,cond_true,cond_false]at hi
   ·exact nomatch hi
   simp only[Rk]at hT;have hsd:=Rj hT.1;split at hi
   ·rename_i j hx;split at hi
    ·rename_i sh t y ys hl;cases hi;subst hsd;exact⟨_,h,λs' H a w pl es eh hr hs hn=>MN hr ho hT.2 (eh _ _ hl) (aP hs (cZ es _ _ hx))⟩
    ·exact nomatch hi
   ·exact nomatch hi
  ·rw[nQ]at h;simp only[An]at h;obtain⟨v,hv,h⟩:=h
   exact⟨_,h,λs' H a w pl es eh hr hs hn=>by
    obtain⟨u,hu,hvr⟩:=kC hr hs (ug es eh _ _ hv) o ho
    exact nc hr hu hvr⟩
 ·rw[nQ]at h;simp only[An]at h;obtain⟨v,hv,h⟩:=h
  exact⟨_,h,λs' H a w pl es eh hr hs hn=>by
   obtain⟨u,hu,hvr⟩:=kC hr hs (ug es eh _ _ hv) o rfl
   exact nc hr hu hvr⟩
theorem FQ {E:Env} (hE:mP E) {o:Oper} {a:Act} {s:List (Nat× SV)} {n:Nat} {K:CR->Option ρ} {out:ρ}
  (hr:cM H pl w) (hs:gu w H pl s a) (hn:∀i,n<=i->look H i=none) (h:BA E s H n o.op K=some out):∃c,K c=some out/\ky E.P o a w H pl n c:=by
 obtain⟨c,h1,h2⟩:=DB hE h;exact⟨c,h1,h2 s H a w pl .rfl' .rfl' hr hs λk _=>hn _ (Nat.le_add_right _ _)⟩
theorem KJ {x y:Option ρ} {out:ρ} (h:both x y=some out):x=some out/\y=some out:=by
 unfold both at h;split at h
 ·rename_i e;exact⟨h,e▸h⟩
 ·exact nomatch h
theorem FR {op:Op} {T:TypeId} {x:Operand} {e:Bool} (h:Hf op=some (T,x,e)):∃U,op=.binOp (cond e .eql .neq) T x (.const (.slice none 0 0)) U:=by
 unfold Hf at h;split at h
 ·cases h;exact⟨_,rfl⟩
 ·cases h;exact⟨_,rfl⟩
 ·exact nomatch h
theorem KK (hr:cM H pl w) {v:SV} {u:Value} {K:Bool->Option ρ} {out:ρ} (h:QL H v K=some out) (hv:au w H pl v u):
  ∃a n c,u=.slice a n c/\K a.isNone=some out:=by
 have fork:∀{α:Type} {xs:List α} {a:Option Addr},(xs=[]\/a.isSome=true)->cond (isNil xs) (both (K true) (K false)) (K false)=some out->K a.isNone=some out:=λ{α xs a} hx h=>by
  cases xs with
  |nil=>
   obtain⟨h1,h2⟩:=KJ h
   cases a<;>assumption
  |cons y ys=>
   rcases hx with hx|hx
   ·exact nomatch hx
   ·cases a with
    |none=>exact nomatch hx
    |some a=>exact h
 unfold QL at h;split at h
 ·cases hv;exact⟨_,_,_,rfl,h⟩
 ·rename_i d t xs
  cases hv with
  |r _ _ _ hx=>cases hx with
   |sl _ _ a cap b o vs iq ha hc hr'=>exact⟨_,_,_,rfl,fork (ha.imp_right λe=>by rw[e];rfl) h⟩
 ·rename_i i
  cases hv with
  |own _ sh t xs hl=>
   simp only[hl]at h;have hb:=hr.blk i _ hl
   have:∃a cap b o,pl.hdr i=.slice a xs.length cap/\xs.length<=cap/\(cap=0\/a=some ⟨b,o,none⟩):=by
    cases sh with
    |none=>obtain⟨⟨a,cap,b,o,vs,fs,q1,q2,q3,_⟩⟩:=hb;exact⟨a,cap,b,o,q1,q2,q3⟩
    |some d=>obtain⟨⟨a,cap,b,o,vs,fs,q1,q2,q3,_⟩⟩:=hb;exact⟨a,cap,b,o,q1,q2,q3⟩
   obtain⟨a,cap,b,o,q1,q2,q3⟩:=this;refine⟨a,_,_,q1,fork ?_ h⟩
   rcases q3 with rfl|rfl
   ·exact .inl (Sf.1 (by omega))
   ·exact .inr rfl
 ·exact nomatch h
theorem OG (hr:cM H pl w) {o:Oper} {a:Act} {T:TypeId} {x:Operand} {e:Bool} {n:Nat} (hT:Hc P T=true) (ho:Hf o.op=some (T,x,e)) {b:Option Addr} {l c:Nat} (hx:a.eval x=.slice b l c):
  ky P o a w H pl n {v:=.b (cond b.isNone e (!e))}:=by
 obtain⟨U,ho⟩:=FR ho;obtain⟨el,_,hu,_⟩:=BJ hT;refine nc (u:=.bool (cond b.isNone e (!e))) hr ?_ lY;rw[execOp,ho];have hc:a.eval (.const (.slice none 0 0))=.slice none 0 0:=rfl
 have key:(do eqGuard (cond e .eql .neq) T x (.const (.slice none 0 0)) (a.eval x) (a.eval (.const (.slice none 0 0)));binOp (cond e .eql .neq) T (a.eval x) (a.eval (.const (.slice none 0 0))):Sem Value).run P w=.ok (.bool (cond b.isNone e (!e))) w:=by
  rw[hc,hx];refine guarded (λh=>nomatch h) (λ_ h=>nomatch h) ?_;cases e
  ·rw[cond_false,run_neq_slice_nil w T el b l c hu];cases b<;>rfl
  ·rw[cond_true,Lib.run_eql_slice_nil w T el b l c _ _ hu];cases b<;>rfl
 simp only[Sem.run_bind,key,Result.andThen_ok];rfl
theorem IZ {E:Env} (hE:mP E) {w0:World} {fp0:G0} {o:Oper} {st:St} {a:Act} {K:St->Option ρ} {out:ρ} {next:Act->World->Prop} {Q:Exit->Act->World->Prop}
  (hr:Rel w0 fp0 st pl a w) (h:PB E o st K=some out) (hK:∀st' pl' a' w',K st'=some out->pl'.base=pl.base->st'.n=st.n->Rel w0 fp0 st' pl' a' w'->next a' w'):o.wp E.P a w next Q:=by
 obtain⟨c,hc,hup,hsem⟩:∃c,((st.take o.dst c).bind K)=some out/\ky E.P o a w st.heap pl st.nid c:=by
  unfold PB at h;split at h
  ·rename_i T x e ho;cases hT:Hc E.P T<;>simp only[hT,cond_true,cond_false,An]at h
   ·exact nomatch h
   obtain⟨v,hv,h⟩:=h;obtain⟨b,l,c,hu,hk⟩:=KK hr.hr h (aP hr.sl hv);exact⟨_,hk,OG hr.hr hT ho hu⟩
  ·exact FQ hE hr.hr hr.sl hr.fresh h
 simp only[An]at hc;obtain⟨st',ht,hk⟩:=hc
 refine hsem st'.heap next Q (Ks ht) λu pl' w' hst hv=>?_
 have hn:st'.n=st.n:=by
  simp only[St.take,An,It]at ht;obtain⟨h1,e1,s,h2,rfl⟩:=ht;rfl
 exact hK st' pl' _ w' hk hst.bs hn (hr.take ht hup hst hv)
end
end
section
variable [Tok]
theorem jH (h:aF) (n:Nat) (b:Blk) (i:Nat):look (Ix h n b) i=if n=i then(look h i).map λ_=>b else look h i:=by
 induction h with
 |nil=>simp[Ix,look]
 |cons x l ih=>
  obtain⟨k,u⟩:=x;simp only[Ix];cases hb:Nat.beq k n
  ·simp only[cond_false,aA,ih]
   have hne:k≠n:=λe=>by subst e;simp at hb
   by_cases e:k=i
   ·subst e;simp only[if_true];rw[if_neg (λe=>hne e.symm)]
   ·simp only[if_neg e]
  ·simp only[cond_true,aA];have:=Rj hb;subst this;by_cases e:k=i<;>simp[e]
theorem dB (s:List (Nat× SV)) (dst:Option Tmp) (v:SV) (t:Nat):look (Hg s dst v) t=if dst=some t then some v else look s t:=by
 cases dst with
 |none=>simp[Hg]
 |some d=>simp[Hg,eH]
def xp {α:Type} (x y:List (Nat× α)):Prop:=∀t,look x t=look y t
theorem KL {h h':aF} (e:xp h h') (n:Nat) (b:Blk):xp (Ix h n b) (Ix h' n b):=λt=>by rw[jH,jH,e t]
theorem I0 {h h':aF} (e:xp h h') (u:aF):xp (jb u h) (jb u h'):=by
 induction u generalizing h h' with
 |nil=>exact e
 |cons x l ih=>obtain⟨k,b⟩:=x;exact ih (KL e k b)
theorem KM (u h:aF) (i:Nat):(look (jb u h) i).isSome=(look h i).isSome:=by
 induction u generalizing h with
 |nil=>rfl
 |cons x l ih=>
  obtain⟨k,b⟩:=x;rw[jb,ih,jH];by_cases e:k=i<;>simp[e]
theorem As {u h:aF} {i:Nat}:look (jb u h) i=none↔look h i=none:=by
 have:=KM u h i;rw[<-Option.not_isSome_iff_eq_none,<-Option.not_isSome_iff_eq_none,this]
theorem I1 {S:Nat->Prop} {h h':aF} (e:∀i B,S i->look h i=some B->look h' i=some B) (u:aF):∀i B,S i->look (jb u h) i=some B->look (jb u h') i=some B:=by
 induction u generalizing h h' with
 |nil=>exact e
 |cons x l ih=>
  obtain⟨k,b⟩:=x;refine ih λt v ht hv=>?_;rw[jH]at hv⊢;by_cases c:k=t
  ·rw[if_pos c]at hv⊢;obtain⟨y,hy,rfl⟩:=Rt.1 hv;rw[e t y ht hy];rfl
  ·rw[if_neg c]at hv⊢;exact e t v ht hv
theorem pA {i:Nat}:∀(u h:aF),look u i=none->look (jb u h) i=look h i
  |[],_,_=>rfl
  | (k, b) :: l, h, e => by
    rw[aA]at e;by_cases c:k=i
    · rw[if_pos c]at e;exact nomatch e
    · rw[if_neg c]at e;show look (jb l (Ix h k b)) i=_;rw[pA l _ e,jH,if_neg c]
theorem MQ {h:aF} {k:Nat} (b:Blk) (hk:∃B,look h k=some B):put h k b=Ix h k b:=by
 induction h with
 |nil=>obtain⟨B,hB⟩:=hk;exact nomatch hB
 |cons x l ih=>
  obtain⟨k',u⟩:=x;simp only[put,Ix];obtain⟨B,hB⟩:=hk;rw[aA]at hB;cases hb:Nat.beq k' k
  ·have hne:k'≠k:=λe=>by subst e;simp at hb
   rw[if_neg hne]at hB;simp only[cond_false,ih ⟨B,hB⟩]
  ·rfl
theorem uA {u h:aF} (hd:∀i B,look u i=some B->∃B',look h i=some B'):rp u h=jb u h:=by
 induction u generalizing h with
 |nil=>rfl
 |cons x l ih=>
  obtain⟨k,b⟩:=x;have hk:=hd k b (by rw[aA];simp);simp only[rp,jb];rw[MQ b hk];refine ih λi B hB=>?_;rw[jH];by_cases e:k=i
  ·subst e;obtain⟨B',hB'⟩:=hk;exact⟨b,by simp[hB']⟩
  ·rw[if_neg e];exact hd i B (by rw[aA,if_neg e];exact hB)
def DC (x y:SH):Prop:=xp x.1 y.1/\xp x.2 y.2
theorem DC.refl (x:SH):DC x x:=⟨λ_=>rfl,λ_=>rfl⟩
theorem DC.trans {x y z:SH} (h:DC x y) (g:DC y z):DC x z:=⟨λt=>(h.1 t).trans (g.1 t),λt=>(h.2 t).trans (g.2 t)⟩
def DR.rM (r:DR) (i:Nat):Prop:=r.n0<=i/\i<r.n0+r.c.news.length
theorem DR.nh {r:DR} {i:Nat} (h:¬r.rM i):look (aJ r.n0 r.c.news) i=none:=by
 rw[bp];by_cases c:r.n0<=i
 ·rw[if_pos c];exact RJ (Nat.le_of_not_lt λh'=>h ⟨c,by omega⟩)
 ·rw[if_neg c]
theorem xq {T:Kil} (h:T.2=[]) (x:List (Nat× SV)):nO T x=x:=by unfold nO;rw[h]
theorem FT {T:Kil} (h:T.2=[]) (x:aF):iv T x=some x:=by unfold iv;rw[h]
theorem iB {r:DR} (hg:r.c.kil.2=[]) (x:SH):r.app x=some (Hg x.1 r.dst r.c.v,jb r.c.upd x.2++aJ r.n0 r.c.news):=by
 unfold DR.app;rw[FT hg,xq hg];rfl
theorem dC {r:DR} {x y:SH} (h:r.app x=some y):y.1=Hg (nO r.c.kil x.1) r.dst r.c.v:=by
 unfold DR.app at h;simp only[An,It]at h;obtain⟨hh,h1,rfl⟩:=h;rfl
theorem wo {r:DR} {x y:SH} (h:r.app x=some y) (i:Nat):look y.2 i=(cond (mem i r.c.kil.1) none ((look (jb r.c.upd x.2) i).bind (Blk.aL r.c.kil))).or (look (aJ r.n0 r.c.news) i):=by
 unfold DR.app at h;simp only[An,It]at h;obtain⟨hh,h1,rfl⟩:=h;show look (hh++_) i=_;rw[aE,cN r.c.fE h1 i]
theorem MR {r:DR} (hg:r.c.kil.2=[]) {x y:SH} (e:DC x y) {x':SH} (h:r.app x=some x'):∃y',r.app y=some y'/\DC x' y':=by
 rw[iB hg]at h;cases h;refine⟨_,iB hg y,λt=>?_,λi=>?_⟩
 ·show look (Hg _ _ _) t=look (Hg _ _ _) t;rw[dB,dB,e.1 t]
 ·show look (_++_) i=look (_++_) i;rw[aE,aE,I0 e.2 _ i]
theorem eo (p:Nat->Bool):∀(l1 l2:List DR) (k:Nat) (x:SH),replay p k (l1++l2) x=(replay p k l1 x).bind (replay p (k+l1.length) l2)
 |[],l2,k,x=>by simp[replay]
 |r::l,l2,k,x=>by
  simp only[SP,replay,Rw];cases p k
  ·simp only[cond_false];rw[eo p l l2 (k+1) x,show k+1+l.length=k+(l.length+1)from by omega]
  ·simp only[cond_true,RP]
   congr 1;funext y;rw[eo p l l2 (k+1) y,show k+1+l.length=k+(l.length+1)from by omega]
theorem jI {p q:Nat->Bool}:∀(l:List DR) (k:Nat) (x:SH),(∀j,j<l.length->p (k+j)=q (k+j))->replay p k l x=replay q k l x
 |[],_,_,_=>rfl
 |r::l,k,x,h=>by
  simp only[replay];have h0:=h 0 (by simp);rw[RS]at h0
  have ih:=λx=>jI (p:=p) (q:=q) l (k+1) x λj hj=>by have:=h (j+1) (by simpa using hj);rwa [show k+(j+1)=k+1+j from by omega]at this
  rw[h0,ih x];congr 1;congr 1;exact funext ih
theorem nV {p:Nat->Bool}:∀(l:List DR) (k:Nat) (x:SH),(∀j,j<l.length->p (k+j)=false)->replay p k l x=some x
 |[],_,_,_=>rfl
 |r::l,k,x,h=>by
  simp only[replay];have h0:=h 0 (by simp);rw[RS]at h0;rw[h0,cond_false]
  exact nV l (k+1) x λj hj=>by have:=h (j+1) (by simpa using hj);rwa [show k+(j+1)=k+1+j from by omega]at this
theorem ni {p:Nat->Bool}:∀(l:List DR) (k:Nat) (x X:SH),replay p k l x=some X->∀i B,look X.2 i=some B->(∃B',look x.2 i=some B')\/∃(j:Nat) (r:DR),l[j]? =some r/\p (k+j)=true/\r.rM i
  |[],_,x,X,h,i,B,hB=>by cases h;exact .inl ⟨B,hB⟩
  | r :: l, k, x, X, h, i, B, hB => by
    simp only[replay]at h;cases hp:p k<;>simp only[hp,cond_false,cond_true]at h
    · rcases ni l (k+1) x X h i B hB with h'|⟨j,r',h1,h2,h3⟩
      · exact .inl h'
      · exact .inr ⟨j+1,r',by simpa using h1,by rwa [show k+(j+1)=k+1+j from by omega],h3⟩
    · rw [An] at h;obtain⟨y,hy,h⟩:=h
      rcases ni l (k+1) y X h i B hB with⟨B',h'⟩|⟨j,r',h1,h2,h3⟩
      · by_cases hm:r.rM i
        · exact .inr ⟨0,r,rfl,hp,hm⟩
        · left;rw[wo hy,DR.nh hm,Sr]at h'
          cases hx:look x.2 i with
          |none=>rw[As.2 hx]at h';cases hm':mem i r.c.kil.1<;>simp[hm']at h'
          |some b=>exact⟨b,rfl⟩
      · exact .inr ⟨j+1,r',by simpa using h1,by rwa [show k+(j+1)=k+1+j from by omega],h3⟩
theorem qu {q p:Nat->Bool}:∀(l:List DR) (k:Nat) (y z Y Z:SH),(∀j,q j=true->p j=true)->replay q k l y=some Y->replay p k l z=some Z->Ext y.1 z.1->
    (∀t v,look y.1 t=some v->∀(j:Nat) (r:DR),l[j]? =some r->p (k+j)=true->q (k+j)=false->r.dst≠some t)->
    (∀(j j':Nat) (r r':DR) t,j≠j'->l[j]? =some r->l[j']? =some r'->r.dst=some t->r'.dst≠some t)->
    (∀(j:Nat) (r:DR),l[j]? =some r->p (k+j)=true->q (k+j)=false->r.c.kil.2=[])->Ext Y.1 Z.1
  |[],_,y,z,Y,Z,_,hy,hz,he,_,_,_=>by cases hy;cases hz;exact he
  | r :: l, k, y, z, Y, Z, hqp, hy, hz, he, hd, hn, hg => by
    simp only[replay]at hy hz;have hn':∀(j j':Nat) (r r':DR) t,j≠j'->l[j]? =some r->l[j']? =some r'->r.dst=some t->r'.dst≠some t:=λj j' r r' t hne h1 h2=>hn (j+1) (j'+1) r r' t (by omega) (by simpa using h1) (by simpa using h2);have hg':∀(j:Nat) (r:DR),l[j]? =some r->p (k+1+j)=true->q (k+1+j)=false->r.c.kil.2=[]:=λj r h1 h2 h3=>hg (j+1) r (by simpa using h1) (by rwa [show k+(j+1)=k+1+j from by omega]) (by rwa [show k+(j+1)=k+1+j from by omega]);have hd':∀t v,look y.1 t=some v->∀(j:Nat) (r:DR),l[j]? =some r->p (k+1+j)=true->q (k+1+j)=false->r.dst≠some t:=λt v ht j r h1 h0 h2=>hd t v ht (j+1) r (by simpa using h1) (by rwa [show k+(j+1)=k+1+j from by omega]) (by rwa [show k+(j+1)=k+1+j from by omega]);cases hq:q k<;>simp only[hq,cond_false,cond_true]at hy
    · cases hp:p k<;>simp only[hp,cond_false,cond_true]at hz
      · exact qu l (k+1) y z Y Z hqp hy hz he hd' hn' hg'
      · rw[An]at hz;obtain⟨z',hz',hz⟩:=hz;have hgr:=hg 0 r rfl (by simpa using hp) (by simpa using hq);refine qu l (k+1) y z' Y Z hqp hy hz (λt v ht=>?_) hd' hn' hg';rw[dC hz',xq hgr,dB,if_neg (hd t v ht 0 r rfl (by simpa using hp) (by simpa using hq))];exact he t v ht
    · rw [hqp k hq] at hz;simp only[cond_true]at hz;rw[An]at hy hz;obtain⟨y',hy',hy⟩:=hy;obtain⟨z',hz',hz⟩:=hz
      have hsl:∀t,look y'.1 t=if r.dst=some t then some r.c.v else(look y.1 t).map (SV.aL r.c.kil):=λt=>by rw[dC hy',dB,db r.c.fE]
      have hslz:∀t,look z'.1 t=if r.dst=some t then some r.c.v else(look z.1 t).map (SV.aL r.c.kil):=λt=>by rw[dC hz',dB,db r.c.fE]
      refine qu l (k+1) y' z' Y Z hqp hy hz (λt v ht=>?_) (λt v ht j r' h1 h0 h2=>?_) hn' hg'
      · rw[hsl]at ht;rw[hslz];by_cases c:r.dst=some t
        · rw[if_pos c]at ht⊢;exact ht
        · rw[if_neg c]at ht⊢;obtain⟨u,hu,rfl⟩:=Rt.1 ht;rw[he t u hu];rfl
      · rw[hsl]at ht;by_cases c:r.dst=some t
        · exact hn 0 (j+1) r r' t (by omega) rfl (by simpa using h1) c
        · rw[if_neg c]at ht;obtain⟨u,hu,_⟩:=Rt.1 ht;exact hd' t u hu j r' h1 h0 h2
theorem lB {S:Nat->Prop} {q p:Nat->Bool}:∀(l:List DR) (k:Nat) (y z Y Z:SH),(∀j,q j=true->p j=true)->replay q k l y=some Y->replay p k l z=some Z->(∀i B,S i->look y.2 i=some B->look z.2 i=some B)->
    (∀(j:Nat) (r:DR) i,l[j]? =some r->r.rM i->look z.2 i=none)->
    (∀(j j':Nat) (r r':DR) i,j≠j'->l[j]? =some r->l[j']? =some r'->r.rM i->¬r'.rM i)->
    (∀(j:Nat) (r:DR),l[j]? =some r->p (k+j)=true->q (k+j)=false->r.c.kil.2=[]/\∀i,S i->look r.c.upd i=none)->∀i B,S i->look Y.2 i=some B->look Z.2 i=some B
  |[],_,y,z,Y,Z,_,hy,hz,he,_,_,_=>by cases hy;cases hz;exact he
  | r :: l, k, y, z, Y, Z, hqp, hy, hz, he, hf, hn, hg => by
    simp only[replay]at hy hz;have hn':∀(j j':Nat) (r r':DR) i,j≠j'->l[j]? =some r->l[j']? =some r'->r.rM i->¬r'.rM i:=λj j' r r' t hne h1 h2=>hn (j+1) (j'+1) r r' t (by omega) (by simpa using h1) (by simpa using h2);have hg':∀(j:Nat) (r:DR),l[j]? =some r->p (k+1+j)=true->q (k+1+j)=false->r.c.kil.2=[]/\∀i,S i->look r.c.upd i=none:=λj r h1 h2 h3=>hg (j+1) r (by simpa using h1) (by rwa [show k+(j+1)=k+1+j from by omega]) (by rwa [show k+(j+1)=k+1+j from by omega]);have hf':∀(j:Nat) (r:DR) i,l[j]? =some r->r.rM i->look z.2 i=none:=λj r i h1 h2=>hf (j+1) r i (by simpa using h1) h2
    have rN:∀z',r.app z=some z'->∀(j:Nat) (r':DR) i,l[j]? =some r'->r'.rM i->look z'.2 i=none:=λz' hz' j r' i h1 h2=>by
      cases hx:look z'.2 i with
      |none=>rfl
      | some B =>
        rcases ni (p:=λ_=>true) [r] 0 z z' (by simp[replay,hz']) i B hx with⟨B',hB'⟩|⟨j',r2,g1,_,g3⟩
        · rw[hf' j r' i h1 h2]at hB';exact nomatch hB'
        · cases j' with
          |zero=>simp at g1;subst g1;exact(hn 0 (j+1) r r' i (by omega) rfl (by simpa using h1) g3 h2).elim
          |succ j'=>simp at g1
    cases hq:q k<;>simp only[hq,cond_false,cond_true]at hy
    · cases hp:p k<;>simp only[hp,cond_false,cond_true]at hz
      · exact lB l (k+1) y z Y Z hqp hy hz he hf' hn' hg'
      · rw[An]at hz;obtain⟨z',hz',hz⟩:=hz;obtain⟨hgr,hur⟩:=hg 0 r rfl (by simpa using hp) (by simpa using hq);refine lB l (k+1) y z' Y Z hqp hy hz (λi B hS hB=>?_) (rN z' hz') hn' hg';rw[iB hgr]at hz';cases hz';show look (jb r.c.upd z.2++_) i=some B;rw[aE,pA _ _ (hur i hS),he i B hS hB];rfl
    · rw [hqp k hq] at hz;simp only[cond_true]at hz;rw[An]at hy hz;obtain⟨y',hy',hy⟩:=hy;obtain⟨z',hz',hz⟩:=hz;refine lB l (k+1) y' z' Y Z hqp hy hz (λi B hS hB=>?_) (rN z' hz') hn' hg';rw[wo hy']at hB;rw[wo hz']
      cases hx:cond (mem i r.c.kil.1) none ((look (jb r.c.upd y.2) i).bind (Blk.aL r.c.kil))with
      | some b =>
        rw[hx]at hB;cases hm:mem i r.c.kil.1<;>simp only[hm,cond_true,cond_false]at hx⊢
        · obtain⟨b0,hb0,hb1⟩:=An.1 hx;rw[I1 he _ i b0 hS hb0];simp only[Rv,hb1];exact hB
        · exact nomatch hx
      | none =>
        rw[hx,Option.none_or]at hB
        have hm:r.rM i:=Classical.byContradiction λh=>by rw[DR.nh h]at hB;exact nomatch hB
        rw[As.2 (hf 0 r i rfl hm)];cases mem i r.c.kil.1<;>exact hB
theorem xr {b:DR}:∀{U:aF},PW b U=true->∀i,b.rM i->look U i=none
  |[],_,_,_=>rfl
  | (k, _) :: l, h, i, hi => by
    simp only[PW]at h;cases hk:(Nat.ble (k+1) b.n0||Nat.ble (b.n0+b.c.news.length) k)<;>rw[hk]at h
    · exact nomatch h
    · rw[aA,if_neg,xr h i hi];intro e;subst e;obtain⟨h1,h2⟩:=hi;rw[Tc]at hk
      rcases hk with hk|hk<;>have:=Ry hk<;>omega
theorem ic {a b:DR} (h:Fv a b=true):a.c.kil.2=[]/\b.c.kil.2=[]/\((b.c.upd=[]/\∀i,b.rM i->look a.c.upd i=none)\/(a.c.upd=[]/\∀i,a.rM i->look b.c.upd i=none)):=by
 simp only[Fv,Rk,Tc]at h;have h:=h.1;refine⟨ek h.1.1,ek h.1.2,?_⟩
 rcases h.2 with h|h
 ·exact .inl ⟨ek h.1,xr h.2⟩
 ·exact .inr ⟨ek h.1,xr h.2⟩
theorem xt {i:Nat}:∀(u:aF) {h h':aF},look h i=look h' i->look (jb u h) i=look (jb u h') i
 |[],_,_,e=>e
 |(k,b)::l,h,h',e=>by
  simp only[jb];exact xt l (by rw[jH,jH,e])
theorem DD {a b:DR} (h:Fv a b=true):MC b.see a.c.upd=false/\MC a.see b.c.upd=false:=by
 simp only[Fv,Rk,Tk]at h;exact h.2
theorem DE {L:List Nat}:∀{U:aF},MC L U=false->∀i,mem i L=true->look U i=none
  |[],_,_,_=>rfl
  | (k, b) :: l, h, i, hi => by
    simp only[MC]at h;cases hk:mem k L<;>simp only[hk,cond_true,cond_false]at h
    · rw[aA,if_neg (λe=>by subst e;rw[hi]at hk;exact nomatch hk)];exact DE h i hi
    · exact nomatch h
theorem nW {h:aF} {i:Nat} {B:Blk}:∀{L:List Nat},look (vA h L) i=some B->mem i L=true/\look h i=some B
 |[],e=>nomatch e
 |k::l,e=>by
  simp only[vA]at e
  cases hk:look h k with
  |none=>
   rw[hk]at e;obtain⟨g1,g2⟩:=nW e
   exact⟨by simp only[mem];cases Nat.beq k i<;>simp[g1],g2⟩
  |some b=>
   rw[hk]at e;rw[aA]at e;by_cases c:k=i
   ·subst c;rw[if_pos rfl]at e;cases e;exact⟨by simp[mem],hk⟩
   ·rw[if_neg c]at e;obtain⟨g1,g2⟩:=nW e;exact⟨by simp only[mem];cases Nat.beq k i<;>simp[g1],g2⟩
theorem not_false {b:Bool} (h:(!b)=true):b=false:=by cases b<;>first|rfl|exact nomatch h
mutual
theorem uB {T:Kil}:(v:SV)->v.JZ T=true->v.aL T=v
 |.r d x,h=>by rw[SV.aL,not_false h];rfl
 |.own j,h=>by rw[SV.aL,not_false h];rfl
 |.sub j o n,h=>by rw[SV.aL,not_false h];rfl
 |.bsl j n,h=>by rw[SV.aL,not_false h];rfl
 |.ptr j x o,h=>by rw[SV.aL,not_false h];rfl
 |.inn j x c,h=>by rw[SV.aL,not_false h];rfl
 |.kt d cs,h=>by rw[SV.aL,not_false h];rfl
 |.agg cs,h=>by rw[SV.aL,jh cs h]
 |.tup cs,h=>by rw[SV.aL,jh cs h]
 |.fn f a b,h=>by
  simp only[SV.JZ,Rk]at h
  rw[SV.aL,jh a h.1,jh b h.2]
 |.ch,_=>rfl
 |.pd,_=>rfl
 |.undef,_=>rfl
theorem jh {T:Kil}:(l:List SV)->wX T l=true->ib T l=l
 |[],_=>rfl
 |v::l,h=>by
  simp only[wX,Rk]at h;rw[ib,uB v h.1,jh l h.2]
end
theorem Hx {c:CR} (h:c.kil.2=[]):c.kil=([],[]):=by
 unfold CR.kil at h⊢;rw[List.append_eq_nil_iff]at h;rw[h.1,h.2];rfl
mutual
theorem Au (T U:Kil):(v:SV)->(v.aL T).aL U=(v.aL U).aL T
 |.r d x=>by
  simp only[SV.aL]
  cases h1:hit T.2 d<;>cases h2:hit U.2 d<;>simp only[cond_true,cond_false,SV.aL,h1,h2]
 |.own j=>by
  simp only[SV.aL]
  cases h1:mem j T.1<;>cases h2:mem j U.1<;>simp only[cond_true,cond_false,SV.aL,h1,h2]
 |.sub j o n=>by
  simp only[SV.aL]
  cases h1:mem j T.1<;>cases h2:mem j U.1<;>simp only[cond_true,cond_false,SV.aL,h1,h2]
 |.bsl j n=>by
  simp only[SV.aL]
  cases h1:mem j T.1<;>cases h2:mem j U.1<;>simp only[cond_true,cond_false,SV.aL,h1,h2]
 |.ptr j x o=>by
  simp only[SV.aL]
  cases h1:mem j T.1<;>cases h2:mem j U.1<;>simp only[cond_true,cond_false,SV.aL,h1,h2]
 |.inn j x c=>by
  simp only[SV.aL]
  cases h1:(mem j T.1||mem j T.2)<;>cases h2:(mem j U.1||mem j U.2)<;>simp only[cond_true,cond_false,SV.aL,h1,h2]
 |.kt d cs=>by
  simp only[SV.aL]
  cases h1:hit T.2 d<;>cases h2:hit U.2 d<;>simp only[cond_true,cond_false,SV.aL,h1,h2]
 |.agg cs=>by simp only[SV.aL,lC T U cs]
 |.tup cs=>by simp only[SV.aL,lC T U cs]
 |.fn f a b=>by simp only[SV.aL,lC T U a,lC T U b]
 |.ch=>rfl
 |.pd=>rfl
 |.undef=>rfl
theorem lC (T U:Kil):(l:List SV)->ib U (ib T l)=ib T (ib U l)
 |[]=>rfl
 |v::l=>by simp only[ib,Au T U v,lC T U l]
end
variable {cm:DR->Bool}
theorem eL {r:DR} (h:fD cm r=true):cm r=true/\r.c.kil.2=[]/\r.c.upd=[]/\r.c.news=[]:=by
 simp only[fD,Rk]at h;exact⟨h.2.2.2,ek h.1,ek h.2.1,ek h.2.2.1⟩
theorem Av {b a:DR} (h:IA b a=true):a.c.v.aL b.c.kil=a.c.v:=by
 simp only[IA,Rk]at h;exact uB _ h.1
theorem Hy {T:Kil} {u:SV}:∀{l:List SV},wX T l=true->u∈l->u.JZ T=true
 |[],_,h=>nomatch h
 |v::l,h,hu=>by
  simp only[wX,Rk]at h
  rcases RI.1 hu with rfl|hu
  ·exact h.1
  ·exact Hy h.2 hu
theorem Hz {b a:DR} (h:IA b a=true):∀u∈a.MA,u.aL b.c.kil=u:=by
 intro u hu;simp only[IA,Rk]at h;exact uB _ (Hy h.2 hu)
theorem sQ {b a:DR} (h:b.c.kil.2=[]):a.c.v.aL b.c.kil=a.c.v:=by rw[Hx h];exact dp _
theorem fb {a b:DR} (h:rh cm a b=true):
  (fD cm a=true/\a.c.v.aL b.c.kil=a.c.v)\/(fD cm b=true/\b.c.v.aL a.c.kil=b.c.v)\/(fD cm a=false/\fD cm b=false/\Fv a b=true):=by
 simp only[rh,Tc,Rk]at h
 rcases h with h|⟨h2,h1⟩|⟨h2,h1⟩
 ·obtain⟨k1,k2,_⟩:=ic h;cases ha:fD cm a
  ·cases hb:fD cm b
   ·exact .inr (.inr ⟨rfl,rfl,h⟩)
   ·exact .inr (.inl ⟨rfl,sQ k1⟩)
  ·exact .inl ⟨rfl,sQ k2⟩
 ·exact .inl ⟨h1,Av h2⟩
 ·exact .inr (.inl ⟨h1,Av h2⟩)
theorem HA {a b:DR} (h:rh cm a b=true):
  (fD cm a=true->∀u∈a.MA,u.aL b.c.kil=u)/\(fD cm b=true->∀u∈b.MA,u.aL a.c.kil=u):=by
 have nl:∀{c:DR} (v:SV),c.c.kil.2=[]->v.aL c.c.kil=v:=λ{c} v h=>by rw[Hx h];exact dp _
 simp only[rh,Tc,Rk]at h
 rcases h with h|⟨h2,h1⟩|⟨h2,h1⟩
 ·obtain⟨k1,k2,_⟩:=ic h;exact⟨λ_ u _=>nl u k2,λ_ u _=>nl u k1⟩
 ·exact⟨λ_=>Hz h2,λ_ u _=>nl u (eL h1).2.1⟩
 ·exact⟨λ_ u _=>nl u (eL h1).2.1,λ_=>Hz h2⟩
theorem qv {r:DR} (h:fD cm r=true) (x:SH):r.app x=some (Hg x.1 r.dst r.c.v,x.2):=by
 obtain⟨_,h1,h2,h3⟩:=eL h;rw[iB h1,h2,h3];simp only[jb,aJ,RU]
theorem pB {r:DR} {x x' y:SH} (e:x.2=x'.2) (h:r.app x=some y):∃y',r.app x'=some y'/\y.2=y'.2:=by
 unfold DR.app at h⊢;simp only[An,It]at h;obtain⟨hh,h1,rfl⟩:=h;rw[<-e,h1];exact⟨_,rfl,rfl⟩
def B5 (x y:SH):Prop:=xp x.1 y.1/\x.2=y.2
theorem B5.same {x y:SH} (h:B5 x y):DC x y:=⟨h.1,λt=>by rw[h.2]⟩
theorem KN {r:DR} {x y:SH} (e:B5 x y) {x':SH} (h:r.app x=some x'):∃y',r.app y=some y'/\B5 x' y':=by
 obtain⟨y',h1,h2⟩:=pB e.2 h;refine⟨y',h1,λt=>?_,h2⟩;rw[dC h,dC h1,dB,dB,db r.c.fE,db r.c.fE,e.1 t]
theorem pC {p:Nat->Bool}:∀(l:List DR) (k:Nat) (x y X:SH),B5 x y->replay p k l x=some X->∃Y,replay p k l y=some Y/\B5 X Y
 |[],_,x,y,X,e,h=>by cases h;exact⟨y,rfl,e⟩
 |r::l,k,x,y,X,e,h=>by
  simp only[replay]at h⊢;cases hp:p k<;>simp only[hp,cond_false,cond_true]at h⊢
  ·exact pC l (k+1) x y X e h
  ·rw[An]at h;obtain⟨x',hx',h⟩:=h;obtain⟨y',hy',e'⟩:=KN e hx';rw[hy'];exact pC l (k+1) x' y' X e' h
theorem lD {p p':Nat->Bool}:∀(l:List DR) (k:Nat) (x x' X:SH),(∀(j:Nat) (r:DR),l[j]? =some r->p (k+j)≠p' (k+j)->fD cm r=true)->x.2=x'.2->replay p k l x=some X->
  ∃X',replay p' k l x'=some X'/\X.2=X'.2
 |[],_,x,x',X,_,e,h=>by cases h;exact⟨x',rfl,e⟩
 |r::l,k,x,x',X,hd,e,h=>by
  have hd':∀(j:Nat) (r:DR),l[j]? =some r->p (k+1+j)≠p' (k+1+j)->fD cm r=true:=λj r h1 h2=>hd (j+1) r (by simpa using h1) (by rwa [show k+(j+1)=k+1+j from by omega]);have h0:=hd 0 r rfl;rw[RS]at h0;simp only[replay]at h⊢;cases hp:p k<;>cases hp':p' k<;>simp only[hp,cond_false,cond_true]at h⊢
  ·exact lD l (k+1) x x' X hd' e h
  ·rw[qv (h0 (by rw[hp,hp'];exactλh=>nomatch h)),Rv];exact lD l (k+1) x (Hg x'.1 r.dst r.c.v,x'.2) X hd' e h
  ·rw[qv (h0 (by rw[hp,hp'];exactλh=>nomatch h)),Rv]at h;exact lD l (k+1) (Hg x.1 r.dst r.c.v,x.2) x' X hd' e h
  ·rw[An]at h;obtain⟨y,hy,h⟩:=h;obtain⟨y',h1,h2⟩:=pB e hy;rw[h1,Rv];exact lD l (k+1) y y' X hd' h2 h
def ru:List Kil->SV->SV
 |[],v=>v
 |T::l,v=>ru l (v.aL T)
theorem I2 (l l':List Kil) (v:SV):ru (l++l') v=ru l' (ru l v):=by
 induction l generalizing v with
 |nil=>rfl
 |cons T l ih=>exact ih _
theorem FU (T:Kil) (l:List Kil) (v:SV):(ru l v).aL T=ru l (v.aL T):=by
 induction l generalizing v with
 |nil=>rfl
 |cons U l ih=>simp only[ru];rw[ih,Au]
theorem FV {l:List Kil} {v:SV} (h:∀T∈l,v.aL T=v):ru l v=v:=by
 induction l with
 |nil=>rfl
 |cons U l ih=>simp only[ru];rw[h U (by simp)];exact ih λT hT=>h T (by simp[hT])
theorem nX {q p:Nat->Bool} {t:Nat} {v:SV}:∀(l:List DR) (k:Nat) (y z Y Z:SH),(∀j,q j=true->p j=true)->replay q k l y=some Y->replay p k l z=some Z->look Y.1 t=some v->
  (∀(j:Nat) (r:DR),l[j]? =some r->p (k+j)=true->q (k+j)=false->r.dst≠some t/\v.aL r.c.kil=v)->
  (∀u,look y.1 t=some u->∃Ts,look z.1 t=some (ru Ts u)/\∀T∈Ts,v.aL T=v)->look Z.1 t=some v
 |[],_,y,z,Y,Z,_,hy,hz,hv,_,hi=>by
  cases hy;cases hz;obtain⟨Ts,h1,h2⟩:=hi v hv
  rw[h1,FV h2]
 |r::l,k,y,z,Y,Z,hqp,hy,hz,hv,hd,hi=>by
  simp only[replay]at hy hz;have hd':∀(j:Nat) (r:DR),l[j]? =some r->p (k+1+j)=true->q (k+1+j)=false->r.dst≠some t/\v.aL r.c.kil=v:=λj r h1 h2 h3=>hd (j+1) r (by simpa using h1) (by rwa [show k+(j+1)=k+1+j from by omega]) (by rwa [show k+(j+1)=k+1+j from by omega]);cases hq:q k<;>simp only[hq,cond_false,cond_true]at hy
  ·cases hp:p k<;>simp only[hp,cond_false,cond_true]at hz
   ·exact nX l (k+1) y z Y Z hqp hy hz hv hd' hi
   ·rw[An]at hz;obtain⟨z',hz',hz⟩:=hz;obtain⟨g1,g2⟩:=hd 0 r rfl (by simpa using hp) (by simpa using hq);refine nX l (k+1) y z' Y Z hqp hy hz hv hd' λu hu=>?_;obtain⟨Ts,h1,h2⟩:=hi u hu;refine⟨Ts++[r.c.kil],?_,λT hT=>?_⟩
    ·rw[dC hz',dB,if_neg g1,db r.c.fE,h1,I2];rfl
    ·rcases Sb.1 hT with h|h
     ·exact h2 T h
     ·simp at h;subst h;exact g2
  ·rw[hqp k hq]at hz;simp only[cond_true]at hz;rw[An]at hy hz;obtain⟨y',hy',hy⟩:=hy;obtain⟨z',hz',hz⟩:=hz;refine nX l (k+1) y' z' Y Z hqp hy hz hv hd' λu hu=>?_;rw[dC hy',dB,db r.c.fE]at hu;rw[dC hz',dB,db r.c.fE];by_cases c:r.dst=some t
   ·rw[if_pos c]at hu⊢;cases hu;exact⟨[],rfl,by simp⟩
   ·rw[if_neg c]at hu⊢;obtain⟨u0,hu0,rfl⟩:=Rt.1 hu;obtain⟨Ts,h1,h2⟩:=hi u0 hu0;exact⟨Ts,by rw[h1,SG,FU],h2⟩
theorem nY {q:Nat->Bool} {t:Nat} {v:SV}:∀(l:List DR) (k:Nat) (y Y:SH),replay q k l y=some Y->look Y.1 t=some v->(∃u,look y.1 t=some u)\/∃(j:Nat) (r:DR),l[j]? =some r/\q (k+j)=true/\r.dst=some t
  |[],_,y,Y,h,hv=>by cases h;exact .inl ⟨v,hv⟩
  | r :: l, k, y, Y, h, hv => by
    simp only[replay]at h;cases hq:q k<;>simp only[hq,cond_false,cond_true]at h
    · rcases nY l (k+1) y Y h hv with h'|⟨j,r',h1,h2,h3⟩
      · exact .inl h'
      · exact .inr ⟨j+1,r',by simpa using h1,by rwa [show k+(j+1)=k+1+j from by omega],h3⟩
    · rw [An] at h;obtain⟨y',hy',h⟩:=h
      rcases nY l (k+1) y' Y h hv with⟨u,hu⟩|⟨j,r',h1,h2,h3⟩
      · rw[dC hy',dB,db r.c.fE]at hu;by_cases c:r.dst=some t
        · exact .inr ⟨0,r,rfl,hq,c⟩
        · rw[if_neg c]at hu;obtain⟨u0,hu0,_⟩:=Rt.1 hu;exact .inl ⟨u0,hu0⟩
      · exact .inr ⟨j+1,r',by simpa using h1,by rwa [show k+(j+1)=k+1+j from by omega],h3⟩
theorem KO {a b:DR} (ha:fD cm a=true) (hf:a.c.v.aL b.c.kil=a.c.v) (hd:∀t,a.dst=some t->b.dst≠some t) {x y z:SH} (hy:b.app x=some y) (hz:a.app y=some z):
  ∃y' z',a.app x=some y'/\b.app y'=some z'/\B5 z z':=by
 rw[qv ha]at hz;cases hz;obtain⟨z',h1,h2⟩:=pB (x:=x) (x':=(Hg x.1 a.dst a.c.v,x.2)) rfl hy;refine⟨_,z',qv ha x,h1,λt=>?_,h2⟩;rw[dC h1,dC hy];simp only[dB,db b.c.fE];by_cases c:a.dst=some t
 ·rw[if_pos c,if_neg (hd t c),if_pos c,SG,hf]
 ·simp only[if_neg c]
theorem I3 {a b:DR} (hb:fD cm b=true) (hf:b.c.v.aL a.c.kil=b.c.v) (hd:∀t,a.dst=some t->b.dst≠some t) {x y z:SH} (hy:b.app x=some y) (hz:a.app y=some z):
  ∃y' z',a.app x=some y'/\b.app y'=some z'/\B5 z z':=by
 rw[qv hb]at hy;cases hy;obtain⟨y',h1,h2⟩:=pB (x:=(Hg x.1 b.dst b.c.v,x.2)) (x':=x) rfl hz;refine⟨y',_,h1,qv hb y',λt=>?_,h2⟩;rw[dC h1,dC hz];simp only[dB,db a.c.fE];by_cases c:a.dst=some t
 ·simp only[if_pos c,if_neg (hd t c)]
 ·simp only[if_neg c];by_cases c':b.dst=some t
  ·simp only[if_pos c',SG,hf]
  ·simp only[if_neg c']
theorem comm {a b:DR} (h:Fv a b=true) (hd:∀t,a.dst=some t->b.dst≠some t) (hm:∀i,a.rM i->¬b.rM i) {x y z:SH} (hy:b.app x=some y) (hz:a.app y=some z):
  ∃y' z',a.app x=some y'/\b.app y'=some z'/\DC z z':=by
 obtain⟨ga,gb,hu⟩:=ic h;rw[iB gb]at hy;cases hy;rw[iB ga]at hz;cases hz;refine⟨_,_,iB ga x,iB gb _,λt=>?_,λi=>?_⟩
 ·simp only[dB];by_cases c:a.dst=some t
  ·rw[if_pos c,if_neg (hd t c),if_pos c]
  ·rw[if_neg c];by_cases c':b.dst=some t
   ·rw[if_pos c',if_pos c']
   ·rw[if_neg c',if_neg c',if_neg c]
 ·have swap:(look (aJ b.n0 b.c.news) i).or (look (aJ a.n0 a.c.news) i)=(look (aJ a.n0 a.c.news) i).or (look (aJ b.n0 b.c.news) i):=by
   by_cases c:a.rM i
   ·rw[DR.nh (hm i c)];simp
   ·rw[DR.nh c];simp
  have past:∀(r:DR) (u:aF),(∀i,r.rM i->look u i=none)->look (jb u (x.2++aJ r.n0 r.c.news)) i=(look (jb u x.2) i).or (look (aJ r.n0 r.c.news) i):=λr u hr=>by
   by_cases c:r.rM i
   ·rw[pA _ _ (hr i c),pA _ _ (hr i c),aE]
   ·rw[DR.nh c,Sr];exact xt u (by rw[aE,DR.nh c,Sr])
  rcases hu with⟨u1,u2⟩|⟨u1,u2⟩
  ·simp only[u1,jb,aE,Option.or_assoc];rw[past b _ u2,Option.or_assoc,swap]
  ·simp only[u1,jb,aE,Option.or_assoc];rw[past a _ u2,Option.or_assoc,swap]
theorem rO {p:Nat->Bool}:∀(l:List DR) (k:Nat) (x y X:SH),(∀(j:Nat) (r:DR),l[j]? =some r->p (k+j)=true->r.c.kil.2=[])->DC x y->replay p k l x=some X->∃Y,replay p k l y=some Y/\DC X Y
 |[],_,x,y,X,_,e,h=>by cases h;exact⟨y,rfl,e⟩
 |r::l,k,x,y,X,hg,e,h=>by
  have hg':∀(j:Nat) (r:DR),l[j]? =some r->p (k+1+j)=true->r.c.kil.2=[]:=λj r h1 h2=>hg (j+1) r (by simpa using h1) (by rwa [show k+(j+1)=k+1+j from by omega]);simp only[replay]at h⊢;cases hp:p k<;>simp only[hp,cond_false,cond_true]at h⊢
  ·exact rO l (k+1) x y X hg' e h
  ·rw[An]at h;obtain⟨x',hx',h⟩:=h;obtain⟨y',hy',e'⟩:=MR (hg 0 r rfl (by simpa using hp)) e hx';rw[hy'];exact rO l (k+1) x' y' X hg' e' h
theorem mQ {p:Nat->Bool} {a:DR} (hi:fD cm a=true):∀(l:List DR) (k:Nat) (x X X':SH),
  (∀(j:Nat) (r:DR),l[j]? =some r->p (k+j)=true->a.c.v.aL r.c.kil=a.c.v/\(∀t,a.dst=some t->r.dst≠some t))->
  replay p k l x=some X->a.app X=some X'->∃x' X'',a.app x=some x'/\replay p k l x'=some X''/\B5 X' X''
 |[],_,x,X,X',_,h,ha=>by cases h;exact⟨X',X',ha,rfl,λ_=>rfl,rfl⟩
 |r::l,k,x,X,X',hc,h,ha=>by
  have hc':∀(j:Nat) (r:DR),l[j]? =some r->p (k+1+j)=true->a.c.v.aL r.c.kil=a.c.v/\(∀t,a.dst=some t->r.dst≠some t):=λj r h1 h2=>hc (j+1) r (by simpa using h1) (by rwa [show k+(j+1)=k+1+j from by omega]);simp only[replay]at h⊢;cases hp:p k<;>simp only[hp,cond_false,cond_true]at h⊢
  ·exact mQ hi l (k+1) x X X' hc' h ha
  ·rw[An]at h;obtain⟨y,hy,h⟩:=h;obtain⟨y',Y'',h1,h2,h3⟩:=mQ hi l (k+1) y X X' hc' h ha;obtain⟨c1,c2⟩:=hc 0 r rfl (by simpa using hp);obtain⟨x',z',g1,g2,g3⟩:=KO hi c1 c2 hy h1;obtain⟨W,w1,w2⟩:=pC l (k+1) y' z' Y'' g3 h2;exact⟨x',W,g1,by rw[g2];exact w1,λt=>(h3.1 t).trans (w2.1 t),h3.2.trans w2.2⟩
theorem mR {p:Nat->Bool} {a:DR} (hi:fD cm a=false):∀(l:List DR) (k:Nat) (x X X':SH),
    (∀(j:Nat) (r:DR),l[j]? =some r->p (k+j)=true->rh cm a r=true/\(∀t,a.dst=some t->r.dst≠some t)/\∀i,a.rM i->¬r.rM i)->
    replay p k l x=some X->a.app X=some X'->∃x' X'',a.app x=some x'/\replay p k l x'=some X''/\DC X' X''
  |[],_,x,X,X',_,h,ha=>by cases h;exact⟨X',X',ha,rfl,DC.refl _⟩
  | r :: l, k, x, X, X', hc, h, ha => by
    have hc':∀(j:Nat) (r:DR),l[j]? =some r->p (k+1+j)=true->rh cm a r=true/\(∀t,a.dst=some t->r.dst≠some t)/\∀i,a.rM i->¬r.rM i:=λj r h1 h2=>hc (j+1) r (by simpa using h1) (by rwa [show k+(j+1)=k+1+j from by omega])
    have kil0:∀(r:DR),rh cm a r=true->r.c.kil.2=[]:=λr h=>by
      rcases fb h with⟨h1,_⟩|⟨h1,_⟩|⟨_,_,h1⟩
      · rw[hi]at h1;exact nomatch h1
      · exact(eL h1).2.1
      · exact(ic h1).2.1
    simp only[replay]at h⊢;cases hp:p k<;>simp only[hp,cond_false,cond_true]at h⊢
    · exact mR hi l (k+1) x X X' hc' h ha
    · rw [An] at h;obtain⟨y,hy,h⟩:=h;obtain⟨y',Y'',h1,h2,h3⟩:=mR hi l (k+1) y X X' hc' h ha;obtain⟨c1,c2,c3⟩:=hc 0 r rfl (by simpa using hp)
      have hcm:∃y'' z',a.app x=some y''/\r.app y''=some z'/\DC y' z':=by
        rcases fb c1 with⟨h1',_⟩|⟨h1',h2'⟩|⟨_,_,h1'⟩
        · rw[hi]at h1';exact nomatch h1'
        · obtain⟨u1,u2,u3,u4,u5⟩:=I3 h1' h2' c2 hy h1;exact⟨u1,u2,u3,u4,u5.same⟩
        · exact comm h1' c2 c3 hy h1
      obtain⟨x',z',g1,g2,g3⟩:=hcm;obtain⟨W,w1,w2⟩:=rO l (k+1) y' z' Y'' (λj r h1 h2=>kil0 r (hc' j r h1 h2).1) g3 h2;exact⟨x',W,g1,by rw[g2];exact w1,h3.trans w2⟩
theorem B6 {p:Nat->Bool} {a:DR} (l:List DR) (k:Nat) (x X X':SH)
  (hc:∀(j:Nat) (r:DR),l[j]? =some r->p (k+j)=true->rh cm a r=true/\(∀t,a.dst=some t->r.dst≠some t)/\∀i,a.rM i->¬r.rM i)
  (h:replay p k l x=some X) (ha:a.app X=some X'):∃x' X'',a.app x=some x'/\replay p k l x'=some X''/\DC X' X'':=by
 cases hi:fD cm a with
 |false=>exact mR hi l k x X X' hc h ha
 |true=>
  obtain⟨u1,u2,u3,u4,u5⟩:=mQ hi l k x X X' (λj r h1 h2=>by
   obtain⟨c1,c2,_⟩:=hc j r h1 h2;refine⟨?_,c2⟩
   rcases fb c1 with⟨_,h⟩|⟨h,_⟩|⟨h,_,_⟩
   ·exact h
   ·exact sQ (eL h).2.1
   ·rw[hi]at h;exact nomatch h) h ha
  exact⟨u1,u2,u3,u4,u5.same⟩
theorem B7 {p p':Nat->Bool} {l:List DR} {i:Nat} {a:DR} {x X X':SH} (hi:l[i]? =some a) (hpi:p i=false) (hpi':p' i=true) (hpp:∀j,j≠i->p' j=p j)
  (hc:∀(j:Nat) (r:DR),i<j->l[j]? =some r->p j=true->rh cm a r=true/\(∀t,a.dst=some t->r.dst≠some t)/\∀i,a.rM i->¬r.rM i)
  (h:replay p 0 l x=some X) (ha:a.app X=some X'):∃X'',replay p' 0 l x=some X''/\DC X' X'':=by
 have hlt:=(Of.1 hi).1
 have hsplit:l=l.take i++a::l.drop (i+1):=by
  conv=>lhs;rw[<-SE i l]
  rw[List.drop_eq_getElem_cons hlt,(Of.1 hi).2]
 have hl:(l.take i).length=i:=by simp;omega
 rw[hsplit,eo,An]at h;obtain⟨y,hy,h⟩:=h;rw[hl,Ru]at h;simp only[replay,hpi,cond_false]at h;obtain⟨y',X'',g1,g2,g3⟩:=B6 (l.drop (i+1)) (i+1) y X X' (λj r h1 h2=>hc (i+1+j) r (by omega) (by rwa [RA]at h1) h2) h ha;refine⟨X'',?_,g3⟩;rw[hsplit,eo,hl,Ru];rw[jI (q:=p) (l.take i) 0 x λj hj=>by rw[hl]at hj;rw[Ru];exact hpp j (by omega),hy];simp only[Rv,replay,hpi',cond_true,g1];rw[jI (q:=p) (l.drop (i+1)) (i+1) y' λj hj=>hpp _ (by omega)];exact g2
theorem rP {p:Nat->Bool} {t:Nat} {x0:SV} (hx0:∀T,x0.aL T=x0):∀(l:List DR) (k:Nat) (x X:SH),replay p k l x=some X->(∀(j:Nat) (r:DR),l[j]? =some r->r.dst≠some t)->look x.1 t=some x0->look X.1 t=some x0
 |[],_,x,X,h,_,hx=>by cases h;exact hx
 |r::l,k,x,X,h,hd,hx=>by
  have hd':∀(j:Nat) (r:DR),l[j]? =some r->r.dst≠some t:=λj r h1=>hd (j+1) r (by simpa using h1);simp only[replay]at h;cases hp:p k<;>simp only[hp,cond_false,cond_true]at h
  ·exact rP hx0 l (k+1) x X h hd' hx
  ·rw[An]at h;obtain⟨y,hy,h⟩:=h;refine rP hx0 l (k+1) y X h hd' ?_;rw[dC hy,dB,if_neg (hd 0 r rfl)];rw[db r.c.fE,hx,SG,hx0]
end
section
variable [Tok]
def Rl (w0:World) (fp0:G0) (bs:Cell->Prop) (n:Nat) (st:St) (a:Act) (w:World):Prop:=∃pl,Rel w0 fp0 st pl a w/\pl.base=bs/\st.n=n
section
variable {w:World} {H H':aF} {pl:Pl}
theorem Aw (e:xp H' H):ly ([],[]) w H pl w H' pl:=
 ⟨λi B hB _=>⟨B,(e i).trans hB,B.dn,rfl⟩,λd p u _ h hp=>⟨⟨h.1,λi B hB=>h.2 i B ((e i).symm.trans hB)⟩,hp⟩⟩
theorem cM.same (e:xp H' H) (h:cM H pl w):cM H' pl w:=
  ⟨λi B hB=>(h.blk i B ((e i).symm.trans hB)).bN (Aw e) rfl (λ_=>Ud) (λp u _ hu=>⟨hu,rfl⟩) B.dp,
   λi j B B' p h1 h2=>h.dis i j B B' p ((e i).symm.trans h1) ((e j).symm.trans h2),λi B p hB=>h.ob i B p ((e i).symm.trans hB),h.nb⟩
theorem Rel.congr {w0:World} {fp0:G0} {s s':List (Nat× SV)} {nid n:Nat} {gh:List (Option Nat)} {a:Act} (h:Rel w0 fp0 ⟨s,H,nid,n,gh⟩ pl a w) (hs:∀t v,look s' t=some v->look s t=some v) (e:xp H' H):
    Rel w0 fp0 ⟨s',H',nid,n,gh⟩ pl a w:=
  ⟨h.hr.same e,λt v hv=>(h.sl t v (hs t v hv)).vY (Aw e),h.sz,h.df,λi hi=>(e i).trans (h.fresh i hi),h.gr,λp u hp hn=>by
    obtain⟨g1,g2,g3⟩:=h.fr p u hp hn
    exact⟨λi B hB=>g1 i B ((e i).symm.trans hB),g2,g3⟩,λk i hi=>⟨(h.gk k i hi).1,λB hB=>(h.gk k i hi).2 B ((e i).symm.trans hB)⟩⟩
end
theorem B8 {h:aF} {k i:Nat} {b B:Blk} (e:look (Ix h k b) i=some B):∃B',look h i=some B':=by
 induction h with
 |nil=>simp[Ix,look]at e
 |cons x l ih=>
  obtain⟨k',u⟩:=x;rw[aA];by_cases c:k'=i
  ·exact⟨u,by simp[c]⟩
  ·rw[if_neg c];simp only[Ix]at e;cases hb:Nat.beq k' k<;>simp only[hb,cond_true,cond_false]at e
   ·rw[aA,if_neg c]at e;exact ih e
   ·rw[aA,if_neg (by have:=Rj hb;omega)]at e;exact⟨B,e⟩
theorem rv:∀{l h:aF} {i:Nat} {B:Blk},look (jb l h) i=some B->∃B',look h i=some B'
 |[],h,i,B,e=>⟨B,e⟩
 |(k,b)::l,h,i,B,e=>by
  simp only[jb]at e;obtain⟨B',hB'⟩:=rv e;exact B8 hB'
theorem Rel.app {w0:World} {fp0:G0} {X X':SH} {nid n:Nat} {gh:List (Option Nat)} {pl pl':Pl} {a:Act} {w w':World} {r:DR} {H':aF} {u:Value}
  (h:Rel w0 fp0 ⟨X.1,X.2,nid,n,gh⟩ pl a w) (hx:r.app X=some X') (hup:∀i B,look r.c.upd i=some B->∃B',look X.2 i=some B')
  (hd:∀t,r.dst=some t->t+1<=n) (hg:∀(k i:Nat),gh[k]? =some (some i)->i<r.n0) (hn:r.n0+r.c.news.length<=nid) (ha:after X.2 r.n0 r.c=some H') (hs:cW X.2 H' r.c.kil pl pl' w w') (hv:au w' H' pl' r.c.v u):
  Rel w0 fp0 ⟨X'.1,X'.2,nid,n,gh⟩ pl' (a.put r.dst u) w':=by
 have hsame:xp X'.2 H':=by
  unfold DR.app at hx;unfold after at ha;rw[uA hup]at ha;simp only[An,It]at hx ha;obtain⟨h1,e1,rfl⟩:=hx;obtain⟨h2,e2,rfl⟩:=ha;rw[e1]at e2;cases e2;exactλ_=>rfl
 have hfr:∀i,nid<=i->look H' i=none:=λi hi=>by
  rw[<-hsame i]
  cases hq:look X'.2 i with
  |none=>rfl
  |some B=>
   rcases ni (p:=λ_=>true) [r] 0 X X' (by simp[replay,hx]) i B hq with⟨B',hB'⟩|⟨j',r2,g1,_,g3⟩
   ·have:=h.fresh i hi;rw[hB']at this;exact nomatch this
   ·cases j' with
    |zero=>simp at g1;subst g1;have:=g3.2;omega
    |succ j'=>simp at g1
 have hsl:gu w' H' pl' (nO r.c.kil X.1) a:=h.sl.bN r.c.fE hs.kp
 have hsl2:gu w' H' pl' X'.1 (a.put r.dst u):=by
  rw[dC hx]
  cases hdst:r.dst with
  |none=>exact hsl
  |some t=>
   have ht:=hd t hdst;exact gu.put (n:=n) (dst:=some t) hsl h.sz (by simp only[PM,Hg];rw[show Nat.ble (t+1) n=true from SF ht];rfl) hv
 exact Rel.congr (s:=X'.1) (H:=H') ⟨hs.hr,hsl2,by rw[Act.BQ];exact h.sz,by rw[Act.Kr];exact h.df,hfr,h.gr.trans hs.gr,λp q hp hno=>by
  obtain⟨g1,g2,g3⟩:=h.fr p q hp hno;obtain⟨f1,f2,f3⟩:=hs.fr p q g2 g1
  exact⟨f1,f2,f3.trans g3⟩,h.gk.step hs.kp (RE _) λk i B hki hB=>by
   have hi:=hg k i hki;rw[<-hsame i]at hB;unfold DR.app at hx;simp only[An,It]at hx;obtain⟨h1,e1,rfl⟩:=hx;rw[aE,bp,if_neg (by omega),Sr,cN r.c.fE e1 i]at hB;cases hm:mem i r.c.kil.1<;>simp only[hm,cond_true,cond_false]at hB
   ·obtain⟨B1,hB1,_⟩:=An.1 hB;exact⟨rfl,rv hB1⟩
   ·exact nomatch hB⟩ (λ_ _ h=>h) hsame
theorem uC (acc:List Nat) (j:Nat):∀l:List Edge,(Dl acc l).testBit j=true↔∃e∈l,Region.binds .any e=true/\(j=e.on\/(acc.getD e.on 0).testBit j=true)
 |[]=>by simp[Dl]
 |e::l=>by
  simp only[Dl];cases hb:Region.binds .any e
  ·simp only[cond_false,uC acc j l,RI,exists_eq_or_imp,hb,SM,false_and,false_or]
  ·simp only[cond_true,Nat.testBit_or,Nat.testBit_two_pow,Tc,decide_eq_true_eq,uC acc j l,RI,exists_eq_or_imp,hb,true_and];constructor
   ·rintro ((h|h)|h)
    ·exact .inl (.inr h)
    ·exact .inl (.inl h.symm)
    ·exact .inr h
   ·rintro ((h|h)|h)
    ·exact .inl (.inr h.symm)
    ·exact .inl (.inl h)
    ·exact .inr h
theorem jJ {n:Nat}:∀{l:List Edge},uf n l=true->∀e∈l,Region.binds .any e=true->e.on<n
 |[],_,e,he,_=>by simp at he
 |x::l,h,e,he,hb=>by
  simp only[uf]at h;cases hx:Region.binds .any x<;>simp only[hx,cond_true,cond_false]at h
  ·rcases RI.1 he with rfl|he
   ·rw[hx]at hb;exact nomatch hb
   ·exact jJ h e he hb
  ·cases hn:Nat.ble (x.on+1) n<;>simp only[hn,cond_true,cond_false]at h
   ·exact nomatch h
   ·rcases RI.1 he with rfl|he
    ·exact Ry hn
    ·exact jJ h e he hb
structure FW (ops:List Oper) (masks:List Nat):Prop where
 back:∀(i:Nat) (o:Oper),ops[i]? =some o->∀e∈o.after.toList,Region.binds .any e=true->e.on<i
 spec:∀(i:Nat) (o:Oper),ops[i]? =some o->∀j,(masks.getD i 0).testBit j=true↔∃e∈o.after.toList,Region.binds .any e=true/\(j=e.on\/(masks.getD e.on 0).testBit j=true)
theorem vB:∀(l:List Oper) (acc masks:List Nat),wW acc l=some masks->(∃t,masks=acc++t)/\
  ∀(k:Nat) (o:Oper),l[k]? =some o->(∀e∈o.after.toList,Region.binds .any e=true->e.on<acc.length+k)/\
   ∀j,(masks.getD (acc.length+k) 0).testBit j=true↔∃e∈o.after.toList,Region.binds .any e=true/\(j=e.on\/(masks.getD e.on 0).testBit j=true)
 |[],acc,masks,h=>by cases h;exact⟨⟨[],by simp⟩,λk o ho=>by simp at ho⟩
 |x::l,acc,masks,h=>by
  simp only[wW]at h;cases he:uf acc.length x.after.toList<;>simp only[he,cond_true,cond_false]at h
  ·exact nomatch h
  ·obtain⟨⟨t,ht⟩,hl⟩:=vB l _ masks h;refine⟨⟨Dl acc x.after.toList::t,by rw[ht];simp⟩,λk o ho=>?_⟩
   cases k with
   |zero=>
    simp at ho;subst ho;refine⟨jJ he,λj=>?_⟩
    have hm:masks.getD (acc.length+0) 0=Dl acc x.after.toList:=by rw[ht];simp[List.getD]
    rw[hm,uC];constructor
    ·rintro ⟨e,h1,h2,h3⟩
     have hlt:=jJ he e h1 h2;refine⟨e,h1,h2,h3.imp id λh3=>?_⟩;rw[ht];simpa[List.getD,Ro hlt,RH]using h3
    ·rintro ⟨e,h1,h2,h3⟩
     have hlt:=jJ he e h1 h2;refine⟨e,h1,h2,h3.imp id λh3=>?_⟩
     rw[ht]at h3;simpa[List.getD,Ro hlt,RH]using h3
   |succ k=>
    have:=hl k o (by simpa using ho);simp only[Rz,Rw,RY]at this;rwa [show acc.length+(0+1)+k=acc.length+(k+1)from by omega]at this
theorem MS {ops:List Oper} {masks:List Nat} (h:wW [] ops=some masks):FW ops masks:=by
 obtain⟨_,h2⟩:=vB ops [] masks h;exact⟨λi o ho=>by have:=(h2 i o ho).1;simpa using this,λi o ho=>by have:=(h2 i o ho).2;simpa using this⟩
theorem FW.closed {ops:List Oper} {masks:List Nat} (hm:FW ops masks) {p:Nat->Bool} (hp:∀(j:Nat) (o:Oper),ops[j]? =some o->p j=true->∀e∈o.after.toList,Region.binds .any e=true->p e.on=true):
  ∀(n i:Nat) (o:Oper),i<=n->ops[i]? =some o->(∀e∈o.after.toList,Region.binds .any e=true->p e.on=true)->∀j,(masks.getD i 0).testBit j=true->p j=true
 |n,i,o,hn,ho,he,j,hj=>by
  obtain⟨e,h1,h2,h3⟩:=(hm.spec i o ho j).1 hj
  rcases h3 with rfl|h3
  ·exact he e h1 h2
  ·have hlt:=hm.back i o ho e h1 h2
   have hol:e.on<ops.length:=by have:=(Of.1 ho).1;omega
   cases n with
   |zero=>omega
   |succ n=>exact hm.closed hp n e.on _ (by omega) (On hol) (λe' h1' h2'=>hp e.on _ (On hol) (he e h1 h2) e' h1' h2') j h3
theorem FW.lt {ops:List Oper} {masks:List Nat} (hm:FW ops masks) {i j:Nat} {o:Oper} (ho:ops[i]? =some o) (hj:(masks.getD i 0).testBit j=true):j<i:=
 of_decide_eq_true (hm.closed (p:=λj=>decide (j<i)) (λk o' ho' hk e h1 h2=>decide_eq_true (by have:=hm.back k o' ho' e h1 h2;have:=of_decide_eq_true hk;omega)) i i o (RE _) ho
  (λe h1 h2=>decide_eq_true (hm.back i o ho e h1 h2)) j hj)
end
section
variable [Tok]
def KP (h H:aF):Prop:=∀i B,look h i=some B->∃B',look H i=some B'/\B.lV B'
def OH (P:Program) (o:Oper) (n:Nat) (c:CR) (s:List (Nat× SV)) (h:aF):Prop:=
 ∀(s':List (Nat× SV)) (H:aF) (a:Act) (w:World) (pl:Pl),Ext s s'->KP h H->cM H pl w->gu w H pl s' a->(∀k,k<c.news.length->look H (n+k)=none)->ky P o a w H pl n c
theorem zL {P:Program} {T:TypeId} {h H:aF} (e:KP h H) {x:SV} {k:Int} {v:SV} (hv:bP P T h x k=some v):bP P T H x k=some v:=by
 have sz:∀{t t':Ty},t.sz=t'.sz->slT P T t=slT P T t':=λ{t t'} e=>by unfold slT;rw[e]
 cases x with
 |own i=>
  simp only[bP]at hv⊢
  cases hl:look h i with
  |none=>rw[hl]at hv;exact nomatch hv
  |some B=>
   rw[hl]at hv;obtain⟨B',h1,h2⟩:=e i B hl
   cases B with
   |box cs=>exact nomatch hv
   |arr sh t xs=>
    cases B' with
    |box cs=>exact h2.elim
    |arr sh' t' ys=>
     rw[h1];simp only at hv⊢
     rwa [<-sz h2.1,<-h2.2]
 |sub i o n=>
  simp only[bP]at hv⊢
  cases hl:look h i with
  |none=>rw[hl]at hv;exact nomatch hv
  |some B=>
   rw[hl]at hv;obtain⟨B',h1,h2⟩:=e i B hl
   cases B with
   |box cs=>exact nomatch hv
   |arr sh t xs=>
    cases B' with
    |box cs=>exact h2.elim
    |arr sh' t' ys=>
     rw[h1];simp only at hv⊢
     rwa [<-sz h2.1]
 |r d x=>cases x<;>exact hv
 |_=>exact hv
def l0 (masks:List Nat) (i:Nat) (o:Oper) (rs:List DR) (t:Bool):Prop:=
 match o.guard with
 |none=>t=true
 |some (g,want)=>(masks.getD i 0).testBit g=true/\∃r d,rs[g]? =some r/\r.dst=some d/\((∃b,r.c.v=.r [] (.bool b)/\t=(b==want))\/(r.c.v=.tup []/\t=false))
def P7 (E:Env) (ops:List Oper) (masks dsts:List Nat) (s0:List (Nat× SV)) (h0:aF) (rs:List DR) (i:Nat) (o:Oper) (r:DR):Prop:=
 r.dst=o.dst/\okW E o.op r.c=true/\∃x t,replay (Nat.testBit (masks.getD i 0)) 0 (rs.take i) (m9 (MB masks i 0 ops) s0 (eJ o.op.operands.toList),h0)=some x/\l0 masks i o rs t/\
  ((t=true/\r=Ou E masks i ops h0 x o r.n0 r.c/\(Kf E h0 x o=false->DA E.P o r.n0 r.c (m9 [] x.1 (eJ o.op.operands.toList)) (Iz E masks i ops x o))/\(Kf E h0 x o=true->OH E.P o r.n0 r.c (m9 [] x.1 (eJ o.op.operands.toList)) (vA h0 (Dm x o))))\/(t=false/\r.c={v:=.tup []}/\r.len=false))
theorem OI {E:Env} {ρ:Type} {o:Oper} {s:List (Nat× SV)} {h0:aF} {n:Nat} {K:CR->Option ρ} {out:ρ} (hl:PX o.op=true) (h:BA E s h0 n o.op K=some out):∃c,K c=some out/\OH E.P o n c s h0:=by
 cases ho:o.op with
 |indexAddr T x k=>
  rw[ho]at h;have h:nP E.P s h0 (.indexAddr T x k) (λv=>K {v:=v})=some out:=h;rw[nQ]at h;obtain⟨v,hv,h⟩:=An.1 h;refine⟨_,h,λs' H a w pl es eh hr hs hn=>?_⟩
  have hv':gq E.P s' H (.indexAddr T x k)=some v:=by
   simp only[gq,An]at hv⊢;obtain⟨x',hx,k',hk,n',hn',hv⟩:=hv;exact⟨x',cZ es _ _ hx,k',cZ es _ _ hk,n',hn',zL eh hv⟩
  obtain⟨u,hu,hvr⟩:=kC hr hs hv' o ho
  exact nc hr hu hvr
 |_=>rw[ho]at hl;exact nomatch hl
structure DF (E:Env) (ops:List Oper) (masks dsts:List Nat) (s0:List (Nat× SV)) (h0:aF) (nid0:Nat) (rs:List DR) (m nid:Nat):Prop where
 len:rs.length=m
 QR:∀(i:Nat) (o:Oper) (r:DR),ops[i]? =some o->rs[i]? =some r->P7 E ops masks dsts s0 h0 rs i o r
 lo:∀(i:Nat) (r:DR),rs[i]? =some r->nid0<=r.n0/\r.n0+r.c.news.length<=nid
 ord:∀(i j:Nat) (a b:DR),i<j->rs[i]? =some a->rs[j]? =some b->a.n0+a.c.news.length<=b.n0
theorem l0.more {masks:List Nat} {i:Nat} {o:Oper} {rs:List DR} {t:Bool} (h:l0 masks i o rs t) (r:DR):l0 masks i o (rs++[r]) t:=by
 unfold l0 at*;split at h
 ·exact h
 ·obtain⟨h1,r',d,h2,h3,h4⟩:=h;exact⟨h1,r',d,by rw[Ro (Of.1 h2).1];exact h2,h3,h4⟩
section
variable {ρ:Type} {E:Env} {ops:List Oper} {masks dsts:List Nat} {s0:List (Nat× SV)} {h0:aF} {nid0:Nat}
theorem DF.push {rs:List DR} {m nid:Nat} (F:DF E ops masks dsts s0 h0 nid0 rs m nid) (h0n:nid0<=nid) {o:Oper} {r:DR} (ho:ops[m]? =some o) (hr:P7 E ops masks dsts s0 h0 (rs++[r]) m o r) (hn:r.n0=nid):
  DF E ops masks dsts s0 h0 nid0 (rs++[r]) (m+1) (nid+r.c.news.length):=by
 have hcase:∀(i:Nat) (b:DR),(rs++[r])[i]? =some b->(i<m/\rs[i]? =some b)\/(i=m/\b=r):=λi b hb=>by
  by_cases c:i<m
  ·rw[Ro (by rw[F.len];exact c)]at hb;exact .inl ⟨c,hb⟩
  ·rw[Rn (by rw[F.len];omega),F.len]at hb
   have hi:i-m<1:=by have:=(Of.1 hb).1;simpa using this
   have:i-m=0:=by omega
   rw[this]at hb;simp at hb;exact .inr ⟨by omega,hb.symm⟩
 refine⟨by simp[F.len],λi o' b ho' hb=>?_,λi b hb=>?_,λi j a b hij ha hb=>?_⟩
 ·rcases hcase i b hb with⟨hi,h⟩|⟨rfl,rfl⟩
  ·obtain⟨g1,g2,x,t,g3,g4,g5⟩:=F.QR i o' b ho' h;exact⟨g1,g2,x,t,by rw[SD (by rw[F.len];omega)];exact g3,g4.more r,g5⟩
  ·rw[ho]at ho';cases ho';exact hr
 ·rcases hcase i b hb with⟨hi,h⟩|⟨rfl,rfl⟩
  ·have:=F.lo i b h;exact⟨this.1,by omega⟩
  ·exact⟨by omega,by omega⟩
 ·rcases hcase j b hb with⟨hj,h⟩|⟨rfl,rfl⟩
  ·rcases hcase i a ha with⟨hi,h'⟩|⟨rfl,rfl⟩
   ·exact F.ord i j a b hij h' h
   ·omega
  ·rcases hcase i a ha with⟨hi,h'⟩|⟨rfl,rfl⟩
   ·have:=F.lo i a h';omega
   ·omega
theorem FX:∀{rs:List DR} {g:Nat} {r:DR} {v:SV},rs[g]? =some r->r.c.v=v->Ot rs g v=rs
 |[],_,_,_,h,_=>by simp at h
 |x::l,0,r,v,h,hv=>by simp at h;subst h;subst hv;rfl
 |x::l,g+1,r,v,h,hv=>by simp only[Ot];rw[FX (rs:=l) (by simpa using h) hv]
theorem pD (hE:mP E) {out:ρ}:∀(rest:List Oper) (i nid:Nat) (rs:List DR) (K:List DR->Nat->Option ρ),o4 E ops masks dsts s0 h0 i rest nid rs K=some out->
  DF E ops masks dsts s0 h0 nid0 rs i nid->nid0<=nid->ops.drop i=rest->∃rs' nid',K rs' nid'=some out/\nid0<=nid'/\DF E ops masks dsts s0 h0 nid0 rs' (i+rest.length) nid'
 |[],i,nid,rs,K,h,F,hn,_=>⟨rs,nid,h,hn,F⟩
 |o::rest,i,nid,rs,K,h,F,hn,hd=>by
  have ho:ops[i]? =some o:=by rw[<-List.head?_drop,hd];rfl
  have hd':ops.drop (i+1)=rest:=by rw[<-List.drop_drop,hd];rfl
  have htake:∀r,(rs++[r]).take i=rs:=λr=>by rw[SD (by rw[F.len];omega),<-F.len,Sa]
  simp only[o4,An]at h;obtain⟨x,hx,h⟩:=h
  have exec:∀t,(∀r,l0 masks i o (rs++[r]) t)->t=true->(BA E (m9 [] x.1 (eJ o.op.operands.toList)) (Kg E masks i ops h0 x o) nid o.op λc=>cond (okW E o.op c) (o4 E ops masks dsts s0 h0 (i+1) rest (nid+c.news.length) (rs++[Ou E masks i ops h0 x o nid c]) K) none)=some out->
    ∃rs' nid',K rs' nid'=some out/\nid0<=nid'/\DF E ops masks dsts s0 h0 nid0 rs' (i+(o::rest).length) nid':=λt hw ht h=>by
   obtain⟨c,hc,hg⟩:∃c,(cond (okW E o.op c) (o4 E ops masks dsts s0 h0 (i+1) rest (nid+c.news.length) (rs++[Ou E masks i ops h0 x o nid c]) K) none)=some out/\
     (Kf E h0 x o=false->DA E.P o nid c (m9 [] x.1 (eJ o.op.operands.toList)) (Iz E masks i ops x o))/\(Kf E h0 x o=true->OH E.P o nid c (m9 [] x.1 (eJ o.op.operands.toList)) (vA h0 (Dm x o))):=by
    unfold Kg at h;cases hL:Kf E h0 x o<;>simp only[hL,cond_true,cond_false]at h
    ·obtain⟨c,hc,hg⟩:=DB hE h;exact⟨c,hc,λ_=>hg,(λe=>nomatch e)⟩
    ·have hL':=hL;unfold Kf at hL';simp only[Rk]at hL';obtain⟨c,hc,hg⟩:=OI hL'.2.1 h;exact⟨c,hc,(λe=>nomatch e),λ_=>hg⟩
   cases hok:okW E o.op c<;>simp only[hok,cond_true,cond_false]at hc
   ·exact nomatch hc
   ·have F':=F.push hn (r:=Ou E masks i ops h0 x o nid c) ho ⟨rfl,hok,x,t,by rw[htake];exact hx,hw _,.inl ⟨ht,rfl,hg.1,hg.2⟩⟩ rfl;have:=pD hE rest (i+1) _ _ K hc F' (by omega) hd';rwa [show i+1+rest.length=i+(o::rest).length from by simp;omega]at this
  have skip:∀t,(∀r,l0 masks i o (rs++[r]) t)->t=false->o4 E ops masks dsts s0 h0 (i+1) rest nid (rs++[⟨o.dst,nid,{v:=.tup []},[],[],false⟩]) K=some out->
    ∃rs' nid',K rs' nid'=some out/\nid0<=nid'/\DF E ops masks dsts s0 h0 nid0 rs' (i+(o::rest).length) nid':=λt hw ht h=>by
   have F':=F.push hn (r:=⟨o.dst,nid,{v:=.tup []},[],[],false⟩) ho ⟨rfl,by simp only[okW,isNil,CR.kil,SL];cases lX E o.op<;>rfl,x,t,by rw[htake];exact hx,hw _,.inr ⟨ht,rfl,rfl⟩⟩ rfl;have:=pD hE rest (i+1) _ _ K h F' (by simpa using hn) hd';rwa [show i+1+rest.length=i+(o::rest).length from by simp;omega]at this
  split at h
  ·rename_i hg;exact exec true (λr=>by unfold l0;rw[hg]) rfl h
  ·rename_i g want hg;cases hb:(masks.getD i 0).testBit g<;>simp only[hb,cond_true,cond_false]at h
   ·exact nomatch h
   ·simp only[An]at h;obtain⟨r,hr,d,hdst,h⟩:=h;split at h
    ·rename_i hv
     exact skip false (λr'=>l0.more (by
      unfold l0;rw[hg];exact⟨hb,r,d,hr,hdst,.inr ⟨hv,rfl⟩⟩) r') rfl h
    ·rename_i b hv
     have hw:∀r',l0 masks i o (rs++[r']) (b==want):=λr'=>l0.more (by
      unfold l0;rw[hg];exact⟨hb,r,d,hr,hdst,.inl ⟨b,hv,rfl⟩⟩) r'
     cases b<;>simp only[cond_true,cond_false]at h
     ·rw[FX hr hv]at h;cases want<;>simp only[cond_true,cond_false]at h
      ·exact exec _ hw rfl h
      ·exact skip _ hw rfl h
     ·rw[FX hr hv]at h;cases want<;>simp only[cond_true,cond_false]at h
      ·exact skip _ hw rfl h
      ·exact exec _ hw rfl h
    ·exact nomatch h
end
theorem xu {cm:DR->Bool} {masks:List Nat} {i:Nat} {r:DR}:∀{l:List DR} {k:Nat},wY cm masks i r k l=true->∀(j:Nat) (b:DR),l[j]? =some b->(masks.getD (k+j) 0).testBit i=true\/rh cm r b=true
 |[],_,_,j,b,hb=>by simp at hb
 |x::l,k,h,j,b,hb=>by
  simp only[wY]at h
  have hl:wY cm masks i r (k+1) l=true/\((masks.getD k 0).testBit i=true\/rh cm r x=true):=by
   cases h1:(masks.getD k 0).testBit i<;>simp only[h1,cond_true,cond_false]at h
   ·cases h2:rh cm r x<;>simp only[h2,cond_true,cond_false]at h
    ·exact nomatch h
    ·exact⟨h,.inr rfl⟩
   ·exact⟨h,.inl rfl⟩
  cases j with
  |zero=>simp at hb;subst hb;exact hl.2
  |succ j=>have:=xu hl.1 j b (by simpa using hb);rwa [show k+1+j=k+(j+1)from by omega]at this
theorem rQ {cm:DR->Bool} {masks:List Nat}:∀{l:List DR} {k:Nat},Ad cm masks k l=true->∀(i j:Nat) (a b:DR),i<j->l[i]? =some a->l[j]? =some b->(masks.getD (k+j) 0).testBit (k+i)=true\/rh cm a b=true
 |[],_,_,i,j,a,b,_,ha,_=>by simp at ha
 |x::l,k,h,i,j,a,b,hij,ha,hb=>by
  simp only[Ad]at h;cases h1:wY cm masks k x (k+1) l<;>simp only[h1,cond_true,cond_false]at h
  ·exact nomatch h
  ·obtain⟨j,rfl⟩:∃j',j=j'+1:=⟨j-1,by omega⟩
   cases i with
   |zero=>
    simp at ha;subst ha;have:=xu h1 j b (by simpa using hb)
    rwa [show k+1+j=k+(j+1)from by omega]at this
   |succ i=>
    have:=rQ h i j a b (by omega) (by simpa using ha) (by simpa using hb);rwa [show k+1+j=k+(j+1)from by omega,show k+1+i=k+(i+1)from by omega]at this
theorem Rh {i:Nat} {l:List Nat}:mem i l=true↔i∈l:=by
 induction l with
 |nil=>simp[mem]
 |cons k l ih=>
  simp only[mem,RI];cases h:Nat.beq k i
  ·have:¬i=k:=λe=>by subst e;simp at h
   simp[ih,this]
  ·have:=Rj h;simp[this]
theorem Ax {n:Nat}:∀{l:List Nat},Iy n l=true->∀i∈l,i+1<=n
 |[],_,i,hi=>by simp at hi
 |x::l,h,i,hi=>by
  simp only[Iy]at h;cases hm:Nat.ble (x+1) n<;>simp only[hm,cond_true,cond_false]at h
  ·exact nomatch h
  ·rcases RI.1 hi with rfl|hi
   ·exact Ry hm
   ·exact Ax h i hi
theorem qw:∀{ops:List Oper} {j:Nat} {o:Oper} {t:Nat},ops[j]? =some o->o.dst=some t->t∈iY ops
 |[],j,o,t,h,_=>by simp at h
 |x::l,0,o,t,h,hd=>by simp at h;subst h;simp[iY,hd]
 |x::l,j+1,o,t,h,hd=>by
  have:=qw (ops:=l) (by simpa using h) hd;simp only[iY];split<;>simp[this]
theorem Ay:∀{ops:List Oper},(iY ops).Nodup->∀{i j:Nat} {a b:Oper} {t:Nat},i≠j->ops[i]? =some a->ops[j]? =some b->a.dst=some t->b.dst≠some t
 |[],_,i,j,a,b,t,_,h,_,_=>by simp at h
 |x::l,hn,i,j,a,b,t,hij,ha,hb,h1=>by
  have hl:(iY l).Nodup:=by
   simp only[iY]at hn;split at hn
   ·exact(Su.1 hn).2
   ·exact hn
  have hx:∀t,x.dst=some t->t∉iY l:=λt ht=>by
   simp only[iY,ht]at hn;exact(Su.1 hn).1
  intro h2
  cases i with
  |zero=>
   simp at ha;subst ha
   cases j with
   |zero=>exact hij rfl
   |succ j=>exact hx t h1 (qw (by simpa using hb) h2)
  |succ i=>
   cases j with
   |zero=>simp at hb;subst hb;exact hx t h2 (qw (by simpa using ha) h1)
   |succ j=>exact Ay (i:=i) (j:=j) hl (by omega) (by simpa using ha) (by simpa using hb) h1 h2
theorem B9 {masks:List Nat} {i:Nat}:∀{ops:List Oper} {k j:Nat} {o:Oper} {t:Nat},ops[j]? =some o->o.dst=some t->(masks.getD (k+j) 0).testBit i=false->t∈MB masks i k ops
 |[],k,j,o,t,h,_,_=>by simp at h
 |x::l,k,0,o,t,h,hd,hb=>by simp at h;subst h;simp only[RS]at hb;simp only[MB,hb,cond_false,hd];exact RN ..
 |x::l,k,j+1,o,t,h,hd,hb=>by
  have:=B9 (ops:=l) (k:=k+1) (by simpa using h) hd (by rw[show k+1+j=k+(j+1)from by omega];exact hb);simp only[MB];cases(masks.getD k 0).testBit i<;>simp only[cond_true,cond_false]
  ·split<;>simp[this]
  ·exact this
theorem I4 {T:List Nat} {s:List (Nat× SV)} {l:List Nat} {t:Nat} {v:SV} (h:look (m9 T s l) t=some v):v∈BC s l:=by
 induction l with
 |nil=>exact nomatch h
 |cons k l ih=>
  simp only[m9]at h;simp only[BC];cases hm:mem k T<;>simp only[hm,cond_true,cond_false]at h
  ·cases hl:look s k with
   |none=>rw[hl]at h;exact ih h
   |some u=>
    rw[hl]at h;simp only[aA]at h;by_cases c:k=t
    ·rw[if_pos c]at h;cases h;exact RN
    ·rw[if_neg c]at h;exact RF _ (ih h)
  ·cases hl:look s k with
   |none=>exact ih h
   |some u=>exact RF _ (ih h)
theorem Az {k:Nat} {B:Blk}:∀{l:List DR},Ke k B l=true->∀r∈l,look r.c.upd k=none/\mem k r.c.kil.1=false/\B.JZ r.c.kil=true
 |[],_,_,h=>nomatch h
 |r::l,h,r',hr=>by
  simp only[Ke]at h;cases hc:((look r.c.upd k).isNone&&(!mem k r.c.kil.1&&B.JZ r.c.kil))<;>rw[hc]at h<;>simp only[cond_true,cond_false]at h
  ·exact nomatch h
  ·rw[Rk,Rk,Option.isNone_iff_eq_none,Tk]at hc
   rcases RI.1 hr with rfl|hr
   ·exact hc
   ·exact Az h r' hr
theorem DG {h:aF} {rs:List DR} {k:Nat}:∀{L:List Nat},Qy h rs L=true->mem k L=true->∃B,look h k=some B/\∀r∈rs,look r.c.upd k=none/\mem k r.c.kil.1=false/\B.JZ r.c.kil=true
 |[],_,hm=>nomatch hm
 |i::l,hc,hm=>by
  simp only[Qy]at hc;split at hc
  ·rename_i B hB;cases h1:Ke i B rs<;>rw[h1]at hc<;>simp only[cond_true,cond_false]at hc
   ·exact nomatch hc
   ·simp only[mem]at hm;cases hb:Nat.beq i k<;>rw[hb]at hm<;>simp only[cond_true,cond_false]at hm
    ·exact DG hc hm
    ·have:=Rj hb;subst this;exact⟨B,hB,Az h1⟩
  ·exact nomatch hc
theorem vC:∀{L T:List Nat},wZ L T=true->∀k,mem k L=true->mem k T=false
 |[],_,_,k,hk=>nomatch hk
 |i::l,T,h,k,hk=>by
  simp only[wZ]at h;cases hm:mem i T<;>rw[hm]at h
  ·simp only[mem]at hk;cases hb:Nat.beq i k<;>rw[hb]at hk
   ·exact vC h k hk
   ·rw[<-Rj hb];exact hm
  ·exact nomatch h
theorem vD {L:List Nat}:∀{rs:List DR},BD L rs=true->∀k,mem k L=true->∀r∈rs,mem k r.c.kil.1=false
 |[],_,_,_,_,hr=>nomatch hr
 |r::l,h,k,hk,r',hr=>by
  simp only[BD]at h;cases hn:wZ L r.c.kil.1<;>rw[hn]at h
  ·exact nomatch h
  ·rcases RI.1 hr with rfl|hr
   ·exact vC hn k hk
   ·exact vD h k hk r' hr
theorem xv {cm:DR->Bool}:∀{rs:List DR},Ae cm rs=true->∀r∈rs,r.len=true->fD cm r=true
 |[],_,_,hr,_=>nomatch hr
 |r::l,h,r',hr,hl=>by
  simp only[Ae]at h;cases hn:(!r.len||fD cm r)<;>rw[hn]at h
  ·exact nomatch h
  ·rcases RI.1 hr with rfl|hr
   ·rw[hl]at hn;exact hn
   ·exact xv h r' hr hl
theorem MT {T:Kil} {B:Blk} (h:B.JZ T=true):B.aL T=some B:=by
 cases B with
 |box cs=>simp only[Blk.aL,jh cs h]
 |arr sh t xs=>
  cases sh with
  |none=>rfl
  |some d=>simp only[Blk.aL,not_false h,cond_false]
theorem l3 {p:Nat->Bool} {k:Nat} {B:Blk}:∀(l:List DR) (j:Nat) (x X:SH),(∀r∈l,look r.c.upd k=none/\mem k r.c.kil.1=false/\B.JZ r.c.kil=true)->look x.2 k=some B->replay p j l x=some X->look X.2 k=some B
 |[],_,x,X,_,hx,h=>by cases h;exact hx
 |r::l,j,x,X,hl,hx,h=>by
  simp only[replay]at h;have hl':=λr' hr=>hl r' (RF _ hr);cases hp:p j<;>rw[hp]at h<;>simp only[cond_true,cond_false]at h
  ·exact l3 l (j+1) x X hl' hx h
  ·rw[An]at h;obtain⟨y,hy,h⟩:=h;obtain⟨h1,hm,h2⟩:=hl r RN;refine l3 l (j+1) y X hl' ?_ h;rw[wo hy,hm,cond_false,pA _ _ h1,hx,Rv,MT h2];rfl
theorem ld {T:List Nat} {s:List (Nat× SV)} {l:List Nat} {t:Nat} {v:SV} (h:look (m9 T s l) t=some v):t∉T/\look s t=some v:=by
 induction l with
 |nil=>exact nomatch h
 |cons k l ih=>
  simp only[m9]at h;cases hm:mem k T<;>simp only[hm,cond_true,cond_false]at h
  ·cases hl:look s k with
   |none=>rw[hl]at h;exact ih h
   |some u=>
    rw[hl]at h;rw[aA]at h;by_cases e:k=t
    ·subst e;rw[if_pos rfl]at h;cases h;exact⟨λh=>by rw[Rh.2 h]at hm;exact(nomatch hm),hl⟩
    ·rw[if_neg e]at h;exact ih h
  ·exact ih h
theorem xw {E:Env} {masks:List Nat} {i:Nat}:∀{l:List Oper} {k:Nat},vz E masks i k l=false->∀(j:Nat) (o:Oper),l[j]? =some o->lX E o.op=true->PU masks i (k+j)=true
 |[],_,_,j,o,h,_=>by simp at h
 |x::l,k,h,j,o,ho,hw=>by
  simp only[vz]at h
  have hl:vz E masks i (k+1) l=false/\(lX E x.op=true->PU masks i k=true):=by
   cases h1:lX E x.op<;>simp only[h1,cond_true,cond_false]at h
   ·exact⟨h,λh=>nomatch h⟩
   ·cases h2:PU masks i k<;>simp only[h2,cond_true,cond_false]at h
    ·exact nomatch h
    ·exact⟨h,λ_=>rfl⟩
  cases j with
  |zero=>simp at ho;subst ho;exact hl.2 hw
  |succ j=>have:=xw hl.1 j o (by simpa using ho) hw;rwa [show k+1+j=k+(j+1)from by omega]at this
end
end Go.Proofs.Ev
