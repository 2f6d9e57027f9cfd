/- The evaluator over the model's code, and that it is sound: part 4. -/
import Derived.Test.YtpiopmjbcadfbaaGreatEvK3
import Derived.Lib.SliceRun
import Derived.Laws.Cover3
import Derived.Orders
set_option linter.unusedVariables false
set_option linter.unusedSimpArgs false
set_option linter.unusedSectionVars false
namespace Go.Proofs.Ev
section
variable [Tok]
section
variable {w:World} {H:aI} {pl:Pl} {P:Program}
theorem qn {t:Ty} {ys:List t.El} {zs:List t.El} {q n i j:Nat} {r:R} (hn:q+n<=ys.length) (hz:zs.length=n) (h:az t (ys.take q++zs++ys.drop (q+n)) i j r):
  (q<=i/\i<q+n/\az t zs (i-q) j r)\/(¬(q<=i/\i<q+n)/\az t ys i j r):=by
 obtain⟨x,hx,hr⟩:=h
 have hl:(ys.take q).length=q:=by rw[R8];omega
 by_cases c:q<=i/\i<q+n
 ·rw[RM,Rs (by omega),hl,Rt (by omega)]at hx;exact .inl ⟨c.1,c.2,x,hx,hr⟩
 ·refine .inr ⟨c,x,?_,hr⟩;by_cases c1:i<q
  ·rw[RM,Rt (by omega),R3,if_pos c1]at hx;exact hx
  ·rw[Rs (by simp[hz];omega),RF]at hx;rw[<-hx];congr 1;simp[hz];omega
theorem KH {t:Ty} {d:List Nat} {ys:List t.El} {i q num:Nat} {H':aI} {zs:List t.El} {us:List Value} {b m n cap:Nat}
  (hr:cH H pl w) (hl:look H i=some (.arr (some d) t ys)) (hzl:zs.length=num) (hh:pl.hdr i=.slice (some ⟨b,m,none⟩) n cap) (hq:q+num<=ys.length) (hus:us.length=num*t.sz) (hone:∀u∈us,one u=true)
  (hin:∀x j r,az t zs x j r->∃u,us[x*t.sz+j]? =some u/\ja w (okd H pl d) r u) (hpos0:0<ys.length)
  (hit':hit [i] d=false) (ht:m7 H H' ([],[i]) i (.arr (some d) t (ys.take q++zs++ys.drop (q+num)))):
  ∃w',(storeCells ⟨b,m+q*t.sz,none⟩ us).run P w=.ok () w'/\∃fp',cQ H H' ([],[i]) pl (pl.set i (pl.hdr i) fp') w w':=by
 obtain⟨⟨a,cap',b',o,vs,fs,hhd,ib,ha,kj,hc,hrr,hd1,hd2,hfp⟩⟩:=(hr.blk i _ hl).OJ;rw[hh]at hhd;cases hhd;have hsp:=t.gf
 have hab:b=b'/\m=o:=by
  rcases ha with h|h
  ·omega
  ·cases h;exact⟨rfl,rfl⟩
 obtain⟨rfl,rfl⟩:=hab
 have hpos:q*t.sz+us.length<=cap*t.sz:=by
  have:(q+num)*t.sz<=cap*t.sz:=RG _ (by omega);rw[RQ]at this;omega
 have hcell:∀j,j<us.length->∃u,w.at? (b,m+q*t.sz+j)=some u/\calm (w.ez (b,m+q*t.sz+j))=true:=λj hj=>by
  obtain⟨⟨u,q1⟩,q2⟩:=kj (q*t.sz+j) (by omega);rw[show m+q*t.sz+j=m+(q*t.sz+j)from by omega];exact⟨u,q1,qj q2⟩
 have hst:=run_storeCells_cells (P:=P) b (m+q*t.sz) us 0 w (λj hj=>by
   obtain⟨u,q1,_⟩:=hcell j hj;simp only[RZ];have q1:w.cell? ⟨b,m+q*t.sz+j,none⟩=some u:=q1
   rw[q1];rfl) (λj hj=>by
   obtain⟨u,q1,q2⟩:=hcell j hj
   simp only[RZ];exact lg q1 q2) (λu hu=>nQ (hone u hu))
 simp only[RZ]at hst
 have hcellin:∀j,j<us.length->(w.setCells b (m+q*t.sz) us).at? (b,m+q*t.sz+j)=us[j]? :=λj hj=>by
  have:=World.cell?_setCells_in b us (m+q*t.sz) w (λj hj=>by
   obtain⟨u,q1,_⟩:=hcell j hj;have q1:w.cell? ⟨b,m+q*t.sz+j,none⟩=some u:=q1
   rw[q1];rfl) j hj
  rw[On hj];simpa[World.at?]using this
 have hcellout:∀p u,w.at? p=some u->¬(p.1=b/\m+q*t.sz<=p.2/\p.2<m+q*t.sz+us.length)->(w.setCells b (m+q*t.sz) us).at? p=some u:=λp u hp hno=>by
  unfold World.at? at*;rw[World.cell?_setCells_out b _ _ w _ (λe1 _=>by simp at e1;simp;omega)];exact hp
 have hice:∀p,(w.setCells b (m+q*t.sz) us).ez p=w.ez p:=λp=>fN _ _ _ _ _;have hregin:∀p,reg b m (cap*t.sz) p->pl.fp i p:=λp hp=>(hfp p).2 (.inl hp);have hfsin:∀i' j r p,az t ys i' j r->fs i' j p->pl.fp i p:=λi' j r p hx hf=>(hfp p).2 (.inr ⟨i',j,r,hx,hf⟩)
 have hmi:mem i [i]=true:=by simp[mem]
 have hylen:(ys.take q++zs++ys.drop (q+num)).length=ys.length:=by simp[hzl];omega
 refine⟨_,hst,λp=>reg b m (cap*t.sz) p\/∃i' j r,az t ys i' j r/\¬(q<=i'/\i'<q+num)/\fs i' j p,?_⟩;refine jE (dJ.setCells _ _ _ _) hr ht (λx hx=>nomatch hx) (λx hx=>?_) (.inr ⟨_,hl,hmi,by simp only[Blk.lQ];exact⟨trivial,hylen.symm⟩,rfl⟩) (λp u hp hno=>⟨hcellout p u hp λhin=>?_,hice p⟩) (λp hp=>?_) (λp hp=>?_) λhkp=>?_
 ·refine .inr ?_;simp only[mem]at hx;cases hb:Nat.beq i x
  ·rw[hb]at hx;exact nomatch hx
  ·exact(Rp hb).symm
 ·exact hno i _ hmi hl (hregin p ⟨hin.1,by omega,by omega⟩)
 ·refine hr.nb p ?_
  cases hq':w.at? p with
  |none=>rfl
  |some u=>
   by_cases hin:p.1=b/\m+q*t.sz<=p.2/\p.2<m+q*t.sz+us.length
   ·obtain⟨p1,p2⟩:=p;obtain⟨e1,e2,e3⟩:=hin;simp only at e1 e2 e3;subst e1;have:=hcellin (p2-(m+q*t.sz)) (by omega);rw[show m+q*t.sz+(p2-(m+q*t.sz))=p2 from by omega,hp,On (by omega)]at this;exact nomatch this
   ·rw[hcellout p u hq' hin]at hp;exact nomatch hp
 ·rcases hp with hp|⟨i',j,r,hx,_,hf⟩
  ·exact .inr ⟨i,_,hmi,hl,hregin p hp⟩
  ·exact .inr ⟨i,_,hmi,hl,hfsin i' j r p hx hf⟩
 ·have wg:∀{i' j},j<t.sz->¬(q<=i'/\i'<q+num)->¬(m+q*t.sz<=m+(i'*t.sz+j)/\m+(i'*t.sz+j)<m+q*t.sz+us.length):=λ{i' j} hj hne ⟨g1,g2⟩=>by
   rcases Nat.lt_or_ge i' q with h|h
   ·have:(i'+1)*t.sz<=q*t.sz:=RG _ h;rw[SM]at this;omega
   ·have h2:q+num<=i':=by omega
    have:(q+num)*t.sz<=i'*t.sz:=RG _ h2;rw[RQ]at this;omega
  refine dS.mH ⟨some ⟨b,m,none⟩,cap,b,m,λi' j=>if q<=i'/\i'<q+num then(us[(i'-q)*t.sz+j]?).getD undef else vs i' j,λi' j p=>¬(q<=i'/\i'<q+num)/\fs i' j p,by rw[hylen];simp[Pl.set,hh],by rw[hylen];exact ib,.inr rfl,λj hj=>⟨?_,by rw[hice];exact(kj j hj).2⟩,λi' j r hx=>?_,λi' j r hx=>?_,λi' j r p hx hf=>?_,λi' j r i2 j2 r2 p hx hx' hf hf'=>?_,λp=>?_⟩
  ·by_cases hin:q*t.sz<=j/\j<q*t.sz+us.length
   ·have:=hcellin (j-q*t.sz) (by omega);rw[show m+q*t.sz+(j-q*t.sz)=m+j from by omega]at this;exact⟨_,this.trans (On (by omega))⟩
   ·obtain⟨u,hu⟩:=(kj j hj).1;exact⟨u,hcellout _ u hu λh=>hin ⟨by have:=h.2.1;simp at this;omega,by have:=h.2.2;simp at this;omega⟩⟩
  ·rcases qn hq hzl hx with⟨g1,g2,g3⟩|⟨g1,g2⟩
   ·rw[if_pos ⟨g1,g2⟩];obtain⟨u,hu,_⟩:=hin _ _ _ g3;have hlt:=(Of.1 hu).1;have:=hcellin _ hlt
    have e:m+q*t.sz+((i'-q)*t.sz+j)=m+(i'*t.sz+j):=by
     have:i'*t.sz=q*t.sz+(i'-q)*t.sz:=by rw[<-RQ];congr 1;omega
     omega
    rw[e]at this;rw[this,hu];rfl
   ·rw[if_neg g1];exact hcellout _ _ (hc _ _ _ g2) λh=>wg (aJ g2).2 g1 ⟨h.2.1,h.2.2⟩
  ·rcases qn hq hzl hx with⟨g1,g2,g3⟩|⟨g1,g2⟩
   ·rw[if_pos ⟨g1,g2⟩];obtain⟨u,hu,hI⟩:=hin _ _ _ g3;rw[hu,SW];have hno:∀p,¬(¬(q<=i'/\i'<q+num)/\fs i' j p):=λp hf=>hf.1 ⟨g1,g2⟩;rw[hh];exact⟨hI.frame λp u hp hu=>(hh▸hkp).k2 d p u (λx hx=>fk _ d hit' x hx) hp hu,hno⟩
   ·simp only[if_neg g1];have hI:=hrr _ _ _ g2;rw[hh];exact⟨hI.1.frame λp u hp hu=>(hh▸hkp).k2 d p u (λx hx=>fk _ d hit' x hx) hp hu,λp hf=>hI.2 p hf.2⟩
  ·rcases qn hq hzl hx with⟨g1,g2,g3⟩|⟨g1,g2⟩
   ·exact(hf.1 ⟨g1,g2⟩).elim
   ·exact hd1 _ _ _ p g2 hf.2
  ·rcases qn hq hzl hx with⟨g1,g2,g3⟩|⟨g1,g2⟩
   ·exact(hf.1 ⟨g1,g2⟩).elim
   ·rcases qn hq hzl hx' with⟨q1,q2,q3⟩|⟨q1,q2⟩
    ·exact(hf'.1 ⟨q1,q2⟩).elim
    ·exact hd2 _ _ _ _ _ _ p g2 q2 hf.2 hf'.2
  ·simp only[Pl.set,if_true];constructor
   ·rintro (h|⟨i',j,r,hx,hne,hf⟩)
    ·exact .inl h
    ·have hlt:=aJ hx;obtain⟨r',hr'⟩:=dv (t:=t) (xs:=ys.take q++zs++ys.drop (q+num)) (i:=i') (j:=j) (by rw[hylen];exact hlt.1) hlt.2;exact .inr ⟨i',j,r',hr',hne,hf⟩
   ·rintro (h|⟨i',j,r,hx,hf⟩)
    ·exact .inl h
    ·rcases qn hq hzl hx with⟨g1,g2,g3⟩|⟨g1,g2⟩
     ·exact(hf.1 ⟨g1,g2⟩).elim
     ·exact .inr ⟨_,_,_,g2,hf⟩
theorem KI {i:Nat}:∀{d:List Nat},mem i d=false->hit [i] d=false
 |[],_=>rfl
 |k::l,h=>by
  simp only[mem]at h;cases hb:Nat.beq k i
  ·rw[hb,cond_false]at h
   have:mem k [i]=false:=by
    simp only[mem];cases hc:Nat.beq i k
    ·rfl
    ·have:=Rp hc;subst this;simp at hb
   simp only[hit,this,cond_false];exact KI h
  ·rw[hb]at h;exact nomatch h
theorem MT {o:Oper} {a:Act} {s:List (Nat× SV)} {n:Nat} {args:Array Operand} {tys:Array TypeId} {T e:TypeId} {sz:Nat} {t:Ty} {z:List SV} {d:List Nat} {xs:List t.El} {i q off num:Nat}
  (hr:cH H pl w) (hs:gn w H pl s a) (ho:o.op=.call {callee:=.builtin .append,args:=args,argTypes:=tys}) (hvs:rJ s args.toList=some [.sub i 0 q,.sub i off num]) (hty:tys.toList=[T,T])
  (he:lO P T=some e) (hsz:iS P e=some sz) (hts:t.sz=sz) (hz:gg P e=some z) (hl:look H i=some (.arr (some d) t xs)) (hd:mem i d=false) (hq:q+num<=xs.length) (hoff:off+num<=xs.length) (hpos:1<=xs.length):
  kq P o a w H pl n {v:=.sub i 0 (q+num),upd:=[(i,.arr (some d) t (xs.take q++(xs.drop off).take num++xs.drop (q+num)))],ld:=[i]}:=by
 refine⟨λj B h=>?_,λH' next Q ha hN=>?_⟩
 ·rw[aA]at h;by_cases e:i=j
  ·subst e;exact⟨_,hl⟩
  ·rw[if_neg e]at h;simp[look]at h
 obtain⟨ht,_⟩:=sP (c:={v:=.sub i 0 (q+num),upd:=[(i,.arr (some d) t (xs.take q++(xs.drop off).take num++xs.drop (q+num)))],ld:=[i]}) hl rfl rfl rfl ha;obtain⟨p,p',hpq,hp,hp'⟩:=qk hvs;have hpr:=aQ hs hp;have hpr':=aQ hs hp'
 have hargs:args.map a.eval=#[a.eval p,a.eval p']:=by rw[show args=#[p,p']from S9 hpq];simp
 have hta:tys=#[T,T]:=S9 hty
 obtain⟨ti,hti,rfl⟩:=kY hsz;obtain⟨zu,hzu,hzc⟩:=jd hr hti hz;obtain⟨R⟩:=hr.blk i _ hl;have ib:=R.ib;have hA:R.a=some ⟨R.b,R.o,none⟩:=R.ha.resolve_left (by omega)
 have hhd:pl.hdr i=.slice (some ⟨R.b,R.o,none⟩) xs.length R.cap:=by rw[<-hA];exact R.xj
 have e1:a.eval p=.slice (some ⟨R.b,R.o,none⟩) q R.cap:=by
  generalize a.eval p=u at hpr
  cases hpr with
  |sub _ _ _ sh2 t2 xs2 a1 a2 cap1 cap2 hl2 hh2 hn1 hc hc' ha2=>
   rw[hl]at hl2;cases hl2;rw[hhd]at hh2;cases hh2
   have hcc:cap2=R.cap:=by omega
   subst hcc
   rcases ha2 with h|h
   ·omega
   ·rw[h];simp[Addr.add]
 obtain⟨A3,cap3,e2,hc3,hA3⟩:∃A3 cap3,a.eval p'=.slice A3 num cap3/\num<=cap3/\(num=0\/A3=some ⟨R.b,R.o+off*t.sz,none⟩):=by
  generalize a.eval p'=u at hpr'
  cases hpr' with
  |sub _ _ _ sh2 t2 xs2 a1 a2 cap1 cap2 hl2 hh2 hn1 hc hc' ha2=>
   rw[hl]at hl2;cases hl2;rw[hhd]at hh2;cases hh2;refine⟨a2,cap2,rfl,hc,?_⟩
   rcases ha2 with h|h
   ·exact .inl (by omega)
   ·exact .inr (by rw[h];simp[sM])
 have hsp:=t.gf
 have hback:∀k,k<num*t.sz->∃r,az t xs (off+k/t.sz) (k %t.sz) r:=λk hk=>by
  have:k/t.sz<num:=by rw[To hsp];exact hk
  exact dv (by omega) (TX _ hsp)
 have hus:((List.range (num*t.sz)).map λk=>R.vs (off+k/t.sz) (k %t.sz)).length=num*t.sz:=by simp
 generalize husd:(List.range (num*t.sz)).map (λk=>R.vs (off+k/t.sz) (k %t.sz))=us at hus
 have hget:∀k,k<num*t.sz->us[k]? =some (R.vs (off+k/t.sz) (k %t.sz)):=λk hk=>by rw[<-husd,iq hk]
 have hcell:∀k,k<num*t.sz->w.at? (R.b,R.o+(off*t.sz+k))=some (R.vs (off+k/t.sz) (k %t.sz)):=λk hk=>by
  obtain⟨r,hx⟩:=hback k hk;have:=R.hc _ _ _ hx;rw[RQ,Sv,show k/t.sz*t.sz+k %t.sz=k from by rw[R2];exact Tn _ _]at this;exact this
 obtain⟨w',hst,fp',hstep⟩:=KH (P:=P) (zs:=(xs.drop off).take num) (us:=us) hr hl (by rw[R8,SE];omega) hhd hq hus (λu hu=>by
   obtain⟨k,hk⟩:=Sm hu
   have hkl:k<num*t.sz:=by rw[<-hus];exact(Of.1 hk).1
   rw[hget k hkl]at hk;cases hk;obtain⟨r,hx⟩:=hback k hkl
   exact(R.hr _ _ _ hx).1.rl) (λx j r hx=>by
   obtain⟨y,hy,hyr⟩:=hx
   have hxl:x<num:=by have:=(Of.1 hy).1;rw[R8]at this;omega
   have hjl:j<t.sz:=by have:=(Of.1 hyr).1;rwa [Ty.cf]at this
   rw[R3,if_pos hxl,RF]at hy;have hx':az t xs (off+x) j r:=⟨y,hy,hyr⟩;refine⟨R.vs (off+x) j,?_,(R.hr _ _ _ hx').1⟩;have hlt:x*t.sz+j<num*t.sz:=pd hxl hjl (RJ _);rw[hget _ hlt]
   have g1:(x*t.sz+j)/t.sz=x:=by rw[R2,S0 hsp,SF hjl];simp
   have g2:(x*t.sz+j) %t.sz=j:=by rw[R2,Sy,Sb hjl]
   rw[g1,g2]) hpos (KI hd) ht
 have hfc:(Builtin.firstCells ti.size num (.slice A3 num cap3)).run P w=.ok us.toArray w:=by
  rw[<-hts]
  rcases hA3 with h0|hA3
  ·subst h0;have hn':us=[]:=Sj.1 (by simpa using hus);subst hn'
   cases A3 with
   |none=>exact run_firstCells_none w _ _ _ _
   |some A=>exact run_firstCells_some w t.sz 0 A 0 cap3 [] (by simp) (λj v hv=>by simp at hv)
  ·subst hA3;refine run_firstCells_some w t.sz num _ num cap3 us hus λj v hv=>?_
   have hj:j<num*t.sz:=by rw[<-hus];exact(Of.1 hv).1
   rw[hget j hj]at hv;cases hv;have:=hcell j hj;rw[Addr.add_lit,Sv];exact this
 have hrun:(Builtin.append_ #[T,T] o.type #[.slice (some ⟨R.b,R.o,none⟩) q R.cap,.slice A3 num cap3]).run P w=.ok (.slice (some ⟨R.b,R.o,none⟩) (q+num) R.cap) w':=by
  have hroom:q+num<=R.cap:=by omega
  rw[hts]at hst;simp[Builtin.append_,run_underlying (kX he),sizeOf,typeInfo,hti,Builtin.lenOf,hroom,hfc,Addr.add_lit,hst]
 refine mG (u:=.slice (some ⟨R.b,R.o,none⟩) (q+num) R.cap) (w':=w') ?_ (hN _ _ w' hstep ?_)
 ·rw[execOp,ho,hta];simp only[resolve,hargs,invoke,builtin,Sem.run_bind,Sem.run_pure,Result.andThen_ok,e1,e2,hrun]
 ·refine .sub i 0 (q+num) (some d) t _ (some ⟨R.b,R.o,none⟩) _ R.cap R.cap ht.P8 (by simp[Pl.set,hhd,RD];omega) (by simp;omega) (by omega) (by omega) (.inr (by simp[Addr.add]))
end
end
section
variable [Tok]
section
variable {w:World} {H:aI} {pl:Pl} {P:Program}
def mark (w:World) (b n:Nat):World:=w.freeze ⟨b,n,none⟩ 1
def KJ (n:Nat) (fr:Nat× Nat):Nat× Nat:=if fr.1==fr.2 then(n,n+1)else(min fr.1 n,max fr.2 (n+1))
theorem uD {b n:Nat} {c:Array Value} {e:TypeId} {fr:Nat× Nat} (h:w.heap[b]? =some (.cells c e fr)):(mark w b n).heap[b]? =some (.cells c e (KJ n fr)):=by
 unfold mark World.freeze KJ;rw[if_neg (by decide)];simp only[Array.getElem?_modify,if_true,h];rfl
theorem uE {b n i:Nat} (h:i≠b):(mark w b n).heap[i]? =w.heap[i]? :=by
 unfold mark World.freeze;rw[if_neg (by decide)];simp only[Array.getElem?_modify];rw[if_neg (λe:b=i=>h e.symm)]
theorem KK {b n:Nat} {c:Array Value} {e:TypeId} {fr:Nat× Nat} (h:w.heap[b]? =some (.cells c e fr)) (p:Cell):(mark w b n).at? p=w.at? p:=by
 unfold World.at? World.cell?;by_cases q:p.1=b
 ·simp only[q,h,uD h]
 ·simp only[uE q]
theorem mI {b n:Nat} {p:Cell} (h:p.1≠b):(mark w b n).ez p=w.ez p:=by
 unfold World.ez;rw[uE h]
theorem HD {b n j o m:Nat} {c:Array Value} {e:TypeId} {fr:Nat× Nat} (h:w.heap[b]? =some (.cells c e fr)) (hn:n=c.size) (hw:whole (w.ez (b,j)) o m=true):whole ((mark w b n).ez (b,j)) o m=true:=by
 unfold World.ez at*;simp only[h]at hw;simp only[uD h];unfold whole calm at*;simp only[Rq,decide_eq_true_eq]at*;refine⟨?_,hw.2⟩;unfold KJ;obtain⟨lo,hi⟩:=fr;simp only at hw⊢;by_cases q:lo=hi
 ·subst q;simp;omega
 ·have:(lo==hi)=false:=by simpa using q
  rw[this];simp only[SR,if_false];omega
theorem B6 {b j:Nat} {u:Value} (h:w.at? (b,j)=some u):∃c e fr,w.heap[b]? =some (.cells c e fr)/\j<c.size:=by
 unfold World.at? World.cell? at h
 cases hb:w.heap[b]? with
 |none=>simp[hb]at h
 |some ob=>
  cases ob with
  |cells c e fr=>
   simp only[hb,Sw,SR,if_false]at h
   exact⟨c,e,fr,rfl,(RO.1 h).1⟩
  |_=>simp[hb]at h
theorem KL {i b n cap:Nat} {sh:Option (List Nat)} {t:Ty} {xs:List t.El} {a:Option Addr} {o:Nat} {c:Array Value} {e:TypeId} {fr:Nat× Nat} (hr:cH H pl w) (hl:look H i=some (.arr sh t xs))
  (hb:w.heap[b]? =some (.cells c e fr)) (hc0:0<c.size) (hn:n=c.size) (hin:∀j,j<c.size->pl.fp i (b,j)) (hsz:c.size=cap*t.sz) (hrow:dS (mark w b n) H pl i (.arr sh t xs)):
  cQ H H ([],[]) pl pl w (mark w b n):=by
 have hat:=λp=>KK (n:=n) hb p
 have hmine:∀p u,w.at? p=some u->p.1=b->pl.fp i p:=λp u hp q=>by
  obtain⟨p1,p2⟩:=p;simp only at q;subst q;obtain⟨c',e',fr',h1,h2⟩:=B6 hp;rw[hb]at h1;cases h1;exact hin p2 h2
 have hk:lh ([],[]) w H pl (mark w b n) H pl:=⟨λj B hB _=>⟨B,hB,B.dh,rfl⟩,λd p u _ ho hp=>⟨ho,(hat p).trans hp⟩⟩;refine⟨⟨λj B hB=>?_,hr.dis,hr.ob,λp hp=>hr.nb p ((hat p).symm.trans hp)⟩,hk,rfl,⟨rfl,rfl,λk hk'=>?_⟩,λp u hp hno=>⟨hno,(hat p).trans hp,mI λq=>hno i _ hl (hmine p u hp q)⟩⟩
 ·by_cases q:j=i
  ·subst q;rw[hl]at hB;cases hB;exact hrow
  ·refine(hr.blk j B hB).bz hk rfl (λ_=>Uk) (λp u hf hu=>⟨(hat p).trans hu,mI λq'=>q (hr.dis j i B _ p hB hl hf (hmine p u hu q'))⟩) B.di
 ·by_cases q:k=b
  ·subst q;rw[hb,uD hb];exact⟨rfl,.inr hc0,rfl⟩
  ·rw[uE q];split
   ·rename_i e1 e2;rw[e1]at e2;cases e2;exact⟨rfl,.inl rfl,rfl⟩
   ·rfl
theorem MU {o:Oper} {a:Act} {T:TypeId} {x:Operand} {m i:Nat} {sh:Option (List Nat)} {t:Ty} {y:t.El} {ys:List t.El} (hr:cH H pl w) (ho:o.op=.convert T T x) (hT:vE P T=true)
  (hl:look H i=some (.arr sh t (y::ys))) (hx:au w H pl (.own i) (a.eval x)):kq P o a w H pl m {v:=.own i}:=by
 have ha:a.eval x=pl.hdr i:=by generalize a.eval x=u at hx;cases hx;rfl
 unfold vE lO at hT;split at hT
 ·rename_i e he;split at he
  ·rename_i e' hu;cases he;split at hT
   ·rename_i he8;have hrow:=hr.blk i _ hl
    obtain⟨ad,cap,b,o',hh,hlen,hadr,kj⟩:∃ad cap b o',pl.hdr i=.slice ad (y::ys).length cap/\(y::ys).length<=cap/\(cap=0\/ad=some ⟨b,o',none⟩)/\
      (∀j,j<cap*t.sz->(∃v,w.at? (b,o'+j)=some v)/\whole (w.ez (b,o'+j)) o' (cap*t.sz)=true/\pl.fp i (b,o'+j)):=by
     cases sh with
     |none=>obtain⟨⟨ad,cap,b,o',vs,fs,q1,q2,q3,q4,q5,q6,q7,q8,q9⟩⟩:=hrow;exact⟨ad,cap,b,o',q1,q2,q3,λj hj=>⟨(q4 j hj).1,(q4 j hj).2,(q9 _).2 (.inl ⟨rfl,by simp,by simp;omega⟩)⟩⟩
     |some d=>obtain⟨⟨ad,cap,b,o',vs,fs,q1,q2,q3,q4,q5,q6,q7,q8,q9⟩⟩:=hrow;exact⟨ad,cap,b,o',q1,q2,q3,λj hj=>⟨(q4 j hj).1,(q4 j hj).2,(q9 _).2 (.inl ⟨rfl,by simp,by simp;omega⟩)⟩⟩
    have ib:0<cap:=by simp at hlen;omega
    have hpos:0<cap*t.sz:=Nat.mul_pos ib (Ty.gf t);obtain⟨⟨v0,hv0⟩,hw0,_⟩:=kj 0 hpos;obtain⟨c,ee,fr,hb,hc0⟩:=B6 hv0
    have ho0:o'=0/\c.size=cap*t.sz:=by
     unfold whole World.ez at hw0;simp only[hb,Rq,decide_eq_true_eq]at hw0;exact hw0.2
    obtain⟨rfl,hsz⟩:=ho0;have hadr:=hadr.resolve_left (by omega);subst hadr
    have hin:∀j,j<c.size->pl.fp i (b,j):=λj hj=>by
     have:=(kj j (by omega)).2.2;rwa [Rz]at this
    have hshape:w.shape? b=some (ee,c.size):=by unfold World.shape?;rw[hb]
    have hrun:(execOp a.eval o).run P w=.ok (.value (a.eval x)) (mark w b c.size):=by
     rw[execOp,ho,ha,hh];simp[ha,hh,convert,run_underlying hu,run_underlying he8,markStringish,hshape,mark]
    have hat:=λp=>KK (n:=c.size) hb p;have hk:lh ([],[]) w H pl (mark w b c.size) H pl:=⟨λj B hB _=>⟨B,hB,B.dh,rfl⟩,λd p u _ ho hp=>⟨ho,(hat p).trans hp⟩⟩
    have hnb:∀p,reg b 0 (cap*t.sz) p\/p.1≠b\/w.at? p=none:=λp=>by
     by_cases q:p.1=b
     ·cases hp:w.at? p with
      |none=>exact .inr (.inr rfl)
      |some u=>
       obtain⟨p1,p2⟩:=p;simp only at q;subst q;obtain⟨c',e',fr',h1,h2⟩:=B6 hp;rw[hb]at h1;cases h1;exact .inl ⟨rfl,R9 _,by simp only;omega⟩
     ·exact .inr (.inl q)
    have hblk:dS (mark w b c.size) H pl i (.arr sh t (y::ys)):=by
     cases sh with
     |none=>
      obtain⟨⟨ad,cap',b',o',vs,fs,q1,q2,q3,q4,q5,q6,q7,q8,q9⟩⟩:=hrow;rw[hh]at q1;cases q1;have q3:=q3.resolve_left (by omega);cases q3;refine⟨⟨_,cap,b,0,vs,fs,hh,q2,.inr rfl,λj hj=>⟨?_,HD hb rfl (q4 j hj).2⟩,λi' j r h=>(hat _).trans (q5 i' j r h),λi' j r h=>(q6 i' j r h).frame λp u hp hu=>⟨(hat p).trans hu,mI λq=>?_⟩,q7,q8,q9⟩⟩
      ·obtain⟨⟨v,hv⟩,_⟩:=q4 j hj;exact⟨v,(hat _).trans hv⟩
      ·rcases hnb p with h1|h1|h1
       ·exact q7 _ _ _ p h hp h1
       ·exact h1 q
       ·rw[hu]at h1;exact nomatch h1
     |some d=>
      obtain⟨⟨ad,cap',b',o',vs,fs,q1,q2,q3,q4,q5,q6,q7,q8,q9⟩⟩:=hrow;rw[hh]at q1;cases q1;have q3:=q3.resolve_left (by omega);cases q3;refine⟨⟨_,cap,b,0,vs,fs,hh,q2,.inr rfl,λj hj=>⟨?_,HD hb rfl (q4 j hj).2⟩,λi' j r h=>(hat _).trans (q5 i' j r h),λi' j r h=>⟨(q6 i' j r h).1.frame λp u hp hu=>⟨hp,(hat p).trans hu⟩,(q6 i' j r h).2⟩,q7,q8,q9⟩⟩;obtain⟨⟨v,hv⟩,_⟩:=q4 j hj;exact⟨v,(hat _).trans hv⟩
    refine⟨λj B h=>by simp[look]at h,λH' next Q ha' hN=>?_⟩;cases ha'
    have hH:ru [] H++aK m []=H:=by simp[ru,aK]
    simp only[hH]at hN;have hst:=KL (n:=c.size) hr hl hb hc0 rfl hin hsz hblk (a:=some ⟨b,0,none⟩) (o:=0);exact mG hrun (hN _ pl _ hst (hx.we hk))
   ·exact nomatch hT
  ·exact nomatch he
 ·exact nomatch hT
end
end
section
variable [Tok]
def HE (P:Program) (g:FuncId):Prop:=∀(args:Array Value) (w:World),(callFunc g args).run P w=.ok (.enter g args) w
theorem DF {P:Program} {g:FuncId} {fn:Func} (h:P.funcs[g]? =some fn) (hb:fn.body.isNone=false) (hn:(fn.name== "runtime.NumGoroutine")=false):HE P g:=by
 intro args w
 have hn':¬fn.name= "runtime.NumGoroutine":=by simpa using hn
 have hb':¬fn.body=none:=λe=>by rw[e]at hb;exact nomatch hb
 simp[callFunc,h,hb',hn']
def KM (P:Program) (g:FuncId) (nid:Nat) (vs:List SV) (H:aI) (c:CR):Prop:=
 HE P g/\(∀i B,look c.upd i=some B->∃B',look H i=some B')/\
 ∀(H1:aI) (pl:Pl) (w:World) (us:Array Value),Ext H H1->cH H1 pl w->(∀k,k<c.news.length->look H1 (nid+k)=none)->vs.length=us.size->
  (∀(j:Nat) (x:SV) (u:Value),vs[j]? =some x->us[j]? =some u->au w H1 pl x u)->∀H',after H1 nid c=some H'->
  Calls P g us w λe w'=>∃u pl',e=.returned u/\cQ H1 H' c.kil pl pl' w w'/\au w' H' pl' c.v u
def rm (P:Program) (g:FuncId) (o:Orc):Prop:=
 ∀(ρ:Type) nid vs H (K:CR->Option ρ) (out:ρ),o ρ nid vs H K=some out->∃c,K c=some out/\KM P g nid vs H c
theorem MV (P:Program) (g:FuncId):rm P g PQ:=λ_ _ _ _ _ _ h=>nomatch h
def mJ (E:Env):Prop:=∀g,rm E.P g (E.orc g)
section
variable {w:World} {H:aI} {pl:Pl} {P:Program}
theorem MW {o:Oper} {a:Act} {s:List (Nat× SV)} {f:Operand} {args:Array Operand} {tys:Array TypeId} {g:FuncId} {first vs cap:List SV} {n:Nat} {c:CR} {H0:aI}
  (he:Ext H0 H) (hr:cH H pl w) (hs:gn w H pl s a) (hn:∀k,k<c.news.length->look H (n+k)=none) (ho:o.op=.call {callee:=.value f,args:=args,argTypes:=tys})
  (hf:opd s f=some (.fn (.func g) first cap)) (hv:rJ s args.toList=some vs) (hc:KM P g n (first++vs++cap) H0 c):kq P o a w H pl n c:=by
 obtain⟨hen,hup,hcall⟩:=hc;refine⟨λi B hB=>(hup i B hB).imp λB' h=>he i B' h,λH' next Q ha hN=>?_⟩;have hfr:=aQ hs hf;obtain⟨g1,g2⟩:=BQ hs hv;generalize hfe:a.eval f=fe at hfr
 cases hfr with
 |fn _ _ _ us vs' hl h1 hl' h2=>
  have hlen:(first++vs++cap).length=(us++args.map a.eval++vs').size:=by simp only[RD,Array.size_append,hl,hl',g1]
  have hpt:∀(j:Nat) (x:SV) (u:Value),(first++vs++cap)[j]? =some x->(us++args.map a.eval++vs')[j]? =some u->au w H pl x u:=λj x u hx hu=>by
   by_cases c1:j<first.length
   ·rw[RM,Rt c1]at hx;rw[Tc,Ss (by omega)]at hu;exact h1 j x u hx hu
   ·by_cases c2:j<first.length+vs.length
    ·rw[RM,Rs (by omega),Rt (by omega)]at hx;rw[Tc,Ta (by omega),Ss (by omega)]at hu;rw[<-hl]at hu;exact g2 _ x u hx hu
    ·rw[RM,Rs (by omega),Rs (by omega)]at hx;rw[Tc,Ta (by omega),Ta (by omega)]at hu;rw[<-hl,<-g1]at hu;exact h2 _ x u hx hu
  have hcl:=hcall H pl w _ he hr hn hlen hpt H' ha;unfold Oper.wp
  have hrun:(execOp a.eval o).run P w=.ok (.enter g (us++args.map a.eval++vs')) w:=by
   rw[execOp,ho];simp only[resolve,hfe,Deferred.ofValue,invoke,Sem.run_bind,Sem.run_pure,Result.andThen_ok];exact hen _ w
  rw[hrun];show Calls P g _ w _;refine hcl.mono λe w' ⟨u,pl',he,hst,hv⟩=>?_;subst he;exact hN u pl' w' hst hv
variable {ρ:Type}
def DG (P:Program) (o:Oper) (n:Nat) (c:CR) (s:List (Nat× SV)) (h:aI):Prop:=
 ∀(s':List (Nat× SV)) (H:aI) (a:Act) (w:World) (pl:Pl),Ext s s'->Ext h H->cH H pl w->gn w H pl s' a->(∀k,k<c.news.length->look H (n+k)=none)->kq P o a w H pl n c
theorem B7 {H:aI} {n:Nat} {B:Blk} (h:∀k,k<[B].length->look H (n+k)=none):look H n=none:=h 0 (by simp)
theorem ON (hr:cH H pl w) {o:Oper} {a:Act} {T:TypeId} {p:Operand} {n i x k:Nat} {t:Ty} {xs:List t.El} (ho:o.op=.load T p) (hT:Hk P T=true)
  (hl:look H i=some (.arr none t xs)) (hk:k<t.sz) (hp:au w H pl (.ptr i x k) (a.eval p)):kq P o a w H pl n {v:=.inn i x k}:=by
 generalize he:a.eval p=u at hp
 cases hp with
 |uq _ _ cs b m hl' hh=>rw[hl]at hl';exact nomatch hl'
 |sD _ _ _ sh t' xs' b m nn cap hl' hx hh=>
  rw[hl]at hl';cases hl';obtain⟨⟨a',cap',b',o',vs,fs,h1,h2,h3,h4,h5,h6,h7,h8,h9⟩⟩:=hr.blk i _ hl;rw[hh]at h1;cases h1;have h3:=h3.resolve_left (by omega);cases h3;obtain⟨r,hcell⟩:=dv hx hk;have hat:=h5 x k r hcell;have hone:one (vs x k)=true:=((h6 _ _ _ hcell).Mv (ok:=λ_=>True) (λ_ _=>trivial)).rl;have hfp:pl.fp i (b,m+(x*t.sz+k)):=(h9 _).2 (.inl ⟨rfl,by simp,by have:=pd hx hk h2;simp;omega⟩);obtain⟨el,_,hu,_⟩:=BM hT;refine mZ (u:=vs x k) hr ?_ (.inn i x k none t xs b m _ _ _ hl hx hk hh ⟨hr.ob i _ _ hl hfp,λj B hB hm hf=>?_⟩ hat hone)
  ·rw[execOp,ho];refine dZ ?_;rw[Instr.loadAt,he];have hat:w.cell? ⟨b,m+(x*t.sz+k),none⟩=some (vs x k):=hat
   have h1:(loadVar T ⟨b,m+(x*t.sz+k),none⟩).run P w=.ok (vs x k) w:=by simp[loadVar,kV hu,xe,hu,hat]
   exact h1
  ·have:=hr.dis j i _ _ _ hB hl hf hfp;subst this;rw[hl]at hB;cases hB;have:=hm (by simp[mem]);exact nomatch this
theorem FX {E:Env} {o:Oper} {s:List (Nat× SV)} {h0:aI} {n:Nat} {K:CR->Option ρ} {out:ρ} {args:Array Operand} {tys:Array TypeId} {b x:SV} {T T' e:TypeId} {sz:Nat} {t:Ty}
  (ho:o.op=.call {callee:=.builtin .append,args:=args,argTypes:=tys}) (hvs:rJ s args.toList=some [b,x]) (hty:tys.toList=[T,T']) (he:lO E.P T=some e) (hsz:iS E.P e=some sz)
  (h:FB E h0 n e sz t T' b x K=some out):∃c,K c=some out/\DG E.P o n c s h0:=by
 unfold FB at h;split at h
 ·cases hb:(PW E.P T'&&(pb E.P e&&Nat.beq t.sz sz))<;>simp only[hb,cond_true,cond_false,An]at h
  ·exact nomatch h
  simp only[Rq]at hb;obtain⟨l,hl,z,hz,q,hq,h⟩:=h;cases hi:(isNil q.1&&Nat.beq z.length sz)<;>simp only[hi,cond_true,cond_false]at h
  ·exact nomatch h
  simp only[Rq]at hi;split at h
  ·rename_i y hy;cases hd:decide (1<=l/\l<=(aN:Int))<;>simp only[hd,cond_true,cond_false]at h
   ·exact nomatch h
   have hd:=of_decide_eq_true hd
   have hq':iU h0 t 1 z=some ([],[y]):=by rw[hq];obtain⟨q1,q2⟩:=q;simp only at hy hi;rw[hy,dY hi.1]
   exact⟨_,h,λs' H a w pl es eh hr hs hn=>zP hr hs (B7 hn) ho (iZ es _ _ hvs) hty hl hb.1 he hsz hb.2.1 (Rp hb.2.2) hz (Rp hi.2) (lf eh _ _ _ _ hq') hd⟩
  ·exact nomatch h
 ·exact nomatch h
theorem FY {P:Program} {o:Oper} {s:List (Nat× SV)} {h0:aI} {n:Nat} {K:CR->Option ρ} {out:ρ} {args:Array Operand} {tys:Array TypeId} {b x:SV} {T e:TypeId} {sz:Nat} {t:Ty} {z:List SV}
  (ho:o.op=.call {callee:=.builtin .append,args:=args,argTypes:=tys}) (hvs:rJ s args.toList=some [b,x]) (hty:tys.toList=[T,T]) (he:lO P T=some e) (hsz:iS P e=some sz) (hts:t.sz=sz) (hz:gg P e=some z)
  (h:FC h0 t b x K=some out):∃c,K c=some out/\DG P o n c s h0:=by
 unfold FC at h;split at h
 ·rename_i i a i' off num;cases hi:Nat.beq i i'<;>simp only[hi,cond_true,cond_false]at h
  ·exact nomatch h
  have:=Rp hi;subst this;split at h
  ·rename_i d t' xs hl;split at h
   ·rename_i htt;subst htt;cases hm:mem i d<;>simp only[hm,cond_true,cond_false]at h
    rotate_left
    ·exact nomatch h
    cases hb:(Nat.ble (a+num) xs.length&&(Nat.ble (off+num) xs.length&&Nat.ble 1 xs.length))<;>simp only[hb,cond_true,cond_false]at h
    ·exact nomatch h
    simp only[Rq]at hb;exact⟨_,h,λs' H a w pl es eh hr hs hn=>MT hr hs ho (iZ es _ _ hvs) hty he hsz hts hz (eh _ _ hl) hm (RC hb.1) (RC hb.2.1) (RC hb.2.2)⟩
   ·exact nomatch h
  ·exact nomatch h
 ·exact nomatch h
theorem DH {E:Env} (hE:mJ E) {o:Oper} {s:List (Nat× SV)} {h0:aI} {n:Nat} {K:CR->Option ρ} {out:ρ}
  (h:BD E s h0 n o.op K=some out):∃c,K c=some out/\DG E.P o n c s h0:=by
 unfold BD at h;split at h
 ·rename_i T ho;simp only[An]at h;obtain⟨z,hz,h⟩:=h;exact⟨_,h,λs' H a w pl es eh hr hs hn=>Kx hr (B7 hn) ho hz⟩
 ·rename_i T x ho;simp only[An]at h;obtain⟨v,hv,cs,hcs,h⟩:=h;exact⟨_,h,λs' H a w pl es eh hr hs hn=>OH hr (B7 hn) ho (aQ hs (cT es _ _ hv)) hcs⟩
 ·rename_i T k parts ho;simp only[An]at h;obtain⟨e,he,sz,hsz,ps,hps,z,hz,h⟩:=h;cases hb:(Nat.ble (k*sz) 16777216&&Nat.beq z.length sz)<;>simp only[hb,cond_true,cond_false,An]at h
  ·exact nomatch h
  obtain⟨cs,hcs,h⟩:=h;simp only[Rq]at hb;have h1:=RC hb.1;have h2:=Rp hb.2
  have bx:K {v:=.bsl n k,news:=[.box cs]}=some out->∃c,K c=some out/\DG E.P o n c s h0:=λh=>
   ⟨_,h,λs' H a w pl es eh hr hs hn=>zR hr hs (B7 hn) ho he hsz (pc es _ _ hps) hz h2 h1 hcs⟩
  split at h
  ·exact bx h
  ·rename_i t ht;cases hc:((o9 t||Nat.beq k 0)&&Nat.beq t.sz sz)<;>simp only[hc,cond_true,cond_false,An]at h
   ·unfold Rd at h;cases hd:(E.lit&&Nat.beq t.sz sz)<;>simp only[hd,cond_true,cond_false]at h
    ·exact bx h
    simp only[Rq]at hd;split at h
    ·rename_i xs hx;exact⟨_,h,λs' H a w pl es eh hr hs hn=>rv hr hs (B7 hn) ho he hsz (pc es _ _ hps) hz h2 h1 hcs (Rp hd.2) (lf eh _ _ _ _ hx)⟩
    ·exact bx h
   simp only[Rq]at hc;obtain⟨⟨ids,xs⟩,hx,h⟩:=h;cases hi:isNil ids<;>simp only[hi,cond_true,cond_false]at h
   ·exact nomatch h
   have:=dY hi;subst this;exact⟨_,h,λs' H a w pl es eh hr hs hn=>rv hr hs (B7 hn) ho he hsz (pc es _ _ hps) hz h2 h1 hcs (Rp hc.2) (lf eh _ _ _ _ hx)⟩
 ·rename_i T l c ho;simp only[An]at h;obtain⟨e,he,sz,hsz,t,ht,z,hz,lv,hl,cv,hc,li,hli,ci,hci,h⟩:=h;cases hb:(pb E.P e&&Nat.beq t.sz sz)<;>simp only[hb,cond_true,cond_false,An]at h
  ·exact nomatch h
  simp only[Rq]at hb;obtain⟨⟨ids,xs⟩,hx,h⟩:=h;cases hi:(isNil ids&&Nat.beq z.length sz)<;>simp only[hi,cond_true,cond_false]at h
  ·exact nomatch h
  simp only[Rq]at hi;have hids:=dY hi.1;subst hids;split at h
  ·rename_i y;by_cases hd:0<=li/\li<=ci/\ci<=(aN:Int)
   ·simp only[hd,and_self,decide_true,cond_true]at h;exact⟨_,h,λs' H a w pl es eh hr hs hn=>BX hr hs (B7 hn) ho (cT es _ _ hl) (cT es _ _ hc) hli hci he hsz hb.1 (Rp hb.2) hz (Rp hi.2) (lf eh _ _ _ _ hx) hd⟩
   ·simp only[hd,decide_false,cond_false]at h;exact nomatch h
  ·exact nomatch h
 ·rename_i args tys ho;simp only[An]at h;obtain⟨vs,hvs,h⟩:=h;split at h
  ·rename_i b x T T' hty;simp only[An]at h;obtain⟨e,he,sz,hsz,t,ht,h⟩:=h;cases hb:(pb E.P e&&(Nat.beq t.sz sz&&Nat.beq T T'))<;>simp only[hb,cond_true,cond_false,An]at h
   ·exact FX ho hvs hty he hsz h
   simp only[Rq]at hb;have hTT:T=T':=Rp hb.2.2;subst hTT;have hts:=Rp hb.2.1;obtain⟨z,hz,h⟩:=h;cases hzl:Nat.beq z.length sz<;>simp only[hzl,cond_true,cond_false,An]at h
   ·exact nomatch h
   have hzl:=Rp hzl;obtain⟨⟨sh1,ids,ys⟩,hy,h⟩:=h;split at h
   ·cases hh:hit ids (sh1.getD [])<;>simp only[hh,cond_true,cond_false]at h
    ·cases hn':Nat.ble ys.length aN<;>simp only[hn',cond_true,cond_false]at h
     ·exact nomatch h
     exact⟨_,h,λs' H a w pl es eh hr hs hn=>Au (xs:=[]) hr hs (B7 hn) ho (iZ es _ _ hvs) hty he hsz hb.1 hts hz hzl (Aj eh _ _ _ hy) (.inl ⟨rfl,rfl,rfl,rfl⟩) hh (by simpa using RC hn')⟩
    ·exact nomatch h
   ·rename_i i;split at h
    ·rename_i sh t' xs hl;split at h
     ·rename_i htt;subst htt;simp only[An]at h;obtain⟨sh',hj,h⟩:=h;cases hm:mem i ids<;>simp only[hm,cond_true,cond_false]at h
      rotate_left
      ·exact nomatch h
      cases hh:hit (i::ids) (sh'.getD [])<;>simp only[hh,cond_true,cond_false]at h
      rotate_left
      ·exact nomatch h
      cases hn':Nat.ble (xs.length+ys.length) aN<;>simp only[hn',cond_true,cond_false]at h
      ·exact nomatch h
      exact⟨_,h,λs' H a w pl es eh hr hs hn=>Au hr hs (B7 hn) ho (iZ es _ _ hvs) hty he hsz hb.1 hts hz hzl (Aj eh _ _ _ hy) (.inr ⟨i,sh,rfl,eh _ _ hl,rfl,hm,hj⟩) hh (RC hn')⟩
     ·exact nomatch h
    ·exact nomatch h
   ·exact FY ho hvs hty he hsz hts hz h
  ·exact nomatch h
 ·rename_i args tys ho;simp only[An]at h;obtain⟨vs,hvs,h⟩:=h;split at h
  ·rename_i v T hty;simp only[An]at h;obtain⟨e,he,z,hz,⟨i,q,num⟩,hv,h⟩:=h;split at h
   ·rename_i sh t xs hl;cases hzl:Nat.beq z.length t.sz<;>simp only[hzl,cond_true,cond_false,An]at h
    ·exact nomatch h
    obtain⟨⟨ids,ys⟩,hy,h⟩:=h;cases hi:isNil ids<;>simp only[hi,cond_true,cond_false]at h
    ·exact nomatch h
    have hids:=dY hi;subst hids;split at h
    ·rename_i y;exact⟨_,h,λs' H a w pl es eh hr hs hn=>KG hr hs ho (iZ es _ _ hvs) hty he hz (Rp hzl) (MS eh hv) (eh _ _ hl) (lf eh _ _ _ _ hy)⟩
    ·exact nomatch h
   ·exact nomatch h
  ·exact nomatch h
 ·rename_i T p x ho;simp only[An]at h;obtain⟨p',hp,x',hx,h⟩:=h
  have arr:∀{i k off:Nat} {sh:Option (List Nat)} {t:Ty} {ys:List t.El},p'=.ptr i k off->look h0 i=some (.arr sh t ys)->wz E.P T h0 i sh t ys k off x' K=some out->∃c,K c=some out/\DG E.P o n c s h0:=λe hl h3=>by
   clear h;subst e;obtain⟨c,h1,h2⟩:=DD (n:=n) ho h3;exact⟨c,h1,λs' H a w pl es eh hr hs hn=>h2 H a w pl eh (eh _ _ hl) hr (aQ hs (cT es _ _ hp)) (aQ hs (cT es _ _ hx))⟩
  split at h
  ·rename_i i k off;split at h
   ·rename_i cs hl;cases hk0:Nat.beq k 0<;>simp only[hk0,cond_true,cond_false,An]at h
    ·exact nomatch h
    have hk0:=Rp hk0;subst hk0;obtain⟨xs,hxs,sz,hsz,h⟩:=h;cases hb:Nat.beq sz xs.length<;>simp only[hb,cond_true,cond_false,An]at h
    ·exact nomatch h
    ·obtain⟨cs',hcs,h⟩:=h;exact⟨_,h,λs' H a w pl es eh hr hs hn=>Ky hr ho (eh _ _ hl) (aQ hs (cT es _ _ hp)) (aQ hs (cT es _ _ hx)) hxs hsz (Rp hb) hcs⟩
   ·rename_i sh t ys hl;exact arr rfl hl h
   ·exact nomatch h
  ·exact nomatch h
 ·rename_i f args tys ho;simp only[An]at h;obtain⟨f',hf,vs,hvs,h⟩:=h;split at h
  ·rename_i g first cap
   obtain⟨c,hc,hcs⟩:=hE g _ _ _ _ _ _ h;exact⟨c,hc,λs' H a w pl es eh hr hs hn=>MW eh hr hs hn ho (cT es _ _ hf) (iZ es _ _ hvs) hcs⟩
  ·exact nomatch h
 ·rename_i T x ho;unfold PY at h;cases hk:taken E x<;>simp only[hk,cond_true,cond_false]at h
  rotate_left
  ·split at h
   ·rename_i i y hx;split at h
    ·rename_i t xs hl;simp only[An]at h;obtain⟨e,he,v,hv,h⟩:=h;exact⟨_,h,λs' H a w pl es eh hr hs hn=>HC (Qa t) hr ho (eh _ _ hl) he hv (aQ hs (cT es _ _ hx)) hn⟩
    ·exact nomatch h
   ·exact nomatch h
  split at h
  ·rename_i v hv;unfold PT at hv;cases hi:E.inn<;>simp only[hi,cond_true,cond_false]at hv
   ·exact nomatch hv
   cases hT:Hk E.P T<;>simp only[hT,cond_true,cond_false]at hv
   ·exact nomatch hv
   split at hv
   ·rename_i i y k hx;split at hv
    ·rename_i t xs hl;cases hk:Nat.ble (k+1) t.sz<;>simp only[hk,cond_true,cond_false,It]at hv
     ·exact nomatch hv
     subst hv;exact⟨_,h,λs' H a w pl es eh hr hs hn=>ON hr ho hT (eh _ _ hl) (RC hk) (aQ hs (cT es _ _ hx))⟩
    ·exact nomatch hv
   ·exact nomatch hv
  ·have dflt:nL E.P s h0 (.load T x) (λv=>K {v:=v})=some out->∃c,K c=some out/\DG E.P o n c s h0:=λh=>by
    rw[nM]at h;simp only[An]at h;obtain⟨v,hv,h⟩:=h
    exact⟨_,h,λs' H a w pl es eh hr hs hn=>by
     obtain⟨u,hu,hvr⟩:=kv hr hs (uo es eh _ _ hv) o ho
     exact mZ hr hu hvr⟩
   unfold PX at h;cases ht:E.tak<;>simp only[ht,cond_true,cond_false]at h
   ·exact dflt h
   split at h
   ·rename_i i y hx;split at h
    ·rename_i st xs hl;cases hf:o9 (.st st)<;>simp only[hf,cond_true,cond_false]at h
     ·simp only[An]at h;obtain⟨e,he,v,hv,h⟩:=h;exact⟨_,h,λs' H a w pl es eh hr hs hn=>HC (P9 st) hr ho (eh _ _ hl) he hv (aQ hs (cT es _ _ hx)) hn⟩
     ·exact dflt h
    ·exact dflt h
   ·exact dflt h
 ·rename_i src dst x ho;split at h
  ·rename_i i hi;unfold PV at hi;cases hT:(Nat.beq src dst&&vE E.P src)<;>simp only[hT,cond_true,cond_false]at hi
   ·exact nomatch hi
   simp only[Rq]at hT;have hsd:=Rp hT.1;split at hi
   ·rename_i j hx;split at hi
    ·rename_i sh t y ys hl;cases hi;subst hsd;exact⟨_,h,λs' H a w pl es eh hr hs hn=>MU hr ho hT.2 (eh _ _ hl) (aQ hs (cT es _ _ hx))⟩
    ·exact nomatch hi
   ·exact nomatch hi
  ·rw[nM]at h;simp only[An]at h;obtain⟨v,hv,h⟩:=h
   exact⟨_,h,λs' H a w pl es eh hr hs hn=>by
    obtain⟨u,hu,hvr⟩:=kv hr hs (uo es eh _ _ hv) o ho
    exact mZ hr hu hvr⟩
 ·rw[nM]at h;simp only[An]at h;obtain⟨v,hv,h⟩:=h
  exact⟨_,h,λs' H a w pl es eh hr hs hn=>by
   obtain⟨u,hu,hvr⟩:=kv hr hs (uo es eh _ _ hv) o rfl
   exact mZ hr hu hvr⟩
theorem FZ {E:Env} (hE:mJ E) {o:Oper} {a:Act} {s:List (Nat× SV)} {n:Nat} {K:CR->Option ρ} {out:ρ}
  (hr:cH H pl w) (hs:gn w H pl s a) (hn:∀i,n<=i->look H i=none) (h:BD E s H n o.op K=some out):∃c,K c=some out/\kq E.P o a w H pl n c:=by
 obtain⟨c,h1,h2⟩:=DH hE h;exact⟨c,h1,h2 s H a w pl .rfl' .rfl' hr hs λk _=>hn _ (Nat.le_add_right _ _)⟩
theorem KN {x y:Option ρ} {out:ρ} (h:both x y=some out):x=some out/\y=some out:=by
 unfold both at h;split at h
 ·rename_i e;exact⟨h,e▸h⟩
 ·exact nomatch h
theorem F0 {op:Op} {T:TypeId} {x:Operand} {e:Bool} (h:Hn op=some (T,x,e)):∃U,op=.binOp (cond e .eql .neq) T x (.const (.slice none 0 0)) U:=by
 unfold Hn at h;split at h
 ·cases h;exact⟨_,rfl⟩
 ·cases h;exact⟨_,rfl⟩
 ·exact nomatch h
theorem KO (hr:cH H pl w) {v:SV} {u:Value} {K:Bool->Option ρ} {out:ρ} (h:QP H v K=some out) (hv:au w H pl v u):
  ∃a n c,u=.slice a n c/\K a.isNone=some out:=by
 have fork:∀{α:Type} {xs:List α} {a:Option Addr},(xs=[]\/a.isSome=true)->cond (isNil xs) (both (K true) (K false)) (K false)=some out->K a.isNone=some out:=λ{α xs a} hx h=>by
  cases xs with
  |nil=>
   obtain⟨h1,h2⟩:=KN h
   cases a<;>assumption
  |cons y ys=>
   rcases hx with hx|hx
   ·exact nomatch hx
   ·cases a with
    |none=>exact nomatch hx
    |some a=>exact h
 unfold QP at h;split at h
 ·cases hv;exact⟨_,_,_,rfl,h⟩
 ·rename_i d t xs
  cases hv with
  |r _ _ _ hx=>cases hx with
   |sl _ _ a cap b o vs ib ha hc hr'=>exact⟨_,_,_,rfl,fork (ha.imp_right λe=>by rw[e];rfl) h⟩
 ·rename_i i
  cases hv with
  |own _ sh t xs hl=>
   simp only[hl]at h;have hb:=hr.blk i _ hl
   have:∃a cap b o,pl.hdr i=.slice a xs.length cap/\xs.length<=cap/\(cap=0\/a=some ⟨b,o,none⟩):=by
    cases sh with
    |none=>obtain⟨⟨a,cap,b,o,vs,fs,q1,q2,q3,_⟩⟩:=hb;exact⟨a,cap,b,o,q1,q2,q3⟩
    |some d=>obtain⟨⟨a,cap,b,o,vs,fs,q1,q2,q3,_⟩⟩:=hb;exact⟨a,cap,b,o,q1,q2,q3⟩
   obtain⟨a,cap,b,o,q1,q2,q3⟩:=this;refine⟨a,_,_,q1,fork ?_ h⟩
   rcases q3 with rfl|rfl
   ·exact .inl (Sj.1 (by omega))
   ·exact .inr rfl
 ·exact nomatch h
theorem OO (hr:cH H pl w) {o:Oper} {a:Act} {T:TypeId} {x:Operand} {e:Bool} {n:Nat} (hT:Hk P T=true) (ho:Hn o.op=some (T,x,e)) {b:Option Addr} {l c:Nat} (hx:a.eval x=.slice b l c):
  kq P o a w H pl n {v:=.b (cond b.isNone e (!e))}:=by
 obtain⟨U,ho⟩:=F0 ho;obtain⟨el,_,hu,_⟩:=BM hT;refine mZ (u:=.bool (cond b.isNone e (!e))) hr ?_ lT;rw[execOp,ho];have hc:a.eval (.const (.slice none 0 0))=.slice none 0 0:=rfl
 have key:(do eqGuard (cond e .eql .neq) T x (.const (.slice none 0 0)) (a.eval x) (a.eval (.const (.slice none 0 0)));binOp (cond e .eql .neq) T (a.eval x) (a.eval (.const (.slice none 0 0))):Sem Value).run P w=.ok (.bool (cond b.isNone e (!e))) w:=by
  rw[hc,hx];refine guarded (λh=>nomatch h) (λ_ h=>nomatch h) ?_;cases e
  ·rw[cond_false,run_neq_slice_nil w T el b l c hu];cases b<;>rfl
  ·rw[cond_true,Lib.run_eql_slice_nil w T el b l c _ _ hu];cases b<;>rfl
 simp only[Sem.run_bind,key,Result.andThen_ok];rfl
theorem I5 {E:Env} (hE:mJ E) {w0:World} {fp0:G0} {o:Oper} {st:St} {a:Act} {K:St->Option ρ} {out:ρ} {next:Act->World->Prop} {Q:Exit->Act->World->Prop}
  (hr:Rel w0 fp0 st pl a w) (h:PH E o st K=some out) (hK:∀st' pl' a' w',K st'=some out->pl'.base=pl.base->st'.n=st.n->Rel w0 fp0 st' pl' a' w'->next a' w'):o.wp E.P a w next Q:=by
 obtain⟨c,hc,hup,hsem⟩:∃c,((st.take o.dst c).bind K)=some out/\kq E.P o a w st.heap pl st.nid c:=by
  unfold PH at h;split at h
  ·rename_i T x e ho;cases hT:Hk E.P T<;>simp only[hT,cond_true,cond_false,An]at h
   ·exact nomatch h
   obtain⟨v,hv,h⟩:=h;obtain⟨b,l,c,hu,hk⟩:=KO hr.hr h (aQ hr.sl hv);exact⟨_,hk,OO hr.hr hT ho hu⟩
  ·exact FZ hE hr.hr hr.sl hr.fresh h
 simp only[An]at hc;obtain⟨st',ht,hk⟩:=hc
 refine hsem st'.heap next Q (Kw ht) λu pl' w' hst hv=>?_
 have hn:st'.n=st.n:=by
  simp only[St.take,An,It]at ht;obtain⟨h1,e1,s,h2,rfl⟩:=ht;rfl
 exact hK st' pl' _ w' hk hst.bs hn (hr.take ht hup hst hv)
end
end
section
variable [Tok]
theorem jF (h:aI) (n:Nat) (b:Blk) (i:Nat):look (ID h n b) i=if n=i then(look h i).map λ_=>b else look h i:=by
 induction h with
 |nil=>simp[ID,look]
 |cons x l ih=>
  obtain⟨k,u⟩:=x;simp only[ID];cases hb:Nat.beq k n
  ·simp only[cond_false,aA,ih]
   have hne:k≠n:=λe=>by subst e;simp at hb
   by_cases e:k=i
   ·subst e;simp only[if_true];rw[if_neg (λe=>hne e.symm)]
   ·simp only[if_neg e]
  ·simp only[cond_true,aA];have:=Rp hb;subst this;by_cases e:k=i<;>simp[e]
theorem dw (s:List (Nat× SV)) (dst:Option Tmp) (v:SV) (t:Nat):look (Ho s dst v) t=if dst=some t then some v else look s t:=by
 cases dst with
 |none=>simp[Ho]
 |some d=>simp[Ho,eF]
def xz {α:Type} (x y:List (Nat× α)):Prop:=∀t,look x t=look y t
theorem KP {h h':aI} (e:xz h h') (n:Nat) (b:Blk):xz (ID h n b) (ID h' n b):=λt=>by rw[jF,jF,e t]
theorem I6 {h h':aI} (e:xz h h') (u:aI):xz (iY u h) (iY u h'):=by
 induction u generalizing h h' with
 |nil=>exact e
 |cons x l ih=>obtain⟨k,b⟩:=x;exact ih (KP e k b)
theorem KQ (u h:aI) (i:Nat):(look (iY u h) i).isSome=(look h i).isSome:=by
 induction u generalizing h with
 |nil=>rfl
 |cons x l ih=>
  obtain⟨k,b⟩:=x;rw[iY,ih,jF];by_cases e:k=i<;>simp[e]
theorem Ax {u h:aI} {i:Nat}:look (iY u h) i=none↔look h i=none:=by
 have:=KQ u h i;rw[<-Option.not_isSome_iff_eq_none,<-Option.not_isSome_iff_eq_none,this]
theorem I7 {S:Nat->Prop} {h h':aI} (e:∀i B,S i->look h i=some B->look h' i=some B) (u:aI):∀i B,S i->look (iY u h) i=some B->look (iY u h') i=some B:=by
 induction u generalizing h h' with
 |nil=>exact e
 |cons x l ih=>
  obtain⟨k,b⟩:=x;refine ih λt v ht hv=>?_;rw[jF]at hv⊢;by_cases c:k=t
  ·rw[if_pos c]at hv⊢;obtain⟨y,hy,rfl⟩:=Rv.1 hv;rw[e t y ht hy];rfl
  ·rw[if_neg c]at hv⊢;exact e t v ht hv
theorem pq {i:Nat}:∀(u h:aI),look u i=none->look (iY u h) i=look h i
  |[],_,_=>rfl
  | (k, b) :: l, h, e => by
    rw[aA]at e;by_cases c:k=i
    · rw[if_pos c]at e;exact nomatch e
    · rw[if_neg c]at e;show look (iY l (ID h k b)) i=_;rw[pq l _ e,jF,if_neg c]
theorem MX {h:aI} {k:Nat} (b:Blk) (hk:∃B,look h k=some B):put h k b=ID h k b:=by
 induction h with
 |nil=>obtain⟨B,hB⟩:=hk;exact nomatch hB
 |cons x l ih=>
  obtain⟨k',u⟩:=x;simp only[put,ID];obtain⟨B,hB⟩:=hk;rw[aA]at hB;cases hb:Nat.beq k' k
  ·have hne:k'≠k:=λe=>by subst e;simp at hb
   rw[if_neg hne]at hB;simp only[cond_false,ih ⟨B,hB⟩]
  ·rfl
theorem uF {u h:aI} (hd:∀i B,look u i=some B->∃B',look h i=some B'):ru u h=iY u h:=by
 induction u generalizing h with
 |nil=>rfl
 |cons x l ih=>
  obtain⟨k,b⟩:=x;have hk:=hd k b (by rw[aA];simp);simp only[ru,iY];rw[MX b hk];refine ih λi B hB=>?_;rw[jF];by_cases e:k=i
  ·subst e;obtain⟨B',hB'⟩:=hk;exact⟨b,by simp[hB']⟩
  ·rw[if_neg e];exact hd i B (by rw[aA,if_neg e];exact hB)
def DI (x y:SH):Prop:=xz x.1 y.1/\xz x.2 y.2
theorem DI.refl (x:SH):DI x x:=⟨λ_=>rfl,λ_=>rfl⟩
theorem DI.trans {x y z:SH} (h:DI x y) (g:DI y z):DI x z:=⟨λt=>(h.1 t).trans (g.1 t),λt=>(h.2 t).trans (g.2 t)⟩
def DR.rP (r:DR) (i:Nat):Prop:=r.n0<=i/\i<r.n0+r.c.news.length
theorem DR.m9 {r:DR} {i:Nat} (h:¬r.rP i):look (aK r.n0 r.c.news) i=none:=by
 rw[bn];by_cases c:r.n0<=i
 ·rw[if_pos c];exact RR (Nat.le_of_not_lt λh'=>h ⟨c,by omega⟩)
 ·rw[if_neg c]
theorem xA {T:Kil} (h:T.2=[]) (x:List (Nat× SV)):nK T x=x:=by unfold nK;rw[h]
theorem F1 {T:Kil} (h:T.2=[]) (x:aI):ij T x=some x:=by unfold ij;rw[h]
theorem iu {r:DR} (hg:r.c.kil.2=[]) (x:SH):r.app x=some (Ho x.1 r.dst r.c.v,iY r.c.upd x.2++aK r.n0 r.c.news):=by
 unfold DR.app;rw[F1 hg,xA hg];rfl
theorem dx {r:DR} {x y:SH} (h:r.app x=some y):y.1=Ho (nK r.c.kil x.1) r.dst r.c.v:=by
 unfold DR.app at h;simp only[An,It]at h;obtain⟨hh,h1,rfl⟩:=h;rfl
theorem wC {r:DR} {x y:SH} (h:r.app x=some y) (i:Nat):look y.2 i=(cond (mem i r.c.kil.1) none ((look (iY r.c.upd x.2) i).bind (Blk.aL r.c.kil))).or (look (aK r.n0 r.c.news) i):=by
 unfold DR.app at h;simp only[An,It]at h;obtain⟨hh,h1,rfl⟩:=h;show look (hh++_) i=_;rw[aE,cI r.c.fD h1 i]
theorem MY {r:DR} (hg:r.c.kil.2=[]) {x y:SH} (e:DI x y) {x':SH} (h:r.app x=some x'):∃y',r.app y=some y'/\DI x' y':=by
 rw[iu hg]at h;cases h;refine⟨_,iu hg y,λt=>?_,λi=>?_⟩
 ·show look (Ho _ _ _) t=look (Ho _ _ _) t;rw[dw,dw,e.1 t]
 ·show look (_++_) i=look (_++_) i;rw[aE,aE,I6 e.2 _ i]
theorem ed (p:Nat->Bool):∀(l1 l2:List DR) (k:Nat) (x:SH),replay p k (l1++l2) x=(replay p k l1 x).bind (replay p (k+l1.length) l2)
 |[],l2,k,x=>by simp[replay]
 |r::l,l2,k,x=>by
  simp only[SU,replay,RA];cases p k
  ·simp only[cond_false];rw[ed p l l2 (k+1) x,show k+1+l.length=k+(l.length+1)from by omega]
  ·simp only[cond_true,RX]
   congr 1;funext y;rw[ed p l l2 (k+1) y,show k+1+l.length=k+(l.length+1)from by omega]
theorem jG {p q:Nat->Bool}:∀(l:List DR) (k:Nat) (x:SH),(∀j,j<l.length->p (k+j)=q (k+j))->replay p k l x=replay q k l x
 |[],_,_,_=>rfl
 |r::l,k,x,h=>by
  simp only[replay];have h0:=h 0 (by simp);rw[RZ]at h0
  have ih:=λx=>jG (p:=p) (q:=q) l (k+1) x λj hj=>by have:=h (j+1) (by simpa using hj);rwa [show k+(j+1)=k+1+j from by omega]at this
  rw[h0,ih x];congr 1;congr 1;exact funext ih
theorem nR {p:Nat->Bool}:∀(l:List DR) (k:Nat) (x:SH),(∀j,j<l.length->p (k+j)=false)->replay p k l x=some x
 |[],_,_,_=>rfl
 |r::l,k,x,h=>by
  simp only[replay];have h0:=h 0 (by simp);rw[RZ]at h0;rw[h0,cond_false]
  exact nR l (k+1) x λj hj=>by have:=h (j+1) (by simpa using hj);rwa [show k+(j+1)=k+1+j from by omega]at this
theorem na {p:Nat->Bool}:∀(l:List DR) (k:Nat) (x X:SH),replay p k l x=some X->∀i B,look X.2 i=some B->(∃B',look x.2 i=some B')\/∃(j:Nat) (r:DR),l[j]? =some r/\p (k+j)=true/\r.rP i
  |[],_,x,X,h,i,B,hB=>by cases h;exact .inl ⟨B,hB⟩
  | r :: l, k, x, X, h, i, B, hB => by
    simp only[replay]at h;cases hp:p k<;>simp only[hp,cond_false,cond_true]at h
    · rcases na l (k+1) x X h i B hB with h'|⟨j,r',h1,h2,h3⟩
      · exact .inl h'
      · exact .inr ⟨j+1,r',by simpa using h1,by rwa [show k+(j+1)=k+1+j from by omega],h3⟩
    · rw [An] at h;obtain⟨y,hy,h⟩:=h
      rcases na l (k+1) y X h i B hB with⟨B',h'⟩|⟨j,r',h1,h2,h3⟩
      · by_cases hm:r.rP i
        · exact .inr ⟨0,r,rfl,hp,hm⟩
        · left;rw[wC hy,DR.m9 hm,Sx]at h'
          cases hx:look x.2 i with
          |none=>rw[Ax.2 hx]at h';cases hm':mem i r.c.kil.1<;>simp[hm']at h'
          |some b=>exact⟨b,rfl⟩
      · exact .inr ⟨j+1,r',by simpa using h1,by rwa [show k+(j+1)=k+1+j from by omega],h3⟩
theorem qq {q p:Nat->Bool}:∀(l:List DR) (k:Nat) (y z Y Z:SH),(∀j,q j=true->p j=true)->replay q k l y=some Y->replay p k l z=some Z->Ext y.1 z.1->
    (∀t v,look y.1 t=some v->∀(j:Nat) (r:DR),l[j]? =some r->p (k+j)=true->q (k+j)=false->r.dst≠some t)->
    (∀(j j':Nat) (r r':DR) t,j≠j'->l[j]? =some r->l[j']? =some r'->r.dst=some t->r'.dst≠some t)->
    (∀(j:Nat) (r:DR),l[j]? =some r->p (k+j)=true->q (k+j)=false->r.c.kil.2=[])->Ext Y.1 Z.1
  |[],_,y,z,Y,Z,_,hy,hz,he,_,_,_=>by cases hy;cases hz;exact he
  | r :: l, k, y, z, Y, Z, hqp, hy, hz, he, hd, hn, hg => by
    simp only[replay]at hy hz;have hn':∀(j j':Nat) (r r':DR) t,j≠j'->l[j]? =some r->l[j']? =some r'->r.dst=some t->r'.dst≠some t:=λj j' r r' t hne h1 h2=>hn (j+1) (j'+1) r r' t (by omega) (by simpa using h1) (by simpa using h2);have hg':∀(j:Nat) (r:DR),l[j]? =some r->p (k+1+j)=true->q (k+1+j)=false->r.c.kil.2=[]:=λj r h1 h2 h3=>hg (j+1) r (by simpa using h1) (by rwa [show k+(j+1)=k+1+j from by omega]) (by rwa [show k+(j+1)=k+1+j from by omega]);have hd':∀t v,look y.1 t=some v->∀(j:Nat) (r:DR),l[j]? =some r->p (k+1+j)=true->q (k+1+j)=false->r.dst≠some t:=λt v ht j r h1 h0 h2=>hd t v ht (j+1) r (by simpa using h1) (by rwa [show k+(j+1)=k+1+j from by omega]) (by rwa [show k+(j+1)=k+1+j from by omega]);cases hq:q k<;>simp only[hq,cond_false,cond_true]at hy
    · cases hp:p k<;>simp only[hp,cond_false,cond_true]at hz
      · exact qq l (k+1) y z Y Z hqp hy hz he hd' hn' hg'
      · rw[An]at hz;obtain⟨z',hz',hz⟩:=hz;have hgr:=hg 0 r rfl (by simpa using hp) (by simpa using hq);refine qq l (k+1) y z' Y Z hqp hy hz (λt v ht=>?_) hd' hn' hg';rw[dx hz',xA hgr,dw,if_neg (hd t v ht 0 r rfl (by simpa using hp) (by simpa using hq))];exact he t v ht
    · rw [hqp k hq] at hz;simp only[cond_true]at hz;rw[An]at hy hz;obtain⟨y',hy',hy⟩:=hy;obtain⟨z',hz',hz⟩:=hz
      have hsl:∀t,look y'.1 t=if r.dst=some t then some r.c.v else(look y.1 t).map (SV.aL r.c.kil):=λt=>by rw[dx hy',dw,cY r.c.fD]
      have hslz:∀t,look z'.1 t=if r.dst=some t then some r.c.v else(look z.1 t).map (SV.aL r.c.kil):=λt=>by rw[dx hz',dw,cY r.c.fD]
      refine qq l (k+1) y' z' Y Z hqp hy hz (λt v ht=>?_) (λt v ht j r' h1 h0 h2=>?_) hn' hg'
      · rw[hsl]at ht;rw[hslz];by_cases c:r.dst=some t
        · rw[if_pos c]at ht⊢;exact ht
        · rw[if_neg c]at ht⊢;obtain⟨u,hu,rfl⟩:=Rv.1 ht;rw[he t u hu];rfl
      · rw[hsl]at ht;by_cases c:r.dst=some t
        · exact hn 0 (j+1) r r' t (by omega) rfl (by simpa using h1) c
        · rw[if_neg c]at ht;obtain⟨u,hu,_⟩:=Rv.1 ht;exact hd' t u hu j r' h1 h0 h2
theorem ln {S:Nat->Prop} {q p:Nat->Bool}:∀(l:List DR) (k:Nat) (y z Y Z:SH),(∀j,q j=true->p j=true)->replay q k l y=some Y->replay p k l z=some Z->(∀i B,S i->look y.2 i=some B->look z.2 i=some B)->
    (∀(j:Nat) (r:DR) i,l[j]? =some r->r.rP i->look z.2 i=none)->
    (∀(j j':Nat) (r r':DR) i,j≠j'->l[j]? =some r->l[j']? =some r'->r.rP i->¬r'.rP i)->
    (∀(j:Nat) (r:DR),l[j]? =some r->p (k+j)=true->q (k+j)=false->r.c.kil.2=[]/\∀i,S i->look r.c.upd i=none)->∀i B,S i->look Y.2 i=some B->look Z.2 i=some B
  |[],_,y,z,Y,Z,_,hy,hz,he,_,_,_=>by cases hy;cases hz;exact he
  | r :: l, k, y, z, Y, Z, hqp, hy, hz, he, hf, hn, hg => by
    simp only[replay]at hy hz;have hn':∀(j j':Nat) (r r':DR) i,j≠j'->l[j]? =some r->l[j']? =some r'->r.rP i->¬r'.rP i:=λj j' r r' t hne h1 h2=>hn (j+1) (j'+1) r r' t (by omega) (by simpa using h1) (by simpa using h2);have hg':∀(j:Nat) (r:DR),l[j]? =some r->p (k+1+j)=true->q (k+1+j)=false->r.c.kil.2=[]/\∀i,S i->look r.c.upd i=none:=λj r h1 h2 h3=>hg (j+1) r (by simpa using h1) (by rwa [show k+(j+1)=k+1+j from by omega]) (by rwa [show k+(j+1)=k+1+j from by omega]);have hf':∀(j:Nat) (r:DR) i,l[j]? =some r->r.rP i->look z.2 i=none:=λj r i h1 h2=>hf (j+1) r i (by simpa using h1) h2
    have rQ:∀z',r.app z=some z'->∀(j:Nat) (r':DR) i,l[j]? =some r'->r'.rP i->look z'.2 i=none:=λz' hz' j r' i h1 h2=>by
      cases hx:look z'.2 i with
      |none=>rfl
      | some B =>
        rcases na (p:=λ_=>true) [r] 0 z z' (by simp[replay,hz']) i B hx with⟨B',hB'⟩|⟨j',r2,g1,_,g3⟩
        · rw[hf' j r' i h1 h2]at hB';exact nomatch hB'
        · cases j' with
          |zero=>simp at g1;subst g1;exact(hn 0 (j+1) r r' i (by omega) rfl (by simpa using h1) g3 h2).elim
          |succ j'=>simp at g1
    cases hq:q k<;>simp only[hq,cond_false,cond_true]at hy
    · cases hp:p k<;>simp only[hp,cond_false,cond_true]at hz
      · exact ln l (k+1) y z Y Z hqp hy hz he hf' hn' hg'
      · rw[An]at hz;obtain⟨z',hz',hz⟩:=hz;obtain⟨hgr,hur⟩:=hg 0 r rfl (by simpa using hp) (by simpa using hq);refine ln l (k+1) y z' Y Z hqp hy hz (λi B hS hB=>?_) (rQ z' hz') hn' hg';rw[iu hgr]at hz';cases hz';show look (iY r.c.upd z.2++_) i=some B;rw[aE,pq _ _ (hur i hS),he i B hS hB];rfl
    · rw [hqp k hq] at hz;simp only[cond_true]at hz;rw[An]at hy hz;obtain⟨y',hy',hy⟩:=hy;obtain⟨z',hz',hz⟩:=hz;refine ln l (k+1) y' z' Y Z hqp hy hz (λi B hS hB=>?_) (rQ z' hz') hn' hg';rw[wC hy']at hB;rw[wC hz']
      cases hx:cond (mem i r.c.kil.1) none ((look (iY r.c.upd y.2) i).bind (Blk.aL r.c.kil))with
      | some b =>
        rw[hx]at hB;cases hm:mem i r.c.kil.1<;>simp only[hm,cond_true,cond_false]at hx⊢
        · obtain⟨b0,hb0,hb1⟩:=An.1 hx;rw[I7 he _ i b0 hS hb0];simp only[RE,hb1];exact hB
        · exact nomatch hx
      | none =>
        rw[hx,Option.none_or]at hB
        have hm:r.rP i:=Classical.byContradiction λh=>by rw[DR.m9 h]at hB;exact nomatch hB
        rw[Ax.2 (hf 0 r i rfl hm)];cases mem i r.c.kil.1<;>exact hB
theorem xB {b:DR}:∀{U:aI},P1 b U=true->∀i,b.rP i->look U i=none
  |[],_,_,_=>rfl
  | (k, _) :: l, h, i, hi => by
    simp only[P1]at h;cases hk:(Nat.ble (k+1) b.n0||Nat.ble (b.n0+b.c.news.length) k)<;>rw[hk]at h
    · exact nomatch h
    · rw[aA,if_neg,xB h i hi];intro e;subst e;obtain⟨h1,h2⟩:=hi;rw[Th]at hk
      rcases hk with hk|hk<;>have:=RC hk<;>omega
theorem gY {a b:DR} (h:FD a b=true):a.c.kil.2=[]/\b.c.kil.2=[]/\((b.c.upd=[]/\∀i,b.rP i->look a.c.upd i=none)\/(a.c.upd=[]/\∀i,a.rP i->look b.c.upd i=none)):=by
 simp only[FD,Rq,Th]at h;have h:=h.1;refine⟨dY h.1.1,dY h.1.2,?_⟩
 rcases h.2 with h|h
 ·exact .inl ⟨dY h.1,xB h.2⟩
 ·exact .inr ⟨dY h.1,xB h.2⟩
theorem xC {i:Nat}:∀(u:aI) {h h':aI},look h i=look h' i->look (iY u h) i=look (iY u h') i
 |[],_,_,e=>e
 |(k,b)::l,h,h',e=>by
  simp only[iY];exact xC l (by rw[jF,jF,e])
theorem DJ {a b:DR} (h:FD a b=true):MK b.see a.c.upd=false/\MK a.see b.c.upd=false:=by
 simp only[FD,Rq,Tp]at h;exact h.2
theorem DK {L:List Nat}:∀{U:aI},MK L U=false->∀i,mem i L=true->look U i=none
  |[],_,_,_=>rfl
  | (k, b) :: l, h, i, hi => by
    simp only[MK]at h;cases hk:mem k L<;>simp only[hk,cond_true,cond_false]at h
    · rw[aA,if_neg (λe=>by subst e;rw[hi]at hk;exact nomatch hk)];exact DK h i hi
    · exact nomatch h
theorem nS {h:aI} {i:Nat} {B:Blk}:∀{L:List Nat},look (vG h L) i=some B->mem i L=true/\look h i=some B
 |[],e=>nomatch e
 |k::l,e=>by
  simp only[vG]at e
  cases hk:look h k with
  |none=>
   rw[hk]at e;obtain⟨g1,g2⟩:=nS e
   exact⟨by simp only[mem];cases Nat.beq k i<;>simp[g1],g2⟩
  |some b=>
   rw[hk]at e;rw[aA]at e;by_cases c:k=i
   ·subst c;rw[if_pos rfl]at e;cases e;exact⟨by simp[mem],hk⟩
   ·rw[if_neg c]at e;obtain⟨g1,g2⟩:=nS e;exact⟨by simp only[mem];cases Nat.beq k i<;>simp[g1],g2⟩
theorem not_false {b:Bool} (h:(!b)=true):b=false:=by cases b<;>first|rfl|exact nomatch h
mutual
theorem uG {T:Kil}:(v:SV)->v.J3 T=true->v.aL T=v
 |.r d x,h=>by rw[SV.aL,not_false h];rfl
 |.own j,h=>by rw[SV.aL,not_false h];rfl
 |.sub j o n,h=>by rw[SV.aL,not_false h];rfl
 |.bsl j n,h=>by rw[SV.aL,not_false h];rfl
 |.ptr j x o,h=>by rw[SV.aL,not_false h];rfl
 |.inn j x c,h=>by rw[SV.aL,not_false h];rfl
 |.ki d cs,h=>by rw[SV.aL,not_false h];rfl
 |.agg cs,h=>by rw[SV.aL,je cs h]
 |.tup cs,h=>by rw[SV.aL,je cs h]
 |.fn f a b,h=>by
  simp only[SV.J3,Rq]at h
  rw[SV.aL,je a h.1,je b h.2]
 |.cj,_=>rfl
 |.o6,_=>rfl
 |.undef,_=>rfl
theorem je {T:Kil}:(l:List SV)->xg T l=true->gX T l=l
 |[],_=>rfl
 |v::l,h=>by
  simp only[xg,Rq]at h;rw[gX,uG v h.1,je l h.2]
end
theorem HF {c:CR} (h:c.kil.2=[]):c.kil=([],[]):=by
 unfold CR.kil at h⊢;rw[List.append_eq_nil_iff]at h;rw[h.1,h.2];rfl
mutual
theorem Ay (T U:Kil):(v:SV)->(v.aL T).aL U=(v.aL U).aL T
 |.r d x=>by
  simp only[SV.aL]
  cases h1:hit T.2 d<;>cases h2:hit U.2 d<;>simp only[cond_true,cond_false,SV.aL,h1,h2]
 |.own j=>by
  simp only[SV.aL]
  cases h1:mem j T.1<;>cases h2:mem j U.1<;>simp only[cond_true,cond_false,SV.aL,h1,h2]
 |.sub j o n=>by
  simp only[SV.aL]
  cases h1:mem j T.1<;>cases h2:mem j U.1<;>simp only[cond_true,cond_false,SV.aL,h1,h2]
 |.bsl j n=>by
  simp only[SV.aL]
  cases h1:mem j T.1<;>cases h2:mem j U.1<;>simp only[cond_true,cond_false,SV.aL,h1,h2]
 |.ptr j x o=>by
  simp only[SV.aL]
  cases h1:mem j T.1<;>cases h2:mem j U.1<;>simp only[cond_true,cond_false,SV.aL,h1,h2]
 |.inn j x c=>by
  simp only[SV.aL]
  cases h1:(mem j T.1||mem j T.2)<;>cases h2:(mem j U.1||mem j U.2)<;>simp only[cond_true,cond_false,SV.aL,h1,h2]
 |.ki d cs=>by
  simp only[SV.aL]
  cases h1:hit T.2 d<;>cases h2:hit U.2 d<;>simp only[cond_true,cond_false,SV.aL,h1,h2]
 |.agg cs=>by simp only[SV.aL,lq T U cs]
 |.tup cs=>by simp only[SV.aL,lq T U cs]
 |.fn f a b=>by simp only[SV.aL,lq T U a,lq T U b]
 |.cj=>rfl
 |.o6=>rfl
 |.undef=>rfl
theorem lq (T U:Kil):(l:List SV)->gX U (gX T l)=gX T (gX U l)
 |[]=>rfl
 |v::l=>by simp only[gX,Ay T U v,lq T U l]
end
variable {cm:DR->Bool}
theorem eJ {r:DR} (h:fC cm r=true):cm r=true/\r.c.kil.2=[]/\r.c.upd=[]/\r.c.news=[]:=by
 simp only[fC,Rq]at h;exact⟨h.2.2.2,dY h.1,dY h.2.1,dY h.2.2.1⟩
theorem Az {b a:DR} (h:IH b a=true):a.c.v.aL b.c.kil=a.c.v:=by
 simp only[IH,Rq]at h;exact uG _ h.1
theorem HG {T:Kil} {u:SV}:∀{l:List SV},xg T l=true->u∈l->u.J3 T=true
 |[],_,h=>nomatch h
 |v::l,h,hu=>by
  simp only[xg,Rq]at h
  rcases RN.1 hu with rfl|hu
  ·exact h.1
  ·exact HG h.2 hu
theorem HH {b a:DR} (h:IH b a=true):∀u∈a.MI,u.aL b.c.kil=u:=by
 intro u hu;simp only[IH,Rq]at h;exact uG _ (HG h.2 hu)
theorem sT {b a:DR} (h:b.c.kil.2=[]):a.c.v.aL b.c.kil=a.c.v:=by rw[HF h];exact di _
theorem fa {a b:DR} (h:rk cm a b=true):
  (fC cm a=true/\a.c.v.aL b.c.kil=a.c.v)\/(fC cm b=true/\b.c.v.aL a.c.kil=b.c.v)\/(fC cm a=false/\fC cm b=false/\FD a b=true):=by
 simp only[rk,Th,Rq]at h
 rcases h with h|⟨h2,h1⟩|⟨h2,h1⟩
 ·obtain⟨k1,k2,_⟩:=gY h;cases ha:fC cm a
  ·cases hb:fC cm b
   ·exact .inr (.inr ⟨rfl,rfl,h⟩)
   ·exact .inr (.inl ⟨rfl,sT k1⟩)
  ·exact .inl ⟨rfl,sT k2⟩
 ·exact .inl ⟨h1,Az h2⟩
 ·exact .inr (.inl ⟨h1,Az h2⟩)
theorem HI {a b:DR} (h:rk cm a b=true):
  (fC cm a=true->∀u∈a.MI,u.aL b.c.kil=u)/\(fC cm b=true->∀u∈b.MI,u.aL a.c.kil=u):=by
 have nl:∀{c:DR} (v:SV),c.c.kil.2=[]->v.aL c.c.kil=v:=λ{c} v h=>by rw[HF h];exact di _
 simp only[rk,Th,Rq]at h
 rcases h with h|⟨h2,h1⟩|⟨h2,h1⟩
 ·obtain⟨k1,k2,_⟩:=gY h;exact⟨λ_ u _=>nl u k2,λ_ u _=>nl u k1⟩
 ·exact⟨λ_=>HH h2,λ_ u _=>nl u (eJ h1).2.1⟩
 ·exact⟨λ_ u _=>nl u (eJ h1).2.1,λ_=>HH h2⟩
theorem qt {r:DR} (h:fC cm r=true) (x:SH):r.app x=some (Ho x.1 r.dst r.c.v,x.2):=by
 obtain⟨_,h1,h2,h3⟩:=eJ h;rw[iu h1,h2,h3];simp only[iY,aK,RV]
theorem pt {r:DR} {x x' y:SH} (e:x.2=x'.2) (h:r.app x=some y):∃y',r.app x'=some y'/\y.2=y'.2:=by
 unfold DR.app at h⊢;simp only[An,It]at h;obtain⟨hh,h1,rfl⟩:=h;rw[<-e,h1];exact⟨_,rfl,rfl⟩
def B8 (x y:SH):Prop:=xz x.1 y.1/\x.2=y.2
theorem B8.same {x y:SH} (h:B8 x y):DI x y:=⟨h.1,λt=>by rw[h.2]⟩
theorem KR {r:DR} {x y:SH} (e:B8 x y) {x':SH} (h:r.app x=some x'):∃y',r.app y=some y'/\B8 x' y':=by
 obtain⟨y',h1,h2⟩:=pt e.2 h;refine⟨y',h1,λt=>?_,h2⟩;rw[dx h,dx h1,dw,dw,cY r.c.fD,cY r.c.fD,e.1 t]
theorem pw {p:Nat->Bool}:∀(l:List DR) (k:Nat) (x y X:SH),B8 x y->replay p k l x=some X->∃Y,replay p k l y=some Y/\B8 X Y
 |[],_,x,y,X,e,h=>by cases h;exact⟨y,rfl,e⟩
 |r::l,k,x,y,X,e,h=>by
  simp only[replay]at h⊢;cases hp:p k<;>simp only[hp,cond_false,cond_true]at h⊢
  ·exact pw l (k+1) x y X e h
  ·rw[An]at h;obtain⟨x',hx',h⟩:=h;obtain⟨y',hy',e'⟩:=KR e hx';rw[hy'];exact pw l (k+1) x' y' X e' h
theorem lr {p p':Nat->Bool}:∀(l:List DR) (k:Nat) (x x' X:SH),(∀(j:Nat) (r:DR),l[j]? =some r->p (k+j)≠p' (k+j)->fC cm r=true)->x.2=x'.2->replay p k l x=some X->
  ∃X',replay p' k l x'=some X'/\X.2=X'.2
 |[],_,x,x',X,_,e,h=>by cases h;exact⟨x',rfl,e⟩
 |r::l,k,x,x',X,hd,e,h=>by
  have hd':∀(j:Nat) (r:DR),l[j]? =some r->p (k+1+j)≠p' (k+1+j)->fC cm r=true:=λj r h1 h2=>hd (j+1) r (by simpa using h1) (by rwa [show k+(j+1)=k+1+j from by omega]);have h0:=hd 0 r rfl;rw[RZ]at h0;simp only[replay]at h⊢;cases hp:p k<;>cases hp':p' k<;>simp only[hp,cond_false,cond_true]at h⊢
  ·exact lr l (k+1) x x' X hd' e h
  ·rw[qt (h0 (by rw[hp,hp'];exactλh=>nomatch h)),RE];exact lr l (k+1) x (Ho x'.1 r.dst r.c.v,x'.2) X hd' e h
  ·rw[qt (h0 (by rw[hp,hp'];exactλh=>nomatch h)),RE]at h;exact lr l (k+1) (Ho x.1 r.dst r.c.v,x.2) x' X hd' e h
  ·rw[An]at h;obtain⟨y,hy,h⟩:=h;obtain⟨y',h1,h2⟩:=pt e hy;rw[h1,RE];exact lr l (k+1) y y' X hd' h2 h
def rz:List Kil->SV->SV
 |[],v=>v
 |T::l,v=>rz l (v.aL T)
theorem I8 (l l':List Kil) (v:SV):rz (l++l') v=rz l' (rz l v):=by
 induction l generalizing v with
 |nil=>rfl
 |cons T l ih=>exact ih _
theorem F2 (T:Kil) (l:List Kil) (v:SV):(rz l v).aL T=rz l (v.aL T):=by
 induction l generalizing v with
 |nil=>rfl
 |cons U l ih=>simp only[rz];rw[ih,Ay]
theorem F3 {l:List Kil} {v:SV} (h:∀T∈l,v.aL T=v):rz l v=v:=by
 induction l with
 |nil=>rfl
 |cons U l ih=>simp only[rz];rw[h U (by simp)];exact ih λT hT=>h T (by simp[hT])
theorem nT {q p:Nat->Bool} {t:Nat} {v:SV}:∀(l:List DR) (k:Nat) (y z Y Z:SH),(∀j,q j=true->p j=true)->replay q k l y=some Y->replay p k l z=some Z->look Y.1 t=some v->
  (∀(j:Nat) (r:DR),l[j]? =some r->p (k+j)=true->q (k+j)=false->r.dst≠some t/\v.aL r.c.kil=v)->
  (∀u,look y.1 t=some u->∃Ts,look z.1 t=some (rz Ts u)/\∀T∈Ts,v.aL T=v)->look Z.1 t=some v
 |[],_,y,z,Y,Z,_,hy,hz,hv,_,hi=>by
  cases hy;cases hz;obtain⟨Ts,h1,h2⟩:=hi v hv
  rw[h1,F3 h2]
 |r::l,k,y,z,Y,Z,hqp,hy,hz,hv,hd,hi=>by
  simp only[replay]at hy hz;have hd':∀(j:Nat) (r:DR),l[j]? =some r->p (k+1+j)=true->q (k+1+j)=false->r.dst≠some t/\v.aL r.c.kil=v:=λj r h1 h2 h3=>hd (j+1) r (by simpa using h1) (by rwa [show k+(j+1)=k+1+j from by omega]) (by rwa [show k+(j+1)=k+1+j from by omega]);cases hq:q k<;>simp only[hq,cond_false,cond_true]at hy
  ·cases hp:p k<;>simp only[hp,cond_false,cond_true]at hz
   ·exact nT l (k+1) y z Y Z hqp hy hz hv hd' hi
   ·rw[An]at hz;obtain⟨z',hz',hz⟩:=hz;obtain⟨g1,g2⟩:=hd 0 r rfl (by simpa using hp) (by simpa using hq);refine nT l (k+1) y z' Y Z hqp hy hz hv hd' λu hu=>?_;obtain⟨Ts,h1,h2⟩:=hi u hu;refine⟨Ts++[r.c.kil],?_,λT hT=>?_⟩
    ·rw[dx hz',dw,if_neg g1,cY r.c.fD,h1,I8];rfl
    ·rcases Sf.1 hT with h|h
     ·exact h2 T h
     ·simp at h;subst h;exact g2
  ·rw[hqp k hq]at hz;simp only[cond_true]at hz;rw[An]at hy hz;obtain⟨y',hy',hy⟩:=hy;obtain⟨z',hz',hz⟩:=hz;refine nT l (k+1) y' z' Y Z hqp hy hz hv hd' λu hu=>?_;rw[dx hy',dw,cY r.c.fD]at hu;rw[dx hz',dw,cY r.c.fD];by_cases c:r.dst=some t
   ·rw[if_pos c]at hu⊢;cases hu;exact⟨[],rfl,by simp⟩
   ·rw[if_neg c]at hu⊢;obtain⟨u0,hu0,rfl⟩:=Rv.1 hu;obtain⟨Ts,h1,h2⟩:=hi u0 hu0;exact⟨Ts,by rw[h1,SL,F2],h2⟩
theorem nU {q:Nat->Bool} {t:Nat} {v:SV}:∀(l:List DR) (k:Nat) (y Y:SH),replay q k l y=some Y->look Y.1 t=some v->(∃u,look y.1 t=some u)\/∃(j:Nat) (r:DR),l[j]? =some r/\q (k+j)=true/\r.dst=some t
  |[],_,y,Y,h,hv=>by cases h;exact .inl ⟨v,hv⟩
  | r :: l, k, y, Y, h, hv => by
    simp only[replay]at h;cases hq:q k<;>simp only[hq,cond_false,cond_true]at h
    · rcases nU l (k+1) y Y h hv with h'|⟨j,r',h1,h2,h3⟩
      · exact .inl h'
      · exact .inr ⟨j+1,r',by simpa using h1,by rwa [show k+(j+1)=k+1+j from by omega],h3⟩
    · rw [An] at h;obtain⟨y',hy',h⟩:=h
      rcases nU l (k+1) y' Y h hv with⟨u,hu⟩|⟨j,r',h1,h2,h3⟩
      · rw[dx hy',dw,cY r.c.fD]at hu;by_cases c:r.dst=some t
        · exact .inr ⟨0,r,rfl,hq,c⟩
        · rw[if_neg c]at hu;obtain⟨u0,hu0,_⟩:=Rv.1 hu;exact .inl ⟨u0,hu0⟩
      · exact .inr ⟨j+1,r',by simpa using h1,by rwa [show k+(j+1)=k+1+j from by omega],h3⟩
theorem KS {a b:DR} (ha:fC cm a=true) (hf:a.c.v.aL b.c.kil=a.c.v) (hd:∀t,a.dst=some t->b.dst≠some t) {x y z:SH} (hy:b.app x=some y) (hz:a.app y=some z):
  ∃y' z',a.app x=some y'/\b.app y'=some z'/\B8 z z':=by
 rw[qt ha]at hz;cases hz;obtain⟨z',h1,h2⟩:=pt (x:=x) (x':=(Ho x.1 a.dst a.c.v,x.2)) rfl hy;refine⟨_,z',qt ha x,h1,λt=>?_,h2⟩;rw[dx h1,dx hy];simp only[dw,cY b.c.fD];by_cases c:a.dst=some t
 ·rw[if_pos c,if_neg (hd t c),if_pos c,SL,hf]
 ·simp only[if_neg c]
theorem I9 {a b:DR} (hb:fC cm b=true) (hf:b.c.v.aL a.c.kil=b.c.v) (hd:∀t,a.dst=some t->b.dst≠some t) {x y z:SH} (hy:b.app x=some y) (hz:a.app y=some z):
  ∃y' z',a.app x=some y'/\b.app y'=some z'/\B8 z z':=by
 rw[qt hb]at hy;cases hy;obtain⟨y',h1,h2⟩:=pt (x:=(Ho x.1 b.dst b.c.v,x.2)) (x':=x) rfl hz;refine⟨y',_,h1,qt hb y',λt=>?_,h2⟩;rw[dx h1,dx hz];simp only[dw,cY a.c.fD];by_cases c:a.dst=some t
 ·simp only[if_pos c,if_neg (hd t c)]
 ·simp only[if_neg c];by_cases c':b.dst=some t
  ·simp only[if_pos c',SL,hf]
  ·simp only[if_neg c']
theorem comm {a b:DR} (h:FD a b=true) (hd:∀t,a.dst=some t->b.dst≠some t) (hm:∀i,a.rP i->¬b.rP i) {x y z:SH} (hy:b.app x=some y) (hz:a.app y=some z):
  ∃y' z',a.app x=some y'/\b.app y'=some z'/\DI z z':=by
 obtain⟨ga,gb,hu⟩:=gY h;rw[iu gb]at hy;cases hy;rw[iu ga]at hz;cases hz;refine⟨_,_,iu ga x,iu gb _,λt=>?_,λi=>?_⟩
 ·simp only[dw];by_cases c:a.dst=some t
  ·rw[if_pos c,if_neg (hd t c),if_pos c]
  ·rw[if_neg c];by_cases c':b.dst=some t
   ·rw[if_pos c',if_pos c']
   ·rw[if_neg c',if_neg c',if_neg c]
 ·have swap:(look (aK b.n0 b.c.news) i).or (look (aK a.n0 a.c.news) i)=(look (aK a.n0 a.c.news) i).or (look (aK b.n0 b.c.news) i):=by
   by_cases c:a.rP i
   ·rw[DR.m9 (hm i c)];simp
   ·rw[DR.m9 c];simp
  have past:∀(r:DR) (u:aI),(∀i,r.rP i->look u i=none)->look (iY u (x.2++aK r.n0 r.c.news)) i=(look (iY u x.2) i).or (look (aK r.n0 r.c.news) i):=λr u hr=>by
   by_cases c:r.rP i
   ·rw[pq _ _ (hr i c),pq _ _ (hr i c),aE]
   ·rw[DR.m9 c,Sx];exact xC u (by rw[aE,DR.m9 c,Sx])
  rcases hu with⟨u1,u2⟩|⟨u1,u2⟩
  ·simp only[u1,iY,aE,Option.or_assoc];rw[past b _ u2,Option.or_assoc,swap]
  ·simp only[u1,iY,aE,Option.or_assoc];rw[past a _ u2,Option.or_assoc,swap]
theorem rR {p:Nat->Bool}:∀(l:List DR) (k:Nat) (x y X:SH),(∀(j:Nat) (r:DR),l[j]? =some r->p (k+j)=true->r.c.kil.2=[])->DI x y->replay p k l x=some X->∃Y,replay p k l y=some Y/\DI X Y
 |[],_,x,y,X,_,e,h=>by cases h;exact⟨y,rfl,e⟩
 |r::l,k,x,y,X,hg,e,h=>by
  have hg':∀(j:Nat) (r:DR),l[j]? =some r->p (k+1+j)=true->r.c.kil.2=[]:=λj r h1 h2=>hg (j+1) r (by simpa using h1) (by rwa [show k+(j+1)=k+1+j from by omega]);simp only[replay]at h⊢;cases hp:p k<;>simp only[hp,cond_false,cond_true]at h⊢
  ·exact rR l (k+1) x y X hg' e h
  ·rw[An]at h;obtain⟨x',hx',h⟩:=h;obtain⟨y',hy',e'⟩:=MY (hg 0 r rfl (by simpa using hp)) e hx';rw[hy'];exact rR l (k+1) x' y' X hg' e' h
theorem mK {p:Nat->Bool} {a:DR} (hi:fC cm a=true):∀(l:List DR) (k:Nat) (x X X':SH),
  (∀(j:Nat) (r:DR),l[j]? =some r->p (k+j)=true->a.c.v.aL r.c.kil=a.c.v/\(∀t,a.dst=some t->r.dst≠some t))->
  replay p k l x=some X->a.app X=some X'->∃x' X'',a.app x=some x'/\replay p k l x'=some X''/\B8 X' X''
 |[],_,x,X,X',_,h,ha=>by cases h;exact⟨X',X',ha,rfl,λ_=>rfl,rfl⟩
 |r::l,k,x,X,X',hc,h,ha=>by
  have hc':∀(j:Nat) (r:DR),l[j]? =some r->p (k+1+j)=true->a.c.v.aL r.c.kil=a.c.v/\(∀t,a.dst=some t->r.dst≠some t):=λj r h1 h2=>hc (j+1) r (by simpa using h1) (by rwa [show k+(j+1)=k+1+j from by omega]);simp only[replay]at h⊢;cases hp:p k<;>simp only[hp,cond_false,cond_true]at h⊢
  ·exact mK hi l (k+1) x X X' hc' h ha
  ·rw[An]at h;obtain⟨y,hy,h⟩:=h;obtain⟨y',Y'',h1,h2,h3⟩:=mK hi l (k+1) y X X' hc' h ha;obtain⟨c1,c2⟩:=hc 0 r rfl (by simpa using hp);obtain⟨x',z',g1,g2,g3⟩:=KS hi c1 c2 hy h1;obtain⟨W,w1,w2⟩:=pw l (k+1) y' z' Y'' g3 h2;exact⟨x',W,g1,by rw[g2];exact w1,λt=>(h3.1 t).trans (w2.1 t),h3.2.trans w2.2⟩
theorem mL {p:Nat->Bool} {a:DR} (hi:fC cm a=false):∀(l:List DR) (k:Nat) (x X X':SH),
    (∀(j:Nat) (r:DR),l[j]? =some r->p (k+j)=true->rk cm a r=true/\(∀t,a.dst=some t->r.dst≠some t)/\∀i,a.rP i->¬r.rP i)->
    replay p k l x=some X->a.app X=some X'->∃x' X'',a.app x=some x'/\replay p k l x'=some X''/\DI X' X''
  |[],_,x,X,X',_,h,ha=>by cases h;exact⟨X',X',ha,rfl,DI.refl _⟩
  | r :: l, k, x, X, X', hc, h, ha => by
    have hc':∀(j:Nat) (r:DR),l[j]? =some r->p (k+1+j)=true->rk cm a r=true/\(∀t,a.dst=some t->r.dst≠some t)/\∀i,a.rP i->¬r.rP i:=λj r h1 h2=>hc (j+1) r (by simpa using h1) (by rwa [show k+(j+1)=k+1+j from by omega])
    have kil0:∀(r:DR),rk cm a r=true->r.c.kil.2=[]:=λr h=>by
      rcases fa h with⟨h1,_⟩|⟨h1,_⟩|⟨_,_,h1⟩
      · rw[hi]at h1;exact nomatch h1
      · exact(eJ h1).2.1
      · exact(gY h1).2.1
    simp only[replay]at h⊢;cases hp:p k<;>simp only[hp,cond_false,cond_true]at h⊢
    · exact mL hi l (k+1) x X X' hc' h ha
    · rw [An] at h;obtain⟨y,hy,h⟩:=h;obtain⟨y',Y'',h1,h2,h3⟩:=mL hi l (k+1) y X X' hc' h ha;obtain⟨c1,c2,c3⟩:=hc 0 r rfl (by simpa using hp)
      have hcm:∃y'' z',a.app x=some y''/\r.app y''=some z'/\DI y' z':=by
        rcases fa c1 with⟨h1',_⟩|⟨h1',h2'⟩|⟨_,_,h1'⟩
        · rw[hi]at h1';exact nomatch h1'
        · obtain⟨u1,u2,u3,u4,u5⟩:=I9 h1' h2' c2 hy h1;exact⟨u1,u2,u3,u4,u5.same⟩
        · exact comm h1' c2 c3 hy h1
      obtain⟨x',z',g1,g2,g3⟩:=hcm;obtain⟨W,w1,w2⟩:=rR l (k+1) y' z' Y'' (λj r h1 h2=>kil0 r (hc' j r h1 h2).1) g3 h2;exact⟨x',W,g1,by rw[g2];exact w1,h3.trans w2⟩
theorem B9 {p:Nat->Bool} {a:DR} (l:List DR) (k:Nat) (x X X':SH)
  (hc:∀(j:Nat) (r:DR),l[j]? =some r->p (k+j)=true->rk cm a r=true/\(∀t,a.dst=some t->r.dst≠some t)/\∀i,a.rP i->¬r.rP i)
  (h:replay p k l x=some X) (ha:a.app X=some X'):∃x' X'',a.app x=some x'/\replay p k l x'=some X''/\DI X' X'':=by
 cases hi:fC cm a with
 |false=>exact mL hi l k x X X' hc h ha
 |true=>
  obtain⟨u1,u2,u3,u4,u5⟩:=mK hi l k x X X' (λj r h1 h2=>by
   obtain⟨c1,c2,_⟩:=hc j r h1 h2;refine⟨?_,c2⟩
   rcases fa c1 with⟨_,h⟩|⟨h,_⟩|⟨h,_,_⟩
   ·exact h
   ·exact sT (eJ h).2.1
   ·rw[hi]at h;exact nomatch h) h ha
  exact⟨u1,u2,u3,u4,u5.same⟩
theorem Ca {p p':Nat->Bool} {l:List DR} {i:Nat} {a:DR} {x X X':SH} (hi:l[i]? =some a) (hpi:p i=false) (hpi':p' i=true) (hpp:∀j,j≠i->p' j=p j)
  (hc:∀(j:Nat) (r:DR),i<j->l[j]? =some r->p j=true->rk cm a r=true/\(∀t,a.dst=some t->r.dst≠some t)/\∀i,a.rP i->¬r.rP i)
  (h:replay p 0 l x=some X) (ha:a.app X=some X'):∃X'',replay p' 0 l x=some X''/\DI X' X'':=by
 have hlt:=(Of.1 hi).1
 have hsplit:l=l.take i++a::l.drop (i+1):=by
  conv=>lhs;rw[<-SJ i l]
  rw[List.drop_eq_getElem_cons hlt,(Of.1 hi).2]
 have hl:(l.take i).length=i:=by simp;omega
 rw[hsplit,ed,An]at h;obtain⟨y,hy,h⟩:=h;rw[hl,Rz]at h;simp only[replay,hpi,cond_false]at h;obtain⟨y',X'',g1,g2,g3⟩:=B9 (l.drop (i+1)) (i+1) y X X' (λj r h1 h2=>hc (i+1+j) r (by omega) (by rwa [RF]at h1) h2) h ha;refine⟨X'',?_,g3⟩;rw[hsplit,ed,hl,Rz];rw[jG (q:=p) (l.take i) 0 x λj hj=>by rw[hl]at hj;rw[Rz];exact hpp j (by omega),hy];simp only[RE,replay,hpi',cond_true,g1];rw[jG (q:=p) (l.drop (i+1)) (i+1) y' λj hj=>hpp _ (by omega)];exact g2
theorem rS {p:Nat->Bool} {t:Nat} {x0:SV} (hx0:∀T,x0.aL T=x0):∀(l:List DR) (k:Nat) (x X:SH),replay p k l x=some X->(∀(j:Nat) (r:DR),l[j]? =some r->r.dst≠some t)->look x.1 t=some x0->look X.1 t=some x0
 |[],_,x,X,h,_,hx=>by cases h;exact hx
 |r::l,k,x,X,h,hd,hx=>by
  have hd':∀(j:Nat) (r:DR),l[j]? =some r->r.dst≠some t:=λj r h1=>hd (j+1) r (by simpa using h1);simp only[replay]at h;cases hp:p k<;>simp only[hp,cond_false,cond_true]at h
  ·exact rS hx0 l (k+1) x X h hd' hx
  ·rw[An]at h;obtain⟨y,hy,h⟩:=h;refine rS hx0 l (k+1) y X h hd' ?_;rw[dx hy,dw,if_neg (hd 0 r rfl)];rw[cY r.c.fD,hx,SL,hx0]
end
section
variable [Tok]
def Rl (w0:World) (fp0:G0) (bs:Cell->Prop) (n:Nat) (st:St) (a:Act) (w:World):Prop:=∃pl,Rel w0 fp0 st pl a w/\pl.base=bs/\st.n=n
section
variable {w:World} {H H':aI} {pl:Pl}
theorem AA (e:xz H' H):lh ([],[]) w H pl w H' pl:=
 ⟨λi B hB _=>⟨B,(e i).trans hB,B.dh,rfl⟩,λd p u _ h hp=>⟨⟨h.1,λi B hB=>h.2 i B ((e i).symm.trans hB)⟩,hp⟩⟩
theorem cH.same (e:xz H' H) (h:cH H pl w):cH H' pl w:=
  ⟨λi B hB=>(h.blk i B ((e i).symm.trans hB)).bz (AA e) rfl (λ_=>Uk) (λp u _ hu=>⟨hu,rfl⟩) B.di,
   λi j B B' p h1 h2=>h.dis i j B B' p ((e i).symm.trans h1) ((e j).symm.trans h2),λi B p hB=>h.ob i B p ((e i).symm.trans hB),h.nb⟩
theorem Rel.congr {w0:World} {fp0:G0} {s s':List (Nat× SV)} {nid n:Nat} {gh:List (Option Nat)} {a:Act} (h:Rel w0 fp0 ⟨s,H,nid,n,gh⟩ pl a w) (hs:∀t v,look s' t=some v->look s t=some v) (e:xz H' H):
    Rel w0 fp0 ⟨s',H',nid,n,gh⟩ pl a w:=
  ⟨h.hr.same e,λt v hv=>(h.sl t v (hs t v hv)).we (AA e),h.sz,h.df,λi hi=>(e i).trans (h.fresh i hi),h.gr,λp u hp hn=>by
    obtain⟨g1,g2,g3⟩:=h.fr p u hp hn
    exact⟨λi B hB=>g1 i B ((e i).symm.trans hB),g2,g3⟩,λk i hi=>⟨(h.gk k i hi).1,λB hB=>(h.gk k i hi).2 B ((e i).symm.trans hB)⟩⟩
end
theorem Cb {h:aI} {k i:Nat} {b B:Blk} (e:look (ID h k b) i=some B):∃B',look h i=some B':=by
 induction h with
 |nil=>simp[ID,look]at e
 |cons x l ih=>
  obtain⟨k',u⟩:=x;rw[aA];by_cases c:k'=i
  ·exact⟨u,by simp[c]⟩
  ·rw[if_neg c];simp only[ID]at e;cases hb:Nat.beq k' k<;>simp only[hb,cond_true,cond_false]at e
   ·rw[aA,if_neg c]at e;exact ih e
   ·rw[aA,if_neg (by have:=Rp hb;omega)]at e;exact⟨B,e⟩
theorem rA:∀{l h:aI} {i:Nat} {B:Blk},look (iY l h) i=some B->∃B',look h i=some B'
 |[],h,i,B,e=>⟨B,e⟩
 |(k,b)::l,h,i,B,e=>by
  simp only[iY]at e;obtain⟨B',hB'⟩:=rA e;exact Cb hB'
theorem Rel.app {w0:World} {fp0:G0} {X X':SH} {nid n:Nat} {gh:List (Option Nat)} {pl pl':Pl} {a:Act} {w w':World} {r:DR} {H':aI} {u:Value}
  (h:Rel w0 fp0 ⟨X.1,X.2,nid,n,gh⟩ pl a w) (hx:r.app X=some X') (hup:∀i B,look r.c.upd i=some B->∃B',look X.2 i=some B')
  (hd:∀t,r.dst=some t->t+1<=n) (hg:∀(k i:Nat),gh[k]? =some (some i)->i<r.n0) (hn:r.n0+r.c.news.length<=nid) (ha:after X.2 r.n0 r.c=some H') (hs:cQ X.2 H' r.c.kil pl pl' w w') (hv:au w' H' pl' r.c.v u):
  Rel w0 fp0 ⟨X'.1,X'.2,nid,n,gh⟩ pl' (a.put r.dst u) w':=by
 have hsame:xz X'.2 H':=by
  unfold DR.app at hx;unfold after at ha;rw[uF hup]at ha;simp only[An,It]at hx ha;obtain⟨h1,e1,rfl⟩:=hx;obtain⟨h2,e2,rfl⟩:=ha;rw[e1]at e2;cases e2;exactλ_=>rfl
 have hfr:∀i,nid<=i->look H' i=none:=λi hi=>by
  rw[<-hsame i]
  cases hq:look X'.2 i with
  |none=>rfl
  |some B=>
   rcases na (p:=λ_=>true) [r] 0 X X' (by simp[replay,hx]) i B hq with⟨B',hB'⟩|⟨j',r2,g1,_,g3⟩
   ·have:=h.fresh i hi;rw[hB']at this;exact nomatch this
   ·cases j' with
    |zero=>simp at g1;subst g1;have:=g3.2;omega
    |succ j'=>simp at g1
 have hsl:gn w' H' pl' (nK r.c.kil X.1) a:=h.sl.bz r.c.fD hs.kp
 have hsl2:gn w' H' pl' X'.1 (a.put r.dst u):=by
  rw[dx hx]
  cases hdst:r.dst with
  |none=>exact hsl
  |some t=>
   have ht:=hd t hdst;exact gn.put (n:=n) (dst:=some t) hsl h.sz (by simp only[PS,Ho];rw[show Nat.ble (t+1) n=true from SK ht];rfl) hv
 exact Rel.congr (s:=X'.1) (H:=H') ⟨hs.hr,hsl2,by rw[Act.BT];exact h.sz,by rw[Act.Kv];exact h.df,hfr,h.gr.trans hs.gr,λp q hp hno=>by
  obtain⟨g1,g2,g3⟩:=h.fr p q hp hno;obtain⟨f1,f2,f3⟩:=hs.fr p q g2 g1
  exact⟨f1,f2,f3.trans g3⟩,h.gk.step hs.kp (RJ _) λk i B hki hB=>by
   have hi:=hg k i hki;rw[<-hsame i]at hB;unfold DR.app at hx;simp only[An,It]at hx;obtain⟨h1,e1,rfl⟩:=hx;rw[aE,bn,if_neg (by omega),Sx,cI r.c.fD e1 i]at hB;cases hm:mem i r.c.kil.1<;>simp only[hm,cond_true,cond_false]at hB
   ·obtain⟨B1,hB1,_⟩:=An.1 hB;exact⟨rfl,rA hB1⟩
   ·exact nomatch hB⟩ (λ_ _ h=>h) hsame
theorem uH (acc:List Nat) (j:Nat):∀l:List Edge,(Ds acc l).testBit j=true↔∃e∈l,Region.binds .any e=true/\(j=e.on\/(acc.getD e.on 0).testBit j=true)
 |[]=>by simp[Ds]
 |e::l=>by
  simp only[Ds];cases hb:Region.binds .any e
  ·simp only[cond_false,uH acc j l,RN,exists_eq_or_imp,hb,SR,false_and,false_or]
  ·simp only[cond_true,Nat.testBit_or,Nat.testBit_two_pow,Th,decide_eq_true_eq,uH acc j l,RN,exists_eq_or_imp,hb,true_and];constructor
   ·rintro ((h|h)|h)
    ·exact .inl (.inr h)
    ·exact .inl (.inl h.symm)
    ·exact .inr h
   ·rintro ((h|h)|h)
    ·exact .inl (.inr h.symm)
    ·exact .inl (.inl h)
    ·exact .inr h
theorem jH {n:Nat}:∀{l:List Edge},uk n l=true->∀e∈l,Region.binds .any e=true->e.on<n
 |[],_,e,he,_=>by simp at he
 |x::l,h,e,he,hb=>by
  simp only[uk]at h;cases hx:Region.binds .any x<;>simp only[hx,cond_true,cond_false]at h
  ·rcases RN.1 he with rfl|he
   ·rw[hx]at hb;exact nomatch hb
   ·exact jH h e he hb
  ·cases hn:Nat.ble (x.on+1) n<;>simp only[hn,cond_true,cond_false]at h
   ·exact nomatch h
   ·rcases RN.1 he with rfl|he
    ·exact RC hn
    ·exact jH h e he hb
structure F4 (ops:List Oper) (masks:List Nat):Prop where
 back:∀(i:Nat) (o:Oper),ops[i]? =some o->∀e∈o.after.toList,Region.binds .any e=true->e.on<i
 spec:∀(i:Nat) (o:Oper),ops[i]? =some o->∀j,(masks.getD i 0).testBit j=true↔∃e∈o.after.toList,Region.binds .any e=true/\(j=e.on\/(masks.getD e.on 0).testBit j=true)
theorem vH:∀(l:List Oper) (acc masks:List Nat),xf acc l=some masks->(∃t,masks=acc++t)/\
  ∀(k:Nat) (o:Oper),l[k]? =some o->(∀e∈o.after.toList,Region.binds .any e=true->e.on<acc.length+k)/\
   ∀j,(masks.getD (acc.length+k) 0).testBit j=true↔∃e∈o.after.toList,Region.binds .any e=true/\(j=e.on\/(masks.getD e.on 0).testBit j=true)
 |[],acc,masks,h=>by cases h;exact⟨⟨[],by simp⟩,λk o ho=>by simp at ho⟩
 |x::l,acc,masks,h=>by
  simp only[xf]at h;cases he:uk acc.length x.after.toList<;>simp only[he,cond_true,cond_false]at h
  ·exact nomatch h
  ·obtain⟨⟨t,ht⟩,hl⟩:=vH l _ masks h;refine⟨⟨Ds acc x.after.toList::t,by rw[ht];simp⟩,λk o ho=>?_⟩
   cases k with
   |zero=>
    simp at ho;subst ho;refine⟨jH he,λj=>?_⟩
    have hm:masks.getD (acc.length+0) 0=Ds acc x.after.toList:=by rw[ht];simp[List.getD]
    rw[hm,uH];constructor
    ·rintro ⟨e,h1,h2,h3⟩
     have hlt:=jH he e h1 h2;refine⟨e,h1,h2,h3.imp id λh3=>?_⟩;rw[ht];simpa[List.getD,Rt hlt,RM]using h3
    ·rintro ⟨e,h1,h2,h3⟩
     have hlt:=jH he e h1 h2;refine⟨e,h1,h2,h3.imp id λh3=>?_⟩
     rw[ht]at h3;simpa[List.getD,Rt hlt,RM]using h3
   |succ k=>
    have:=hl k o (by simpa using ho);simp only[RD,RA,R6]at this;rwa [show acc.length+(0+1)+k=acc.length+(k+1)from by omega]at this
theorem MZ {ops:List Oper} {masks:List Nat} (h:xf [] ops=some masks):F4 ops masks:=by
 obtain⟨_,h2⟩:=vH ops [] masks h;exact⟨λi o ho=>by have:=(h2 i o ho).1;simpa using this,λi o ho=>by have:=(h2 i o ho).2;simpa using this⟩
theorem F4.closed {ops:List Oper} {masks:List Nat} (hm:F4 ops masks) {p:Nat->Bool} (hp:∀(j:Nat) (o:Oper),ops[j]? =some o->p j=true->∀e∈o.after.toList,Region.binds .any e=true->p e.on=true):
  ∀(n i:Nat) (o:Oper),i<=n->ops[i]? =some o->(∀e∈o.after.toList,Region.binds .any e=true->p e.on=true)->∀j,(masks.getD i 0).testBit j=true->p j=true
 |n,i,o,hn,ho,he,j,hj=>by
  obtain⟨e,h1,h2,h3⟩:=(hm.spec i o ho j).1 hj
  rcases h3 with rfl|h3
  ·exact he e h1 h2
  ·have hlt:=hm.back i o ho e h1 h2
   have hol:e.on<ops.length:=by have:=(Of.1 ho).1;omega
   cases n with
   |zero=>omega
   |succ n=>exact hm.closed hp n e.on _ (by omega) (On hol) (λe' h1' h2'=>hp e.on _ (On hol) (he e h1 h2) e' h1' h2') j h3
theorem F4.lt {ops:List Oper} {masks:List Nat} (hm:F4 ops masks) {i j:Nat} {o:Oper} (ho:ops[i]? =some o) (hj:(masks.getD i 0).testBit j=true):j<i:=
 of_decide_eq_true (hm.closed (p:=λj=>decide (j<i)) (λk o' ho' hk e h1 h2=>decide_eq_true (by have:=hm.back k o' ho' e h1 h2;have:=of_decide_eq_true hk;omega)) i i o (RJ _) ho
  (λe h1 h2=>decide_eq_true (hm.back i o ho e h1 h2)) j hj)
end
section
variable [Tok]
def KT (h H:aI):Prop:=∀i B,look h i=some B->∃B',look H i=some B'/\B.lQ B'
def OP (P:Program) (o:Oper) (n:Nat) (c:CR) (s:List (Nat× SV)) (h:aI):Prop:=
 ∀(s':List (Nat× SV)) (H:aI) (a:Act) (w:World) (pl:Pl),Ext s s'->KT h H->cH H pl w->gn w H pl s' a->(∀k,k<c.news.length->look H (n+k)=none)->kq P o a w H pl n c
theorem zT {P:Program} {T:TypeId} {h H:aI} (e:KT h H) {x:SV} {k:Int} {v:SV} (hv:bL P T h x k=some v):bL P T H x k=some v:=by
 have sz:∀{t t':Ty},t.sz=t'.sz->slT P T t=slT P T t':=λ{t t'} e=>by unfold slT;rw[e]
 cases x with
 |own i=>
  simp only[bL]at hv⊢
  cases hl:look h i with
  |none=>rw[hl]at hv;exact nomatch hv
  |some B=>
   rw[hl]at hv;obtain⟨B',h1,h2⟩:=e i B hl
   cases B with
   |box cs=>exact nomatch hv
   |arr sh t xs=>
    cases B' with
    |box cs=>exact h2.elim
    |arr sh' t' ys=>
     rw[h1];simp only at hv⊢
     rwa [<-sz h2.1,<-h2.2]
 |sub i o n=>
  simp only[bL]at hv⊢
  cases hl:look h i with
  |none=>rw[hl]at hv;exact nomatch hv
  |some B=>
   rw[hl]at hv;obtain⟨B',h1,h2⟩:=e i B hl
   cases B with
   |box cs=>exact nomatch hv
   |arr sh t xs=>
    cases B' with
    |box cs=>exact h2.elim
    |arr sh' t' ys=>
     rw[h1];simp only at hv⊢
     rwa [<-sz h2.1]
 |r d x=>cases x<;>exact hv
 |_=>exact hv
def lV (masks:List Nat) (i:Nat) (o:Oper) (rs:List DR) (t:Bool):Prop:=
 match o.guard with
 |none=>t=true
 |some (g,want)=>(masks.getD i 0).testBit g=true/\∃r d,rs[g]? =some r/\r.dst=some d/\((∃b,r.c.v=.r [] (.bool b)/\t=(b==want))\/(r.c.v=.tup []/\t=false))
def Qc (E:Env) (ops:List Oper) (masks dsts:List Nat) (s0:List (Nat× SV)) (h0:aI) (rs:List DR) (i:Nat) (o:Oper) (r:DR):Prop:=
 r.dst=o.dst/\okW E o.op r.c=true/\∃x t,replay (Nat.testBit (masks.getD i 0)) 0 (rs.take i) (mX (MJ masks i 0 ops) s0 (eH o.op.operands.toList),h0)=some x/\lV masks i o rs t/\
  ((t=true/\r=OB E masks i ops h0 x o r.n0 r.c/\(Kj E h0 x o=false->DG E.P o r.n0 r.c (mX [] x.1 (eH o.op.operands.toList)) (IG E masks i ops x o))/\(Kj E h0 x o=true->OP E.P o r.n0 r.c (mX [] x.1 (eH o.op.operands.toList)) (vG h0 (Dt x o))))\/(t=false/\r.c={v:=.tup []}/\r.len=false))
theorem OQ {E:Env} {ρ:Type} {o:Oper} {s:List (Nat× SV)} {h0:aI} {n:Nat} {K:CR->Option ρ} {out:ρ} (hl:P2 o.op=true) (h:BD E s h0 n o.op K=some out):∃c,K c=some out/\OP E.P o n c s h0:=by
 cases ho:o.op with
 |indexAddr T x k=>
  rw[ho]at h;have h:nL E.P s h0 (.indexAddr T x k) (λv=>K {v:=v})=some out:=h;rw[nM]at h;obtain⟨v,hv,h⟩:=An.1 h;refine⟨_,h,λs' H a w pl es eh hr hs hn=>?_⟩
  have hv':gl E.P s' H (.indexAddr T x k)=some v:=by
   simp only[gl,An]at hv⊢;obtain⟨x',hx,k',hk,n',hn',hv⟩:=hv;exact⟨x',cT es _ _ hx,k',cT es _ _ hk,n',hn',zT eh hv⟩
  obtain⟨u,hu,hvr⟩:=kv hr hs hv' o ho
  exact mZ hr hu hvr
 |_=>rw[ho]at hl;exact nomatch hl
structure DL (E:Env) (ops:List Oper) (masks dsts:List Nat) (s0:List (Nat× SV)) (h0:aI) (nid0:Nat) (rs:List DR) (m nid:Nat):Prop where
 len:rs.length=m
 QV:∀(i:Nat) (o:Oper) (r:DR),ops[i]? =some o->rs[i]? =some r->Qc E ops masks dsts s0 h0 rs i o r
 lo:∀(i:Nat) (r:DR),rs[i]? =some r->nid0<=r.n0/\r.n0+r.c.news.length<=nid
 ord:∀(i j:Nat) (a b:DR),i<j->rs[i]? =some a->rs[j]? =some b->a.n0+a.c.news.length<=b.n0
theorem lV.more {masks:List Nat} {i:Nat} {o:Oper} {rs:List DR} {t:Bool} (h:lV masks i o rs t) (r:DR):lV masks i o (rs++[r]) t:=by
 unfold lV at*;split at h
 ·exact h
 ·obtain⟨h1,r',d,h2,h3,h4⟩:=h;exact⟨h1,r',d,by rw[Rt (Of.1 h2).1];exact h2,h3,h4⟩
section
variable {ρ:Type} {E:Env} {ops:List Oper} {masks dsts:List Nat} {s0:List (Nat× SV)} {h0:aI} {nid0:Nat}
theorem DL.push {rs:List DR} {m nid:Nat} (F:DL E ops masks dsts s0 h0 nid0 rs m nid) (h0n:nid0<=nid) {o:Oper} {r:DR} (ho:ops[m]? =some o) (hr:Qc E ops masks dsts s0 h0 (rs++[r]) m o r) (hn:r.n0=nid):
  DL E ops masks dsts s0 h0 nid0 (rs++[r]) (m+1) (nid+r.c.news.length):=by
 have hcase:∀(i:Nat) (b:DR),(rs++[r])[i]? =some b->(i<m/\rs[i]? =some b)\/(i=m/\b=r):=λi b hb=>by
  by_cases c:i<m
  ·rw[Rt (by rw[F.len];exact c)]at hb;exact .inl ⟨c,hb⟩
  ·rw[Rs (by rw[F.len];omega),F.len]at hb
   have hi:i-m<1:=by have:=(Of.1 hb).1;simpa using this
   have:i-m=0:=by omega
   rw[this]at hb;simp at hb;exact .inr ⟨by omega,hb.symm⟩
 refine⟨by simp[F.len],λi o' b ho' hb=>?_,λi b hb=>?_,λi j a b hij ha hb=>?_⟩
 ·rcases hcase i b hb with⟨hi,h⟩|⟨rfl,rfl⟩
  ·obtain⟨g1,g2,x,t,g3,g4,g5⟩:=F.QV i o' b ho' h;exact⟨g1,g2,x,t,by rw[SI (by rw[F.len];omega)];exact g3,g4.more r,g5⟩
  ·rw[ho]at ho';cases ho';exact hr
 ·rcases hcase i b hb with⟨hi,h⟩|⟨rfl,rfl⟩
  ·have:=F.lo i b h;exact⟨this.1,by omega⟩
  ·exact⟨by omega,by omega⟩
 ·rcases hcase j b hb with⟨hj,h⟩|⟨rfl,rfl⟩
  ·rcases hcase i a ha with⟨hi,h'⟩|⟨rfl,rfl⟩
   ·exact F.ord i j a b hij h' h
   ·omega
  ·rcases hcase i a ha with⟨hi,h'⟩|⟨rfl,rfl⟩
   ·have:=F.lo i a h';omega
   ·omega
theorem F5:∀{rs:List DR} {g:Nat} {r:DR} {v:SV},rs[g]? =some r->r.c.v=v->OA rs g v=rs
 |[],_,_,_,h,_=>by simp at h
 |x::l,0,r,v,h,hv=>by simp at h;subst h;subst hv;rfl
 |x::l,g+1,r,v,h,hv=>by simp only[OA];rw[F5 (rs:=l) (by simpa using h) hv]
theorem px (hE:mJ E) {out:ρ}:∀(rest:List Oper) (i nid:Nat) (rs:List DR) (K:List DR->Nat->Option ρ),oV E ops masks dsts s0 h0 i rest nid rs K=some out->
  DL E ops masks dsts s0 h0 nid0 rs i nid->nid0<=nid->ops.drop i=rest->∃rs' nid',K rs' nid'=some out/\nid0<=nid'/\DL E ops masks dsts s0 h0 nid0 rs' (i+rest.length) nid'
 |[],i,nid,rs,K,h,F,hn,_=>⟨rs,nid,h,hn,F⟩
 |o::rest,i,nid,rs,K,h,F,hn,hd=>by
  have ho:ops[i]? =some o:=by rw[<-List.head?_drop,hd];rfl
  have hd':ops.drop (i+1)=rest:=by rw[<-List.drop_drop,hd];rfl
  have htake:∀r,(rs++[r]).take i=rs:=λr=>by rw[SI (by rw[F.len];omega),<-F.len,Sr]
  simp only[oV,An]at h;obtain⟨x,hx,h⟩:=h
  have exec:∀t,(∀r,lV masks i o (rs++[r]) t)->t=true->(BD E (mX [] x.1 (eH o.op.operands.toList)) (Kk E masks i ops h0 x o) nid o.op λc=>cond (okW E o.op c) (oV E ops masks dsts s0 h0 (i+1) rest (nid+c.news.length) (rs++[OB E masks i ops h0 x o nid c]) K) none)=some out->
    ∃rs' nid',K rs' nid'=some out/\nid0<=nid'/\DL E ops masks dsts s0 h0 nid0 rs' (i+(o::rest).length) nid':=λt hw ht h=>by
   obtain⟨c,hc,hg⟩:∃c,(cond (okW E o.op c) (oV E ops masks dsts s0 h0 (i+1) rest (nid+c.news.length) (rs++[OB E masks i ops h0 x o nid c]) K) none)=some out/\
     (Kj E h0 x o=false->DG E.P o nid c (mX [] x.1 (eH o.op.operands.toList)) (IG E masks i ops x o))/\(Kj E h0 x o=true->OP E.P o nid c (mX [] x.1 (eH o.op.operands.toList)) (vG h0 (Dt x o))):=by
    unfold Kk at h;cases hL:Kj E h0 x o<;>simp only[hL,cond_true,cond_false]at h
    ·obtain⟨c,hc,hg⟩:=DH hE h;exact⟨c,hc,λ_=>hg,(λe=>nomatch e)⟩
    ·have hL':=hL;unfold Kj at hL';simp only[Rq]at hL';obtain⟨c,hc,hg⟩:=OQ hL'.2.1 h;exact⟨c,hc,(λe=>nomatch e),λ_=>hg⟩
   cases hok:okW E o.op c<;>simp only[hok,cond_true,cond_false]at hc
   ·exact nomatch hc
   ·have F':=F.push hn (r:=OB E masks i ops h0 x o nid c) ho ⟨rfl,hok,x,t,by rw[htake];exact hx,hw _,.inl ⟨ht,rfl,hg.1,hg.2⟩⟩ rfl;have:=px hE rest (i+1) _ _ K hc F' (by omega) hd';rwa [show i+1+rest.length=i+(o::rest).length from by simp;omega]at this
  have skip:∀t,(∀r,lV masks i o (rs++[r]) t)->t=false->oV E ops masks dsts s0 h0 (i+1) rest nid (rs++[⟨o.dst,nid,{v:=.tup []},[],[],false⟩]) K=some out->
    ∃rs' nid',K rs' nid'=some out/\nid0<=nid'/\DL E ops masks dsts s0 h0 nid0 rs' (i+(o::rest).length) nid':=λt hw ht h=>by
   have F':=F.push hn (r:=⟨o.dst,nid,{v:=.tup []},[],[],false⟩) ho ⟨rfl,by simp only[okW,isNil,CR.kil,SQ];cases lS E o.op<;>rfl,x,t,by rw[htake];exact hx,hw _,.inr ⟨ht,rfl,rfl⟩⟩ rfl;have:=px hE rest (i+1) _ _ K h F' (by simpa using hn) hd';rwa [show i+1+rest.length=i+(o::rest).length from by simp;omega]at this
  split at h
  ·rename_i hg;exact exec true (λr=>by unfold lV;rw[hg]) rfl h
  ·rename_i g want hg;cases hb:(masks.getD i 0).testBit g<;>simp only[hb,cond_true,cond_false]at h
   ·exact nomatch h
   ·simp only[An]at h;obtain⟨r,hr,d,hdst,h⟩:=h;split at h
    ·rename_i hv
     exact skip false (λr'=>lV.more (by
      unfold lV;rw[hg];exact⟨hb,r,d,hr,hdst,.inr ⟨hv,rfl⟩⟩) r') rfl h
    ·rename_i b hv
     have hw:∀r',lV masks i o (rs++[r']) (b==want):=λr'=>lV.more (by
      unfold lV;rw[hg];exact⟨hb,r,d,hr,hdst,.inl ⟨b,hv,rfl⟩⟩) r'
     cases b<;>simp only[cond_true,cond_false]at h
     ·rw[F5 hr hv]at h;cases want<;>simp only[cond_true,cond_false]at h
      ·exact exec _ hw rfl h
      ·exact skip _ hw rfl h
     ·rw[F5 hr hv]at h;cases want<;>simp only[cond_true,cond_false]at h
      ·exact skip _ hw rfl h
      ·exact exec _ hw rfl h
    ·exact nomatch h
end
theorem xD {cm:DR->Bool} {masks:List Nat} {i:Nat} {r:DR}:∀{l:List DR} {k:Nat},xh cm masks i r k l=true->∀(j:Nat) (b:DR),l[j]? =some b->(masks.getD (k+j) 0).testBit i=true\/rk cm r b=true
 |[],_,_,j,b,hb=>by simp at hb
 |x::l,k,h,j,b,hb=>by
  simp only[xh]at h
  have hl:xh cm masks i r (k+1) l=true/\((masks.getD k 0).testBit i=true\/rk cm r x=true):=by
   cases h1:(masks.getD k 0).testBit i<;>simp only[h1,cond_true,cond_false]at h
   ·cases h2:rk cm r x<;>simp only[h2,cond_true,cond_false]at h
    ·exact nomatch h
    ·exact⟨h,.inr rfl⟩
   ·exact⟨h,.inl rfl⟩
  cases j with
  |zero=>simp at hb;subst hb;exact hl.2
  |succ j=>have:=xD hl.1 j b (by simpa using hb);rwa [show k+1+j=k+(j+1)from by omega]at this
theorem rT {cm:DR->Bool} {masks:List Nat}:∀{l:List DR} {k:Nat},Ah cm masks k l=true->∀(i j:Nat) (a b:DR),i<j->l[i]? =some a->l[j]? =some b->(masks.getD (k+j) 0).testBit (k+i)=true\/rk cm a b=true
 |[],_,_,i,j,a,b,_,ha,_=>by simp at ha
 |x::l,k,h,i,j,a,b,hij,ha,hb=>by
  simp only[Ah]at h;cases h1:xh cm masks k x (k+1) l<;>simp only[h1,cond_true,cond_false]at h
  ·exact nomatch h
  ·obtain⟨j,rfl⟩:∃j',j=j'+1:=⟨j-1,by omega⟩
   cases i with
   |zero=>
    simp at ha;subst ha;have:=xD h1 j b (by simpa using hb)
    rwa [show k+1+j=k+(j+1)from by omega]at this
   |succ i=>
    have:=rT h i j a b (by omega) (by simpa using ha) (by simpa using hb);rwa [show k+1+j=k+(j+1)from by omega,show k+1+i=k+(i+1)from by omega]at this
theorem Rk {i:Nat} {l:List Nat}:mem i l=true↔i∈l:=by
 induction l with
 |nil=>simp[mem]
 |cons k l ih=>
  simp only[mem,RN];cases h:Nat.beq k i
  ·have:¬i=k:=λe=>by subst e;simp at h
   simp[ih,this]
  ·have:=Rp h;simp[this]
theorem AB {n:Nat}:∀{l:List Nat},IE n l=true->∀i∈l,i+1<=n
 |[],_,i,hi=>by simp at hi
 |x::l,h,i,hi=>by
  simp only[IE]at h;cases hm:Nat.ble (x+1) n<;>simp only[hm,cond_true,cond_false]at h
  ·exact nomatch h
  ·rcases RN.1 hi with rfl|hi
   ·exact RC hm
   ·exact AB h i hi
theorem qu:∀{ops:List Oper} {j:Nat} {o:Oper} {t:Nat},ops[j]? =some o->o.dst=some t->t∈iV ops
 |[],j,o,t,h,_=>by simp at h
 |x::l,0,o,t,h,hd=>by simp at h;subst h;simp[iV,hd]
 |x::l,j+1,o,t,h,hd=>by
  have:=qu (ops:=l) (by simpa using h) hd;simp only[iV];split<;>simp[this]
theorem AD:∀{ops:List Oper},(iV ops).Nodup->∀{i j:Nat} {a b:Oper} {t:Nat},i≠j->ops[i]? =some a->ops[j]? =some b->a.dst=some t->b.dst≠some t
 |[],_,i,j,a,b,t,_,h,_,_=>by simp at h
 |x::l,hn,i,j,a,b,t,hij,ha,hb,h1=>by
  have hl:(iV l).Nodup:=by
   simp only[iV]at hn;split at hn
   ·exact(SA.1 hn).2
   ·exact hn
  have hx:∀t,x.dst=some t->t∉iV l:=λt ht=>by
   simp only[iV,ht]at hn;exact(SA.1 hn).1
  intro h2
  cases i with
  |zero=>
   simp at ha;subst ha
   cases j with
   |zero=>exact hij rfl
   |succ j=>exact hx t h1 (qu (by simpa using hb) h2)
  |succ i=>
   cases j with
   |zero=>simp at hb;subst hb;exact hx t h2 (qu (by simpa using ha) h1)
   |succ j=>exact AD (i:=i) (j:=j) hl (by omega) (by simpa using ha) (by simpa using hb) h1 h2
theorem Cc {masks:List Nat} {i:Nat}:∀{ops:List Oper} {k j:Nat} {o:Oper} {t:Nat},ops[j]? =some o->o.dst=some t->(masks.getD (k+j) 0).testBit i=false->t∈MJ masks i k ops
 |[],k,j,o,t,h,_,_=>by simp at h
 |x::l,k,0,o,t,h,hd,hb=>by simp at h;subst h;simp only[RZ]at hb;simp only[MJ,hb,cond_false,hd];exact RS ..
 |x::l,k,j+1,o,t,h,hd,hb=>by
  have:=Cc (ops:=l) (k:=k+1) (by simpa using h) hd (by rw[show k+1+j=k+(j+1)from by omega];exact hb);simp only[MJ];cases(masks.getD k 0).testBit i<;>simp only[cond_true,cond_false]
  ·split<;>simp[this]
  ·exact this
theorem Ja {T:List Nat} {s:List (Nat× SV)} {l:List Nat} {t:Nat} {v:SV} (h:look (mX T s l) t=some v):v∈BG s l:=by
 induction l with
 |nil=>exact nomatch h
 |cons k l ih=>
  simp only[mX]at h;simp only[BG];cases hm:mem k T<;>simp only[hm,cond_true,cond_false]at h
  ·cases hl:look s k with
   |none=>rw[hl]at h;exact ih h
   |some u=>
    rw[hl]at h;simp only[aA]at h;by_cases c:k=t
    ·rw[if_pos c]at h;cases h;exact RS
    ·rw[if_neg c]at h;exact RK _ (ih h)
  ·cases hl:look s k with
   |none=>exact ih h
   |some u=>exact RK _ (ih h)
theorem AE {k:Nat} {B:Blk}:∀{l:List DR},Ki k B l=true->∀r∈l,look r.c.upd k=none/\mem k r.c.kil.1=false/\B.J3 r.c.kil=true
 |[],_,_,h=>nomatch h
 |r::l,h,r',hr=>by
  simp only[Ki]at h;cases hc:((look r.c.upd k).isNone&&(!mem k r.c.kil.1&&B.J3 r.c.kil))<;>rw[hc]at h<;>simp only[cond_true,cond_false]at h
  ·exact nomatch h
  ·rw[Rq,Rq,Option.isNone_iff_eq_none,Tp]at hc
   rcases RN.1 hr with rfl|hr
   ·exact hc
   ·exact AE h r' hr
theorem DM {h:aI} {rs:List DR} {k:Nat}:∀{L:List Nat},QD h rs L=true->mem k L=true->∃B,look h k=some B/\∀r∈rs,look r.c.upd k=none/\mem k r.c.kil.1=false/\B.J3 r.c.kil=true
 |[],_,hm=>nomatch hm
 |i::l,hc,hm=>by
  simp only[QD]at hc;split at hc
  ·rename_i B hB;cases h1:Ki i B rs<;>rw[h1]at hc<;>simp only[cond_true,cond_false]at hc
   ·exact nomatch hc
   ·simp only[mem]at hm;cases hb:Nat.beq i k<;>rw[hb]at hm<;>simp only[cond_true,cond_false]at hm
    ·exact DM hc hm
    ·have:=Rp hb;subst this;exact⟨B,hB,AE h1⟩
  ·exact nomatch hc
theorem vI:∀{L T:List Nat},xi L T=true->∀k,mem k L=true->mem k T=false
 |[],_,_,k,hk=>nomatch hk
 |i::l,T,h,k,hk=>by
  simp only[xi]at h;cases hm:mem i T<;>rw[hm]at h
  ·simp only[mem]at hk;cases hb:Nat.beq i k<;>rw[hb]at hk
   ·exact vI h k hk
   ·rw[<-Rp hb];exact hm
  ·exact nomatch h
theorem vJ {L:List Nat}:∀{rs:List DR},BH L rs=true->∀k,mem k L=true->∀r∈rs,mem k r.c.kil.1=false
 |[],_,_,_,_,hr=>nomatch hr
 |r::l,h,k,hk,r',hr=>by
  simp only[BH]at h;cases hn:xi L r.c.kil.1<;>rw[hn]at h
  ·exact nomatch h
  ·rcases RN.1 hr with rfl|hr
   ·exact vI hn k hk
   ·exact vJ h k hk r' hr
theorem xE {cm:DR->Bool}:∀{rs:List DR},Ai cm rs=true->∀r∈rs,r.len=true->fC cm r=true
 |[],_,_,hr,_=>nomatch hr
 |r::l,h,r',hr,hl=>by
  simp only[Ai]at h;cases hn:(!r.len||fC cm r)<;>rw[hn]at h
  ·exact nomatch h
  ·rcases RN.1 hr with rfl|hr
   ·rw[hl]at hn;exact hn
   ·exact xE h r' hr hl
theorem M0 {T:Kil} {B:Blk} (h:B.J3 T=true):B.aL T=some B:=by
 cases B with
 |box cs=>simp only[Blk.aL,je cs h]
 |arr sh t xs=>
  cases sh with
  |none=>rfl
  |some d=>simp only[Blk.aL,not_false h,cond_false]
theorem lW {p:Nat->Bool} {k:Nat} {B:Blk}:∀(l:List DR) (j:Nat) (x X:SH),(∀r∈l,look r.c.upd k=none/\mem k r.c.kil.1=false/\B.J3 r.c.kil=true)->look x.2 k=some B->replay p j l x=some X->look X.2 k=some B
 |[],_,x,X,_,hx,h=>by cases h;exact hx
 |r::l,j,x,X,hl,hx,h=>by
  simp only[replay]at h;have hl':=λr' hr=>hl r' (RK _ hr);cases hp:p j<;>rw[hp]at h<;>simp only[cond_true,cond_false]at h
  ·exact lW l (j+1) x X hl' hx h
  ·rw[An]at h;obtain⟨y,hy,h⟩:=h;obtain⟨h1,hm,h2⟩:=hl r RS;refine lW l (j+1) y X hl' ?_ h;rw[wC hy,hm,cond_false,pq _ _ h1,hx,RE,M0 h2];rfl
theorem kZ {T:List Nat} {s:List (Nat× SV)} {l:List Nat} {t:Nat} {v:SV} (h:look (mX T s l) t=some v):t∉T/\look s t=some v:=by
 induction l with
 |nil=>exact nomatch h
 |cons k l ih=>
  simp only[mX]at h;cases hm:mem k T<;>simp only[hm,cond_true,cond_false]at h
  ·cases hl:look s k with
   |none=>rw[hl]at h;exact ih h
   |some u=>
    rw[hl]at h;rw[aA]at h;by_cases e:k=t
    ·subst e;rw[if_pos rfl]at h;cases h;exact⟨λh=>by rw[Rk.2 h]at hm;exact(nomatch hm),hl⟩
    ·rw[if_neg e]at h;exact ih h
  ·exact ih h
theorem xF {E:Env} {masks:List Nat} {i:Nat}:∀{l:List Oper} {k:Nat},vF E masks i k l=false->∀(j:Nat) (o:Oper),l[j]? =some o->lS E o.op=true->PZ masks i (k+j)=true
 |[],_,_,j,o,h,_=>by simp at h
 |x::l,k,h,j,o,ho,hw=>by
  simp only[vF]at h
  have hl:vF E masks i (k+1) l=false/\(lS E x.op=true->PZ masks i k=true):=by
   cases h1:lS E x.op<;>simp only[h1,cond_true,cond_false]at h
   ·exact⟨h,λh=>nomatch h⟩
   ·cases h2:PZ masks i k<;>simp only[h2,cond_true,cond_false]at h
    ·exact nomatch h
    ·exact⟨h,λ_=>rfl⟩
  cases j with
  |zero=>simp at ho;subst ho;exact hl.2 hw
  |succ j=>have:=xF hl.1 j o (by simpa using ho) hw;rwa [show k+1+j=k+(j+1)from by omega]at this
end
end Go.Proofs.Ev
