/- The evaluator over the model's code, and that it is sound: part 4. -/
import Derived.Test.YtkjdnpefjebmlaaGreatDoorEvK3
import Derived.Lib.SliceRun
import Derived.Laws.Cover3
import Derived.Orders
set_option linter.unusedVariables false
set_option linter.unusedSimpArgs false
set_option linter.unusedSectionVars false
namespace Go.Proofs.Ev
section
variable [Tok]
section
variable {w:World} {H:aP} {pl:Pl} {P:Program}
theorem sS {t:Ty} {ys:List t.El} {zs:List t.El} {q n i j:Nat} {r:R} (hn:q+n<=ys.length) (hz:zs.length=n) (h:aG t (ys.take q++zs++ys.drop (q+n)) i j r):
  (q<=i/\i<q+n/\aG t zs (i-q) j r)\/(¬(q<=i/\i<q+n)/\aG t ys i j r):=by
 obtain⟨x,hx,hr⟩:=h
 have hl:(ys.take q).length=q:=by rw[Xw];omega
 by_cases c:q<=i/\i<q+n
 ·rw[Xh,Xd (by omega),hl,Xi (by omega)]at hx;exact .inl ⟨c.1,c.2,x,hx,hr⟩
 ·refine .inr ⟨c,x,?_,hr⟩;by_cases c1:i<q
  ·rw[Xh,Xi (by omega),XG,if_pos c1]at hx;exact hx
  ·rw[Xd (by simp[hz];omega),Xl]at hx;rw[<-hx];congr 1;simp[hz];omega
theorem NW {t:Ty} {d:List Nat} {ys:List t.El} {i q num:Nat} {H':aP} {zs:List t.El} {us:List Value} {b m n cap:Nat}
  (hr:cN H pl w) (hl:look H i=some (.arr (some d) t ys)) (hzl:zs.length=num) (hh:pl.hdr i=.slice (some ⟨b,m,none⟩) n cap) (hq:q+num<=ys.length) (hus:us.length=num*t.sz) (C6:∀u∈us,one u=true)
  (hin:∀x j r,aG t zs x j r->∃u,us[x*t.sz+j]? =some u/\RepR w (okd H pl d) r u) (hpos0:0<ys.length)
  (Sv:hit [i] d=false) (ht:o9 H H' ([],[i]) i (.arr (some d) t (ys.take q++zs++ys.drop (q+num)))):
  ∃w',(storeCells ⟨b,m+q*t.sz,none⟩ us).run P w=.ok () w'/\∃fp',cU H H' ([],[i]) pl (pl.set i (pl.hdr i) fp') w w':=by
 obtain⟨⟨a,jl,b',o,vs,fs,hhd,hcap,ha,lA,hc,hrr,hd1,hd2,hfp⟩⟩:=(hr.blk i _ hl).Sp;rw[hh]at hhd;cases hhd;have hsp:=t.hY
 have hab:b=b'/\m=o:=by
  rcases ha with h|h
  ·omega
  ·cases h;exact⟨rfl,rfl⟩
 obtain⟨rfl,rfl⟩:=hab
 have Md:q*t.sz+us.length<=cap*t.sz:=by
  have:(q+num)*t.sz<=cap*t.sz:=Xr _ (by omega);rw[Xx]at this;omega
 have hcell:∀j,j<us.length->∃u,w.at? (b,m+q*t.sz+j)=some u/\calm (w.eD (b,m+q*t.sz+j))=true:=λj hj=>by
  obtain⟨⟨u,q1⟩,q2⟩:=lA (q*t.sz+j) (by omega);rw[show m+q*t.sz+j=m+(q*t.sz+j)from by omega];exact⟨u,q1,sO q2⟩
 have hst:=run_storeCells_cells (P:=P) b (m+q*t.sz) us 0 w (λj hj=>by
   obtain⟨u,q1,_⟩:=hcell j hj;simp only[XB];have q1:w.cell? ⟨b,m+q*t.sz+j,none⟩=some u:=q1
   rw[q1];rfl) (λj hj=>by
   obtain⟨u,q1,q2⟩:=hcell j hj
   simp only[XB];exact mC q1 q2) (λu hu=>pZ (C6 u hu))
 simp only[XB]at hst
 have iF:∀j,j<us.length->(w.setCells b (m+q*t.sz) us).at? (b,m+q*t.sz+j)=us[j]? :=λj hj=>by
  have:=World.cell?_setCells_in b us (m+q*t.sz) w (λj hj=>by
   obtain⟨u,q1,_⟩:=hcell j hj;have q1:w.cell? ⟨b,m+q*t.sz+j,none⟩=some u:=q1
   rw[q1];rfl) j hj
  rw[On hj];simpa[World.at?]using this
 have dD:∀p u,w.at? p=some u->¬(p.1=b/\m+q*t.sz<=p.2/\p.2<m+q*t.sz+us.length)->(w.setCells b (m+q*t.sz) us).at? p=some u:=λp u hp hno=>by
  unfold World.at? at*;rw[World.cell?_setCells_out b _ _ w _ (λe1 _=>by simp at e1;simp;omega)];exact hp
 have EE:∀p,(w.setCells b (m+q*t.sz) us).eD p=w.eD p:=λp=>gH _ _ _ _ _;have vr:∀p,reg b m (cap*t.sz) p->pl.fp i p:=λp hp=>(hfp p).2 (.inl hp);have CD:∀i' j r p,aG t ys i' j r->fs i' j p->pl.fp i p:=λi' j r p hx hf=>(hfp p).2 (.inr ⟨i',j,r,hx,hf⟩)
 have hmi:mem i [i]=true:=by simp[mem]
 have EM:(ys.take q++zs++ys.drop (q+num)).length=ys.length:=by simp[hzl];omega
 refine⟨_,hst,λp=>reg b m (cap*t.sz) p\/∃i' j r,aG t ys i' j r/\¬(q<=i'/\i'<q+num)/\fs i' j p,?_⟩;refine kL (dy.setCells _ _ _ _) hr ht (λx hx=>nomatch hx) (λx hx=>?_) (.inr ⟨_,hl,hmi,by simp only[Blk.nv];exact⟨trivial,EM.symm⟩,rfl⟩) (λp u hp hno=>⟨dD p u hp λhin=>?_,EE p⟩) (λp hp=>?_) (λp hp=>?_) λhkp=>?_
 ·refine .inr ?_;simp only[mem]at hx;cases hb:Nat.beq i x
  ·rw[hb]at hx;exact nomatch hx
  ·exact(So hb).symm
 ·exact hno i _ hmi hl (vr p ⟨hin.1,by omega,by omega⟩)
 ·refine hr.nb p ?_
  cases hq':w.at? p with
  |none=>rfl
  |some u=>
   by_cases hin:p.1=b/\m+q*t.sz<=p.2/\p.2<m+q*t.sz+us.length
   ·obtain⟨p1,p2⟩:=p;obtain⟨e1,e2,e3⟩:=hin;simp only at e1 e2 e3;subst e1;have:=iF (p2-(m+q*t.sz)) (by omega);rw[show m+q*t.sz+(p2-(m+q*t.sz))=p2 from by omega,hp,On (by omega)]at this;exact nomatch this
   ·rw[dD p u hq' hin]at hp;exact nomatch hp
 ·rcases hp with hp|⟨i',j,r,hx,_,hf⟩
  ·exact .inr ⟨i,_,hmi,hl,vr p hp⟩
  ·exact .inr ⟨i,_,hmi,hl,CD i' j r p hx hf⟩
 ·have zr:∀{i' j},j<t.sz->¬(q<=i'/\i'<q+num)->¬(m+q*t.sz<=m+(i'*t.sz+j)/\m+(i'*t.sz+j)<m+q*t.sz+us.length):=λ{i' j} hj hne ⟨g1,g2⟩=>by
   rcases Nat.lt_or_ge i' q with h|h
   ·have:(i'+1)*t.sz<=q*t.sz:=Xr _ h;rw[Yx]at this;omega
   ·have h2:q+num<=i':=by omega
    have:(q+num)*t.sz<=i'*t.sz:=Xr _ h2;rw[Xx]at this;omega
  refine eE.oA ⟨some ⟨b,m,none⟩,cap,b,m,λi' j=>if q<=i'/\i'<q+num then(us[(i'-q)*t.sz+j]?).getD undef else vs i' j,λi' j p=>¬(q<=i'/\i'<q+num)/\fs i' j p,by rw[EM];simp[Pl.set,hh],by rw[EM];exact hcap,.inr rfl,λj hj=>⟨?_,by rw[EE];exact(lA j hj).2⟩,λi' j r hx=>?_,λi' j r hx=>?_,λi' j r p hx hf=>?_,λi' j r i2 j2 r2 p hx hx' hf hf'=>?_,λp=>?_⟩
  ·by_cases hin:q*t.sz<=j/\j<q*t.sz+us.length
   ·have:=iF (j-q*t.sz) (by omega);rw[show m+q*t.sz+(j-q*t.sz)=m+j from by omega]at this;exact⟨_,this.trans (On (by omega))⟩
   ·obtain⟨u,hu⟩:=(lA j hj).1;exact⟨u,dD _ u hu λh=>hin ⟨by have:=h.2.1;simp at this;omega,by have:=h.2.2;simp at this;omega⟩⟩
  ·rcases sS hq hzl hx with⟨g1,g2,g3⟩|⟨g1,g2⟩
   ·rw[if_pos ⟨g1,g2⟩];obtain⟨u,hu,_⟩:=hin _ _ _ g3;have hlt:=(Of.1 hu).1;have:=iF _ hlt
    have e:m+q*t.sz+((i'-q)*t.sz+j)=m+(i'*t.sz+j):=by
     have:i'*t.sz=q*t.sz+(i'-q)*t.sz:=by rw[<-Xx];congr 1;omega
     omega
    rw[e]at this;rw[this,hu];rfl
   ·rw[if_neg g1];exact dD _ _ (hc _ _ _ g2) λh=>zr (aR g2).2 g1 ⟨h.2.1,h.2.2⟩
  ·rcases sS hq hzl hx with⟨g1,g2,g3⟩|⟨g1,g2⟩
   ·rw[if_pos ⟨g1,g2⟩];obtain⟨u,hu,hI⟩:=hin _ _ _ g3;rw[hu,Yu];have hno:∀p,¬(¬(q<=i'/\i'<q+num)/\fs i' j p):=λp hf=>hf.1 ⟨g1,g2⟩;rw[hh];exact⟨hI.frame λp u hp hu=>(hh▸hkp).k2 d p u (λx hx=>fM _ d Sv x hx) hp hu,hno⟩
   ·simp only[if_neg g1];have hI:=hrr _ _ _ g2;rw[hh];exact⟨hI.1.frame λp u hp hu=>(hh▸hkp).k2 d p u (λx hx=>fM _ d Sv x hx) hp hu,λp hf=>hI.2 p hf.2⟩
  ·rcases sS hq hzl hx with⟨g1,g2,g3⟩|⟨g1,g2⟩
   ·exact(hf.1 ⟨g1,g2⟩).elim
   ·exact hd1 _ _ _ p g2 hf.2
  ·rcases sS hq hzl hx with⟨g1,g2,g3⟩|⟨g1,g2⟩
   ·exact(hf.1 ⟨g1,g2⟩).elim
   ·rcases sS hq hzl hx' with⟨q1,q2,q3⟩|⟨q1,q2⟩
    ·exact(hf'.1 ⟨q1,q2⟩).elim
    ·exact hd2 _ _ _ _ _ _ p g2 q2 hf.2 hf'.2
  ·simp only[Pl.set,if_true];constructor
   ·rintro (h|⟨i',j,r,hx,hne,hf⟩)
    ·exact .inl h
    ·have hlt:=aR hx;obtain⟨r',hr'⟩:=dV (t:=t) (xs:=ys.take q++zs++ys.drop (q+num)) (i:=i') (j:=j) (by rw[EM];exact hlt.1) hlt.2;exact .inr ⟨i',j,r',hr',hne,hf⟩
   ·rintro (h|⟨i',j,r,hx,hf⟩)
    ·exact .inl h
    ·rcases sS hq hzl hx with⟨g1,g2,g3⟩|⟨g1,g2⟩
     ·exact(hf.1 ⟨g1,g2⟩).elim
     ·exact .inr ⟨_,_,_,g2,hf⟩
theorem NX {i:Nat}:∀{d:List Nat},mem i d=false->hit [i] d=false
 |[],_=>rfl
 |k::l,h=>by
  simp only[mem]at h;cases hb:Nat.beq k i
  ·rw[hb,cond_false]at h
   have:mem k [i]=false:=by
    simp only[mem];cases hc:Nat.beq i k
    ·rfl
    ·have:=So hc;subst this;simp at hb
   simp only[hit,this,cond_false];exact NX h
  ·rw[hb]at h;exact nomatch h
theorem Qw {o:Oper} {a:Act} {s:List (Nat× SV)} {n:Nat} {args:Array Operand} {tys:Array TypeId} {T e:TypeId} {sz:Nat} {t:Ty} {z:List SV} {d:List Nat} {xs:List t.El} {i q off num:Nat}
  (hr:cN H pl w) (hs:gJ w H pl s a) (ho:o.op=.call {callee:=.builtin .append,args:=args,argTypes:=tys}) (hvs:uw s args.toList=some [.sub i 0 q,.sub i off num]) (hty:tys.toList=[T,T])
  (he:mz P T=some e) (hsz:ji P e=some sz) (hts:t.sz=sz) (hz:gg P e=some z) (hl:look H i=some (.arr (some d) t xs)) (hd:mem i d=false) (hq:q+num<=xs.length) (Uf:off+num<=xs.length) (Md:1<=xs.length):
  kK P o a w H pl n {v:=.sub i 0 (q+num),upd:=[(i,.arr (some d) t (xs.take q++(xs.drop off).take num++xs.drop (q+num)))],mB:=[i]}:=by
 refine⟨λj B h=>?_,λH' next Q ha hN=>?_⟩
 ·rw[aH]at h;by_cases e:i=j
  ·subst e;exact⟨_,hl⟩
  ·rw[if_neg e]at h;simp[look]at h
 obtain⟨ht,_⟩:=vt (c:={v:=.sub i 0 (q+num),upd:=[(i,.arr (some d) t (xs.take q++(xs.drop off).take num++xs.drop (q+num)))],mB:=[i]}) hl rfl rfl rfl ha;obtain⟨p,p',hpq,hp,hp'⟩:=sP hvs;have hpr:=aW hs hp;have V9:=aW hs hp'
 have tV:args.map a.eval=#[a.eval p,a.eval p']:=by rw[show args=#[p,p']from YQ hpq];simp
 have hta:tys=#[T,T]:=YQ hty
 obtain⟨ti,hti,rfl⟩:=mn hsz;obtain⟨zu,hzu,hzc⟩:=j3 hr hti hz;obtain⟨R⟩:=hr.blk i _ hl;have hcap:=R.hcap;have hA:R.a=some ⟨R.b,R.o,none⟩:=R.ha.resolve_left (by omega)
 have hhd:pl.hdr i=.slice (some ⟨R.b,R.o,none⟩) xs.length R.cap:=by rw[<-hA];exact R.As
 have e1:a.eval p=.slice (some ⟨R.b,R.o,none⟩) q R.cap:=by
  generalize a.eval p=u at hpr
  cases hpr with
  |sub _ _ _ sh2 t2 xs2 a1 a2 cap1 cap2 hl2 hh2 hn1 hc hc' ha2=>
   rw[hl]at hl2;cases hl2;rw[hhd]at hh2;cases hh2
   have hcc:cap2=R.cap:=by omega
   subst hcc
   rcases ha2 with h|h
   ·omega
   ·rw[h];simp[Addr.add]
 obtain⟨A3,cap3,e2,hc3,hA3⟩:∃A3 cap3,a.eval p'=.slice A3 num cap3/\num<=cap3/\(num=0\/A3=some ⟨R.b,R.o+off*t.sz,none⟩):=by
  generalize a.eval p'=u at V9
  cases V9 with
  |sub _ _ _ sh2 t2 xs2 a1 a2 cap1 cap2 hl2 hh2 hn1 hc hc' ha2=>
   rw[hl]at hl2;cases hl2;rw[hhd]at hh2;cases hh2;refine⟨a2,cap2,rfl,hc,?_⟩
   rcases ha2 with h|h
   ·exact .inl (by omega)
   ·exact .inr (by rw[h];simp[vo])
 have hsp:=t.hY
 have uB:∀k,k<num*t.sz->∃r,aG t xs (off+k/t.sz) (k %t.sz) r:=λk hk=>by
  have:k/t.sz<num:=by rw[Y5 hsp];exact hk
  exact dV (by omega) (Zi _ hsp)
 have hus:((List.range (num*t.sz)).map λk=>R.vs (off+k/t.sz) (k %t.sz)).length=num*t.sz:=by simp
 generalize WA:(List.range (num*t.sz)).map (λk=>R.vs (off+k/t.sz) (k %t.sz))=us at hus
 have AB:∀k,k<num*t.sz->us[k]? =some (R.vs (off+k/t.sz) (k %t.sz)):=λk hk=>by rw[<-WA,jo hk]
 have hcell:∀k,k<num*t.sz->w.at? (R.b,R.o+(off*t.sz+k))=some (R.vs (off+k/t.sz) (k %t.sz)):=λk hk=>by
  obtain⟨r,hx⟩:=uB k hk;have:=R.hc _ _ _ hx;rw[Xx,XX,show k/t.sz*t.sz+k %t.sz=k from by rw[XD];exact Y4 _ _]at this;exact this
 obtain⟨w',hst,fp',vp⟩:=NW (P:=P) (zs:=(xs.drop off).take num) (us:=us) hr hl (by rw[Xw,XZ];omega) hhd hq hus (λu hu=>by
   obtain⟨k,hk⟩:=X2 hu
   have hkl:k<num*t.sz:=by rw[<-hus];exact(Of.1 hk).1
   rw[AB k hkl]at hk;cases hk;obtain⟨r,hx⟩:=uB k hkl
   exact(R.hr _ _ _ hx).1.tT) (λx j r hx=>by
   obtain⟨y,hy,hyr⟩:=hx
   have hxl:x<num:=by have:=(Of.1 hy).1;rw[Xw]at this;omega
   have hjl:j<t.sz:=by have:=(Of.1 hyr).1;rwa [Ty.cd]at this
   rw[XG,if_pos hxl,Xl]at hy;have hx':aG t xs (off+x) j r:=⟨y,hy,hyr⟩;refine⟨R.vs (off+x) j,?_,(R.hr _ _ _ hx').1⟩;have hlt:x*t.sz+j<num*t.sz:=rz hxl hjl (Xt _);rw[AB _ hlt]
   have g1:(x*t.sz+j)/t.sz=x:=by rw[XD,YB hsp,Yn hjl];simp
   have g2:(x*t.sz+j) %t.sz=j:=by rw[XD,Yc,XK hjl]
   rw[g1,g2]) Md (NX hd) ht
 have hfc:(Builtin.firstCells ti.size num (.slice A3 num cap3)).run P w=.ok us.toArray w:=by
  rw[<-hts]
  rcases hA3 with h0|hA3
  ·subst h0;have hn':us=[]:=XI.1 (by simpa using hus);subst hn'
   cases A3 with
   |none=>exact run_firstCells_none w _ _ _ _
   |some A=>exact run_firstCells_some w t.sz 0 A 0 cap3 [] (by simp) (λj v hv=>by simp at hv)
  ·subst hA3;refine run_firstCells_some w t.sz num _ num cap3 us hus λj v hv=>?_
   have hj:j<num*t.sz:=by rw[<-hus];exact(Of.1 hv).1
   rw[AB j hj]at hv;cases hv;have:=hcell j hj;rw[Addr.add_lit,XX];exact this
 have lC:(Builtin.append_ #[T,T] o.type #[.slice (some ⟨R.b,R.o,none⟩) q R.cap,.slice A3 num cap3]).run P w=.ok (.slice (some ⟨R.b,R.o,none⟩) (q+num) R.cap) w':=by
  have NN:q+num<=R.cap:=by omega
  rw[hts]at hst;simp[Builtin.append_,run_underlying (mm he),sizeOf,typeInfo,hti,Builtin.lenOf,NN,hfc,Addr.add_lit,hst]
 refine mD (u:=.slice (some ⟨R.b,R.o,none⟩) (q+num) R.cap) (w':=w') ?_ (hN _ _ w' vp ?_)
 ·rw[execOp,ho,hta];simp only[resolve,tV,invoke,builtin,Sem.run_bind,Sem.run_pure,Result.andThen_ok,e1,e2,lC]
 ·refine .sub i 0 (q+num) (some d) t _ (some ⟨R.b,R.o,none⟩) _ R.cap R.cap ht.Ud (by simp[Pl.set,hhd,W5];omega) (by simp;omega) (by omega) (by omega) (.inr (by simp[Addr.add]))
end
end
section
variable [Tok]
section
variable {w:World} {H:aP} {pl:Pl} {P:Program}
def mark (w:World) (b n:Nat):World:=w.freeze ⟨b,n,none⟩ 1
def NY (n:Nat) (fr:Nat× Nat):Nat× Nat:=if fr.1==fr.2 then(n,n+1)else(min fr.1 n,max fr.2 (n+1))
theorem xb {b n:Nat} {c:Array Value} {e:TypeId} {fr:Nat× Nat} (h:w.heap[b]? =some (.cells c e fr)):(mark w b n).heap[b]? =some (.cells c e (NY n fr)):=by
 unfold mark World.freeze NY;rw[if_neg (by decide)];simp only[Array.getElem?_modify,if_true,h];rfl
theorem xc {b n i:Nat} (h:i≠b):(mark w b n).heap[i]? =w.heap[i]? :=by
 unfold mark World.freeze;rw[if_neg (by decide)];simp only[Array.getElem?_modify];rw[if_neg (λe:b=i=>h e.symm)]
theorem NZ {b n:Nat} {c:Array Value} {e:TypeId} {fr:Nat× Nat} (h:w.heap[b]? =some (.cells c e fr)) (p:Cell):(mark w b n).at? p=w.at? p:=by
 unfold World.at? World.cell?;by_cases q:p.1=b
 ·simp only[q,h,xb h]
 ·simp only[xc q]
theorem oB {b n:Nat} {p:Cell} (h:p.1≠b):(mark w b n).eD p=w.eD p:=by
 unfold World.eD;rw[xc h]
theorem KC {b n j o m:Nat} {c:Array Value} {e:TypeId} {fr:Nat× Nat} (h:w.heap[b]? =some (.cells c e fr)) (hn:n=c.size) (hw:whole (w.eD (b,j)) o m=true):whole ((mark w b n).eD (b,j)) o m=true:=by
 unfold World.eD at*;simp only[h]at hw;simp only[xb h];unfold whole calm at*;simp only[W3,decide_eq_true_eq]at*;refine⟨?_,hw.2⟩;unfold NY;obtain⟨lo,hi⟩:=fr;simp only at hw⊢;by_cases q:lo=hi
 ·subst q;simp;omega
 ·have:(lo==hi)=false:=by simpa using q
  rw[this];simp only[Yt,if_false];omega
theorem EN {b j:Nat} {u:Value} (h:w.at? (b,j)=some u):∃c e fr,w.heap[b]? =some (.cells c e fr)/\j<c.size:=by
 unfold World.at? World.cell? at h
 cases hb:w.heap[b]? with
 |none=>simp[hb]at h
 |some ob=>
  cases ob with
  |cells c e fr=>
   simp only[hb,YF,Yt,if_false]at h
   exact⟨c,e,fr,rfl,(Xp.1 h).1⟩
  |_=>simp[hb]at h
theorem N0 {i b n cap:Nat} {sh:Option (List Nat)} {t:Ty} {xs:List t.El} {a:Option Addr} {o:Nat} {c:Array Value} {e:TypeId} {fr:Nat× Nat} (hr:cN H pl w) (hl:look H i=some (.arr sh t xs))
  (hb:w.heap[b]? =some (.cells c e fr)) (hc0:0<c.size) (hn:n=c.size) (hin:∀j,j<c.size->pl.fp i (b,j)) (hsz:c.size=cap*t.sz) (P8:eE (mark w b n) H pl i (.arr sh t xs)):
  cU H H ([],[]) pl pl w (mark w b n):=by
 have hat:=λp=>NZ (n:=n) hb p
 have I6:∀p u,w.at? p=some u->p.1=b->pl.fp i p:=λp u hp q=>by
  obtain⟨p1,p2⟩:=p;simp only at q;subst q;obtain⟨c',e',fr',h1,h2⟩:=EN hp;rw[hb]at h1;cases h1;exact hin p2 h2
 have hk:lM ([],[]) w H pl (mark w b n) H pl:=⟨λj B hB _=>⟨B,hB,B.du,rfl⟩,λd p u _ ho hp=>⟨ho,(hat p).trans hp⟩⟩;refine⟨⟨λj B hB=>?_,hr.dis,hr.ob,λp hp=>hr.nb p ((hat p).symm.trans hp)⟩,hk,rfl,⟨rfl,rfl,λk hk'=>?_⟩,λp u hp hno=>⟨hno,(hat p).trans hp,oB λq=>hno i _ hl (I6 p u hp q)⟩⟩
 ·by_cases q:j=i
  ·subst q;rw[hl]at hB;cases hB;exact P8
  ·refine(hr.blk j B hB).cr hk rfl (λ_=>ZJ) (λp u hf hu=>⟨(hat p).trans hu,oB λq'=>q (hr.dis j i B _ p hB hl hf (I6 p u hu q'))⟩) B.dv
 ·by_cases q:k=b
  ·subst q;rw[hb,xb hb];exact⟨rfl,.inr hc0,rfl⟩
  ·rw[xc q];split
   ·rename_i e1 e2;rw[e1]at e2;cases e2;exact⟨rfl,.inl rfl,rfl⟩
   ·rfl
theorem Qx {o:Oper} {a:Act} {T:TypeId} {x:Operand} {m i:Nat} {sh:Option (List Nat)} {t:Ty} {y:t.El} {ys:List t.El} (hr:cN H pl w) (ho:o.op=.convert T T x) (hT:yG P T=true)
  (hl:look H i=some (.arr sh t (y::ys))) (hx:au w H pl (.own i) (a.eval x)):kK P o a w H pl m {v:=.own i}:=by
 have ha:a.eval x=pl.hdr i:=by generalize a.eval x=u at hx;cases hx;rfl
 unfold yG mz at hT;split at hT
 ·rename_i e he;split at he
  ·rename_i e' hu;cases he;split at hT
   ·rename_i he8;have P8:=hr.blk i _ hl
    obtain⟨ad,cap,b,o',hh,hlen,Vp,lA⟩:∃ad cap b o',pl.hdr i=.slice ad (y::ys).length cap/\(y::ys).length<=cap/\(cap=0\/ad=some ⟨b,o',none⟩)/\
      (∀j,j<cap*t.sz->(∃v,w.at? (b,o'+j)=some v)/\whole (w.eD (b,o'+j)) o' (cap*t.sz)=true/\pl.fp i (b,o'+j)):=by
     cases sh with
     |none=>obtain⟨⟨ad,cap,b,o',vs,fs,q1,q2,q3,q4,q5,q6,q7,q8,q9⟩⟩:=P8;exact⟨ad,cap,b,o',q1,q2,q3,λj hj=>⟨(q4 j hj).1,(q4 j hj).2,(q9 _).2 (.inl ⟨rfl,by simp,by simp;omega⟩)⟩⟩
     |some d=>obtain⟨⟨ad,cap,b,o',vs,fs,q1,q2,q3,q4,q5,q6,q7,q8,q9⟩⟩:=P8;exact⟨ad,cap,b,o',q1,q2,q3,λj hj=>⟨(q4 j hj).1,(q4 j hj).2,(q9 _).2 (.inl ⟨rfl,by simp,by simp;omega⟩)⟩⟩
    have hcap:0<cap:=by simp at hlen;omega
    have Md:0<cap*t.sz:=Nat.mul_pos hcap (Ty.hY t);obtain⟨⟨v0,hv0⟩,hw0,_⟩:=lA 0 Md;obtain⟨c,ee,fr,hb,hc0⟩:=EN hv0
    have ho0:o'=0/\c.size=cap*t.sz:=by
     unfold whole World.eD at hw0;simp only[hb,W3,decide_eq_true_eq]at hw0;exact hw0.2
    obtain⟨rfl,hsz⟩:=ho0;have Vp:=Vp.resolve_left (by omega);subst Vp
    have hin:∀j,j<c.size->pl.fp i (b,j):=λj hj=>by
     have:=(lA j (by omega)).2.2;rwa [Xe]at this
    have Uj:w.shape? b=some (ee,c.size):=by unfold World.shape?;rw[hb]
    have lC:(execOp a.eval o).run P w=.ok (.value (a.eval x)) (mark w b c.size):=by
     rw[execOp,ho,ha,hh];simp[ha,hh,convert,run_underlying hu,run_underlying he8,markStringish,Uj,mark]
    have hat:=λp=>NZ (n:=c.size) hb p;have hk:lM ([],[]) w H pl (mark w b c.size) H pl:=⟨λj B hB _=>⟨B,hB,B.du,rfl⟩,λd p u _ ho hp=>⟨ho,(hat p).trans hp⟩⟩
    have hnb:∀p,reg b 0 (cap*t.sz) p\/p.1≠b\/w.at? p=none:=λp=>by
     by_cases q:p.1=b
     ·cases hp:w.at? p with
      |none=>exact .inr (.inr rfl)
      |some u=>
       obtain⟨p1,p2⟩:=p;simp only at q;subst q;obtain⟨c',e',fr',h1,h2⟩:=EN hp;rw[hb]at h1;cases h1;exact .inl ⟨rfl,XE _,by simp only;omega⟩
     ·exact .inr (.inl q)
    have U2:eE (mark w b c.size) H pl i (.arr sh t (y::ys)):=by
     cases sh with
     |none=>
      obtain⟨⟨ad,jl,b',o',vs,fs,q1,q2,q3,q4,q5,q6,q7,q8,q9⟩⟩:=P8;rw[hh]at q1;cases q1;have q3:=q3.resolve_left (by omega);cases q3;refine⟨⟨_,cap,b,0,vs,fs,hh,q2,.inr rfl,λj hj=>⟨?_,KC hb rfl (q4 j hj).2⟩,λi' j r h=>(hat _).trans (q5 i' j r h),λi' j r h=>(q6 i' j r h).frame λp u hp hu=>⟨(hat p).trans hu,oB λq=>?_⟩,q7,q8,q9⟩⟩
      ·obtain⟨⟨v,hv⟩,_⟩:=q4 j hj;exact⟨v,(hat _).trans hv⟩
      ·rcases hnb p with h1|h1|h1
       ·exact q7 _ _ _ p h hp h1
       ·exact h1 q
       ·rw[hu]at h1;exact nomatch h1
     |some d=>
      obtain⟨⟨ad,jl,b',o',vs,fs,q1,q2,q3,q4,q5,q6,q7,q8,q9⟩⟩:=P8;rw[hh]at q1;cases q1;have q3:=q3.resolve_left (by omega);cases q3;refine⟨⟨_,cap,b,0,vs,fs,hh,q2,.inr rfl,λj hj=>⟨?_,KC hb rfl (q4 j hj).2⟩,λi' j r h=>(hat _).trans (q5 i' j r h),λi' j r h=>⟨(q6 i' j r h).1.frame λp u hp hu=>⟨hp,(hat p).trans hu⟩,(q6 i' j r h).2⟩,q7,q8,q9⟩⟩;obtain⟨⟨v,hv⟩,_⟩:=q4 j hj;exact⟨v,(hat _).trans hv⟩
    refine⟨λj B h=>by simp[look]at h,λH' next Q ha' hN=>?_⟩;cases ha'
    have hH:ua [] H++aQ m []=H:=by simp[ua,aQ]
    simp only[hH]at hN;have hst:=N0 (n:=c.size) hr hl hb hc0 rfl hin hsz U2 (a:=some ⟨b,0,none⟩) (o:=0);exact mD lC (hN _ pl _ hst (hx.zq hk))
   ·exact nomatch hT
  ·exact nomatch he
 ·exact nomatch hT
end
end
section
variable [Tok] [Glo]
def GH (P:Program) (g:FuncId):Prop:=∀(args:Array Value) (w:World),(callFunc g args).run P w=.ok (.enter g args) w
theorem enters_of {P:Program} {g:FuncId} {fn:Func} (h:P.funcs[g]? =some fn) (hb:fn.body.isNone=false) (hn:(fn.name== "runtime.NumGoroutine")=false):GH P g:=by
 intro args w
 have hn':¬fn.name= "runtime.NumGoroutine":=by simpa using hn
 have hb':¬fn.body=none:=λe=>by rw[e]at hb;cases hb
 simp[callFunc,h,hb',hn']
def N1 (P:Program) (g:FuncId) (nid:Nat) (vs:List SV) (H:aP) (c:CR):Prop:=
 GH P g/\(∀i B,look c.upd i=some B->∃B',look H i=some B')/\
 ∀(H1:aP) (pl:Pl) (w:World) (us:Array Value),Ext H H1->cN H1 pl w->RF w H1 pl->(∀k,k<c.news.length->look H1 (nid+k)=none)->vs.length=us.size->
  (∀(j:Nat) (x:SV) (u:Value),vs[j]? =some x->us[j]? =some u->au w H1 pl x u)->∀H',after H1 nid c=some H'->
  Calls P g us w λe w'=>∃u pl',e=.returned u/\cU H1 H' c.kil pl pl' w w'/\au w' H' pl' c.v u
def tW (P:Program) (g:FuncId) (o:Orc):Prop:=
 ∀(ρ:Type) nid vs H (K:CR->Option ρ) (out:ρ),o ρ nid vs H K=some out->∃c,K c=some out/\N1 P g nid vs H c
theorem Qy (P:Program) (g:FuncId):tW P g TS:=λ_ _ _ _ _ _ h=>nomatch h
def oC (E:Env):Prop:=∀g,tW E.P g (E.orc g)
section
variable {w:World} {H:aP} {pl:Pl} {P:Program}
theorem Qz {o:Oper} {a:Act} {s:List (Nat× SV)} {f:Operand} {args:Array Operand} {tys:Array TypeId} {g:FuncId} {first vs cap:List SV} {n:Nat} {c:CR} {H0:aP}
  (he:Ext H0 H) (hr:cN H pl w) (hgl:RF w H pl) (hs:gJ w H pl s a) (hn:∀k,k<c.news.length->look H (n+k)=none) (ho:o.op=.call {callee:=.value f,args:=args,argTypes:=tys})
  (hf:opd s f=some (.fn (.func g) first cap)) (hv:uw s args.toList=some vs) (hc:N1 P g n (first++vs++cap) H0 c):kK P o a w H pl n c:=by
 obtain⟨hen,hup,Sw⟩:=hc;refine⟨λi B hB=>(hup i B hB).imp λB' h=>he i B' h,λH' next Q ha hN=>?_⟩;have hfr:=aW hs hf;obtain⟨g1,g2⟩:=Ez hs hv;generalize hfe:a.eval f=fe at hfr
 cases hfr with
 |fn _ _ _ us vs' hl h1 hl' h2=>
  have hlen:(first++vs++cap).length=(us++args.map a.eval++vs').size:=by simp only[W5,Array.size_append,hl,hl',g1]
  have hpt:∀(j:Nat) (x:SV) (u:Value),(first++vs++cap)[j]? =some x->(us++args.map a.eval++vs')[j]? =some u->au w H pl x u:=λj x u hx hu=>by
   grind
  have hcl:=Sw H pl w _ he hr hgl hn hlen hpt H' ha;unfold Oper.wp
  have lC:(execOp a.eval o).run P w=.ok (.enter g (us++args.map a.eval++vs')) w:=by
   rw[execOp,ho];simp only[resolve,hfe,Deferred.ofValue,invoke,Sem.run_bind,Sem.run_pure,Result.andThen_ok];exact hen _ w
  rw[lC];show Calls P g _ w _;refine hcl.mono λe w' ⟨u,pl',he,hst,hv⟩=>?_;grind
variable {ρ:Type}
def GI (P:Program) (o:Oper) (n:Nat) (c:CR) (s:List (Nat× SV)) (h:aP):Prop:=
 ∀(s':List (Nat× SV)) (H:aP) (a:Act) (w:World) (pl:Pl),Ext s s'->Ext h H->cN H pl w->gJ w H pl s' a->(∀k,k<c.news.length->look H (n+k)=none)->RF w H pl->kK P o a w H pl n c
theorem EO {H:aP} {n:Nat} {B:Blk} (h:∀k,k<[B].length->look H (n+k)=none):look H n=none:=h 0 (by simp)
theorem Sx (hr:cN H pl w) {o:Oper} {a:Act} {T:TypeId} {p:Operand} {n i x k:Nat} {t:Ty} {xs:List t.El} (ho:o.op=.load T p) (hT:Kj P T=true)
  (hl:look H i=some (.arr none t xs)) (hk:k<t.sz) (hp:au w H pl (.ptr i x k) (a.eval p)):kK P o a w H pl n {v:=.inn i x k}:=by
 generalize he:a.eval p=u at hp
 cases hp with
 |wQ _ _ cs b m hl' hh=>grind
 |vg _ _ _ sh t' xs' b m nn cap hl' hx hh=>
  rw[hl]at hl';cases hl';obtain⟨⟨a',jl,b',o',vs,fs,h1,h2,h3,h4,h5,h6,h7,h8,h9⟩⟩:=hr.blk i _ hl;rw[hh]at h1;cases h1;have h3:=h3.resolve_left (by omega);cases h3;obtain⟨r,hcell⟩:=dV hx hk;have hat:=h5 x k r hcell;have C6:one (vs x k)=true:=((h6 _ _ _ hcell).Nz (ok:=λ_=>True) (λ_ _=>trivial)).tT;have hfp:pl.fp i (b,m+(x*t.sz+k)):=(h9 _).2 (.inl ⟨rfl,by simp,by have:=rz hx hk h2;simp;omega⟩);obtain⟨el,_,hu,_⟩:=Et hT;refine o8 (u:=vs x k) hr ?_ (.inn i x k none t xs b m _ _ _ hl hx hk hh ⟨hr.ob i _ _ hl hfp,λj B hB hm hf=>?_⟩ hat C6)
  ·rw[execOp,ho];refine eP ?_;rw[Instr.loadAt,he];have hat:w.cell? ⟨b,m+(x*t.sz+k),none⟩=some (vs x k):=hat
   have h1:(loadVar T ⟨b,m+(x*t.sz+k),none⟩).run P w=.ok (vs x k) w:=by simp[loadVar,mi hu,Am,hu,hat]
   exact h1
  ·have:=hr.dis j i _ _ _ hB hl hf hfp;subst this;rw[hl]at hB;cases hB;have:=hm (by simp[mem]);cases this
theorem I7 {E:Env} {o:Oper} {s:List (Nat× SV)} {h0:aP} {n:Nat} {K:CR->Option ρ} {out:ρ} {args:Array Operand} {tys:Array TypeId} {b x:SV} {T T' e:TypeId} {sz:Nat} {t:Ty}
  (ho:o.op=.call {callee:=.builtin .append,args:=args,argTypes:=tys}) (hvs:uw s args.toList=some [b,x]) (hty:tys.toList=[T,T']) (he:mz E.P T=some e) (hsz:ji E.P e=some sz)
  (h:II E h0 n e sz t T' b x K=some out):∃c,K c=some out/\GI E.P o n c s h0:=by
 unfold II at h;split at h
 ·cases hb:(TZ E.P T'&&(ry E.P e&&Nat.beq t.sz sz))<;>simp only[hb,cond_true,cond_false,An]at h
  ·cases h
  simp only[W3]at hb;obtain⟨l,hl,z,hz,q,hq,h⟩:=h;cases hi:(isNil q.1&&Nat.beq z.length sz)<;>simp only[hi,cond_true,cond_false]at h
  ·cases h
  simp only[W3]at hi;split at h
  ·rename_i y hy;cases hd:decide (1<=l/\l<=(aO:Int))<;>simp only[hd,cond_true,cond_false]at h
   ·cases h
   have hd:=of_decide_eq_true hd
   have hq':jk h0 t 1 z=some ([],[y]):=by rw[hq];obtain⟨q1,q2⟩:=q;simp only at hy hi;rw[hy,eO hi.1]
   exact⟨_,h,λs' H a w pl es eh hr hs hn hgl=>CB hr hs (EO hn) ho (jW es _ _ hvs) hty hl hb.1 he hsz hb.2.1 (So hb.2.2) hz (So hi.2) (kJ eh _ _ _ _ hq') hd⟩
  ·cases h
 ·cases h
theorem I8 {P:Program} {o:Oper} {s:List (Nat× SV)} {h0:aP} {n:Nat} {K:CR->Option ρ} {out:ρ} {args:Array Operand} {tys:Array TypeId} {b x:SV} {T e:TypeId} {sz:Nat} {t:Ty} {z:List SV}
  (ho:o.op=.call {callee:=.builtin .append,args:=args,argTypes:=tys}) (hvs:uw s args.toList=some [b,x]) (hty:tys.toList=[T,T]) (he:mz P T=some e) (hsz:ji P e=some sz) (hts:t.sz=sz) (hz:gg P e=some z)
  (h:IJ h0 t b x K=some out):∃c,K c=some out/\GI P o n c s h0:=by
 unfold IJ at h;split at h
 ·rename_i i a i' off num;cases hi:Nat.beq i i'<;>simp only[hi,cond_true,cond_false]at h
  ·cases h
  have:=So hi;subst this;split at h
  ·rename_i d t' xs hl;split at h
   ·rename_i htt;subst htt;cases hm:mem i d<;>simp only[hm,cond_true,cond_false]at h
    rotate_left
    ·cases h
    cases hb:(Nat.ble (a+num) xs.length&&(Nat.ble (off+num) xs.length&&Nat.ble 1 xs.length))<;>simp only[hb,cond_true,cond_false]at h
    ·cases h
    simp only[W3]at hb;exact⟨_,h,λs' H a w pl es eh hr hs hn hgl=>Qw hr hs ho (jW es _ _ hvs) hty he hsz hts hz (eh _ _ hl) hm (Xk hb.1) (Xk hb.2.1) (Xk hb.2.2)⟩
   ·cases h
  ·cases h
 ·cases h
theorem GJ {E:Env} (hE:oC E) {o:Oper} {s:List (Nat× SV)} {h0:aP} {n:Nat} {K:CR->Option ρ} {out:ρ}
  (h:Ei E s h0 n o.op K=some out):∃c,K c=some out/\GI E.P o n c s h0:=by
 unfold Ei at h;split at h
 ·rename_i T ho;simp only[An]at h;obtain⟨z,hz,h⟩:=h;exact⟨_,h,λs' H a w pl es eh hr hs hn hgl=>NJ hr (EO hn) ho hz⟩
 ·rename_i T x ho;simp only[An]at h;obtain⟨v,hv,cs,hcs,h⟩:=h;exact⟨_,h,λs' H a w pl es eh hr hs hn hgl=>Sm hr (EO hn) ho (aW hs (dg es _ _ hv)) hcs⟩
 ·rename_i T k parts ho;simp only[An]at h;obtain⟨e,he,sz,hsz,ps,hps,z,hz,h⟩:=h;cases hb:(Nat.ble (k*sz) 16777216&&Nat.beq z.length sz)<;>simp only[hb,cond_true,cond_false,An]at h
  ·cases h
  obtain⟨cs,hcs,h⟩:=h;simp only[W3]at hb;have h1:=Xk hb.1;have h2:=So hb.2
  have bx:K {v:=.bsl n k,news:=[.box cs]}=some out->∃c,K c=some out/\GI E.P o n c s h0:=λh=>
   ⟨_,h,λs' H a w pl es eh hr hs hn hgl=>CE hr hs (EO hn) ho he hsz (oZ es _ _ hps) hz h2 h1 hcs⟩
  split at h
  ·exact bx h
  ·rename_i t ht;cases hc:((rv t||Nat.beq k 0)&&Nat.beq t.sz sz)<;>simp only[hc,cond_true,cond_false,An]at h
   ·unfold V2 at h;cases hd:(E.lit&&Nat.beq t.sz sz)<;>simp only[hd,cond_true,cond_false]at h
    ·exact bx h
    simp only[W3]at hd;split at h
    ·rename_i xs hx;exact⟨_,h,λs' H a w pl es eh hr hs hn hgl=>uc hr hs (EO hn) ho he hsz (oZ es _ _ hps) hz h2 h1 hcs (So hd.2) (kJ eh _ _ _ _ hx)⟩
    ·exact bx h
   simp only[W3]at hc;obtain⟨⟨ids,xs⟩,hx,h⟩:=h;cases hi:isNil ids<;>simp only[hi,cond_true,cond_false]at h
   ·cases h
   have:=eO hi;subst this;unfold V3 at h;cases hq:(!isNil E.tkt&&!isNil xs)<;>simp only[hq,cond_true,cond_false]at h
   rotate_left
   ·exact⟨_,h,λs' H a w pl es eh hr hs hn hgl=>EI hr hs ho he hsz (oZ es _ _ hps) hz h2 h1 hcs (kJ eh _ _ _ _ hx)⟩
   ·exact⟨_,h,λs' H a w pl es eh hr hs hn hgl=>uc hr hs (EO hn) ho he hsz (oZ es _ _ hps) hz h2 h1 hcs (So hc.2) (kJ eh _ _ _ _ hx)⟩
 ·rename_i T l c ho;simp only[An]at h;obtain⟨e,he,sz,hsz,t,ht,z,hz,lv,hl,cv,hc,li,hli,ci,hci,h⟩:=h;cases hb:(ry E.P e&&Nat.beq t.sz sz)<;>simp only[hb,cond_true,cond_false,An]at h
  ·cases h
  simp only[W3]at hb;obtain⟨⟨ids,xs⟩,hx,h⟩:=h;cases hi:(isNil ids&&Nat.beq z.length sz)<;>simp only[hi,cond_true,cond_false]at h
  ·cases h
  simp only[W3]at hi;have RH:=eO hi.1;subst RH;split at h
  ·rename_i y;by_cases hd:0<=li/\li<=ci/\ci<=(aO:Int)
   ·simp only[hd,and_self,decide_true,cond_true]at h;exact⟨_,h,λs' H a w pl es eh hr hs hn hgl=>EH hr hs (EO hn) ho (dg es _ _ hl) (dg es _ _ hc) hli hci he hsz hb.1 (So hb.2) hz (So hi.2) (kJ eh _ _ _ _ hx) hd⟩
   ·simp only[hd,decide_false,cond_false]at h;cases h
  ·cases h
 ·rename_i args tys ho;simp only[An]at h;obtain⟨vs,hvs,h⟩:=h;split at h
  ·rename_i b x T T' hty;simp only[An]at h;obtain⟨e,he,sz,hsz,t,ht,h⟩:=h;cases hb:(ry E.P e&&(Nat.beq t.sz sz&&Nat.beq T T'))<;>simp only[hb,cond_true,cond_false,An]at h
   ·exact I7 ho hvs hty he hsz h
   simp only[W3]at hb;have hTT:T=T':=So hb.2.2;subst hTT;have hts:=So hb.2.1;obtain⟨z,hz,h⟩:=h;cases hzl:Nat.beq z.length sz<;>simp only[hzl,cond_true,cond_false,An]at h
   ·cases h
   have hzl:=So hzl;obtain⟨⟨sh1,ids,ys⟩,hy,h⟩:=h;split at h
   ·cases hh:hit ids (sh1.getD [])<;>simp only[hh,cond_true,cond_false]at h
    ·cases hn':Nat.ble ys.length aO<;>simp only[hn',cond_true,cond_false]at h
     ·cases h
     exact⟨_,h,λs' H a w pl es eh hr hs hn hgl=>Dc (xs:=[]) hr hs (EO hn) ho (jW es _ _ hvs) hty he hsz hb.1 hts hz hzl (C0 eh _ _ _ hy) (.inl ⟨rfl,rfl,rfl,rfl⟩) hh (by simpa using Xk hn')⟩
    ·cases h
   ·rename_i i;split at h
    ·rename_i sh t' xs hl;split at h
     ·rename_i htt;subst htt;simp only[An]at h;obtain⟨sh',hj,h⟩:=h;cases hm:mem i ids<;>simp only[hm,cond_true,cond_false]at h
      rotate_left
      ·cases h
      cases hh:hit (i::ids) (sh'.getD [])<;>simp only[hh,cond_true,cond_false]at h
      rotate_left
      ·cases h
      cases hn':Nat.ble (xs.length+ys.length) aO<;>simp only[hn',cond_true,cond_false]at h
      ·cases h
      exact⟨_,h,λs' H a w pl es eh hr hs hn hgl=>Dc hr hs (EO hn) ho (jW es _ _ hvs) hty he hsz hb.1 hts hz hzl (C0 eh _ _ _ hy) (.inr ⟨i,sh,rfl,eh _ _ hl,rfl,hm,hj⟩) hh (Xk hn')⟩
     ·cases h
    ·cases h
   ·exact I8 ho hvs hty he hsz hts hz h
  ·cases h
 ·rename_i args tys ho;simp only[An]at h;obtain⟨vs,hvs,h⟩:=h;split at h
  ·rename_i v T hty;simp only[An]at h;obtain⟨e,he,z,hz,⟨i,q,num⟩,hv,h⟩:=h;split at h
   ·rename_i sh t xs hl;cases hzl:Nat.beq z.length t.sz<;>simp only[hzl,cond_true,cond_false,An]at h
    ·cases h
    obtain⟨⟨ids,ys⟩,hy,h⟩:=h;cases hi:isNil ids<;>simp only[hi,cond_true,cond_false]at h
    ·cases h
    have RH:=eO hi;subst RH;split at h
    ·rename_i y;exact⟨_,h,λs' H a w pl es eh hr hs hn hgl=>NV hr hs ho (jW es _ _ hvs) hty he hz (So hzl) (Qv eh hv) (eh _ _ hl) (kJ eh _ _ _ _ hy)⟩
    ·cases h
   ·cases h
  ·cases h
 ·rename_i T p x ho;simp only[An]at h;obtain⟨p',hp,x',hx,h⟩:=h
  have arr:∀{i k off:Nat} {sh:Option (List Nat)} {t:Ty} {ys:List t.El},p'=.ptr i k off->look h0 i=some (.arr sh t ys)->zH E.P T h0 i sh t ys k off x' K=some out->∃c,K c=some out/\GI E.P o n c s h0:=λe hl h3=>by
   clear h;subst e;obtain⟨c,h1,h2⟩:=GF (n:=n) ho h3;exact⟨c,h1,λs' H a w pl es eh hr hs hn hgl=>h2 H a w pl eh (eh _ _ hl) hr (aW hs (dg es _ _ hp)) (aW hs (dg es _ _ hx))⟩
  split at h
  ·rename_i i k off;split at h
   ·rename_i cs hl;cases hk0:Nat.beq k 0<;>simp only[hk0,cond_true,cond_false,An]at h
    ·cases h
    have hk0:=So hk0;subst hk0;obtain⟨xs,hxs,sz,hsz,h⟩:=h;cases hb:Nat.beq sz xs.length<;>simp only[hb,cond_true,cond_false,An]at h
    ·cases h
    ·obtain⟨cs',hcs,h⟩:=h;exact⟨_,h,λs' H a w pl es eh hr hs hn hgl=>NK hr ho (eh _ _ hl) (aW hs (dg es _ _ hp)) (aW hs (dg es _ _ hx)) hxs hsz (So hb) hcs⟩
   ·rename_i sh t ys hl;exact arr rfl hl h
   ·cases h
  ·cases h
 ·rename_i f args tys ho;simp only[An]at h;obtain⟨f',hf,vs,hvs,h⟩:=h;split at h
  ·rename_i g first cap
   obtain⟨c,hc,hcs⟩:=hE g _ _ _ _ _ _ h;exact⟨c,hc,λs' H a w pl es eh hr hs hn hgl=>Qz eh hr hgl hs hn ho (dg es _ _ hf) (jW es _ _ hvs) hcs⟩
  ·cases h
 ·rename_i T x ho;unfold T3 at h;cases hk:taken E x<;>simp only[hk,cond_true,cond_false]at h
  rotate_left
  ·split at h
   ·rename_i i y hx;split at h
    ·rename_i t xs hl;simp only[An]at h;obtain⟨e,he,v,hv,h⟩:=h;exact⟨_,h,λs' H a w pl es eh hr hs hn hgl=>KB (Uh t) hr ho (eh _ _ hl) he hv (aW hs (dg es _ _ hx)) hn⟩
    ·cases h
   ·cases h
  split at h
  ·rename_i v hv;unfold TW at hv;cases hi:E.inn<;>simp only[hi,cond_true,cond_false]at hv
   ·cases hv
   cases hT:Kj E.P T<;>simp only[hT,cond_true,cond_false]at hv
   ·cases hv
   split at hv
   ·rename_i i y k hx;split at hv
    ·rename_i t xs hl;cases hk:Nat.ble (k+1) t.sz<;>simp only[hk,cond_true,cond_false,It]at hv
     ·cases hv
     subst hv;exact⟨_,h,λs' H a w pl es eh hr hs hn hgl=>Sx hr ho hT (eh _ _ hl) (Xk hk) (aW hs (dg es _ _ hx))⟩
    ·cases hv
   ·cases hv
  ·have dflt:pU E.P s h0 (.load T x) (λv=>K {v:=v})=some out->∃c,K c=some out/\GI E.P o n c s h0:=λh=>by
    rw[pV]at h;simp only[An]at h;obtain⟨v,hv,h⟩:=h
    exact⟨_,h,λs' H a w pl es eh hr hs hn hgl=>by
     obtain⟨u,hu,hvr⟩:=lN hr hs (wP es eh _ _ hv) o ho
     exact o8 hr hu hvr⟩
   unfold T1 at h;cases ht:E.tak<;>simp only[ht,cond_true,cond_false]at h
   ·exact dflt h
   split at h
   ·rename_i i y hx;split at h
    ·rename_i st xs hl;cases hf:rv (.st st)<;>simp only[hf,cond_true,cond_false]at h
     ·simp only[An]at h;obtain⟨e,he,v,hv,h⟩:=h;exact⟨_,h,λs' H a w pl es eh hr hs hn hgl=>KB (Ug st) hr ho (eh _ _ hl) he hv (aW hs (dg es _ _ hx)) hn⟩
     ·exact dflt h
    ·exact dflt h
   ·exact dflt h
 ·rename_i src dst x ho;split at h
  ·rename_i i hi;unfold TY at hi;cases hT:(Nat.beq src dst&&yG E.P src)<;>simp only[hT,cond_true,cond_false]at hi
   ·cases hi
   simp only[W3]at hT;have hsd:=So hT.1;split at hi
   ·rename_i j hx;split at hi
    ·rename_i sh t y ys hl;cases hi;subst hsd;exact⟨_,h,λs' H a w pl es eh hr hs hn hgl=>Qx hr ho hT.2 (eh _ _ hl) (aW hs (dg es _ _ hx))⟩
    ·cases hi
   ·cases hi
  ·rw[pV]at h;simp only[An]at h;obtain⟨v,hv,h⟩:=h
   exact⟨_,h,λs' H a w pl es eh hr hs hn hgl=>by
    obtain⟨u,hu,hvr⟩:=lN hr hs (wP es eh _ _ hv) o ho
    exact o8 hr hu hvr⟩
 ·rw[pV]at h;simp only[An]at h;obtain⟨v,hv,h⟩:=h
  exact⟨_,h,λs' H a w pl es eh hr hs hn hgl=>by
   obtain⟨u,hu,hvr⟩:=lN hr hs (wP es eh _ _ hv) o rfl
   exact o8 hr hu hvr⟩
theorem I9 {E:Env} (hE:oC E) {o:Oper} {a:Act} {s:List (Nat× SV)} {n:Nat} {K:CR->Option ρ} {out:ρ}
  (hr:cN H pl w) (hgl:RF w H pl) (hs:gJ w H pl s a) (hn:∀i,n<=i->look H i=none) (h:Ei E s H n o.op K=some out):∃c,K c=some out/\kK E.P o a w H pl n c:=by
 obtain⟨c,h1,h2⟩:=GJ hE h;exact⟨c,h1,h2 s H a w pl .rfl' .rfl' hr hs (λk _=>hn _ (Nat.le_add_right _ _)) hgl⟩
theorem N2 {x y:Option ρ} {out:ρ} (h:both x y=some out):x=some out/\y=some out:=by
 unfold both at h;grind
theorem Ja {op:Op} {T:TypeId} {x:Operand} {e:Bool} (h:Km op=some (T,x,e)):∃U,op=.binOp (cond e .eql .neq) T x (.const (.slice none 0 0)) U:=by
 unfold Km at h;grind
theorem N3 (hr:cN H pl w) {v:SV} {u:Value} {K:Bool->Option ρ} {out:ρ} (h:Vh H v K=some out) (hv:au w H pl v u):
  ∃a n c,u=.slice a n c/\K a.isNone=some out:=by
 have fork:∀{α:Type} {xs:List α} {a:Option Addr},(xs=[]\/a.isSome=true)->cond (isNil xs) (both (K true) (K false)) (K false)=some out->K a.isNone=some out:=λ{α xs a} hx h=>by
  cases xs with
  |nil=>
   obtain⟨h1,h2⟩:=N2 h
   cases a<;>assumption
  |cons y ys=>
   rcases hx with hx|hx
   ·cases hx
   ·cases a with
    |none=>cases hx
    |some a=>exact h
 unfold Vh at h;split at h
 ·cases hv;exact⟨_,_,_,rfl,h⟩
 ·rename_i d t xs
  cases hv with
  |r _ _ _ hx=>cases hx with
   |sl _ _ a cap b o vs hcap ha hc hr'=>grind
 ·rename_i i
  cases hv with
  |own _ sh t xs hl=>
   simp only[hl]at h;have hb:=hr.blk i _ hl
   have:∃a cap b o,pl.hdr i=.slice a xs.length cap/\xs.length<=cap/\(cap=0\/a=some ⟨b,o,none⟩):=by
    cases sh with
    |none=>obtain⟨⟨a,cap,b,o,vs,fs,q1,q2,q3,_⟩⟩:=hb;exact⟨a,cap,b,o,q1,q2,q3⟩
    |some d=>obtain⟨⟨a,cap,b,o,vs,fs,q1,q2,q3,_⟩⟩:=hb;exact⟨a,cap,b,o,q1,q2,q3⟩
   obtain⟨a,cap,b,o,q1,q2,q3⟩:=this;refine⟨a,_,_,q1,fork ?_ h⟩
   rcases q3 with rfl|rfl
   ·grind
   ·exact .inr rfl
 ·cases h
theorem Sy (hr:cN H pl w) {o:Oper} {a:Act} {T:TypeId} {x:Operand} {e:Bool} {n:Nat} (hT:Kj P T=true) (ho:Km o.op=some (T,x,e)) {b:Option Addr} {l c:Nat} (hx:a.eval x=.slice b l c):
  kK P o a w H pl n {v:=.b (cond b.isNone e (!e))}:=by
 obtain⟨U,ho⟩:=Ja ho;obtain⟨el,_,hu,_⟩:=Et hT;refine o8 (u:=.bool (cond b.isNone e (!e))) hr ?_ nC;rw[execOp,ho];have hc:a.eval (.const (.slice none 0 0))=.slice none 0 0:=rfl
 have key:(do eqGuard (cond e .eql .neq) T x (.const (.slice none 0 0)) (a.eval x) (a.eval (.const (.slice none 0 0)));binOp (cond e .eql .neq) T (a.eval x) (a.eval (.const (.slice none 0 0))):Sem Value).run P w=.ok (.bool (cond b.isNone e (!e))) w:=by
  rw[hc,hx];refine guarded (λh=>nomatch h) (λ_ h=>nomatch h) ?_;cases e
  ·rw[cond_false,run_neq_slice_nil w T el b l c hu];cases b<;>rfl
  ·rw[cond_true,Lib.run_eql_slice_nil w T el b l c _ _ hu];cases b<;>rfl
 simp only[Sem.run_bind,key,Result.andThen_ok];rfl
theorem Mh {E:Env} (hE:oC E) {w0:World} {fp0:G0} {o:Oper} {st:St} {a:Act} {K:St->Option ρ} {out:ρ} {next:Act->World->Prop} {Q:Exit->Act->World->Prop}
  (hr:Rel w0 fp0 st pl a w) (h:TG E o st K=some out) (hK:∀st' pl' a' w',K st'=some out->pl'.base=pl.base->st'.n=st.n->Rel w0 fp0 st' pl' a' w'->next a' w'):o.wp E.P a w next Q:=by
 obtain⟨c,hc,hup,Vq⟩:∃c,((st.take o.dst c).bind K)=some out/\kK E.P o a w st.heap pl st.nid c:=by
  unfold TG at h;split at h
  ·rename_i T x e ho;cases hT:Kj E.P T<;>simp only[hT,cond_true,cond_false,An]at h
   ·cases h
   obtain⟨v,hv,h⟩:=h;obtain⟨b,l,c,hu,hk⟩:=N3 hr.hr h (aW hr.sl hv);exact⟨_,hk,Sy hr.hr hT ho hu⟩
  ·exact I9 hE hr.hr hr.V4 hr.sl hr.fresh h
 simp only[An]at hc;obtain⟨st',ht,hk⟩:=hc
 refine Vq st'.heap next Q (NI ht) λu pl' w' hst hv=>?_
 have hn:st'.n=st.n:=by
  simp only[St.take,An,It]at ht;grind
 exact hK st' pl' _ w' hk hst.bs hn (hr.take ht hup hst hv)
end
end
section
variable [Tok] [Glo]
theorem kN (h:aP) (n:Nat) (b:Blk) (i:Nat):look (LO h n b) i=if n=i then(look h i).map λ_=>b else look h i:=by
 induction h with
 |nil=>simp[LO,look]
 |cons x l ih=>
  obtain⟨k,u⟩:=x;simp only[LO];cases hb:Nat.beq k n
  ·simp only[cond_false,aH,ih]
   have hne:k≠n:=λe=>by subst e;simp at hb
   grind
  ·simp only[cond_true,aH];have:=So hb;grind
theorem dW (s:List (Nat× SV)) (dst:Option Tmp) (v:SV) (t:Nat):look (Kn s dst v) t=if dst=some t then some v else look s t:=by
 cases dst with
 |none=>simp[Kn]
 |some d=>simp[Kn,fc]
def AM {α:Type} (x y:List (Nat× α)):Prop:=∀t,look x t=look y t
theorem N4 {h h':aP} (e:AM h h') (n:Nat) (b:Blk):AM (LO h n b) (LO h' n b):=λt=>by rw[kN,kN,e t]
theorem Mi {h h':aP} (e:AM h h') (u:aP):AM (jV u h) (jV u h'):=by
 induction u generalizing h h' with
 |nil=>exact e
 |cons x l ih=>obtain⟨k,b⟩:=x;exact ih (N4 e k b)
theorem N5 (u h:aP) (i:Nat):(look (jV u h) i).isSome=(look h i).isSome:=by
 induction u generalizing h with
 |nil=>rfl
 |cons x l ih=>
  obtain⟨k,b⟩:=x;rw[jV,ih,kN];grind
theorem Df {u h:aP} {i:Nat}:look (jV u h) i=none↔look h i=none:=by
 have:=N5 u h i;rw[<-Option.not_isSome_iff_eq_none,<-Option.not_isSome_iff_eq_none,this]
theorem Mj {S:Nat->Prop} {h h':aP} (e:∀i B,S i->look h i=some B->look h' i=some B) (u:aP):∀i B,S i->look (jV u h) i=some B->look (jV u h') i=some B:=by
 induction u generalizing h h' with
 |nil=>exact e
 |cons x l ih=>
  obtain⟨k,b⟩:=x;refine ih λt v ht hv=>?_;rw[kN]at hv⊢;by_cases c:k=t
  ·rw[if_pos c]at hv⊢;obtain⟨y,hy,rfl⟩:=Xb.1 hv;grind
  ·grind
theorem rH {i:Nat}:∀(u h:aP),look u i=none->look (jV u h) i=look h i
  |[],_,_=>rfl
  | (k, b) :: l, h, e => by
    rw[aH]at e;by_cases c:k=i
    · grind
    · rw[if_neg c]at e;show look (jV l (LO h k b)) i=_;rw[rH l _ e,kN,if_neg c]
theorem QA {h:aP} {k:Nat} (b:Blk) (hk:∃B,look h k=some B):put h k b=LO h k b:=by
 induction h with
 |nil=>obtain⟨B,hB⟩:=hk;cases hB
 |cons x l ih=>
  obtain⟨k',u⟩:=x;simp only[put,LO];obtain⟨B,hB⟩:=hk;rw[aH]at hB;cases hb:Nat.beq k' k
  ·have hne:k'≠k:=λe=>by subst e;simp at hb
   rw[if_neg hne]at hB;simp only[cond_false,ih ⟨B,hB⟩]
  ·rfl
theorem xd {u h:aP} (hd:∀i B,look u i=some B->∃B',look h i=some B'):ua u h=jV u h:=by
 induction u generalizing h with
 |nil=>rfl
 |cons x l ih=>
  obtain⟨k,b⟩:=x;have hk:=hd k b (by rw[aH];simp);simp only[ua,jV];rw[QA b hk];refine ih λi B hB=>?_;rw[kN];by_cases e:k=i
  ·grind
  ·rw[if_neg e];exact hd i B (by rw[aH,if_neg e];exact hB)
def GK (x y:SH):Prop:=AM x.1 y.1/\AM x.2 y.2
theorem GK.refl (x:SH):GK x x:=⟨λ_=>rfl,λ_=>rfl⟩
theorem GK.trans {x y z:SH} (h:GK x y) (g:GK y z):GK x z:=⟨λt=>(h.1 t).trans (g.1 t),λt=>(h.2 t).trans (g.2 t)⟩
def DR.uE (r:DR) (i:Nat):Prop:=r.n0<=i/\i<r.n0+r.c.news.length
theorem DR.pd {r:DR} {i:Nat} (h:¬r.uE i):look (aQ r.n0 r.c.news) i=none:=by
 rw[bh];by_cases c:r.n0<=i
 ·rw[if_pos c];exact Xy (Nat.le_of_not_lt λh'=>h ⟨c,by omega⟩)
 ·rw[if_neg c]
theorem AO {T:Kil} (h:T.2=[]) (x:List (Nat× SV)):pT T x=x:=by unfold pT;rw[h]
theorem Jb {T:Kil} (h:T.2=[]) (x:aP):jh T x=some x:=by unfold jh;rw[h]
theorem jr {r:DR} (hg:r.c.kil.2=[]) (x:SH):r.app x=some (Kn x.1 r.dst r.c.v,jV r.c.upd x.2++aQ r.n0 r.c.news):=by
 unfold DR.app;rw[Jb hg,AO hg];rfl
theorem dX {r:DR} {x y:SH} (h:r.app x=some y):y.1=Kn (pT r.c.kil x.1) r.dst r.c.v:=by
 unfold DR.app at h;simp only[An,It]at h;grind
theorem zK {r:DR} {x y:SH} (h:r.app x=some y) (i:Nat):look y.2 i=(cond (mem i r.c.kil.1) none ((look (jV r.c.upd x.2) i).bind (Blk.aT r.c.kil))).or (look (aQ r.n0 r.c.news) i):=by
 unfold DR.app at h;simp only[An,It]at h;obtain⟨hh,h1,rfl⟩:=h;show look (hh++_) i=_;rw[aM,cW r.c.gj h1 i]
theorem QB {r:DR} (hg:r.c.kil.2=[]) {x y:SH} (e:GK x y) {x':SH} (h:r.app x=some x'):∃y',r.app y=some y'/\GK x' y':=by
 rw[jr hg]at h;cases h;refine⟨_,jr hg y,λt=>?_,λi=>?_⟩
 ·show look (Kn _ _ _) t=look (Kn _ _ _) t;rw[dW,dW,e.1 t]
 ·show look (_++_) i=look (_++_) i;rw[aM,aM,Mi e.2 _ i]
theorem eQ (p:Nat->Bool):∀(l1 l2:List DR) (k:Nat) (x:SH),replay p k (l1++l2) x=(replay p k l1 x).bind (replay p (k+l1.length) l2)
 |[],l2,k,x=>by simp[replay]
 |r::l,l2,k,x=>by
  simp only[Ym,replay,W7];cases p k
  ·simp only[cond_false];rw[eQ p l l2 (k+1) x,show k+1+l.length=k+(l.length+1)from by omega]
  ·simp only[cond_true,XH]
   congr 1;funext y;rw[eQ p l l2 (k+1) y,show k+1+l.length=k+(l.length+1)from by omega]
theorem kO {p q:Nat->Bool}:∀(l:List DR) (k:Nat) (x:SH),(∀j,j<l.length->p (k+j)=q (k+j))->replay p k l x=replay q k l x
 |[],_,_,_=>rfl
 |r::l,k,x,h=>by
  simp only[replay];have h0:=h 0 (by simp);rw[XB]at h0
  have ih:=λx=>kO (p:=p) (q:=q) l (k+1) x λj hj=>by have:=h (j+1) (by simpa using hj);rwa [show k+(j+1)=k+1+j from by omega]at this
  grind
theorem qa {p:Nat->Bool}:∀(l:List DR) (k:Nat) (x:SH),(∀j,j<l.length->p (k+j)=false)->replay p k l x=some x
 |[],_,_,_=>rfl
 |r::l,k,x,h=>by
  simp only[replay];have h0:=h 0 (by simp);rw[XB]at h0;rw[h0,cond_false]
  exact qa l (k+1) x λj hj=>by have:=h (j+1) (by simpa using hj);rwa [show k+(j+1)=k+1+j from by omega]at this
theorem pe {p:Nat->Bool}:∀(l:List DR) (k:Nat) (x X:SH),replay p k l x=some X->∀i B,look X.2 i=some B->(∃B',look x.2 i=some B')\/∃(j:Nat) (r:DR),l[j]? =some r/\p (k+j)=true/\r.uE i
  |[],_,x,X,h,i,B,hB=>by cases h;exact .inl ⟨B,hB⟩
  | r :: l, k, x, X, h, i, B, hB => by
    simp only[replay]at h;cases hp:p k<;>simp only[hp,cond_false,cond_true]at h
    · rcases pe l (k+1) x X h i B hB with h'|⟨j,r',h1,h2,h3⟩
      · exact .inl h'
      · exact .inr ⟨j+1,r',by simpa using h1,by rwa [show k+(j+1)=k+1+j from by omega],h3⟩
    · rw [An] at h;obtain⟨y,hy,h⟩:=h
      rcases pe l (k+1) y X h i B hB with⟨B',h'⟩|⟨j,r',h1,h2,h3⟩
      · by_cases hm:r.uE i
        · exact .inr ⟨0,r,rfl,hp,hm⟩
        · left;rw[zK hy,DR.pd hm,Yb]at h'
          cases hx:look x.2 i with
          |none=>rw[Df.2 hx]at h';cases hm':mem i r.c.kil.1<;>simp[hm']at h'
          |some b=>grind
      · exact .inr ⟨j+1,r',by simpa using h1,by rwa [show k+(j+1)=k+1+j from by omega],h3⟩
theorem sT {q p:Nat->Bool}:∀(l:List DR) (k:Nat) (y z Y Z:SH),(∀j,q j=true->p j=true)->replay q k l y=some Y->replay p k l z=some Z->Ext y.1 z.1->
    (∀t v,look y.1 t=some v->∀(j:Nat) (r:DR),l[j]? =some r->p (k+j)=true->q (k+j)=false->r.dst≠some t)->
    (∀(j j':Nat) (r r':DR) t,j≠j'->l[j]? =some r->l[j']? =some r'->r.dst=some t->r'.dst≠some t)->
    (∀(j:Nat) (r:DR),l[j]? =some r->p (k+j)=true->q (k+j)=false->r.c.kil.2=[])->Ext Y.1 Z.1
  |[],_,y,z,Y,Z,_,hy,hz,he,_,_,_=>by cases hy;cases hz;exact he
  | r :: l, k, y, z, Y, Z, hqp, hy, hz, he, hd, hn, hg => by
    simp only[replay]at hy hz;have hn':∀(j j':Nat) (r r':DR) t,j≠j'->l[j]? =some r->l[j']? =some r'->r.dst=some t->r'.dst≠some t:=λj j' r r' t hne h1 h2=>hn (j+1) (j'+1) r r' t (by omega) (by simpa using h1) (by simpa using h2);have hg':∀(j:Nat) (r:DR),l[j]? =some r->p (k+1+j)=true->q (k+1+j)=false->r.c.kil.2=[]:=λj r h1 h2 h3=>hg (j+1) r (by simpa using h1) (by rwa [show k+(j+1)=k+1+j from by omega]) (by rwa [show k+(j+1)=k+1+j from by omega]);have hd':∀t v,look y.1 t=some v->∀(j:Nat) (r:DR),l[j]? =some r->p (k+1+j)=true->q (k+1+j)=false->r.dst≠some t:=λt v ht j r h1 h0 h2=>hd t v ht (j+1) r (by simpa using h1) (by rwa [show k+(j+1)=k+1+j from by omega]) (by rwa [show k+(j+1)=k+1+j from by omega]);cases hq:q k<;>simp only[hq,cond_false,cond_true]at hy
    · cases hp:p k<;>simp only[hp,cond_false,cond_true]at hz
      · exact sT l (k+1) y z Y Z hqp hy hz he hd' hn' hg'
      · rw[An]at hz;obtain⟨z',hz',hz⟩:=hz;have hgr:=hg 0 r rfl (by simpa using hp) (by simpa using hq);refine sT l (k+1) y z' Y Z hqp hy hz (λt v ht=>?_) hd' hn' hg';rw[dX hz',AO hgr,dW,if_neg (hd t v ht 0 r rfl (by simpa using hp) (by simpa using hq))];exact he t v ht
    · rw [hqp k hq] at hz;simp only[cond_true]at hz;rw[An]at hy hz;obtain⟨y',hy',hy⟩:=hy;obtain⟨z',hz',hz⟩:=hz
      have hsl:∀t,look y'.1 t=if r.dst=some t then some r.c.v else(look y.1 t).map (SV.aT r.c.kil):=λt=>by rw[dX hy',dW,dk r.c.gj]
      have WB:∀t,look z'.1 t=if r.dst=some t then some r.c.v else(look z.1 t).map (SV.aT r.c.kil):=λt=>by rw[dX hz',dW,dk r.c.gj]
      refine sT l (k+1) y' z' Y Z hqp hy hz (λt v ht=>?_) (λt v ht j r' h1 h0 h2=>?_) hn' hg'
      · rw[hsl]at ht;rw[WB];by_cases c:r.dst=some t
        · grind
        · rw[if_neg c]at ht⊢;obtain⟨u,hu,rfl⟩:=Xb.1 ht;rw[he t u hu];rfl
      · rw[hsl]at ht;by_cases c:r.dst=some t
        · exact hn 0 (j+1) r r' t (by omega) rfl (by simpa using h1) c
        · rw[if_neg c]at ht;obtain⟨u,hu,_⟩:=Xb.1 ht;grind
theorem mF {S:Nat->Prop} {q p:Nat->Bool}:∀(l:List DR) (k:Nat) (y z Y Z:SH),(∀j,q j=true->p j=true)->replay q k l y=some Y->replay p k l z=some Z->(∀i B,S i->look y.2 i=some B->look z.2 i=some B)->
    (∀(j:Nat) (r:DR) i,l[j]? =some r->r.uE i->look z.2 i=none)->
    (∀(j j':Nat) (r r':DR) i,j≠j'->l[j]? =some r->l[j']? =some r'->r.uE i->¬r'.uE i)->
    (∀(j:Nat) (r:DR),l[j]? =some r->p (k+j)=true->q (k+j)=false->r.c.kil.2=[]/\∀i,S i->look r.c.upd i=none)->∀i B,S i->look Y.2 i=some B->look Z.2 i=some B
  |[],_,y,z,Y,Z,_,hy,hz,he,_,_,_=>by cases hy;cases hz;exact he
  | r :: l, k, y, z, Y, Z, hqp, hy, hz, he, hf, hn, hg => by
    simp only[replay]at hy hz;have hn':∀(j j':Nat) (r r':DR) i,j≠j'->l[j]? =some r->l[j']? =some r'->r.uE i->¬r'.uE i:=λj j' r r' t hne h1 h2=>hn (j+1) (j'+1) r r' t (by omega) (by simpa using h1) (by simpa using h2);have hg':∀(j:Nat) (r:DR),l[j]? =some r->p (k+1+j)=true->q (k+1+j)=false->r.c.kil.2=[]/\∀i,S i->look r.c.upd i=none:=λj r h1 h2 h3=>hg (j+1) r (by simpa using h1) (by rwa [show k+(j+1)=k+1+j from by omega]) (by rwa [show k+(j+1)=k+1+j from by omega]);have hf':∀(j:Nat) (r:DR) i,l[j]? =some r->r.uE i->look z.2 i=none:=λj r i h1 h2=>hf (j+1) r i (by simpa using h1) h2
    have uF:∀z',r.app z=some z'->∀(j:Nat) (r':DR) i,l[j]? =some r'->r'.uE i->look z'.2 i=none:=λz' hz' j r' i h1 h2=>by
      cases hx:look z'.2 i with
      |none=>rfl
      | some B =>
        rcases pe (p:=λ_=>true) [r] 0 z z' (by simp[replay,hz']) i B hx with⟨B',hB'⟩|⟨j',r2,g1,_,g3⟩
        · grind
        · cases j' with
          |zero=>simp at g1;subst g1;exact(hn 0 (j+1) r r' i (by omega) rfl (by simpa using h1) g3 h2).elim
          |succ j'=>simp at g1
    cases hq:q k<;>simp only[hq,cond_false,cond_true]at hy
    · cases hp:p k<;>simp only[hp,cond_false,cond_true]at hz
      · exact mF l (k+1) y z Y Z hqp hy hz he hf' hn' hg'
      · rw[An]at hz;obtain⟨z',hz',hz⟩:=hz;obtain⟨hgr,hur⟩:=hg 0 r rfl (by simpa using hp) (by simpa using hq);refine mF l (k+1) y z' Y Z hqp hy hz (λi B hS hB=>?_) (uF z' hz') hn' hg';rw[jr hgr]at hz';cases hz';show look (jV r.c.upd z.2++_) i=some B;rw[aM,rH _ _ (hur i hS),he i B hS hB];rfl
    · rw [hqp k hq] at hz;simp only[cond_true]at hz;rw[An]at hy hz;obtain⟨y',hy',hy⟩:=hy;obtain⟨z',hz',hz⟩:=hz;refine mF l (k+1) y' z' Y Z hqp hy hz (λi B hS hB=>?_) (uF z' hz') hn' hg';rw[zK hy']at hB;rw[zK hz']
      cases hx:cond (mem i r.c.kil.1) none ((look (jV r.c.upd y.2) i).bind (Blk.aT r.c.kil))with
      | some b =>
        rw[hx]at hB;cases hm:mem i r.c.kil.1<;>simp only[hm,cond_true,cond_false]at hx⊢
        · obtain⟨b0,hb0,hb1⟩:=An.1 hx;rw[Mj he _ i b0 hS hb0];simp only[W6,hb1];exact hB
        · cases hx
      | none =>
        rw[hx,Option.none_or]at hB
        have hm:r.uE i:=Classical.byContradiction λh=>by rw[DR.pd h]at hB;cases hB
        rw[Df.2 (hf 0 r i rfl hm)];grind
theorem AP {b:DR}:∀{U:aP},T6 b U=true->∀i,b.uE i->look U i=none
  |[],_,_,_=>rfl
  | (k, _) :: l, h, i, hi => by
    simp only[T6]at h;cases hk:(Nat.ble (k+1) b.n0||Nat.ble (b.n0+b.c.news.length) k)<;>rw[hk]at h
    · cases h
    · rw[aH,if_neg,AP h i hi];intro e;subst e;obtain⟨h1,h2⟩:=hi;rw[YY]at hk
      rcases hk with hk|hk<;>have:=Xk hk<;>omega
theorem iT {a b:DR} (h:IK a b=true):a.c.kil.2=[]/\b.c.kil.2=[]/\((b.c.upd=[]/\∀i,b.uE i->look a.c.upd i=none)\/(a.c.upd=[]/\∀i,a.uE i->look b.c.upd i=none)):=by
 simp only[IK,W3,YY]at h;have h:=h.1;refine⟨eO h.1.1,eO h.1.2,?_⟩
 rcases h.2 with h|h
 ·exact .inl ⟨eO h.1,AP h.2⟩
 ·exact .inr ⟨eO h.1,AP h.2⟩
theorem AQ {i:Nat}:∀(u:aP) {h h':aP},look h i=look h' i->look (jV u h) i=look (jV u h') i
 |[],_,_,e=>e
 |(k,b)::l,h,h',e=>by
  simp only[jV];exact AQ l (by rw[kN,kN,e])
theorem GL {a b:DR} (h:IK a b=true):Qm b.see a.c.upd=false/\Qm a.see b.c.upd=false:=by
 simp only[IK,W3,Y7]at h;exact h.2
theorem GM {L:List Nat}:∀{U:aP},Qm L U=false->∀i,mem i L=true->look U i=none
  |[],_,_,_=>rfl
  | (k, b) :: l, h, i, hi => by
    simp only[Qm]at h;cases hk:mem k L<;>simp only[hk,cond_true,cond_false]at h
    · rw[aH,if_neg (λe=>by subst e;rw[hi]at hk;exact nomatch hk)];exact GM h i hi
    · cases h
theorem qb {h:aP} {i:Nat} {B:Blk}:∀{L:List Nat},look (yI h L) i=some B->mem i L=true/\look h i=some B
 |[],e=>nomatch e
 |k::l,e=>by
  simp only[yI]at e
  cases hk:look h k with
  |none=>
   rw[hk]at e;obtain⟨g1,g2⟩:=qb e
   exact⟨by simp only[mem];cases Nat.beq k i<;>simp[g1],g2⟩
  |some b=>
   rw[hk]at e;rw[aH]at e;by_cases c:k=i
   ·subst c;rw[if_pos rfl]at e;cases e;exact⟨by simp[mem],hk⟩
   ·rw[if_neg c]at e;obtain⟨g1,g2⟩:=qb e;exact⟨by simp only[mem];cases Nat.beq k i<;>simp[g1],g2⟩
theorem not_false {b:Bool} (h:(!b)=true):b=false:=by cases b<;>first|rfl|exact nomatch h
mutual
theorem xe {T:Kil}:(v:SV)->v.M9 T=true->v.aT T=v
 |.r d x,h=>by rw[SV.aT,not_false h];rfl
 |.own j,h=>by rw[SV.aT,not_false h];rfl
 |.sub j o n,h=>by rw[SV.aT,not_false h];rfl
 |.bsl j n,h=>by rw[SV.aT,not_false h];rfl
 |.ptr j x o,h=>by rw[SV.aT,not_false h];rfl
 |.inn j x c,h=>by rw[SV.aT,not_false h];rfl
 |.lz d cs,h=>by rw[SV.aT,not_false h];rfl
 |.agg cs,h=>by rw[SV.aT,j5 cs h]
 |.tup cs,h=>by rw[SV.aT,j5 cs h]
 |.fn f a b,h=>by
  simp only[SV.M9,W3]at h
  rw[SV.aT,j5 a h.1,j5 b h.2]
 |.dt,_=>rfl
 |.rq,_=>rfl
 |.undef,_=>rfl
theorem j5 {T:Kil}:(l:List SV)->Ap T l=true->iS T l=l
 |[],_=>rfl
 |v::l,h=>by
  simp only[Ap,W3]at h;rw[iS,xe v h.1,j5 l h.2]
end
theorem KE {c:CR} (h:c.kil.2=[]):c.kil=([],[]):=by
 unfold CR.kil at h⊢;rw[List.append_eq_nil_iff]at h;grind
mutual
theorem Dg (T U:Kil):(v:SV)->(v.aT T).aT U=(v.aT U).aT T
 |.r d x=>by
  simp only[SV.aT]
  cases h1:hit T.2 d<;>cases h2:hit U.2 d<;>simp only[cond_true,cond_false,SV.aT,h1,h2]
 |.own j=>by
  simp only[SV.aT]
  cases h1:mem j T.1<;>cases h2:mem j U.1<;>simp only[cond_true,cond_false,SV.aT,h1,h2]
 |.sub j o n=>by
  simp only[SV.aT]
  cases h1:mem j T.1<;>cases h2:mem j U.1<;>simp only[cond_true,cond_false,SV.aT,h1,h2]
 |.bsl j n=>by
  simp only[SV.aT]
  cases h1:mem j T.1<;>cases h2:mem j U.1<;>simp only[cond_true,cond_false,SV.aT,h1,h2]
 |.ptr j x o=>by
  simp only[SV.aT]
  cases h1:mem j T.1<;>cases h2:mem j U.1<;>simp only[cond_true,cond_false,SV.aT,h1,h2]
 |.inn j x c=>by
  simp only[SV.aT]
  cases h1:(mem j T.1||mem j T.2)<;>cases h2:(mem j U.1||mem j U.2)<;>simp only[cond_true,cond_false,SV.aT,h1,h2]
 |.lz d cs=>by
  simp only[SV.aT]
  cases h1:hit T.2 d<;>cases h2:hit U.2 d<;>simp only[cond_true,cond_false,SV.aT,h1,h2]
 |.agg cs=>by simp only[SV.aT,mG T U cs]
 |.tup cs=>by simp only[SV.aT,mG T U cs]
 |.fn f a b=>by simp only[SV.aT,mG T U a,mG T U b]
 |.dt=>rfl
 |.rq=>rfl
 |.undef=>rfl
theorem mG (T U:Kil):(l:List SV)->iS U (iS T l)=iS T (iS U l)
 |[]=>rfl
 |v::l=>by simp only[iS,Dg T U v,mG T U l]
end
variable {cm:DR->Bool}
theorem fi {r:DR} (h:gi cm r=true):cm r=true/\r.c.kil.2=[]/\r.c.upd=[]/\r.c.news=[]:=by
 simp only[gi,W3]at h;exact⟨h.2.2.2,eO h.1,eO h.2.1,eO h.2.2.1⟩
theorem Dh {b a:DR} (h:LS b a=true):a.c.v.aT b.c.kil=a.c.v:=by
 simp only[LS,W3]at h;exact xe _ h.1
theorem KF {T:Kil} {u:SV}:∀{l:List SV},Ap T l=true->u∈l->u.M9 T=true
 |[],_,h=>nomatch h
 |v::l,h,hu=>by
  simp only[Ap,W3]at h
  rcases Xm.1 hu with rfl|hu
  ·exact h.1
  ·exact KF h.2 hu
theorem KG {b a:DR} (h:LS b a=true):∀u∈a.Qk,u.aT b.c.kil=u:=by
 intro u hu;simp only[LS,W3]at h;exact xe _ (KF h.2 hu)
theorem vy {b a:DR} (h:b.c.kil.2=[]):a.c.v.aT b.c.kil=a.c.v:=by rw[KE h];exact dv _
theorem fE {a b:DR} (h:tS cm a b=true):
  (gi cm a=true/\a.c.v.aT b.c.kil=a.c.v)\/(gi cm b=true/\b.c.v.aT a.c.kil=b.c.v)\/(gi cm a=false/\gi cm b=false/\IK a b=true):=by
 simp only[tS,YY,W3]at h
 rcases h with h|⟨h2,h1⟩|⟨h2,h1⟩
 ·obtain⟨k1,k2,_⟩:=iT h;cases ha:gi cm a
  ·cases hb:gi cm b
   ·grind
   ·exact .inr (.inl ⟨rfl,vy k1⟩)
  ·exact .inl ⟨rfl,vy k2⟩
 ·exact .inl ⟨h1,Dh h2⟩
 ·exact .inr (.inl ⟨h1,Dh h2⟩)
theorem KH {a b:DR} (h:tS cm a b=true):
  (gi cm a=true->∀u∈a.Qk,u.aT b.c.kil=u)/\(gi cm b=true->∀u∈b.Qk,u.aT a.c.kil=u):=by
 have nl:∀{c:DR} (v:SV),c.c.kil.2=[]->v.aT c.c.kil=v:=λ{c} v h=>by rw[KE h];exact dv _
 simp only[tS,YY,W3]at h
 rcases h with h|⟨h2,h1⟩|⟨h2,h1⟩
 ·obtain⟨k1,k2,_⟩:=iT h;grind
 ·exact⟨λ_=>KG h2,λ_ u _=>nl u (fi h1).2.1⟩
 ·exact⟨λ_ u _=>nl u (fi h1).2.1,λ_=>KG h2⟩
theorem sU {r:DR} (h:gi cm r=true) (x:SH):r.app x=some (Kn x.1 r.dst r.c.v,x.2):=by
 obtain⟨_,h1,h2,h3⟩:=fi h;rw[jr h1,h2,h3];simp only[jV,aQ,Xo]
theorem rI {r:DR} {x x' y:SH} (e:x.2=x'.2) (h:r.app x=some y):∃y',r.app x'=some y'/\y.2=y'.2:=by
 unfold DR.app at h⊢;simp only[An,It]at h;grind
def EP (x y:SH):Prop:=AM x.1 y.1/\x.2=y.2
theorem EP.same {x y:SH} (h:EP x y):GK x y:=⟨h.1,λt=>by rw[h.2]⟩
theorem N6 {r:DR} {x y:SH} (e:EP x y) {x':SH} (h:r.app x=some x'):∃y',r.app y=some y'/\EP x' y':=by
 obtain⟨y',h1,h2⟩:=rI e.2 h;refine⟨y',h1,λt=>?_,h2⟩;rw[dX h,dX h1,dW,dW,dk r.c.gj,dk r.c.gj,e.1 t]
theorem rJ {p:Nat->Bool}:∀(l:List DR) (k:Nat) (x y X:SH),EP x y->replay p k l x=some X->∃Y,replay p k l y=some Y/\EP X Y
 |[],_,x,y,X,e,h=>by cases h;exact⟨y,rfl,e⟩
 |r::l,k,x,y,X,e,h=>by
  simp only[replay]at h⊢;cases hp:p k<;>simp only[hp,cond_false,cond_true]at h⊢
  ·exact rJ l (k+1) x y X e h
  ·rw[An]at h;obtain⟨x',hx',h⟩:=h;obtain⟨y',hy',e'⟩:=N6 e hx';rw[hy'];exact rJ l (k+1) x' y' X e' h
theorem mH {p p':Nat->Bool}:∀(l:List DR) (k:Nat) (x x' X:SH),(∀(j:Nat) (r:DR),l[j]? =some r->p (k+j)≠p' (k+j)->gi cm r=true)->x.2=x'.2->replay p k l x=some X->
  ∃X',replay p' k l x'=some X'/\X.2=X'.2
 |[],_,x,x',X,_,e,h=>by cases h;exact⟨x',rfl,e⟩
 |r::l,k,x,x',X,hd,e,h=>by
  have hd':∀(j:Nat) (r:DR),l[j]? =some r->p (k+1+j)≠p' (k+1+j)->gi cm r=true:=λj r h1 h2=>hd (j+1) r (by simpa using h1) (by rwa [show k+(j+1)=k+1+j from by omega]);have h0:=hd 0 r rfl;rw[XB]at h0;simp only[replay]at h⊢;cases hp:p k<;>cases hp':p' k<;>simp only[hp,cond_false,cond_true]at h⊢
  ·exact mH l (k+1) x x' X hd' e h
  ·rw[sU (h0 (by rw[hp,hp'];exactλh=>nomatch h)),W6];exact mH l (k+1) x (Kn x'.1 r.dst r.c.v,x'.2) X hd' e h
  ·rw[sU (h0 (by rw[hp,hp'];exactλh=>nomatch h)),W6]at h;exact mH l (k+1) (Kn x.1 r.dst r.c.v,x.2) x' X hd' e h
  ·rw[An]at h;obtain⟨y,hy,h⟩:=h;obtain⟨y',h1,h2⟩:=rI e hy;rw[h1,W6];exact mH l (k+1) y y' X hd' h2 h
def ue:List Kil->SV->SV
 |[],v=>v
 |T::l,v=>ue l (v.aT T)
theorem Mk (l l':List Kil) (v:SV):ue (l++l') v=ue l' (ue l v):=by
 induction l generalizing v with
 |nil=>rfl
 |cons T l ih=>exact ih _
theorem Jc (T:Kil) (l:List Kil) (v:SV):(ue l v).aT T=ue l (v.aT T):=by
 induction l generalizing v with
 |nil=>rfl
 |cons U l ih=>simp only[ue];rw[ih,Dg]
theorem Jd {l:List Kil} {v:SV} (h:∀T∈l,v.aT T=v):ue l v=v:=by
 induction l with
 |nil=>rfl
 |cons U l ih=>simp only[ue];rw[h U (by simp)];exact ih λT hT=>h T (by simp[hT])
theorem qc {q p:Nat->Bool} {t:Nat} {v:SV}:∀(l:List DR) (k:Nat) (y z Y Z:SH),(∀j,q j=true->p j=true)->replay q k l y=some Y->replay p k l z=some Z->look Y.1 t=some v->
  (∀(j:Nat) (r:DR),l[j]? =some r->p (k+j)=true->q (k+j)=false->r.dst≠some t/\v.aT r.c.kil=v)->
  (∀u,look y.1 t=some u->∃Ts,look z.1 t=some (ue Ts u)/\∀T∈Ts,v.aT T=v)->look Z.1 t=some v
 |[],_,y,z,Y,Z,_,hy,hz,hv,_,hi=>by
  cases hy;cases hz;obtain⟨Ts,h1,h2⟩:=hi v hv
  rw[h1,Jd h2]
 |r::l,k,y,z,Y,Z,hqp,hy,hz,hv,hd,hi=>by
  simp only[replay]at hy hz;have hd':∀(j:Nat) (r:DR),l[j]? =some r->p (k+1+j)=true->q (k+1+j)=false->r.dst≠some t/\v.aT r.c.kil=v:=λj r h1 h2 h3=>hd (j+1) r (by simpa using h1) (by rwa [show k+(j+1)=k+1+j from by omega]) (by rwa [show k+(j+1)=k+1+j from by omega]);cases hq:q k<;>simp only[hq,cond_false,cond_true]at hy
  ·cases hp:p k<;>simp only[hp,cond_false,cond_true]at hz
   ·exact qc l (k+1) y z Y Z hqp hy hz hv hd' hi
   ·rw[An]at hz;obtain⟨z',hz',hz⟩:=hz;obtain⟨g1,g2⟩:=hd 0 r rfl (by simpa using hp) (by simpa using hq);refine qc l (k+1) y z' Y Z hqp hy hz hv hd' λu hu=>?_;obtain⟨Ts,h1,h2⟩:=hi u hu;refine⟨Ts++[r.c.kil],?_,λT hT=>?_⟩
    ·rw[dX hz',dW,if_neg g1,dk r.c.gj,h1,Mk];rfl
    ·grind
  ·rw[hqp k hq]at hz;simp only[cond_true]at hz;rw[An]at hy hz;obtain⟨y',hy',hy⟩:=hy;obtain⟨z',hz',hz⟩:=hz;refine qc l (k+1) y' z' Y Z hqp hy hz hv hd' λu hu=>?_;rw[dX hy',dW,dk r.c.gj]at hu;rw[dX hz',dW,dk r.c.gj];by_cases c:r.dst=some t
   ·rw[if_pos c]at hu⊢;cases hu;exact⟨[],rfl,by simp⟩
   ·rw[if_neg c]at hu⊢;obtain⟨u0,hu0,rfl⟩:=Xb.1 hu;obtain⟨Ts,h1,h2⟩:=hi u0 hu0;exact⟨Ts,by rw[h1,YP,Jc],h2⟩
theorem qd {q:Nat->Bool} {t:Nat} {v:SV}:∀(l:List DR) (k:Nat) (y Y:SH),replay q k l y=some Y->look Y.1 t=some v->(∃u,look y.1 t=some u)\/∃(j:Nat) (r:DR),l[j]? =some r/\q (k+j)=true/\r.dst=some t
  |[],_,y,Y,h,hv=>by cases h;exact .inl ⟨v,hv⟩
  | r :: l, k, y, Y, h, hv => by
    simp only[replay]at h;cases hq:q k<;>simp only[hq,cond_false,cond_true]at h
    · rcases qd l (k+1) y Y h hv with h'|⟨j,r',h1,h2,h3⟩
      · exact .inl h'
      · exact .inr ⟨j+1,r',by simpa using h1,by rwa [show k+(j+1)=k+1+j from by omega],h3⟩
    · rw [An] at h;obtain⟨y',hy',h⟩:=h
      rcases qd l (k+1) y' Y h hv with⟨u,hu⟩|⟨j,r',h1,h2,h3⟩
      · rw[dX hy',dW,dk r.c.gj]at hu;by_cases c:r.dst=some t
        · exact .inr ⟨0,r,rfl,hq,c⟩
        · rw[if_neg c]at hu;obtain⟨u0,hu0,_⟩:=Xb.1 hu;grind
      · exact .inr ⟨j+1,r',by simpa using h1,by rwa [show k+(j+1)=k+1+j from by omega],h3⟩
theorem N7 {a b:DR} (ha:gi cm a=true) (hf:a.c.v.aT b.c.kil=a.c.v) (hd:∀t,a.dst=some t->b.dst≠some t) {x y z:SH} (hy:b.app x=some y) (hz:a.app y=some z):
  ∃y' z',a.app x=some y'/\b.app y'=some z'/\EP z z':=by
 rw[sU ha]at hz;cases hz;obtain⟨z',h1,h2⟩:=rI (x:=x) (x':=(Kn x.1 a.dst a.c.v,x.2)) rfl hy;refine⟨_,z',sU ha x,h1,λt=>?_,h2⟩;rw[dX h1,dX hy];simp only[dW,dk b.c.gj];grind
theorem Ml {a b:DR} (hb:gi cm b=true) (hf:b.c.v.aT a.c.kil=b.c.v) (hd:∀t,a.dst=some t->b.dst≠some t) {x y z:SH} (hy:b.app x=some y) (hz:a.app y=some z):
  ∃y' z',a.app x=some y'/\b.app y'=some z'/\EP z z':=by
 rw[sU hb]at hy;cases hy;obtain⟨y',h1,h2⟩:=rI (x:=(Kn x.1 b.dst b.c.v,x.2)) (x':=x) rfl hz;refine⟨y',_,h1,sU hb y',λt=>?_,h2⟩;rw[dX h1,dX hz];simp only[dW,dk a.c.gj];grind
theorem comm {a b:DR} (h:IK a b=true) (hd:∀t,a.dst=some t->b.dst≠some t) (hm:∀i,a.uE i->¬b.uE i) {x y z:SH} (hy:b.app x=some y) (hz:a.app y=some z):
  ∃y' z',a.app x=some y'/\b.app y'=some z'/\GK z z':=by
 obtain⟨ga,gb,hu⟩:=iT h;rw[jr gb]at hy;cases hy;rw[jr ga]at hz;cases hz;refine⟨_,_,jr ga x,jr gb _,λt=>?_,λi=>?_⟩
 ·simp only[dW];grind
 ·have swap:(look (aQ b.n0 b.c.news) i).or (look (aQ a.n0 a.c.news) i)=(look (aQ a.n0 a.c.news) i).or (look (aQ b.n0 b.c.news) i):=by
   by_cases c:a.uE i
   ·rw[DR.pd (hm i c)];simp
   ·rw[DR.pd c];simp
  have past:∀(r:DR) (u:aP),(∀i,r.uE i->look u i=none)->look (jV u (x.2++aQ r.n0 r.c.news)) i=(look (jV u x.2) i).or (look (aQ r.n0 r.c.news) i):=λr u hr=>by
   by_cases c:r.uE i
   ·rw[rH _ _ (hr i c),rH _ _ (hr i c),aM]
   ·rw[DR.pd c,Yb];exact AQ u (by rw[aM,DR.pd c,Yb])
  rcases hu with⟨u1,u2⟩|⟨u1,u2⟩
  ·simp only[u1,jV,aM,Option.or_assoc];grind
  ·simp only[u1,jV,aM,Option.or_assoc];grind
theorem uG {p:Nat->Bool}:∀(l:List DR) (k:Nat) (x y X:SH),(∀(j:Nat) (r:DR),l[j]? =some r->p (k+j)=true->r.c.kil.2=[])->GK x y->replay p k l x=some X->∃Y,replay p k l y=some Y/\GK X Y
 |[],_,x,y,X,_,e,h=>by cases h;exact⟨y,rfl,e⟩
 |r::l,k,x,y,X,hg,e,h=>by
  have hg':∀(j:Nat) (r:DR),l[j]? =some r->p (k+1+j)=true->r.c.kil.2=[]:=λj r h1 h2=>hg (j+1) r (by simpa using h1) (by rwa [show k+(j+1)=k+1+j from by omega]);simp only[replay]at h⊢;cases hp:p k<;>simp only[hp,cond_false,cond_true]at h⊢
  ·exact uG l (k+1) x y X hg' e h
  ·rw[An]at h;obtain⟨x',hx',h⟩:=h;obtain⟨y',hy',e'⟩:=QB (hg 0 r rfl (by simpa using hp)) e hx';rw[hy'];exact uG l (k+1) x' y' X hg' e' h
theorem oD {p:Nat->Bool} {a:DR} (hi:gi cm a=true):∀(l:List DR) (k:Nat) (x X X':SH),
  (∀(j:Nat) (r:DR),l[j]? =some r->p (k+j)=true->a.c.v.aT r.c.kil=a.c.v/\(∀t,a.dst=some t->r.dst≠some t))->
  replay p k l x=some X->a.app X=some X'->∃x' X'',a.app x=some x'/\replay p k l x'=some X''/\EP X' X''
 |[],_,x,X,X',_,h,ha=>by cases h;exact⟨X',X',ha,rfl,λ_=>rfl,rfl⟩
 |r::l,k,x,X,X',hc,h,ha=>by
  have hc':∀(j:Nat) (r:DR),l[j]? =some r->p (k+1+j)=true->a.c.v.aT r.c.kil=a.c.v/\(∀t,a.dst=some t->r.dst≠some t):=λj r h1 h2=>hc (j+1) r (by simpa using h1) (by rwa [show k+(j+1)=k+1+j from by omega]);simp only[replay]at h⊢;cases hp:p k<;>simp only[hp,cond_false,cond_true]at h⊢
  ·exact oD hi l (k+1) x X X' hc' h ha
  ·rw[An]at h;obtain⟨y,hy,h⟩:=h;obtain⟨y',Y'',h1,h2,h3⟩:=oD hi l (k+1) y X X' hc' h ha;obtain⟨c1,c2⟩:=hc 0 r rfl (by simpa using hp);obtain⟨x',z',g1,g2,g3⟩:=N7 hi c1 c2 hy h1;obtain⟨W,w1,w2⟩:=rJ l (k+1) y' z' Y'' g3 h2;exact⟨x',W,g1,by rw[g2];exact w1,λt=>(h3.1 t).trans (w2.1 t),h3.2.trans w2.2⟩
theorem oE {p:Nat->Bool} {a:DR} (hi:gi cm a=false):∀(l:List DR) (k:Nat) (x X X':SH),
    (∀(j:Nat) (r:DR),l[j]? =some r->p (k+j)=true->tS cm a r=true/\(∀t,a.dst=some t->r.dst≠some t)/\∀i,a.uE i->¬r.uE i)->
    replay p k l x=some X->a.app X=some X'->∃x' X'',a.app x=some x'/\replay p k l x'=some X''/\GK X' X''
  |[],_,x,X,X',_,h,ha=>by cases h;exact⟨X',X',ha,rfl,GK.refl _⟩
  | r :: l, k, x, X, X', hc, h, ha => by
    have hc':∀(j:Nat) (r:DR),l[j]? =some r->p (k+1+j)=true->tS cm a r=true/\(∀t,a.dst=some t->r.dst≠some t)/\∀i,a.uE i->¬r.uE i:=λj r h1 h2=>hc (j+1) r (by simpa using h1) (by rwa [show k+(j+1)=k+1+j from by omega])
    have kil0:∀(r:DR),tS cm a r=true->r.c.kil.2=[]:=λr h=>by
      rcases fE h with⟨h1,_⟩|⟨h1,_⟩|⟨_,_,h1⟩
      · grind
      · exact(fi h1).2.1
      · exact(iT h1).2.1
    simp only[replay]at h⊢;cases hp:p k<;>simp only[hp,cond_false,cond_true]at h⊢
    · exact oE hi l (k+1) x X X' hc' h ha
    · rw [An] at h;obtain⟨y,hy,h⟩:=h;obtain⟨y',Y'',h1,h2,h3⟩:=oE hi l (k+1) y X X' hc' h ha;obtain⟨c1,c2,c3⟩:=hc 0 r rfl (by simpa using hp)
      have hcm:∃y'' z',a.app x=some y''/\r.app y''=some z'/\GK y' z':=by
        rcases fE c1 with⟨h1',_⟩|⟨h1',h2'⟩|⟨_,_,h1'⟩
        · grind
        · obtain⟨u1,u2,u3,u4,u5⟩:=Ml h1' h2' c2 hy h1;exact⟨u1,u2,u3,u4,u5.same⟩
        · exact comm h1' c2 c3 hy h1
      obtain⟨x',z',g1,g2,g3⟩:=hcm;obtain⟨W,w1,w2⟩:=uG l (k+1) y' z' Y'' (λj r h1 h2=>kil0 r (hc' j r h1 h2).1) g3 h2;exact⟨x',W,g1,by rw[g2];exact w1,h3.trans w2⟩
theorem ER {p:Nat->Bool} {a:DR} (l:List DR) (k:Nat) (x X X':SH)
  (hc:∀(j:Nat) (r:DR),l[j]? =some r->p (k+j)=true->tS cm a r=true/\(∀t,a.dst=some t->r.dst≠some t)/\∀i,a.uE i->¬r.uE i)
  (h:replay p k l x=some X) (ha:a.app X=some X'):∃x' X'',a.app x=some x'/\replay p k l x'=some X''/\GK X' X'':=by
 cases hi:gi cm a with
 |false=>exact oE hi l k x X X' hc h ha
 |true=>
  obtain⟨u1,u2,u3,u4,u5⟩:=oD hi l k x X X' (λj r h1 h2=>by
   obtain⟨c1,c2,_⟩:=hc j r h1 h2;refine⟨?_,c2⟩
   rcases fE c1 with⟨_,h⟩|⟨h,_⟩|⟨h,_,_⟩
   ·exact h
   ·exact vy (fi h).2.1
   ·rw[hi]at h;exact nomatch h) h ha
  exact⟨u1,u2,u3,u4,u5.same⟩
theorem ES {p p':Nat->Bool} {l:List DR} {i:Nat} {a:DR} {x X X':SH} (hi:l[i]? =some a) (hpi:p i=false) (Vr:p' i=true) (hpp:∀j,j≠i->p' j=p j)
  (hc:∀(j:Nat) (r:DR),i<j->l[j]? =some r->p j=true->tS cm a r=true/\(∀t,a.dst=some t->r.dst≠some t)/\∀i,a.uE i->¬r.uE i)
  (h:replay p 0 l x=some X) (ha:a.app X=some X'):∃X'',replay p' 0 l x=some X''/\GK X' X'':=by
 have hlt:=(Of.1 hi).1
 have ub:l=l.take i++a::l.drop (i+1):=by
  conv=>lhs;rw[<-XU i l]
  rw[YD hlt,(Of.1 hi).2]
 have hl:(l.take i).length=i:=by simp;omega
 rw[ub,eQ,An]at h;obtain⟨y,hy,h⟩:=h;rw[hl,Xe]at h;simp only[replay,hpi,cond_false]at h;obtain⟨y',X'',g1,g2,g3⟩:=ER (l.drop (i+1)) (i+1) y X X' (λj r h1 h2=>hc (i+1+j) r (by omega) (by rwa [Xl]at h1) h2) h ha;refine⟨X'',?_,g3⟩;rw[ub,eQ,hl,Xe];rw[kO (q:=p) (l.take i) 0 x λj hj=>by rw[hl]at hj;rw[Xe];exact hpp j (by omega),hy];simp only[W6,replay,Vr,cond_true,g1];rw[kO (q:=p) (l.drop (i+1)) (i+1) y' λj hj=>hpp _ (by omega)];exact g2
theorem uH {p:Nat->Bool} {t:Nat} {x0:SV} (hx0:∀T,x0.aT T=x0):∀(l:List DR) (k:Nat) (x X:SH),replay p k l x=some X->(∀(j:Nat) (r:DR),l[j]? =some r->r.dst≠some t)->look x.1 t=some x0->look X.1 t=some x0
 |[],_,x,X,h,_,hx=>by cases h;exact hx
 |r::l,k,x,X,h,hd,hx=>by
  have hd':∀(j:Nat) (r:DR),l[j]? =some r->r.dst≠some t:=λj r h1=>hd (j+1) r (by simpa using h1);simp only[replay]at h;cases hp:p k<;>simp only[hp,cond_false,cond_true]at h
  ·exact uH hx0 l (k+1) x X h hd' hx
  ·rw[An]at h;obtain⟨y,hy,h⟩:=h;refine uH hx0 l (k+1) y X h hd' ?_;rw[dX hy,dW,if_neg (hd 0 r rfl)];rw[dk r.c.gj,hx,YP,hx0]
end
section
variable [Tok] [Glo]
def Rl (w0:World) (fp0:G0) (bs:Cell->Prop) (n:Nat) (st:St) (a:Act) (w:World):Prop:=∃pl,Rel w0 fp0 st pl a w/\pl.base=bs/\st.n=n
section
variable {w:World} {H H':aP} {pl:Pl}
theorem Di (e:AM H' H):lM ([],[]) w H pl w H' pl:=
 ⟨λi B hB _=>⟨B,(e i).trans hB,B.du,rfl⟩,λd p u _ h hp=>⟨⟨h.1,λi B hB=>h.2 i B ((e i).symm.trans hB)⟩,hp⟩⟩
theorem cN.same (e:AM H' H) (h:cN H pl w):cN H' pl w:=
  ⟨λi B hB=>(h.blk i B ((e i).symm.trans hB)).cr (Di e) rfl (λ_=>ZJ) (λp u _ hu=>⟨hu,rfl⟩) B.dv,
   λi j B B' p h1 h2=>h.dis i j B B' p ((e i).symm.trans h1) ((e j).symm.trans h2),λi B p hB=>h.ob i B p ((e i).symm.trans hB),h.nb⟩
theorem Rel.congr {w0:World} {fp0:G0} {s s':List (Nat× SV)} {nid n:Nat} {gh:List (Option Nat)} {a:Act} (h:Rel w0 fp0 ⟨s,H,nid,n,gh⟩ pl a w) (hs:∀t v,look s' t=some v->look s t=some v) (e:AM H' H):
    Rel w0 fp0 ⟨s',H',nid,n,gh⟩ pl a w:=
  ⟨h.hr.same e,λt v hv=>(h.sl t v (hs t v hv)).zq (Di e),h.sz,h.df,λi hi=>(e i).trans (h.fresh i hi),h.gr,λp u hp hn=>by
    obtain⟨g1,g2,g3⟩:=h.fr p u hp hn
    exact⟨λi B hB=>g1 i B ((e i).symm.trans hB),g2,g3⟩,λk i hi=>⟨(h.gk k i hi).1,λB hB=>(h.gk k i hi).2 B ((e i).symm.trans hB)⟩⟩
end
theorem ET {h:aP} {k i:Nat} {b B:Blk} (e:look (LO h k b) i=some B):∃B',look h i=some B':=by
 induction h with
 |nil=>simp[LO,look]at e
 |cons x l ih=>
  obtain⟨k',u⟩:=x;rw[aH];by_cases c:k'=i
  ·exact⟨u,by simp[c]⟩
  ·rw[if_neg c];simp only[LO]at e;cases hb:Nat.beq k' k<;>simp only[hb,cond_true,cond_false]at e
   ·rw[aH,if_neg c]at e;exact ih e
   ·rw[aH,if_neg (by have:=So hb;omega)]at e;exact⟨B,e⟩
theorem uf:∀{l h:aP} {i:Nat} {B:Blk},look (jV l h) i=some B->∃B',look h i=some B'
 |[],h,i,B,e=>⟨B,e⟩
 |(k,b)::l,h,i,B,e=>by
  simp only[jV]at e;obtain⟨B',hB'⟩:=uf e;exact ET hB'
theorem Rel.app {w0:World} {fp0:G0} {X X':SH} {nid n:Nat} {gh:List (Option Nat)} {pl pl':Pl} {a:Act} {w w':World} {r:DR} {H':aP} {u:Value}
  (h:Rel w0 fp0 ⟨X.1,X.2,nid,n,gh⟩ pl a w) (hx:r.app X=some X') (hup:∀i B,look r.c.upd i=some B->∃B',look X.2 i=some B')
  (hd:∀t,r.dst=some t->t+1<=n) (hg:∀(k i:Nat),gh[k]? =some (some i)->i<r.n0) (hn:r.n0+r.c.news.length<=nid) (ha:after X.2 r.n0 r.c=some H') (hs:cU X.2 H' r.c.kil pl pl' w w') (hv:au w' H' pl' r.c.v u):
  Rel w0 fp0 ⟨X'.1,X'.2,nid,n,gh⟩ pl' (a.put r.dst u) w':=by
 have AJ:AM X'.2 H':=by
  unfold DR.app at hx;unfold after at ha;rw[xd hup]at ha;simp only[An,It]at hx ha;obtain⟨h1,e1,rfl⟩:=hx;obtain⟨h2,e2,rfl⟩:=ha;rw[e1]at e2;cases e2;exactλ_=>rfl
 have hfr:∀i,nid<=i->look H' i=none:=λi hi=>by
  rw[<-AJ i]
  cases hq:look X'.2 i with
  |none=>rfl
  |some B=>
   rcases pe (p:=λ_=>true) [r] 0 X X' (by simp[replay,hx]) i B hq with⟨B',hB'⟩|⟨j',r2,g1,_,g3⟩
   ·have:=h.fresh i hi;rw[hB']at this;exact nomatch this
   ·cases j' with
    |zero=>simp at g1;subst g1;have:=g3.2;omega
    |succ j'=>simp at g1
 have hsl:gJ w' H' pl' (pT r.c.kil X.1) a:=h.sl.cr r.c.gj hs.kp
 have hsl2:gJ w' H' pl' X'.1 (a.put r.dst u):=by
  rw[dX hx]
  cases Sz:r.dst with
  |none=>exact hsl
  |some t=>
   have ht:=hd t Sz;exact gJ.put (n:=n) (dst:=some t) hsl h.sz (by simp only[TV,Kn];rw[show Nat.ble (t+1) n=true from Yr ht];rfl) hv
 exact Rel.congr (s:=X'.1) (H:=H') ⟨hs.hr,hsl2,by rw[Act.EC];exact h.sz,by rw[Act.NH];exact h.df,hfr,h.gr.trans hs.gr,λp q hp hno=>by
  obtain⟨g1,g2,g3⟩:=h.fr p q hp hno;obtain⟨f1,f2,f3⟩:=hs.fr p q g2 g1
  exact⟨f1,f2,f3.trans g3⟩,h.gk.step hs.kp (Xt _) λk i B hki hB=>by
   have hi:=hg k i hki;rw[<-AJ i]at hB;unfold DR.app at hx;simp only[An,It]at hx;obtain⟨h1,e1,rfl⟩:=hx;rw[aM,bh,if_neg (by omega),Yb,cW r.c.gj e1 i]at hB;cases hm:mem i r.c.kil.1<;>simp only[hm,cond_true,cond_false]at hB
   ·obtain⟨B1,hB1,_⟩:=An.1 hB;exact⟨rfl,uf hB1⟩
   ·exact nomatch hB⟩ (λ_ _ h=>h) AJ
theorem xf (acc:List Nat) (j:Nat):∀l:List Edge,(Gr acc l).testBit j=true↔∃e∈l,Region.binds .any e=true/\(j=e.on\/(acc.getD e.on 0).testBit j=true)
 |[]=>by simp[Gr]
 |e::l=>by
  simp only[Gr];cases hb:Region.binds .any e
  ·simp only[cond_false,xf acc j l,Xm,exists_eq_or_imp,hb,Yt,false_and,false_or]
  ·simp only[cond_true,Nat.testBit_or,Nat.testBit_two_pow,YY,decide_eq_true_eq,xf acc j l,Xm,exists_eq_or_imp,hb,true_and];constructor
   ·rintro ((h|h)|h)
    ·exact .inl (.inr h)
    ·exact .inl (.inl h.symm)
    ·exact .inr h
   ·rintro ((h|h)|h)
    ·exact .inl (.inr h.symm)
    ·exact .inl (.inl h)
    ·exact .inr h
theorem kP {n:Nat}:∀{l:List Edge},wO n l=true->∀e∈l,Region.binds .any e=true->e.on<n
 |[],_,e,he,_=>by simp at he
 |x::l,h,e,he,hb=>by
  simp only[wO]at h;cases hx:Region.binds .any x<;>simp only[hx,cond_true,cond_false]at h
  ·rcases Xm.1 he with rfl|he
   ·rw[hx]at hb;exact nomatch hb
   ·exact kP h e he hb
  ·cases hn:Nat.ble (x.on+1) n<;>simp only[hn,cond_true,cond_false]at h
   ·exact nomatch h
   ·rcases Xm.1 he with rfl|he
    ·exact Xk hn
    ·exact kP h e he hb
structure Je (ops:List Oper) (aN:List Nat):Prop where
 back:∀(i:Nat) (o:Oper),ops[i]? =some o->∀e∈o.after.toList,Region.binds .any e=true->e.on<i
 spec:∀(i:Nat) (o:Oper),ops[i]? =some o->∀j,(aN.getD i 0).testBit j=true↔∃e∈o.after.toList,Region.binds .any e=true/\(j=e.on\/(aN.getD e.on 0).testBit j=true)
theorem yJ:∀(l:List Oper) (acc aN:List Nat),Ao acc l=some aN->(∃t,aN=acc++t)/\
  ∀(k:Nat) (o:Oper),l[k]? =some o->(∀e∈o.after.toList,Region.binds .any e=true->e.on<acc.length+k)/\
   ∀j,(aN.getD (acc.length+k) 0).testBit j=true↔∃e∈o.after.toList,Region.binds .any e=true/\(j=e.on\/(aN.getD e.on 0).testBit j=true)
 |[],acc,aN,h=>by cases h;exact⟨⟨[],by simp⟩,λk o ho=>by simp at ho⟩
 |x::l,acc,aN,h=>by
  simp only[Ao]at h;cases he:wO acc.length x.after.toList<;>simp only[he,cond_true,cond_false]at h
  ·exact nomatch h
  ·obtain⟨⟨t,ht⟩,hl⟩:=yJ l _ aN h;refine⟨⟨Gr acc x.after.toList::t,by rw[ht];simp⟩,λk o ho=>?_⟩
   cases k with
   |zero=>
    simp at ho;subst ho;refine⟨kP he,λj=>?_⟩
    have hm:aN.getD (acc.length+0) 0=Gr acc x.after.toList:=by rw[ht];simp[List.getD]
    rw[hm,xf];constructor
    ·rintro ⟨e,h1,h2,h3⟩
     have hlt:=kP he e h1 h2;refine⟨e,h1,h2,h3.imp id λh3=>?_⟩;rw[ht];simpa[List.getD,Xi hlt,Xh]using h3
    ·rintro ⟨e,h1,h2,h3⟩
     have hlt:=kP he e h1 h2;refine⟨e,h1,h2,h3.imp id λh3=>?_⟩
     rw[ht]at h3;simpa[List.getD,Xi hlt,Xh]using h3
   |succ k=>
    have:=hl k o (by simpa using ho);simp only[W5,W7,Xg]at this;rwa [show acc.length+(0+1)+k=acc.length+(k+1)from by omega]at this
theorem QC {ops:List Oper} {aN:List Nat} (h:Ao [] ops=some aN):Je ops aN:=by
 obtain⟨_,h2⟩:=yJ ops [] aN h;exact⟨λi o ho=>by have:=(h2 i o ho).1;simpa using this,λi o ho=>by have:=(h2 i o ho).2;simpa using this⟩
theorem Je.closed {ops:List Oper} {aN:List Nat} (hm:Je ops aN) {p:Nat->Bool} (hp:∀(j:Nat) (o:Oper),ops[j]? =some o->p j=true->∀e∈o.after.toList,Region.binds .any e=true->p e.on=true):
  ∀(n i:Nat) (o:Oper),i<=n->ops[i]? =some o->(∀e∈o.after.toList,Region.binds .any e=true->p e.on=true)->∀j,(aN.getD i 0).testBit j=true->p j=true
 |n,i,o,hn,ho,he,j,hj=>by
  obtain⟨e,h1,h2,h3⟩:=(hm.spec i o ho j).1 hj
  rcases h3 with rfl|h3
  ·exact he e h1 h2
  ·have hlt:=hm.back i o ho e h1 h2
   have hol:e.on<ops.length:=by have:=(Of.1 ho).1;omega
   cases n with
   |zero=>omega
   |succ n=>exact hm.closed hp n e.on _ (by omega) (On hol) (λe' h1' h2'=>hp e.on _ (On hol) (he e h1 h2) e' h1' h2') j h3
theorem Je.lt {ops:List Oper} {aN:List Nat} (hm:Je ops aN) {i j:Nat} {o:Oper} (ho:ops[i]? =some o) (hj:(aN.getD i 0).testBit j=true):j<i:=
 of_decide_eq_true (hm.closed (p:=λj=>decide (j<i)) (λk o' ho' hk e h1 h2=>decide_eq_true (by have:=hm.back k o' ho' e h1 h2;have:=of_decide_eq_true hk;omega)) i i o (Xt _) ho
  (λe h1 h2=>decide_eq_true (hm.back i o ho e h1 h2)) j hj)
end
section
variable [Tok] [Glo]
def N8 (h H:aP):Prop:=∀i B,look h i=some B->∃B',look H i=some B'/\B.nv B'
def SA (P:Program) (o:Oper) (n:Nat) (c:CR) (s:List (Nat× SV)) (h:aP):Prop:=
 ∀(s':List (Nat× SV)) (H:aP) (a:Act) (w:World) (pl:Pl),Ext s s'->N8 h H->cN H pl w->gJ w H pl s' a->(∀k,k<c.news.length->look H (n+k)=none)->kK P o a w H pl n c
theorem CG {P:Program} {T:TypeId} {h H:aP} (e:N8 h H) {x:SV} {k:Int} {v:SV} (hv:bH P T h x k=some v):bH P T H x k=some v:=by
 have sz:∀{t t':Ty},t.sz=t'.sz->slT P T t=slT P T t':=λ{t t'} e=>by unfold slT;rw[e]
 cases x with
 |own i=>
  simp only[bH]at hv⊢
  cases hl:look h i with
  |none=>rw[hl]at hv;exact nomatch hv
  |some B=>
   rw[hl]at hv;obtain⟨B',h1,h2⟩:=e i B hl
   cases B with
   |box cs=>exact nomatch hv
   |arr sh t xs=>
    cases B' with
    |box cs=>exact h2.elim
    |arr sh' t' ys=>
     rw[h1];simp only at hv⊢
     rwa [<-sz h2.1,<-h2.2]
 |sub i o n=>
  simp only[bH]at hv⊢
  cases hl:look h i with
  |none=>rw[hl]at hv;exact nomatch hv
  |some B=>
   rw[hl]at hv;obtain⟨B',h1,h2⟩:=e i B hl
   cases B with
   |box cs=>exact nomatch hv
   |arr sh t xs=>
    cases B' with
    |box cs=>exact h2.elim
    |arr sh' t' ys=>
     rw[h1];simp only at hv⊢
     rwa [<-sz h2.1]
 |r d x=>cases x<;>exact hv
 |_=>exact hv
def nD (aN:List Nat) (i:Nat) (o:Oper) (rs:List DR) (t:Bool):Prop:=
 match o.guard with
 |none=>t=true
 |some (g,want)=>(aN.getD i 0).testBit g=true/\∃r d,rs[g]? =some r/\r.dst=some d/\((∃b,r.c.v=.r [] (.bool b)/\t=(b==want))\/(r.c.v=.tup []/\t=false))
def Uk (E:Env) (ops:List Oper) (aN dsts:List Nat) (s0:List (Nat× SV)) (h0:aP) (rs:List DR) (i:Nat) (o:Oper) (r:DR):Prop:=
 r.dst=o.dst/\okW E o.op r.c=true/\∃x t,replay (Nat.testBit (aN.getD i 0)) 0 (rs.take i) (oY (Ql aN i 0 ops) s0 (fg o.op.operands.toList),h0)=some x/\nD aN i o rs t/\
  ((t=true/\r=Sf E aN i ops h0 x o r.n0 r.c/\(Ns E h0 x o=false->GI E.P o r.n0 r.c (oY [] x.1 (fg o.op.operands.toList)) (LR E aN i ops x o))/\(Ns E h0 x o=true->SA E.P o r.n0 r.c (oY [] x.1 (fg o.op.operands.toList)) (yI h0 (Gs x o))))\/(t=false/\r.c={v:=.tup []}/\r.len=false))
theorem SB {E:Env} {ρ:Type} {o:Oper} {s:List (Nat× SV)} {h0:aP} {n:Nat} {K:CR->Option ρ} {out:ρ} (hl:T7 o.op=true) (h:Ei E s h0 n o.op K=some out):∃c,K c=some out/\SA E.P o n c s h0:=by
 cases ho:o.op with
 |indexAddr T x k=>
  rw[ho]at h;have h:pU E.P s h0 (.indexAddr T x k) (λv=>K {v:=v})=some out:=h;rw[pV]at h;obtain⟨v,hv,h⟩:=An.1 h;refine⟨_,h,λs' H a w pl es eh hr hs hn=>?_⟩
  have hv':ic E.P s' H (.indexAddr T x k)=some v:=by
   simp only[ic,An]at hv⊢;obtain⟨x',hx,k',hk,n',hn',hv⟩:=hv;exact⟨x',dg es _ _ hx,k',dg es _ _ hk,n',hn',CG eh hv⟩
  obtain⟨u,hu,hvr⟩:=lN hr hs hv' o ho
  exact o8 hr hu hvr
 |_=>rw[ho]at hl;exact nomatch hl
structure GN (E:Env) (ops:List Oper) (aN dsts:List Nat) (s0:List (Nat× SV)) (h0:aP) (nid0:Nat) (rs:List DR) (m nid:Nat):Prop where
 len:rs.length=m
 Vs:∀(i:Nat) (o:Oper) (r:DR),ops[i]? =some o->rs[i]? =some r->Uk E ops aN dsts s0 h0 rs i o r
 lo:∀(i:Nat) (r:DR),rs[i]? =some r->nid0<=r.n0/\r.n0+r.c.news.length<=nid
 ord:∀(i j:Nat) (a b:DR),i<j->rs[i]? =some a->rs[j]? =some b->a.n0+a.c.news.length<=b.n0
theorem nD.more {aN:List Nat} {i:Nat} {o:Oper} {rs:List DR} {t:Bool} (h:nD aN i o rs t) (r:DR):nD aN i o (rs++[r]) t:=by
 unfold nD at*;split at h
 ·exact h
 ·obtain⟨h1,r',d,h2,h3,h4⟩:=h;exact⟨h1,r',d,by rw[Xi (Of.1 h2).1];exact h2,h3,h4⟩
section
variable {ρ:Type} {E:Env} {ops:List Oper} {aN dsts:List Nat} {s0:List (Nat× SV)} {h0:aP} {nid0:Nat}
theorem GN.push {rs:List DR} {m nid:Nat} (F:GN E ops aN dsts s0 h0 nid0 rs m nid) (h0n:nid0<=nid) {o:Oper} {r:DR} (ho:ops[m]? =some o) (hr:Uk E ops aN dsts s0 h0 (rs++[r]) m o r) (hn:r.n0=nid):
  GN E ops aN dsts s0 h0 nid0 (rs++[r]) (m+1) (nid+r.c.news.length):=by
 have zt:∀(i:Nat) (b:DR),(rs++[r])[i]? =some b->(i<m/\rs[i]? =some b)\/(i=m/\b=r):=λi b hb=>by
  by_cases c:i<m
  ·rw[Xi (by rw[F.len];exact c)]at hb;exact .inl ⟨c,hb⟩
  ·rw[Xd (by rw[F.len];omega),F.len]at hb
   have hi:i-m<1:=by have:=(Of.1 hb).1;simpa using this
   have:i-m=0:=by omega
   rw[this]at hb;simp at hb;exact .inr ⟨by omega,hb.symm⟩
 refine⟨by simp[F.len],λi o' b ho' hb=>?_,λi b hb=>?_,λi j a b hij ha hb=>?_⟩
 ·rcases zt i b hb with⟨hi,h⟩|⟨rfl,rfl⟩
  ·obtain⟨g1,g2,x,t,g3,g4,g5⟩:=F.Vs i o' b ho' h;exact⟨g1,g2,x,t,by rw[Yp (by rw[F.len];omega)];exact g3,g4.more r,g5⟩
  ·rw[ho]at ho';cases ho';exact hr
 ·rcases zt i b hb with⟨hi,h⟩|⟨rfl,rfl⟩
  ·have:=F.lo i b h;exact⟨this.1,by omega⟩
  ·exact⟨by omega,by omega⟩
 ·rcases zt j b hb with⟨hj,h⟩|⟨rfl,rfl⟩
  ·rcases zt i a ha with⟨hi,h'⟩|⟨rfl,rfl⟩
   ·exact F.ord i j a b hij h' h
   ·omega
  ·rcases zt i a ha with⟨hi,h'⟩|⟨rfl,rfl⟩
   ·have:=F.lo i a h';omega
   ·omega
theorem Jf:∀{rs:List DR} {g:Nat} {r:DR} {v:SV},rs[g]? =some r->r.c.v=v->Se rs g v=rs
 |[],_,_,_,h,_=>by simp at h
 |x::l,0,r,v,h,hv=>by simp at h;subst h;subst hv;rfl
 |x::l,g+1,r,v,h,hv=>by simp only[Se];rw[Jf (rs:=l) (by simpa using h) hv]
theorem rK (hE:oC E) {out:ρ}:∀(rest:List Oper) (i nid:Nat) (rs:List DR) (K:List DR->Nat->Option ρ),re E ops aN dsts s0 h0 i rest nid rs K=some out->
  GN E ops aN dsts s0 h0 nid0 rs i nid->nid0<=nid->ops.drop i=rest->∃rs' CA,K rs' CA=some out/\nid0<=CA/\GN E ops aN dsts s0 h0 nid0 rs' (i+rest.length) CA
 |[],i,nid,rs,K,h,F,hn,_=>⟨rs,nid,h,hn,F⟩
 |o::rest,i,nid,rs,K,h,F,hn,hd=>by
  have ho:ops[i]? =some o:=by rw[<-List.head?_drop,hd];rfl
  have hd':ops.drop (i+1)=rest:=by rw[<-List.drop_drop,hd];rfl
  have N9:∀r,(rs++[r]).take i=rs:=λr=>by rw[Yp (by rw[F.len];omega),<-F.len,XO]
  simp only[re,An]at h;obtain⟨x,hx,h⟩:=h
  have exec:∀t,(∀r,nD aN i o (rs++[r]) t)->t=true->(Ei E (oY [] x.1 (fg o.op.operands.toList)) (Nt E aN i ops h0 x o) nid o.op λc=>cond (okW E o.op c) (re E ops aN dsts s0 h0 (i+1) rest (nid+c.news.length) (rs++[Sf E aN i ops h0 x o nid c]) K) none)=some out->
    ∃rs' CA,K rs' CA=some out/\nid0<=CA/\GN E ops aN dsts s0 h0 nid0 rs' (i+(o::rest).length) CA:=λt hw ht h=>by
   obtain⟨c,hc,hg⟩:∃c,(cond (okW E o.op c) (re E ops aN dsts s0 h0 (i+1) rest (nid+c.news.length) (rs++[Sf E aN i ops h0 x o nid c]) K) none)=some out/\
     (Ns E h0 x o=false->GI E.P o nid c (oY [] x.1 (fg o.op.operands.toList)) (LR E aN i ops x o))/\(Ns E h0 x o=true->SA E.P o nid c (oY [] x.1 (fg o.op.operands.toList)) (yI h0 (Gs x o))):=by
    unfold Nt at h;cases hL:Ns E h0 x o<;>simp only[hL,cond_true,cond_false]at h
    ·obtain⟨c,hc,hg⟩:=GJ hE h;exact⟨c,hc,λ_=>hg,(λe=>nomatch e)⟩
    ·have hL':=hL;unfold Ns at hL';simp only[W3]at hL';obtain⟨c,hc,hg⟩:=SB hL'.2.1 h;exact⟨c,hc,(λe=>nomatch e),λ_=>hg⟩
   cases hok:okW E o.op c<;>simp only[hok,cond_true,cond_false]at hc
   ·exact nomatch hc
   ·have F':=F.push hn (r:=Sf E aN i ops h0 x o nid c) ho ⟨rfl,hok,x,t,by rw[N9];exact hx,hw _,.inl ⟨ht,rfl,hg.1,hg.2⟩⟩ rfl;have:=rK hE rest (i+1) _ _ K hc F' (by omega) hd';rwa [show i+1+rest.length=i+(o::rest).length from by simp;omega]at this
  have skip:∀t,(∀r,nD aN i o (rs++[r]) t)->t=false->re E ops aN dsts s0 h0 (i+1) rest nid (rs++[⟨o.dst,nid,{v:=.tup []},[],[],false⟩]) K=some out->
    ∃rs' CA,K rs' CA=some out/\nid0<=CA/\GN E ops aN dsts s0 h0 nid0 rs' (i+(o::rest).length) CA:=λt hw ht h=>by
   have F':=F.push hn (r:=⟨o.dst,nid,{v:=.tup []},[],[],false⟩) ho ⟨rfl,by simp only[okW,isNil,CR.kil,X5];cases nB E o.op<;>rfl,x,t,by rw[N9];exact hx,hw _,.inr ⟨ht,rfl,rfl⟩⟩ rfl;have:=rK hE rest (i+1) _ _ K h F' (by simpa using hn) hd';rwa [show i+1+rest.length=i+(o::rest).length from by simp;omega]at this
  split at h
  ·rename_i hg;exact exec true (λr=>by unfold nD;rw[hg]) rfl h
  ·rename_i g want hg;cases hb:(aN.getD i 0).testBit g<;>simp only[hb,cond_true,cond_false]at h
   ·exact nomatch h
   ·simp only[An]at h;obtain⟨r,hr,d,Sz,h⟩:=h;split at h
    ·rename_i hv
     exact skip false (λr'=>nD.more (by
      unfold nD;rw[hg];exact⟨hb,r,d,hr,Sz,.inr ⟨hv,rfl⟩⟩) r') rfl h
    ·rename_i b hv
     have hw:∀r',nD aN i o (rs++[r']) (b==want):=λr'=>nD.more (by
      unfold nD;rw[hg];exact⟨hb,r,d,hr,Sz,.inl ⟨b,hv,rfl⟩⟩) r'
     cases b<;>simp only[cond_true,cond_false]at h
     ·rw[Jf hr hv]at h;cases want<;>simp only[cond_true,cond_false]at h
      ·exact exec _ hw rfl h
      ·exact skip _ hw rfl h
     ·rw[Jf hr hv]at h;cases want<;>simp only[cond_true,cond_false]at h
      ·exact skip _ hw rfl h
      ·exact exec _ hw rfl h
    ·exact nomatch h
end
theorem AR {cm:DR->Bool} {aN:List Nat} {i:Nat} {r:DR}:∀{l:List DR} {k:Nat},Aq cm aN i r k l=true->∀(j:Nat) (b:DR),l[j]? =some b->(aN.getD (k+j) 0).testBit i=true\/tS cm r b=true
 |[],_,_,j,b,hb=>by simp at hb
 |x::l,k,h,j,b,hb=>by
  simp only[Aq]at h
  have hl:Aq cm aN i r (k+1) l=true/\((aN.getD k 0).testBit i=true\/tS cm r x=true):=by
   cases h1:(aN.getD k 0).testBit i<;>simp only[h1,cond_true,cond_false]at h
   ·cases h2:tS cm r x<;>simp only[h2,cond_true,cond_false]at h
    ·exact nomatch h
    ·exact⟨h,.inr rfl⟩
   ·exact⟨h,.inl rfl⟩
  cases j with
  |zero=>simp at hb;subst hb;exact hl.2
  |succ j=>have:=AR hl.1 j b (by simpa using hb);rwa [show k+1+j=k+(j+1)from by omega]at this
theorem uI {cm:DR->Bool} {aN:List Nat}:∀{l:List DR} {k:Nat},CY cm aN k l=true->∀(i j:Nat) (a b:DR),i<j->l[i]? =some a->l[j]? =some b->(aN.getD (k+j) 0).testBit (k+i)=true\/tS cm a b=true
 |[],_,_,i,j,a,b,_,ha,_=>by simp at ha
 |x::l,k,h,i,j,a,b,hij,ha,hb=>by
  simp only[CY]at h;cases h1:Aq cm aN k x (k+1) l<;>simp only[h1,cond_true,cond_false]at h
  ·exact nomatch h
  ·obtain⟨j,rfl⟩:∃j',j=j'+1:=⟨j-1,by omega⟩
   cases i with
   |zero=>
    simp at ha;subst ha;have:=AR h1 j b (by simpa using hb)
    rwa [show k+1+j=k+(j+1)from by omega]at this
   |succ i=>
    have:=uI h i j a b (by omega) (by simpa using ha) (by simpa using hb);rwa [show k+1+j=k+(j+1)from by omega,show k+1+i=k+(i+1)from by omega]at this
theorem WC {i:Nat} {l:List Nat}:mem i l=true↔i∈l:=by
 induction l with
 |nil=>simp[mem]
 |cons k l ih=>
  simp only[mem,Xm];cases h:Nat.beq k i
  ·have:¬i=k:=λe=>by subst e;simp at h
   simp[ih,this]
  ·have:=So h;simp[this]
theorem Dj {n:Nat}:∀{l:List Nat},LQ n l=true->∀i∈l,i+1<=n
 |[],_,i,hi=>by simp at hi
 |x::l,h,i,hi=>by
  simp only[LQ]at h;cases hm:Nat.ble (x+1) n<;>simp only[hm,cond_true,cond_false]at h
  ·exact nomatch h
  ·rcases Xm.1 hi with rfl|hi
   ·exact Xk hm
   ·exact Dj h i hi
theorem sV:∀{ops:List Oper} {j:Nat} {o:Oper} {t:Nat},ops[j]? =some o->o.dst=some t->t∈jS ops
 |[],j,o,t,h,_=>by simp at h
 |x::l,0,o,t,h,hd=>by simp at h;subst h;simp[jS,hd]
 |x::l,j+1,o,t,h,hd=>by
  have:=sV (ops:=l) (by simpa using h) hd;simp only[jS];split<;>simp[this]
theorem Dk:∀{ops:List Oper},(jS ops).Nodup->∀{i j:Nat} {a b:Oper} {t:Nat},i≠j->ops[i]? =some a->ops[j]? =some b->a.dst=some t->b.dst≠some t
 |[],_,i,j,a,b,t,_,h,_,_=>by simp at h
 |x::l,hn,i,j,a,b,t,hij,ha,hb,h1=>by
  have hl:(jS l).Nodup:=by
   simp only[jS]at hn;split at hn
   ·exact(Yd.1 hn).2
   ·exact hn
  have hx:∀t,x.dst=some t->t∉jS l:=λt ht=>by
   simp only[jS,ht]at hn;exact(Yd.1 hn).1
  intro h2
  cases i with
  |zero=>
   simp at ha;subst ha
   cases j with
   |zero=>exact hij rfl
   |succ j=>exact hx t h1 (sV (by simpa using hb) h2)
  |succ i=>
   cases j with
   |zero=>simp at hb;subst hb;exact hx t h2 (sV (by simpa using ha) h1)
   |succ j=>exact Dk (i:=i) (j:=j) hl (by omega) (by simpa using ha) (by simpa using hb) h1 h2
theorem EU {aN:List Nat} {i:Nat}:∀{ops:List Oper} {k j:Nat} {o:Oper} {t:Nat},ops[j]? =some o->o.dst=some t->(aN.getD (k+j) 0).testBit i=false->t∈Ql aN i k ops
 |[],k,j,o,t,h,_,_=>by simp at h
 |x::l,k,0,o,t,h,hd,hb=>by simp at h;subst h;simp only[XB]at hb;simp only[Ql,hb,cond_false,hd];exact Xz ..
 |x::l,k,j+1,o,t,h,hd,hb=>by
  have:=EU (ops:=l) (k:=k+1) (by simpa using h) hd (by rw[show k+1+j=k+(j+1)from by omega];exact hb);simp only[Ql];cases(aN.getD k 0).testBit i<;>simp only[cond_true,cond_false]
  ·split<;>simp[this]
  ·exact this
theorem Mm {T:List Nat} {s:List (Nat× SV)} {l:List Nat} {t:Nat} {v:SV} (h:look (oY T s l) t=some v):v∈Ek s l:=by
 induction l with
 |nil=>exact nomatch h
 |cons k l ih=>
  simp only[oY]at h;simp only[Ek];cases hm:mem k T<;>simp only[hm,cond_true,cond_false]at h
  ·cases hl:look s k with
   |none=>rw[hl]at h;exact ih h
   |some u=>
    rw[hl]at h;simp only[aH]at h;by_cases c:k=t
    ·rw[if_pos c]at h;cases h;exact Xz
    ·rw[if_neg c]at h;exact Xq _ (ih h)
  ·cases hl:look s k with
   |none=>exact ih h
   |some u=>exact Xq _ (ih h)
theorem Dl {k:Nat} {B:Blk}:∀{l:List DR},Nr k B l=true->∀r∈l,look r.c.upd k=none/\mem k r.c.kil.1=false/\B.M9 r.c.kil=true
 |[],_,_,h=>nomatch h
 |r::l,h,r',hr=>by
  simp only[Nr]at h;cases hc:((look r.c.upd k).isNone&&(!mem k r.c.kil.1&&B.M9 r.c.kil))<;>rw[hc]at h<;>simp only[cond_true,cond_false]at h
  ·exact nomatch h
  ·rw[W3,W3,Option.isNone_iff_eq_none,Y7]at hc
   rcases Xm.1 hr with rfl|hr
   ·exact hc
   ·exact Dl h r' hr
theorem GO {h:aP} {rs:List DR} {k:Nat}:∀{L:List Nat},UZ h rs L=true->mem k L=true->∃B,look h k=some B/\∀r∈rs,look r.c.upd k=none/\mem k r.c.kil.1=false/\B.M9 r.c.kil=true
 |[],_,hm=>nomatch hm
 |i::l,hc,hm=>by
  simp only[UZ]at hc;split at hc
  ·rename_i B hB;cases h1:Nr i B rs<;>rw[h1]at hc<;>simp only[cond_true,cond_false]at hc
   ·exact nomatch hc
   ·simp only[mem]at hm;cases hb:Nat.beq i k<;>rw[hb]at hm<;>simp only[cond_true,cond_false]at hm
    ·exact GO hc hm
    ·have:=So hb;subst this;exact⟨B,hB,Dl h1⟩
  ·exact nomatch hc
theorem yK:∀{L T:List Nat},Ar L T=true->∀k,mem k L=true->mem k T=false
 |[],_,_,k,hk=>nomatch hk
 |i::l,T,h,k,hk=>by
  simp only[Ar]at h;cases hm:mem i T<;>rw[hm]at h
  ·simp only[mem]at hk;cases hb:Nat.beq i k<;>rw[hb]at hk
   ·exact yK h k hk
   ·rw[<-So hb];exact hm
  ·exact nomatch h
theorem yL {L:List Nat}:∀{rs:List DR},Em L rs=true->∀k,mem k L=true->∀r∈rs,mem k r.c.kil.1=false
 |[],_,_,_,_,hr=>nomatch hr
 |r::l,h,k,hk,r',hr=>by
  simp only[Em]at h;cases hn:Ar L r.c.kil.1<;>rw[hn]at h
  ·exact nomatch h
  ·rcases Xm.1 hr with rfl|hr
   ·exact yK hn k hk
   ·exact yL h k hk r' hr
theorem AU {cm:DR->Bool}:∀{rs:List DR},CZ cm rs=true->∀r∈rs,r.len=true->gi cm r=true
 |[],_,_,hr,_=>nomatch hr
 |r::l,h,r',hr,hl=>by
  simp only[CZ]at h;cases hn:(!r.len||gi cm r)<;>rw[hn]at h
  ·exact nomatch h
  ·rcases Xm.1 hr with rfl|hr
   ·rw[hl]at hn;exact hn
   ·exact AU h r' hr hl
theorem QD {T:Kil} {B:Blk} (h:B.M9 T=true):B.aT T=some B:=by
 cases B with
 |box cs=>simp only[Blk.aT,j5 cs h]
 |arr sh t xs=>
  cases sh with
  |none=>rfl
  |some d=>simp only[Blk.aT,not_false h,cond_false]
theorem nE {p:Nat->Bool} {k:Nat} {B:Blk}:∀(l:List DR) (j:Nat) (x X:SH),(∀r∈l,look r.c.upd k=none/\mem k r.c.kil.1=false/\B.M9 r.c.kil=true)->look x.2 k=some B->replay p j l x=some X->look X.2 k=some B
 |[],_,x,X,_,hx,h=>by cases h;exact hx
 |r::l,j,x,X,hl,hx,h=>by
  simp only[replay]at h;have hl':=λr' hr=>hl r' (Xq _ hr);cases hp:p j<;>rw[hp]at h<;>simp only[cond_true,cond_false]at h
  ·exact nE l (j+1) x X hl' hx h
  ·rw[An]at h;obtain⟨y,hy,h⟩:=h;obtain⟨h1,hm,h2⟩:=hl r Xz;refine nE l (j+1) y X hl' ?_ h;rw[zK hy,hm,cond_false,rH _ _ h1,hx,W6,QD h2];rfl
theorem mo {T:List Nat} {s:List (Nat× SV)} {l:List Nat} {t:Nat} {v:SV} (h:look (oY T s l) t=some v):t∉T/\look s t=some v:=by
 induction l with
 |nil=>exact nomatch h
 |cons k l ih=>
  simp only[oY]at h;cases hm:mem k T<;>simp only[hm,cond_true,cond_false]at h
  ·cases hl:look s k with
   |none=>rw[hl]at h;exact ih h
   |some u=>
    rw[hl]at h;rw[aH]at h;by_cases e:k=t
    ·subst e;rw[if_pos rfl]at h;cases h;exact⟨λh=>by rw[WC.2 h]at hm;exact(nomatch hm),hl⟩
    ·rw[if_neg e]at h;exact ih h
  ·exact ih h
theorem AV {E:Env} {aN:List Nat} {i:Nat}:∀{l:List Oper} {k:Nat},yH E aN i k l=false->∀(j:Nat) (o:Oper),l[j]? =some o->nB E o.op=true->T4 aN i (k+j)=true
 |[],_,_,j,o,h,_=>by simp at h
 |x::l,k,h,j,o,ho,hw=>by
  simp only[yH]at h
  have hl:yH E aN i (k+1) l=false/\(nB E x.op=true->T4 aN i k=true):=by
   cases h1:nB E x.op<;>simp only[h1,cond_true,cond_false]at h
   ·exact⟨h,λh=>nomatch h⟩
   ·cases h2:T4 aN i k<;>simp only[h2,cond_true,cond_false]at h
    ·exact nomatch h
    ·exact⟨h,λ_=>rfl⟩
  cases j with
  |zero=>simp at ho;subst ho;exact hl.2 hw
  |succ j=>have:=AV hl.1 j o (by simpa using ho) hw;rwa [show k+1+j=k+(j+1)from by omega]at this
end
end Go.Proofs.Ev
