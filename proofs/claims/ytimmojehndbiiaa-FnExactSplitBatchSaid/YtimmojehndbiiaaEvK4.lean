/- The evaluator over the model's code, and that it is sound: part 4. -/
import Derived.Test.YtimmojehndbiiaaEvK3
import Derived.Lib.SliceRun
import Derived.Laws.Cover3
import Derived.Orders
set_option linter.unusedVariables false
set_option linter.unusedSimpArgs false
set_option linter.unusedSectionVars false
namespace Go.Proofs.Ev
section
variable [Tok]
section
variable {w:World} {H:Heap} {pl:Pl} {P:Program}
theorem gB {t:Ty} {ys:List t.El} {zs:List t.El} {q n i j:Nat} {r:R} (hn:q+n<=ys.length) (hz:zs.length=n) (h:ae t (ys.take q++zs++ys.drop (q+n)) i j r):
  (q<=i/\i<q+n/\ae t zs (i-q) j r)\/(¬(q<=i/\i<q+n)/\ae t ys i j r):=by
 obtain⟨x,hx,hr⟩:=h
 have hl:(ys.take q).length=q:=by rw[Dz];omega
 by_cases c:q<=i/\i<q+n
 ·rw[Ds,Dh (by omega),hl,Dm (by omega)]at hx;exact .inl ⟨c.1,c.2,x,hx,hr⟩
 ·refine .inr ⟨c,x,?_,hr⟩;by_cases c1:i<q
  ·rw[Ds,Dm (by omega),Du,if_pos c1]at hx;exact hx
  ·rw[Dh (by simp[hz];omega),Dr]at hx;rw[<-hx];congr 1;simp[hz];omega
theorem vt {t:Ty} {d:List Nat} {ys:List t.El} {i q num:Nat} {H':Heap} {zs:List t.El} {us:List Value} {b m n cap:Nat}
  (hr:aF H pl w) (hl:look H i=some (.arr (some d) t ys)) (hzl:zs.length=num) (hh:pl.hdr i=.slice (some ⟨b,m,none⟩) n cap) (hq:q+num<=ys.length) (hus:us.length=num*t.sz) (mg:∀u∈us,one u=true)
  (hin:∀x j r,ae t zs x j r->∃u,us[x*t.sz+j]? =some u/\cr w (okd H pl d) r u) (hpos0:0<ys.length)
  (zC:hit [i] d=false) (ht:eE H H' ([],[i]) i (.arr (some d) t (ys.take q++zs++ys.drop (q+num)))):
  ∃w',(storeCells ⟨b,m+q*t.sz,none⟩ us).run P w=.ok () w'/\∃fp',aJ H H' ([],[i]) pl (pl.set i (pl.hdr i) fp') w w':=by
 obtain⟨⟨a,cf,b',o,vs,fs,hhd,hcap,ha,dP,hc,hrr,hd1,hd2,hfp⟩⟩:=(hr.blk i _ hl).zx;rw[hh]at hhd;cases hhd;have hsp:=t.cj
 have hab:b=b'/\m=o:=by
  rcases ha with h|h
  ·omega
  ·cases h;exact⟨rfl,rfl⟩
 obtain⟨rfl,rfl⟩:=hab
 have wV:q*t.sz+us.length<=cap*t.sz:=by
  have:(q+num)*t.sz<=cap*t.sz:=Dv _ (by omega);rw[DH]at this;omega
 have hcell:∀j,j<us.length->∃u,w.at? (b,m+q*t.sz+j)=some u/\calm (w.aU (b,m+q*t.sz+j))=true:=λj hj=>by
  obtain⟨⟨u,q1⟩,q2⟩:=dP (q*t.sz+j) (by omega);rw[show m+q*t.sz+j=m+(q*t.sz+j)from by omega];exact⟨u,q1,gx q2⟩
 have hst:=run_storeCells_cells (P:=P) b (m+q*t.sz) us 0 w (λj hj=>by
   obtain⟨u,q1,_⟩:=hcell j hj;simp only[DB];have q1:w.cell? ⟨b,m+q*t.sz+j,none⟩=some u:=q1
   rw[q1];rfl) (λj hj=>by
   obtain⟨u,q1,q2⟩:=hcell j hj
   simp only[DB];exact dB q1 q2) (λu hu=>e7 (mg u hu))
 simp only[DB]at hst
 have b7:∀j,j<us.length->(w.setCells b (m+q*t.sz) us).at? (b,m+q*t.sz+j)=us[j]? :=λj hj=>by
  have:=World.cell?_setCells_in b us (m+q*t.sz) w (λj hj=>by
   obtain⟨u,q1,_⟩:=hcell j hj;have q1:w.cell? ⟨b,m+q*t.sz+j,none⟩=some u:=q1
   rw[q1];rfl) j hj
  rw[Dd hj];simpa[World.at?]using this
 have aR:∀p u,w.at? p=some u->¬(p.1=b/\m+q*t.sz<=p.2/\p.2<m+q*t.sz+us.length)->(w.setCells b (m+q*t.sz) us).at? p=some u:=λp u hp hno=>by
  unfold World.at? at*;rw[World.cell?_setCells_out b _ _ w _ (λe1 _=>by simp at e1;simp;omega)];exact hp
 have ny:∀p,(w.setCells b (m+q*t.sz) us).aU p=w.aU p:=λp=>bP _ _ _ _ _;have iF:∀p,reg b m (cap*t.sz) p->pl.fp i p:=λp hp=>(hfp p).2 (.inl hp);have lU:∀i' j r p,ae t ys i' j r->fs i' j p->pl.fp i p:=λi' j r p hx hf=>(hfp p).2 (.inr ⟨i',j,r,hx,hf⟩)
 have hmi:mem i [i]=true:=by simp[mem]
 have nG:(ys.take q++zs++ys.drop (q+num)).length=ys.length:=by simp[hzl];omega
 refine⟨_,hst,λp=>reg b m (cap*t.sz) p\/∃i' j r,ae t ys i' j r/\¬(q<=i'/\i'<q+num)/\fs i' j p,?_⟩;refine cX (aM.setCells _ _ _ _) hr ht (λx hx=>nomatch hx) (λx hx=>?_) (.inr ⟨_,hl,hmi,by simp only[Blk.dM];exact⟨trivial,nG.symm⟩,rfl⟩) (λp u hp hno=>⟨aR p u hp λhin=>?_,ny p⟩) (λp hp=>?_) (λp hp=>?_) λhkp=>?_
 ·refine .inr ?_;simp only[mem]at hx;cases hb:Nat.beq i x
  ·rw[hb]at hx;exact nomatch hx
  ·exact(Dc hb).symm
 ·exact hno i _ hmi hl (iF p ⟨hin.1,by omega,by omega⟩)
 ·refine hr.nb p ?_
  cases hq':w.at? p with
  |none=>rfl
  |some u=>
   by_cases hin:p.1=b/\m+q*t.sz<=p.2/\p.2<m+q*t.sz+us.length
   ·obtain⟨p1,p2⟩:=p;obtain⟨e1,e2,e3⟩:=hin;simp only at e1 e2 e3;subst e1;have:=b7 (p2-(m+q*t.sz)) (by omega);rw[show m+q*t.sz+(p2-(m+q*t.sz))=p2 from by omega,hp,Dd (by omega)]at this;exact nomatch this
   ·rw[aR p u hq' hin]at hp;exact nomatch hp
 ·rcases hp with hp|⟨i',j,r,hx,_,hf⟩
  ·exact .inr ⟨i,_,hmi,hl,iF p hp⟩
  ·exact .inr ⟨i,_,hmi,hl,lU i' j r p hx hf⟩
 ·have jf:∀{i' j},j<t.sz->¬(q<=i'/\i'<q+num)->¬(m+q*t.sz<=m+(i'*t.sz+j)/\m+(i'*t.sz+j)<m+q*t.sz+us.length):=λ{i' j} hj hne ⟨g1,g2⟩=>by
   rcases Nat.lt_or_ge i' q with h|h
   ·have:(i'+1)*t.sz<=q*t.sz:=Dv _ h;rw[DU]at this;omega
   ·have h2:q+num<=i':=by omega
    have:(q+num)*t.sz<=i'*t.sz:=Dv _ h2;rw[DH]at this;omega
  refine bg.ed ⟨some ⟨b,m,none⟩,cap,b,m,λi' j=>if q<=i'/\i'<q+num then(us[(i'-q)*t.sz+j]?).getD undef else vs i' j,λi' j p=>¬(q<=i'/\i'<q+num)/\fs i' j p,by rw[nG];simp[Pl.set,hh],by rw[nG];exact hcap,.inr rfl,λj hj=>⟨?_,by rw[ny];exact(dP j hj).2⟩,λi' j r hx=>?_,λi' j r hx=>?_,λi' j r p hx hf=>?_,λi' j r i2 j2 r2 p hx hx' hf hf'=>?_,λp=>?_⟩
  ·by_cases hin:q*t.sz<=j/\j<q*t.sz+us.length
   ·have:=b7 (j-q*t.sz) (by omega);rw[show m+q*t.sz+(j-q*t.sz)=m+j from by omega]at this;exact⟨_,this.trans (Dd (by omega))⟩
   ·obtain⟨u,hu⟩:=(dP j hj).1;exact⟨u,aR _ u hu λh=>hin ⟨by have:=h.2.1;simp at this;omega,by have:=h.2.2;simp at this;omega⟩⟩
  ·rcases gB hq hzl hx with⟨g1,g2,g3⟩|⟨g1,g2⟩
   ·rw[if_pos ⟨g1,g2⟩];obtain⟨u,hu,_⟩:=hin _ _ _ g3;have hlt:=(Db.1 hu).1;have:=b7 _ hlt
    have e:m+q*t.sz+((i'-q)*t.sz+j)=m+(i'*t.sz+j):=by
     have:i'*t.sz=q*t.sz+(i'-q)*t.sz:=by rw[<-DH];congr 1;omega
     omega
    rw[e]at this;rw[this,hu];rfl
   ·rw[if_neg g1];exact aR _ _ (hc _ _ _ g2) λh=>jf (aj g2).2 g1 ⟨h.2.1,h.2.2⟩
  ·rcases gB hq hzl hx with⟨g1,g2,g3⟩|⟨g1,g2⟩
   ·rw[if_pos ⟨g1,g2⟩];obtain⟨u,hu,hI⟩:=hin _ _ _ g3;rw[hu,Ed];have hno:∀p,¬(¬(q<=i'/\i'<q+num)/\fs i' j p):=λp hf=>hf.1 ⟨g1,g2⟩;rw[hh];exact⟨hI.frame λp u hp hu=>(hh▸hkp).k2 d p u (λx hx=>bw _ d zC x hx) hp hu,hno⟩
   ·simp only[if_neg g1];have hI:=hrr _ _ _ g2;rw[hh];exact⟨hI.1.frame λp u hp hu=>(hh▸hkp).k2 d p u (λx hx=>bw _ d zC x hx) hp hu,λp hf=>hI.2 p hf.2⟩
  ·rcases gB hq hzl hx with⟨g1,g2,g3⟩|⟨g1,g2⟩
   ·exact(hf.1 ⟨g1,g2⟩).elim
   ·exact hd1 _ _ _ p g2 hf.2
  ·rcases gB hq hzl hx with⟨g1,g2,g3⟩|⟨g1,g2⟩
   ·exact(hf.1 ⟨g1,g2⟩).elim
   ·rcases gB hq hzl hx' with⟨q1,q2,q3⟩|⟨q1,q2⟩
    ·exact(hf'.1 ⟨q1,q2⟩).elim
    ·exact hd2 _ _ _ _ _ _ p g2 q2 hf.2 hf'.2
  ·simp only[Pl.set,if_true];constructor
   ·rintro (h|⟨i',j,r,hx,hne,hf⟩)
    ·exact .inl h
    ·have hlt:=aj hx;obtain⟨r',hr'⟩:=aZ (t:=t) (xs:=ys.take q++zs++ys.drop (q+num)) (i:=i') (j:=j) (by rw[nG];exact hlt.1) hlt.2;exact .inr ⟨i',j,r',hr',hne,hf⟩
   ·rintro (h|⟨i',j,r,hx,hf⟩)
    ·exact .inl h
    ·rcases gB hq hzl hx with⟨g1,g2,g3⟩|⟨g1,g2⟩
     ·exact(hf.1 ⟨g1,g2⟩).elim
     ·exact .inr ⟨_,_,_,g2,hf⟩
theorem vu {i:Nat}:∀{d:List Nat},mem i d=false->hit [i] d=false
 |[],_=>rfl
 |k::l,h=>by
  simp only[mem]at h;cases hb:Nat.beq k i
  ·rw[hb,cond_false]at h
   have:mem k [i]=false:=by
    simp only[mem];cases hc:Nat.beq i k
    ·rfl
    ·have:=Dc hc;subst this;simp at hb
   simp only[hit,this,cond_false];exact vu h
  ·rw[hb]at h;exact nomatch h
theorem xn {o:Oper} {a:Act} {s:List (Nat× SV)} {n:Nat} {args:Array Operand} {tys:Array TypeId} {T e:TypeId} {sz:Nat} {t:Ty} {z:List SV} {d:List Nat} {xs:List t.El} {i q off num:Nat}
  (hr:aF H pl w) (hs:bJ w H pl s a) (ho:o.op=.call {callee:=.builtin .append,args:=args,argTypes:=tys}) (hvs:gW s args.toList=some [.sub i 0 q,.sub i off num]) (hty:tys.toList=[T,T])
  (he:dy P T=some e) (hsz:cn P e=some sz) (hts:t.sz=sz) (hz:bG P e=some z) (hl:look H i=some (.arr (some d) t xs)) (hd:mem i d=false) (hq:q+num<=xs.length) (BQ:off+num<=xs.length) (wV:1<=xs.length):
  cW P o a w H pl n {v:=.sub i 0 (q+num),upd:=[(i,.arr (some d) t (xs.take q++(xs.drop off).take num++xs.drop (q+num)))],dA:=[i]}:=by
 refine⟨λj B h=>?_,λH' next Q ha hN=>?_⟩
 ·rw[look_cons]at h;by_cases e:i=j
  ·subst e;exact⟨_,hl⟩
  ·rw[if_neg e]at h;simp[look]at h
 obtain⟨ht,_⟩:=iG (c:={v:=.sub i 0 (q+num),upd:=[(i,.arr (some d) t (xs.take q++(xs.drop off).take num++xs.drop (q+num)))],dA:=[i]}) hl rfl rfl rfl ha;obtain⟨p,p',hpq,hp,hp'⟩:=gy hvs;have hpr:=ak hs hp;have Cr:=ak hs hp'
 have fD:args.map a.eval=#[a.eval p,a.eval p']:=by rw[show args=#[p,p']from D9 hpq];simp
 have hta:tys=#[T,T]:=D9 hty
 obtain⟨ti,hti,rfl⟩:=dv hsz;obtain⟨zu,hzu,hzc⟩:=cN hr hti hz;obtain⟨R⟩:=hr.blk i _ hl;have hcap:=R.hcap;have hA:R.a=some ⟨R.b,R.o,none⟩:=R.ha.resolve_left (by omega)
 have hhd:pl.hdr i=.slice (some ⟨R.b,R.o,none⟩) xs.length R.cap:=by rw[<-hA];exact R.oU
 have e1:a.eval p=.slice (some ⟨R.b,R.o,none⟩) q R.cap:=by
  generalize a.eval p=u at hpr
  cases hpr with
  |sub _ _ _ sh2 t2 xs2 a1 a2 cap1 cap2 hl2 hh2 hn1 hc hc' ha2=>
   rw[hl]at hl2;cases hl2;rw[hhd]at hh2;cases hh2
   have hcc:cap2=R.cap:=by omega
   subst hcc
   rcases ha2 with h|h
   ·omega
   ·rw[h];simp[Addr.add]
 obtain⟨A3,cap3,e2,hc3,hA3⟩:∃A3 cap3,a.eval p'=.slice A3 num cap3/\num<=cap3/\(num=0\/A3=some ⟨R.b,R.o+off*t.sz,none⟩):=by
  generalize a.eval p'=u at Cr
  cases Cr with
  |sub _ _ _ sh2 t2 xs2 a1 a2 cap1 cap2 hl2 hh2 hn1 hc hc' ha2=>
   rw[hl]at hl2;cases hl2;rw[hhd]at hh2;cases hh2;refine⟨a2,cap2,rfl,hc,?_⟩
   rcases ha2 with h|h
   ·exact .inl (by omega)
   ·exact .inr (by rw[h];simp[iD])
 have hsp:=t.cj
 have hU:∀k,k<num*t.sz->∃r,ae t xs (off+k/t.sz) (k %t.sz) r:=λk hk=>by
  have:k/t.sz<num:=by rw[Eo hsp];exact hk
  exact aZ (by omega) (EU _ hsp)
 have hus:((List.range (num*t.sz)).map λk=>R.vs (off+k/t.sz) (k %t.sz)).length=num*t.sz:=by simp
 generalize CN:(List.range (num*t.sz)).map (λk=>R.vs (off+k/t.sz) (k %t.sz))=us at hus
 have ki:∀k,k<num*t.sz->us[k]? =some (R.vs (off+k/t.sz) (k %t.sz)):=λk hk=>by rw[<-CN,cw hk]
 have hcell:∀k,k<num*t.sz->w.at? (R.b,R.o+(off*t.sz+k))=some (R.vs (off+k/t.sz) (k %t.sz)):=λk hk=>by
  obtain⟨r,hx⟩:=hU k hk;have:=R.hc _ _ _ hx;rw[DH,DX,show k/t.sz*t.sz+k %t.sz=k from by rw[DG];exact Nat.div_add_mod _ _]at this;exact this
 obtain⟨w',hst,fp',qG⟩:=vt (P:=P) (zs:=(xs.drop off).take num) (us:=us) hr hl (by rw[Dz,D6];omega) hhd hq hus (λu hu=>by
   obtain⟨k,hk⟩:=DI hu
   have hkl:k<num*t.sz:=by rw[<-hus];exact(Db.1 hk).1
   rw[ki k hkl]at hk;cases hk;obtain⟨r,hx⟩:=hU k hkl
   exact(R.hr _ _ _ hx).1.isOne) (λx j r hx=>by
   obtain⟨y,hy,hyr⟩:=hx
   have hxl:x<num:=by have:=(Db.1 hy).1;rw[Dz]at this;omega
   have hjl:j<t.sz:=by have:=(Db.1 hyr).1;rwa [Ty.aH]at this
   rw[Du,if_pos hxl,Dr]at hy;have hx':ae t xs (off+x) j r:=⟨y,hy,hyr⟩;refine⟨R.vs (off+x) j,?_,(R.hr _ _ _ hx').1⟩;have hlt:x*t.sz+j<num*t.sz:=fO hxl hjl (DA _);rw[ki _ hlt]
   have g1:(x*t.sz+j)/t.sz=x:=by rw[DG,Em hsp,Ei hjl];simp
   have g2:(x*t.sz+j) %t.sz=j:=by rw[DG,D3,D1 hjl]
   rw[g1,g2]) wV (vu hd) ht
 have hfc:(Builtin.firstCells ti.size num (.slice A3 num cap3)).run P w=.ok us.toArray w:=by
  rw[<-hts]
  rcases hA3 with h0|hA3
  ·subst h0;have hn':us=[]:=DL.1 (by simpa using hus);subst hn'
   cases A3 with
   |none=>exact run_firstCells_none w _ _ _ _
   |some A=>exact run_firstCells_some w t.sz 0 A 0 cap3 [] (by simp) (λj v hv=>by simp at hv)
  ·subst hA3;refine run_firstCells_some w t.sz num _ num cap3 us hus λj v hv=>?_
   have hj:j<num*t.sz:=by rw[<-hus];exact(Db.1 hv).1
   rw[ki j hj]at hv;cases hv;have:=hcell j hj;rw[Addr.add_lit,DX];exact this
 have eU:(Builtin.append_ #[T,T] o.type #[.slice (some ⟨R.b,R.o,none⟩) q R.cap,.slice A3 num cap3]).run P w=.ok (.slice (some ⟨R.b,R.o,none⟩) (q+num) R.cap) w':=by
  have vk:q+num<=R.cap:=by omega
  rw[hts]at hst;simp[Builtin.append_,run_underlying (du he),sizeOf,typeInfo,hti,Builtin.lenOf,vk,hfc,Addr.add_lit,hst]
 refine de (u:=.slice (some ⟨R.b,R.o,none⟩) (q+num) R.cap) (w':=w') ?_ (hN _ _ w' qG ?_)
 ·rw[execOp,ho,hta];simp only[resolve,fD,invoke,builtin,Sem.run_bind,Sem.run_pure,Result.andThen_ok,e1,e2,eU]
 ·refine .sub i 0 (q+num) (some d) t _ (some ⟨R.b,R.o,none⟩) _ R.cap R.cap ht.AU (by simp[Pl.set,hhd,Ej];omega) (by simp;omega) (by omega) (by omega) (.inr (by simp[Addr.add]))
end
end
section
variable [Tok]
section
variable {w:World} {H:Heap} {pl:Pl} {P:Program}
def mark (w:World) (b n:Nat):World:=w.freeze ⟨b,n,none⟩ 1
def vw (n:Nat) (fr:Nat× Nat):Nat× Nat:=if fr.1==fr.2 then(n,n+1)else(min fr.1 n,max fr.2 (n+1))
theorem jA {b n:Nat} {c:Array Value} {e:TypeId} {fr:Nat× Nat} (h:w.heap[b]? =some (.cells c e fr)):(mark w b n).heap[b]? =some (.cells c e (vw n fr)):=by
 unfold mark World.freeze vw;rw[if_neg (by decide)];simp only[Array.getElem?_modify,if_true,h];rfl
theorem jB {b n i:Nat} (h:i≠b):(mark w b n).heap[i]? =w.heap[i]? :=by
 unfold mark World.freeze;rw[if_neg (by decide)];simp only[Array.getElem?_modify];rw[if_neg (λe:b=i=>h e.symm)]
theorem vx {b n:Nat} {c:Array Value} {e:TypeId} {fr:Nat× Nat} (h:w.heap[b]? =some (.cells c e fr)) (p:Cell):(mark w b n).at? p=w.at? p:=by
 unfold World.at? World.cell?;by_cases q:p.1=b
 ·simp only[q,h,jA h]
 ·simp only[jB q]
theorem eg {b n:Nat} {p:Cell} (h:p.1≠b):(mark w b n).aU p=w.aU p:=by
 unfold World.aU;rw[jB h]
theorem sr {b n j o m:Nat} {c:Array Value} {e:TypeId} {fr:Nat× Nat} (h:w.heap[b]? =some (.cells c e fr)) (hn:n=c.size) (hw:whole (w.aU (b,j)) o m=true):whole ((mark w b n).aU (b,j)) o m=true:=by
 unfold World.aU at*;simp only[h]at hw;simp only[jA h];unfold whole calm at*;simp only[De,decide_eq_true_eq]at*;refine⟨?_,hw.2⟩;unfold vw;obtain⟨lo,hi⟩:=fr;simp only at hw⊢;by_cases q:lo=hi
 ·subst q;simp;omega
 ·have:(lo==hi)=false:=by simpa using q
  rw[this];simp only[D5,if_false];omega
theorem nH {b j:Nat} {u:Value} (h:w.at? (b,j)=some u):∃c e fr,w.heap[b]? =some (.cells c e fr)/\j<c.size:=by
 unfold World.at? World.cell? at h
 cases hb:w.heap[b]? with
 |none=>simp[hb]at h
 |some ob=>
  cases ob with
  |cells c e fr=>
   simp only[hb,Ez,D5,if_false]at h
   exact⟨c,e,fr,rfl,(Dk.1 h).1⟩
  |_=>simp[hb]at h
theorem vy {i b n cap:Nat} {sh:Option (List Nat)} {t:Ty} {xs:List t.El} {a:Option Addr} {o:Nat} {c:Array Value} {e:TypeId} {fr:Nat× Nat} (hr:aF H pl w) (hl:look H i=some (.arr sh t xs))
  (hb:w.heap[b]? =some (.cells c e fr)) (hc0:0<c.size) (hn:n=c.size) (hin:∀j,j<c.size->pl.fp i (b,j)) (hsz:c.size=cap*t.sz) (o4:bg (mark w b n) H pl i (.arr sh t xs)):
  aJ H H ([],[]) pl pl w (mark w b n):=by
 have hat:=λp=>vx (n:=n) hb p
 have qM:∀p u,w.at? p=some u->p.1=b->pl.fp i p:=λp u hp q=>by
  obtain⟨p1,p2⟩:=p;simp only at q;subst q;obtain⟨c',e',fr',h1,h2⟩:=nH hp;rw[hb]at h1;cases h1;exact hin p2 h2
 have hk:dd ([],[]) w H pl (mark w b n) H pl:=⟨λj B hB _=>⟨B,hB,B.aE,rfl⟩,λd p u _ ho hp=>⟨ho,(hat p).trans hp⟩⟩;refine⟨⟨λj B hB=>?_,hr.dis,hr.ob,λp hp=>hr.nb p ((hat p).symm.trans hp)⟩,hk,rfl,⟨rfl,rfl,λk hk'=>?_⟩,λp u hp hno=>⟨hno,(hat p).trans hp,eg λq=>hno i _ hl (qM p u hp q)⟩⟩
 ·by_cases q:j=i
  ·subst q;rw[hl]at hB;cases hB;exact o4
  ·refine(hr.blk j B hB).aY hk rfl (λ_=>EF) (λp u hf hu=>⟨(hat p).trans hu,eg λq'=>q (hr.dis j i B _ p hB hl hf (qM p u hu q'))⟩) B.aO
 ·by_cases q:k=b
  ·subst q;rw[hb,jA hb];exact⟨rfl,.inr hc0,rfl⟩
  ·rw[jB q];split
   ·rename_i e1 e2;rw[e1]at e2;cases e2;exact⟨rfl,.inl rfl,rfl⟩
   ·rfl
theorem xo {o:Oper} {a:Act} {T:TypeId} {x:Operand} {m i:Nat} {sh:Option (List Nat)} {t:Ty} {y:t.El} {ys:List t.El} (hr:aF H pl w) (ho:o.op=.convert T T x) (hT:jW P T=true)
  (hl:look H i=some (.arr sh t (y::ys))) (hx:SVRep w H pl (.own i) (a.eval x)):cW P o a w H pl m {v:=.own i}:=by
 have ha:a.eval x=pl.hdr i:=by generalize a.eval x=u at hx;cases hx;rfl
 unfold jW dy at hT;split at hT
 ·rename_i e he;split at he
  ·rename_i e' hu;cases he;split at hT
   ·rename_i he8;have o4:=hr.blk i _ hl
    obtain⟨ad,cap,b,o',hh,hlen,BS,dP⟩:∃ad cap b o',pl.hdr i=.slice ad (y::ys).length cap/\(y::ys).length<=cap/\(cap=0\/ad=some ⟨b,o',none⟩)/\
      (∀j,j<cap*t.sz->(∃v,w.at? (b,o'+j)=some v)/\whole (w.aU (b,o'+j)) o' (cap*t.sz)=true/\pl.fp i (b,o'+j)):=by
     cases sh with
     |none=>obtain⟨⟨ad,cap,b,o',vs,fs,q1,q2,q3,q4,q5,q6,q7,q8,q9⟩⟩:=o4;exact⟨ad,cap,b,o',q1,q2,q3,λj hj=>⟨(q4 j hj).1,(q4 j hj).2,(q9 _).2 (.inl ⟨rfl,by simp,by simp;omega⟩)⟩⟩
     |some d=>obtain⟨⟨ad,cap,b,o',vs,fs,q1,q2,q3,q4,q5,q6,q7,q8,q9⟩⟩:=o4;exact⟨ad,cap,b,o',q1,q2,q3,λj hj=>⟨(q4 j hj).1,(q4 j hj).2,(q9 _).2 (.inl ⟨rfl,by simp,by simp;omega⟩)⟩⟩
    have hcap:0<cap:=by simp at hlen;omega
    have wV:0<cap*t.sz:=Nat.mul_pos hcap (Ty.cj t);obtain⟨⟨v0,hv0⟩,hw0,_⟩:=dP 0 wV;obtain⟨c,ee,fr,hb,hc0⟩:=nH hv0
    have ho0:o'=0/\c.size=cap*t.sz:=by
     unfold whole World.aU at hw0;simp only[hb,De,decide_eq_true_eq]at hw0;exact hw0.2
    obtain⟨rfl,hsz⟩:=ho0;have BS:=BS.resolve_left (by omega);subst BS
    have hin:∀j,j<c.size->pl.fp i (b,j):=λj hj=>by
     have:=(dP j (by omega)).2.2;rwa [Di]at this
    have AZ:w.shape? b=some (ee,c.size):=by unfold World.shape?;rw[hb]
    have eU:(execOp a.eval o).run P w=.ok (.value (a.eval x)) (mark w b c.size):=by
     rw[execOp,ho,ha,hh];simp[ha,hh,convert,run_underlying hu,run_underlying he8,markStringish,AZ,mark]
    have hat:=λp=>vx (n:=c.size) hb p;have hk:dd ([],[]) w H pl (mark w b c.size) H pl:=⟨λj B hB _=>⟨B,hB,B.aE,rfl⟩,λd p u _ ho hp=>⟨ho,(hat p).trans hp⟩⟩
    have hnb:∀p,reg b 0 (cap*t.sz) p\/p.1≠b\/w.at? p=none:=λp=>by
     by_cases q:p.1=b
     ·cases hp:w.at? p with
      |none=>exact .inr (.inr rfl)
      |some u=>
       obtain⟨p1,p2⟩:=p;simp only at q;subst q;obtain⟨c',e',fr',h1,h2⟩:=nH hp;rw[hb]at h1;cases h1;exact .inl ⟨rfl,DC _,by simp only;omega⟩
     ·exact .inr (.inl q)
    have CO:bg (mark w b c.size) H pl i (.arr sh t (y::ys)):=by
     cases sh with
     |none=>
      obtain⟨⟨ad,cf,b',o',vs,fs,q1,q2,q3,q4,q5,q6,q7,q8,q9⟩⟩:=o4;rw[hh]at q1;cases q1;have q3:=q3.resolve_left (by omega);cases q3;refine⟨⟨_,cap,b,0,vs,fs,hh,q2,.inr rfl,λj hj=>⟨?_,sr hb rfl (q4 j hj).2⟩,λi' j r h=>(hat _).trans (q5 i' j r h),λi' j r h=>(q6 i' j r h).frame λp u hp hu=>⟨(hat p).trans hu,eg λq=>?_⟩,q7,q8,q9⟩⟩
      ·obtain⟨⟨v,hv⟩,_⟩:=q4 j hj;exact⟨v,(hat _).trans hv⟩
      ·rcases hnb p with h1|h1|h1
       ·exact q7 _ _ _ p h hp h1
       ·exact h1 q
       ·rw[hu]at h1;exact nomatch h1
     |some d=>
      obtain⟨⟨ad,cf,b',o',vs,fs,q1,q2,q3,q4,q5,q6,q7,q8,q9⟩⟩:=o4;rw[hh]at q1;cases q1;have q3:=q3.resolve_left (by omega);cases q3;refine⟨⟨_,cap,b,0,vs,fs,hh,q2,.inr rfl,λj hj=>⟨?_,sr hb rfl (q4 j hj).2⟩,λi' j r h=>(hat _).trans (q5 i' j r h),λi' j r h=>⟨(q6 i' j r h).1.frame λp u hp hu=>⟨hp,(hat p).trans hu⟩,(q6 i' j r h).2⟩,q7,q8,q9⟩⟩;obtain⟨⟨v,hv⟩,_⟩:=q4 j hj;exact⟨v,(hat _).trans hv⟩
    refine⟨λj B h=>by simp[look]at h,λH' next Q ha' hN=>?_⟩;cases ha'
    have hH:upds [] H++newsH m []=H:=by simp[upds,newsH]
    simp only[hH]at hN;have hst:=vy (n:=c.size) hr hl hb hc0 rfl hin hsz CO (a:=some ⟨b,0,none⟩) (o:=0);exact de eU (hN _ pl _ hst (hx.jn hk))
   ·exact nomatch hT
  ·exact nomatch he
 ·exact nomatch hT
end
end
section
variable [Tok]
def su (P:Program) (g:FuncId):Prop:=∀(args:Array Value) (w:World),(callFunc g args).run P w=.ok (.enter g args) w
theorem enters_of {P:Program} {g:FuncId} {fn:Func} (h:P.funcs[g]? =some fn) (hb:fn.body.isNone=false) (hn:(fn.name== "runtime.NumGoroutine")=false):su P g:=by
 intro args w
 have hn':¬fn.name= "runtime.NumGoroutine":=by simpa using hn
 have hb':¬fn.body=none:=λe=>by rw[e]at hb;cases hb
 simp[callFunc,h,hb',hn']
def vz (P:Program) (g:FuncId) (nid:Nat) (vs:List SV) (H:Heap) (c:CR):Prop:=
 su P g/\(∀i B,look c.upd i=some B->∃B',look H i=some B')/\
 ∀(H1:Heap) (pl:Pl) (w:World) (us:Array Value),Ext H H1->aF H1 pl w->(∀k,k<c.news.length->look H1 (nid+k)=none)->vs.length=us.size->
  (∀(j:Nat) (x:SV) (u:Value),vs[j]? =some x->us[j]? =some u->SVRep w H1 pl x u)->∀H',after H1 nid c=some H'->
  Calls P g us w λe w'=>∃u pl',e=.returned u/\aJ H1 H' c.kil pl pl' w w'/\SVRep w' H' pl' c.v u
def OrcOk (P:Program) (g:FuncId) (o:Orc):Prop:=
 ∀(ρ:Type) nid vs H (K:CR->Option ρ) (out:ρ),o ρ nid vs H K=some out->∃c,K c=some out/\vz P g nid vs H c
theorem xp (P:Program) (g:FuncId):OrcOk P g Ax:=λ_ _ _ _ _ _ h=>nomatch h
def ek (E:Env):Prop:=∀g,OrcOk E.P g (E.orc g)
section
variable {w:World} {H:Heap} {pl:Pl} {P:Program}
theorem xq {o:Oper} {a:Act} {s:List (Nat× SV)} {f:Operand} {args:Array Operand} {tys:Array TypeId} {g:FuncId} {first vs cap:List SV} {n:Nat} {c:CR} {H0:Heap}
  (he:Ext H0 H) (hr:aF H pl w) (hs:bJ w H pl s a) (hn:∀k,k<c.news.length->look H (n+k)=none) (ho:o.op=.call {callee:=.value f,args:=args,argTypes:=tys})
  (hf:opd s f=some (.fn (.func g) first cap)) (hv:gW s args.toList=some vs) (hc:vz P g n (first++vs++cap) H0 c):cW P o a w H pl n c:=by
 obtain⟨hen,hup,zD⟩:=hc;refine⟨λi B hB=>(hup i B hB).imp λB' h=>he i B' h,λH' next Q ha hN=>?_⟩;have hfr:=ak hs hf;obtain⟨g1,g2⟩:=nu hs hv;generalize hfe:a.eval f=fe at hfr
 cases hfr with
 |fn _ _ _ us vs' hl h1 hl' h2=>
  have hlen:(first++vs++cap).length=(us++args.map a.eval++vs').size:=by simp only[Ej,Array.size_append,hl,hl',g1]
  have hpt:∀(j:Nat) (x:SV) (u:Value),(first++vs++cap)[j]? =some x->(us++args.map a.eval++vs')[j]? =some u->SVRep w H pl x u:=λj x u hx hu=>by
   grind
  have hcl:=zD H pl w _ he hr hn hlen hpt H' ha;unfold Oper.wp
  have eU:(execOp a.eval o).run P w=.ok (.enter g (us++args.map a.eval++vs')) w:=by
   rw[execOp,ho];simp only[resolve,hfe,Deferred.ofValue,invoke,Sem.run_bind,Sem.run_pure,Result.andThen_ok];exact hen _ w
  rw[eU];show Calls P g _ w _;refine hcl.mono λe w' ⟨u,pl',he,hst,hv⟩=>?_;grind
variable {ρ:Type}
def o8 (P:Program) (o:Oper) (n:Nat) (c:CR) (s:List (Nat× SV)) (h:Heap):Prop:=
 ∀(s':List (Nat× SV)) (H:Heap) (a:Act) (w:World) (pl:Pl),Ext s s'->Ext h H->aF H pl w->bJ w H pl s' a->(∀k,k<c.news.length->look H (n+k)=none)->cW P o a w H pl n c
theorem nI {H:Heap} {n:Nat} {B:Blk} (h:∀k,k<[B].length->look H (n+k)=none):look H n=none:=h 0 (by simp)
theorem zE (hr:aF H pl w) {o:Oper} {a:Act} {T:TypeId} {p:Operand} {n i x k:Nat} {t:Ty} {xs:List t.El} (ho:o.op=.load T p) (hT:rT P T=true)
  (hl:look H i=some (.arr none t xs)) (hk:k<t.sz) (hp:SVRep w H pl (.ptr i x k) (a.eval p)):cW P o a w H pl n {v:=.inn i x k}:=by
 generalize he:a.eval p=u at hp
 cases hp with
 |ptrB _ _ cs b m hl' hh=>grind
 |gY _ _ _ sh t' xs' b m nn cap hl' hx hh=>
  rw[hl]at hl';cases hl';obtain⟨⟨a',cf,b',o',vs,fs,h1,h2,h3,h4,h5,h6,h7,h8,h9⟩⟩:=hr.blk i _ hl;rw[hh]at h1;cases h1;have h3:=h3.resolve_left (by omega);cases h3;obtain⟨r,hcell⟩:=aZ hx hk;have hat:=h5 x k r hcell;have mg:one (vs x k)=true:=((h6 _ _ _ hcell).uZ (ok:=λ_=>True) (λ_ _=>trivial)).isOne;have hfp:pl.fp i (b,m+(x*t.sz+k)):=(h9 _).2 (.inl ⟨rfl,by simp,by have:=fO hx hk h2;simp;omega⟩);obtain⟨el,_,hu,_⟩:=nq hT;refine eD (u:=vs x k) hr ?_ (.inn i x k none t xs b m _ _ _ hl hx hk hh ⟨hr.ob i _ _ hl hfp,λj B hB hm hf=>?_⟩ hat mg)
  ·rw[execOp,ho];refine bc ?_;rw[Instr.loadAt,he];have hat:w.cell? ⟨b,m+(x*t.sz+k),none⟩=some (vs x k):=hat
   have h1:(loadVar T ⟨b,m+(x*t.sz+k),none⟩).run P w=.ok (vs x k) w:=by simp[loadVar,dr hu,kD,hu,hat]
   exact h1
  ·have:=hr.dis j i _ _ _ hB hl hf hfp;subst this;rw[hl]at hB;cases hB;have:=hm (by simp[mem]);cases this
theorem qN {E:Env} {o:Oper} {s:List (Nat× SV)} {h0:Heap} {n:Nat} {K:CR->Option ρ} {out:ρ} {args:Array Operand} {tys:Array TypeId} {b x:SV} {T T' e:TypeId} {sz:Nat} {t:Ty}
  (ho:o.op=.call {callee:=.builtin .append,args:=args,argTypes:=tys}) (hvs:gW s args.toList=some [b,x]) (hty:tys.toList=[T,T']) (he:dy E.P T=some e) (hsz:cn E.P e=some sz)
  (h:qp E h0 n e sz t T' b x K=some out):∃c,K c=some out/\o8 E.P o n c s h0:=by
 unfold qp at h;split at h
 ·cases hb:(AE E.P T'&&(fN E.P e&&Nat.beq t.sz sz))<;>simp only[hb,cond_true,cond_false,An]at h
  ·cases h
  simp only[De]at hb;obtain⟨l,hl,z,hz,q,hq,h⟩:=h;cases hi:(isNil q.1&&Nat.beq z.length sz)<;>simp only[hi,cond_true,cond_false]at h
  ·cases h
  simp only[De]at hi;split at h
  ·rename_i y hy;cases hd:decide (1<=l/\l<=(dK:Int))<;>simp only[hd,cond_true,cond_false]at h
   ·cases h
   have hd:=of_decide_eq_true hd
   have hq':cq h0 t 1 z=some ([],[y]):=by rw[hq];obtain⟨q1,q2⟩:=q;simp only at hy hi;rw[hy,ba hi.1]
   exact⟨_,h,λs' H a w pl es eh hr hs hn=>lS hr hs (nI hn) ho (cJ es _ _ hvs) hty hl hb.1 he hsz hb.2.1 (Dc hb.2.2) hz (Dc hi.2) (cU eh _ _ _ _ hq') hd⟩
  ·cases h
 ·cases h
theorem qO {P:Program} {o:Oper} {s:List (Nat× SV)} {h0:Heap} {n:Nat} {K:CR->Option ρ} {out:ρ} {args:Array Operand} {tys:Array TypeId} {b x:SV} {T e:TypeId} {sz:Nat} {t:Ty} {z:List SV}
  (ho:o.op=.call {callee:=.builtin .append,args:=args,argTypes:=tys}) (hvs:gW s args.toList=some [b,x]) (hty:tys.toList=[T,T]) (he:dy P T=some e) (hsz:cn P e=some sz) (hts:t.sz=sz) (hz:bG P e=some z)
  (h:qq h0 t b x K=some out):∃c,K c=some out/\o8 P o n c s h0:=by
 unfold qq at h;split at h
 ·rename_i i a i' off num;cases hi:Nat.beq i i'<;>simp only[hi,cond_true,cond_false]at h
  ·cases h
  have:=Dc hi;subst this;split at h
  ·rename_i d t' xs hl;split at h
   ·rename_i htt;subst htt;cases hm:mem i d<;>simp only[hm,cond_true,cond_false]at h
    rotate_left
    ·cases h
    cases hb:(Nat.ble (a+num) xs.length&&(Nat.ble (off+num) xs.length&&Nat.ble 1 xs.length))<;>simp only[hb,cond_true,cond_false]at h
    ·cases h
    simp only[De]at hb;exact⟨_,h,λs' H a w pl es eh hr hs hn=>xn hr hs ho (cJ es _ _ hvs) hty he hsz hts hz (eh _ _ hl) hm (Dl hb.1) (Dl hb.2.1) (Dl hb.2.2)⟩
   ·cases h
  ·cases h
 ·cases h
theorem o9 {E:Env} (hE:ek E) {o:Oper} {s:List (Nat× SV)} {h0:Heap} {n:Nat} {K:CR->Option ρ} {out:ρ}
  (h:nd E s h0 n o.op K=some out):∃c,K c=some out/\o8 E.P o n c s h0:=by
 unfold nd at h;split at h
 ·rename_i T ho;simp only[An]at h;obtain⟨z,hz,h⟩:=h;exact⟨_,h,λs' H a w pl es eh hr hs hn=>vg hr (nI hn) ho hz⟩
 ·rename_i T x ho;simp only[An]at h;obtain⟨v,hv,cs,hcs,h⟩:=h;exact⟨_,h,λs' H a w pl es eh hr hs hn=>zv hr (nI hn) ho (ak hs (aN es _ _ hv)) hcs⟩
 ·rename_i T k parts ho;simp only[An]at h;obtain⟨e,he,sz,hsz,ps,hps,z,hz,h⟩:=h;cases hb:(Nat.ble (k*sz) 16777216&&Nat.beq z.length sz)<;>simp only[hb,cond_true,cond_false,An]at h
  ·cases h
  obtain⟨cs,hcs,h⟩:=h;simp only[De]at hb;have h1:=Dl hb.1;have h2:=Dc hb.2
  have bx:K {v:=.bsl n k,news:=[.box cs]}=some out->∃c,K c=some out/\o8 E.P o n c s h0:=λh=>
   ⟨_,h,λs' H a w pl es eh hr hs hn=>lV hr hs (nI hn) ho he hsz (eB es _ _ hps) hz h2 h1 hcs⟩
  split at h
  ·exact bx h
  ·rename_i t ht;cases hc:((fM t||Nat.beq k 0)&&Nat.beq t.sz sz)<;>simp only[hc,cond_true,cond_false,An]at h
   ·unfold Ck at h;cases hd:(E.lit&&Nat.beq t.sz sz)<;>simp only[hd,cond_true,cond_false]at h
    ·exact bx h
    simp only[De]at hd;split at h
    ·rename_i xs hx;exact⟨_,h,λs' H a w pl es eh hr hs hn=>gQ hr hs (nI hn) ho he hsz (eB es _ _ hps) hz h2 h1 hcs (Dc hd.2) (cU eh _ _ _ _ hx)⟩
    ·exact bx h
   simp only[De]at hc;obtain⟨⟨ids,xs⟩,hx,h⟩:=h;cases hi:isNil ids<;>simp only[hi,cond_true,cond_false]at h
   ·cases h
   have:=ba hi;subst this;unfold Cl at h;cases hq:(!isNil E.tkt&&!isNil xs)<;>simp only[hq,cond_true,cond_false]at h
   rotate_left
   ·exact⟨_,h,λs' H a w pl es eh hr hs hn=>nC hr hs ho he hsz (eB es _ _ hps) hz h2 h1 hcs (cU eh _ _ _ _ hx)⟩
   ·exact⟨_,h,λs' H a w pl es eh hr hs hn=>gQ hr hs (nI hn) ho he hsz (eB es _ _ hps) hz h2 h1 hcs (Dc hc.2) (cU eh _ _ _ _ hx)⟩
 ·rename_i T l c ho;simp only[An]at h;obtain⟨e,he,sz,hsz,t,ht,z,hz,lv,hl,cv,hc,li,hli,ci,hci,h⟩:=h;cases hb:(fN E.P e&&Nat.beq t.sz sz)<;>simp only[hb,cond_true,cond_false,An]at h
  ·cases h
  simp only[De]at hb;obtain⟨⟨ids,xs⟩,hx,h⟩:=h;cases hi:(isNil ids&&Nat.beq z.length sz)<;>simp only[hi,cond_true,cond_false]at h
  ·cases h
  simp only[De]at hi;have yO:=ba hi.1;subst yO;split at h
  ·rename_i y;by_cases hd:0<=li/\li<=ci/\ci<=(dK:Int)
   ·simp only[hd,and_self,decide_true,cond_true]at h;exact⟨_,h,λs' H a w pl es eh hr hs hn=>nB hr hs (nI hn) ho (aN es _ _ hl) (aN es _ _ hc) hli hci he hsz hb.1 (Dc hb.2) hz (Dc hi.2) (cU eh _ _ _ _ hx) hd⟩
   ·simp only[hd,decide_false,cond_false]at h;cases h
  ·cases h
 ·rename_i args tys ho;simp only[An]at h;obtain⟨vs,hvs,h⟩:=h;split at h
  ·rename_i b x T T' hty;simp only[An]at h;obtain⟨e,he,sz,hsz,t,ht,h⟩:=h;cases hb:(fN E.P e&&(Nat.beq t.sz sz&&Nat.beq T T'))<;>simp only[hb,cond_true,cond_false,An]at h
   ·exact qN ho hvs hty he hsz h
   simp only[De]at hb;have hTT:T=T':=Dc hb.2.2;subst hTT;have hts:=Dc hb.2.1;obtain⟨z,hz,h⟩:=h;cases hzl:Nat.beq z.length sz<;>simp only[hzl,cond_true,cond_false,An]at h
   ·cases h
   have hzl:=Dc hzl;obtain⟨⟨sh1,ids,ys⟩,hy,h⟩:=h;split at h
   ·cases hh:hit ids (sh1.getD [])<;>simp only[hh,cond_true,cond_false]at h
    ·cases hn':Nat.ble ys.length dK<;>simp only[hn',cond_true,cond_false]at h
     ·cases h
     exact⟨_,h,λs' H a w pl es eh hr hs hn=>mq (xs:=[]) hr hs (nI hn) ho (cJ es _ _ hvs) hty he hsz hb.1 hts hz hzl (mb eh _ _ _ hy) (.inl ⟨rfl,rfl,rfl,rfl⟩) hh (by simpa using Dl hn')⟩
    ·cases h
   ·rename_i i;split at h
    ·rename_i sh t' xs hl;split at h
     ·rename_i htt;subst htt;simp only[An]at h;obtain⟨sh',hj,h⟩:=h;cases hm:mem i ids<;>simp only[hm,cond_true,cond_false]at h
      rotate_left
      ·cases h
      cases hh:hit (i::ids) (sh'.getD [])<;>simp only[hh,cond_true,cond_false]at h
      rotate_left
      ·cases h
      cases hn':Nat.ble (xs.length+ys.length) dK<;>simp only[hn',cond_true,cond_false]at h
      ·cases h
      exact⟨_,h,λs' H a w pl es eh hr hs hn=>mq hr hs (nI hn) ho (cJ es _ _ hvs) hty he hsz hb.1 hts hz hzl (mb eh _ _ _ hy) (.inr ⟨i,sh,rfl,eh _ _ hl,rfl,hm,hj⟩) hh (Dl hn')⟩
     ·cases h
    ·cases h
   ·exact qO ho hvs hty he hsz hts hz h
  ·cases h
 ·rename_i args tys ho;simp only[An]at h;obtain⟨vs,hvs,h⟩:=h;split at h
  ·rename_i v T hty;simp only[An]at h;obtain⟨e,he,z,hz,⟨i,q,num⟩,hv,h⟩:=h;split at h
   ·rename_i sh t xs hl;cases hzl:Nat.beq z.length t.sz<;>simp only[hzl,cond_true,cond_false,An]at h
    ·cases h
    obtain⟨⟨ids,ys⟩,hy,h⟩:=h;cases hi:isNil ids<;>simp only[hi,cond_true,cond_false]at h
    ·cases h
    have yO:=ba hi;subst yO;split at h
    ·rename_i y;exact⟨_,h,λs' H a w pl es eh hr hs hn=>vr hr hs ho (cJ es _ _ hvs) hty he hz (Dc hzl) (xm eh hv) (eh _ _ hl) (cU eh _ _ _ _ hy)⟩
    ·cases h
   ·cases h
  ·cases h
 ·rename_i T p x ho;simp only[An]at h;obtain⟨p',hp,x',hx,h⟩:=h
  have arr:∀{i k off:Nat} {sh:Option (List Nat)} {t:Ty} {ys:List t.El},p'=.ptr i k off->look h0 i=some (.arr sh t ys)->kg E.P T h0 i sh t ys k off x' K=some out->∃c,K c=some out/\o8 E.P o n c s h0:=λe hl h3=>by
   clear h;subst e;obtain⟨c,h1,h2⟩:=o6 (n:=n) ho h3;exact⟨c,h1,λs' H a w pl es eh hr hs hn=>h2 H a w pl eh (eh _ _ hl) hr (ak hs (aN es _ _ hp)) (ak hs (aN es _ _ hx))⟩
  split at h
  ·rename_i i k off;split at h
   ·rename_i cs hl;cases hk0:Nat.beq k 0<;>simp only[hk0,cond_true,cond_false,An]at h
    ·cases h
    have hk0:=Dc hk0;subst hk0;obtain⟨xs,hxs,sz,hsz,h⟩:=h;cases hb:Nat.beq sz xs.length<;>simp only[hb,cond_true,cond_false,An]at h
    ·cases h
    ·obtain⟨cs',hcs,h⟩:=h;exact⟨_,h,λs' H a w pl es eh hr hs hn=>vh hr ho (eh _ _ hl) (ak hs (aN es _ _ hp)) (ak hs (aN es _ _ hx)) hxs hsz (Dc hb) hcs⟩
   ·rename_i sh t ys hl;exact arr rfl hl h
   ·cases h
  ·cases h
 ·rename_i f args tys ho;simp only[An]at h;obtain⟨f',hf,vs,hvs,h⟩:=h;split at h
  ·rename_i g first cap
   obtain⟨c,hc,hcs⟩:=hE g _ _ _ _ _ _ h;exact⟨c,hc,λs' H a w pl es eh hr hs hn=>xq eh hr hs hn ho (aN es _ _ hf) (cJ es _ _ hvs) hcs⟩
  ·cases h
 ·rename_i T x ho;unfold AG at h;cases hk:taken E x<;>simp only[hk,cond_true,cond_false]at h
  rotate_left
  ·split at h
   ·rename_i i y hx;split at h
    ·rename_i t xs hl;simp only[An]at h;obtain⟨e,he,v,hv,h⟩:=h;exact⟨_,h,λs' H a w pl es eh hr hs hn=>sq (AX t) hr ho (eh _ _ hl) he hv (ak hs (aN es _ _ hx)) hn⟩
    ·cases h
   ·cases h
  split at h
  ·rename_i v hv;unfold AA at hv;cases hi:E.inn<;>simp only[hi,cond_true,cond_false]at hv
   ·cases hv
   cases hT:rT E.P T<;>simp only[hT,cond_true,cond_false]at hv
   ·cases hv
   split at hv
   ·rename_i i y k hx;split at hv
    ·rename_i t xs hl;cases hk:Nat.ble (k+1) t.sz<;>simp only[hk,cond_true,cond_false,Da]at hv
     ·cases hv
     subst hv;exact⟨_,h,λs' H a w pl es eh hr hs hn=>zE hr ho hT (eh _ _ hl) (Dl hk) (ak hs (aN es _ _ hx))⟩
    ·cases hv
   ·cases hv
  ·have dflt:eW E.P s h0 (.load T x) (λv=>K {v:=v})=some out->∃c,K c=some out/\o8 E.P o n c s h0:=λh=>by
    rw[eX]at h;simp only[An]at h;obtain⟨v,hv,h⟩:=h
    exact⟨_,h,λs' H a w pl es eh hr hs hn=>by
     obtain⟨u,hu,hvr⟩:=di hr hs (jm es eh _ _ hv) o ho
     exact eD hr hu hvr⟩
   unfold AF at h;cases ht:E.tak<;>simp only[ht,cond_true,cond_false]at h
   ·exact dflt h
   split at h
   ·rename_i i y hx;split at h
    ·rename_i st xs hl;cases hf:fM (.st st)<;>simp only[hf,cond_true,cond_false]at h
     ·simp only[An]at h;obtain⟨e,he,v,hv,h⟩:=h;exact⟨_,h,λs' H a w pl es eh hr hs hn=>sq (AW st) hr ho (eh _ _ hl) he hv (ak hs (aN es _ _ hx)) hn⟩
     ·exact dflt h
    ·exact dflt h
   ·exact dflt h
 ·rename_i src dst x ho;split at h
  ·rename_i i hi;unfold AD at hi;cases hT:(Nat.beq src dst&&jW E.P src)<;>simp only[hT,cond_true,cond_false]at hi
   ·cases hi
   simp only[De]at hT;have hsd:=Dc hT.1;split at hi
   ·rename_i j hx;split at hi
    ·rename_i sh t y ys hl;cases hi;subst hsd;exact⟨_,h,λs' H a w pl es eh hr hs hn=>xo hr ho hT.2 (eh _ _ hl) (ak hs (aN es _ _ hx))⟩
    ·cases hi
   ·cases hi
  ·rw[eX]at h;simp only[An]at h;obtain⟨v,hv,h⟩:=h
   exact⟨_,h,λs' H a w pl es eh hr hs hn=>by
    obtain⟨u,hu,hvr⟩:=di hr hs (jm es eh _ _ hv) o ho
    exact eD hr hu hvr⟩
 ·rw[eX]at h;simp only[An]at h;obtain⟨v,hv,h⟩:=h
  exact⟨_,h,λs' H a w pl es eh hr hs hn=>by
   obtain⟨u,hu,hvr⟩:=di hr hs (jm es eh _ _ hv) o rfl
   exact eD hr hu hvr⟩
theorem qP {E:Env} (hE:ek E) {o:Oper} {a:Act} {s:List (Nat× SV)} {n:Nat} {K:CR->Option ρ} {out:ρ}
  (hr:aF H pl w) (hs:bJ w H pl s a) (hn:∀i,n<=i->look H i=none) (h:nd E s H n o.op K=some out):∃c,K c=some out/\cW E.P o a w H pl n c:=by
 obtain⟨c,h1,h2⟩:=o9 hE h;exact⟨c,h1,h2 s H a w pl .rfl' .rfl' hr hs λk _=>hn _ (Nat.le_add_right _ _)⟩
theorem vA {x y:Option ρ} {out:ρ} (h:both x y=some out):x=some out/\y=some out:=by
 unfold both at h;grind
theorem qQ {op:Op} {T:TypeId} {x:Operand} {e:Bool} (h:rW op=some (T,x,e)):∃U,op=.binOp (cond e .eql .neq) T x (.const (.slice none 0 0)) U:=by
 unfold rW at h;grind
theorem vB (hr:aF H pl w) {v:SV} {u:Value} {K:Bool->Option ρ} {out:ρ} (h:BK H v K=some out) (hv:SVRep w H pl v u):
  ∃a n c,u=.slice a n c/\K a.isNone=some out:=by
 have fork:∀{α:Type} {xs:List α} {a:Option Addr},(xs=[]\/a.isSome=true)->cond (isNil xs) (both (K true) (K false)) (K false)=some out->K a.isNone=some out:=λ{α xs a} hx h=>by
  cases xs with
  |nil=>
   obtain⟨h1,h2⟩:=vA h
   cases a<;>assumption
  |cons y ys=>
   rcases hx with hx|hx
   ·cases hx
   ·cases a with
    |none=>cases hx
    |some a=>exact h
 unfold BK at h;split at h
 ·cases hv;exact⟨_,_,_,rfl,h⟩
 ·rename_i d t xs
  cases hv with
  |r _ _ _ hx=>cases hx with
   |sl _ _ a cap b o vs hcap ha hc hr'=>grind
 ·rename_i i
  cases hv with
  |own _ sh t xs hl=>
   simp only[hl]at h;have hb:=hr.blk i _ hl
   have:∃a cap b o,pl.hdr i=.slice a xs.length cap/\xs.length<=cap/\(cap=0\/a=some ⟨b,o,none⟩):=by
    cases sh with
    |none=>obtain⟨⟨a,cap,b,o,vs,fs,q1,q2,q3,_⟩⟩:=hb;exact⟨a,cap,b,o,q1,q2,q3⟩
    |some d=>obtain⟨⟨a,cap,b,o,vs,fs,q1,q2,q3,_⟩⟩:=hb;exact⟨a,cap,b,o,q1,q2,q3⟩
   obtain⟨a,cap,b,o,q1,q2,q3⟩:=this;refine⟨a,_,_,q1,fork ?_ h⟩
   rcases q3 with rfl|rfl
   ·grind
   ·exact .inr rfl
 ·cases h
theorem zF (hr:aF H pl w) {o:Oper} {a:Act} {T:TypeId} {x:Operand} {e:Bool} {n:Nat} (hT:rT P T=true) (ho:rW o.op=some (T,x,e)) {b:Option Addr} {l c:Nat} (hx:a.eval x=.slice b l c):
  cW P o a w H pl n {v:=.b (cond b.isNone e (!e))}:=by
 obtain⟨U,ho⟩:=qQ ho;obtain⟨el,_,hu,_⟩:=nq hT;refine eD (u:=.bool (cond b.isNone e (!e))) hr ?_ dQ;rw[execOp,ho];have hc:a.eval (.const (.slice none 0 0))=.slice none 0 0:=rfl
 have key:(do eqGuard (cond e .eql .neq) T x (.const (.slice none 0 0)) (a.eval x) (a.eval (.const (.slice none 0 0)));binOp (cond e .eql .neq) T (a.eval x) (a.eval (.const (.slice none 0 0))):Sem Value).run P w=.ok (.bool (cond b.isNone e (!e))) w:=by
  rw[hc,hx];refine guarded (λh=>nomatch h) (λ_ h=>nomatch h) ?_;cases e
  ·rw[cond_false,run_neq_slice_nil w T el b l c hu];cases b<;>rfl
  ·rw[cond_true,Lib.run_eql_slice_nil w T el b l c _ _ hu];cases b<;>rfl
 simp only[Sem.run_bind,key,Result.andThen_ok];rfl
theorem tM {E:Env} (hE:ek E) {w0:World} {fp0:G0} {o:Oper} {st:St} {a:Act} {K:St->Option ρ} {out:ρ} {next:Act->World->Prop} {Q:Exit->Act->World->Prop}
  (hr:Rel w0 fp0 st pl a w) (h:Ak E o st K=some out) (hK:∀st' pl' a' w',K st'=some out->pl'.base=pl.base->st'.n=st.n->Rel w0 fp0 st' pl' a' w'->next a' w'):o.wp E.P a w next Q:=by
 obtain⟨c,hc,hup,BT⟩:∃c,((st.take o.dst c).bind K)=some out/\cW E.P o a w st.heap pl st.nid c:=by
  unfold Ak at h;split at h
  ·rename_i T x e ho;cases hT:rT E.P T<;>simp only[hT,cond_true,cond_false,An]at h
   ·cases h
   obtain⟨v,hv,h⟩:=h;obtain⟨b,l,c,hu,hk⟩:=vB hr.hr h (ak hr.sl hv);exact⟨_,hk,zF hr.hr hT ho hu⟩
  ·exact qP hE hr.hr hr.sl hr.fresh h
 simp only[An]at hc;obtain⟨st',ht,hk⟩:=hc
 refine BT st'.heap next Q (vf ht) λu pl' w' hst hv=>?_
 have hn:st'.n=st.n:=by
  simp only[St.take,An,Da]at ht;grind
 exact hK st' pl' _ w' hk hst.bs hn (hr.take ht hup hst hv)
end
end
section
variable [Tok]
theorem cZ (h:Heap) (n:Nat) (b:Blk) (i:Nat):look (tl h n b) i=if n=i then(look h i).map λ_=>b else look h i:=by
 induction h with
 |nil=>simp[tl,look]
 |cons x l ih=>
  obtain⟨k,u⟩:=x;simp only[tl];cases hb:Nat.beq k n
  ·simp only[cond_false,look_cons,ih]
   have hne:k≠n:=λe=>by subst e;simp at hb
   grind
  ·simp only[cond_true,look_cons];have:=Dc hb;grind
theorem aS (s:List (Nat× SV)) (dst:Option Tmp) (v:SV) (t:Nat):look (rX s dst v) t=if dst=some t then some v else look s t:=by
 cases dst with
 |none=>simp[rX]
 |some d=>simp[rX,bh]
def k5 {α:Type} (x y:List (Nat× α)):Prop:=∀t,look x t=look y t
theorem vC {h h':Heap} (e:k5 h h') (n:Nat) (b:Blk):k5 (tl h n b) (tl h' n b):=λt=>by rw[cZ,cZ,e t]
theorem tN {h h':Heap} (e:k5 h h') (u:Heap):k5 (cI u h) (cI u h'):=by
 induction u generalizing h h' with
 |nil=>exact e
 |cons x l ih=>obtain⟨k,b⟩:=x;exact ih (vC e k b)
theorem vD (u h:Heap) (i:Nat):(look (cI u h) i).isSome=(look h i).isSome:=by
 induction u generalizing h with
 |nil=>rfl
 |cons x l ih=>
  obtain⟨k,b⟩:=x;rw[cI,ih,cZ];grind
theorem mv {u h:Heap} {i:Nat}:look (cI u h) i=none↔look h i=none:=by
 have:=vD u h i;rw[<-Option.not_isSome_iff_eq_none,<-Option.not_isSome_iff_eq_none,this]
theorem tO {S:Nat->Prop} {h h':Heap} (e:∀i B,S i->look h i=some B->look h' i=some B) (u:Heap):∀i B,S i->look (cI u h) i=some B->look (cI u h') i=some B:=by
 induction u generalizing h h' with
 |nil=>exact e
 |cons x l ih=>
  obtain⟨k,b⟩:=x;refine ih λt v ht hv=>?_;rw[cZ]at hv⊢;by_cases c:k=t
  ·rw[if_pos c]at hv⊢;obtain⟨y,hy,rfl⟩:=Df.1 hv;grind
  ·grind
theorem fW {i:Nat}:∀(u h:Heap),look u i=none->look (cI u h) i=look h i
  |[],_,_=>rfl
  | (k, b) :: l, h, e => by
    rw[look_cons]at e;by_cases c:k=i
    · grind
    · rw[if_neg c]at e;show look (cI l (tl h k b)) i=_;rw[fW l _ e,cZ,if_neg c]
theorem xr {h:Heap} {k:Nat} (b:Blk) (hk:∃B,look h k=some B):put h k b=tl h k b:=by
 induction h with
 |nil=>obtain⟨B,hB⟩:=hk;cases hB
 |cons x l ih=>
  obtain⟨k',u⟩:=x;simp only[put,tl];obtain⟨B,hB⟩:=hk;rw[look_cons]at hB;cases hb:Nat.beq k' k
  ·have hne:k'≠k:=λe=>by subst e;simp at hb
   rw[if_neg hne]at hB;simp only[cond_false,ih ⟨B,hB⟩]
  ·rfl
theorem jC {u h:Heap} (hd:∀i B,look u i=some B->∃B',look h i=some B'):upds u h=cI u h:=by
 induction u generalizing h with
 |nil=>rfl
 |cons x l ih=>
  obtain⟨k,b⟩:=x;have hk:=hd k b (by rw[look_cons];simp);simp only[upds,cI];rw[xr b hk];refine ih λi B hB=>?_;rw[cZ];by_cases e:k=i
  ·grind
  ·rw[if_neg e];exact hd i B (by rw[look_cons,if_neg e];exact hB)
def pb (x y:SH):Prop:=k5 x.1 y.1/\k5 x.2 y.2
theorem pb.refl (x:SH):pb x x:=⟨λ_=>rfl,λ_=>rfl⟩
theorem pb.trans {x y z:SH} (h:pb x y) (g:pb y z):pb x z:=⟨λt=>(h.1 t).trans (g.1 t),λt=>(h.2 t).trans (g.2 t)⟩
def DR.ib (r:DR) (i:Nat):Prop:=r.n0<=i/\i<r.n0+r.c.news.length
theorem DR.eI {r:DR} {i:Nat} (h:¬r.ib i):look (newsH r.n0 r.c.news) i=none:=by
 rw[aq];by_cases c:r.n0<=i
 ·rw[if_pos c];exact DS (Nat.le_of_not_lt λh'=>h ⟨c,by omega⟩)
 ·rw[if_neg c]
theorem k6 {T:Kil} (h:T.2=[]) (x:List (Nat× SV)):eV T x=x:=by unfold eV;rw[h]
theorem qR {T:Kil} (h:T.2=[]) (x:Heap):cl T x=some x:=by unfold cl;rw[h]
theorem cz {r:DR} (hg:r.c.kil.2=[]) (x:SH):r.app x=some (rX x.1 r.dst r.c.v,cI r.c.upd x.2++newsH r.n0 r.c.news):=by
 unfold DR.app;rw[qR hg,k6 hg];rfl
theorem aT {r:DR} {x y:SH} (h:r.app x=some y):y.1=rX (eV r.c.kil x.1) r.dst r.c.v:=by
 unfold DR.app at h;simp only[An,Da]at h;grind
theorem kn {r:DR} {x y:SH} (h:r.app x=some y) (i:Nat):look y.2 i=(cond (mem i r.c.kil.1) none ((look (cI r.c.upd x.2) i).bind (Blk.ai r.c.kil))).or (look (newsH r.n0 r.c.news) i):=by
 unfold DR.app at h;simp only[An,Da]at h;obtain⟨hh,h1,rfl⟩:=h;show look (hh++_) i=_;rw[look_append,aK r.c.bI h1 i]
theorem xt {r:DR} (hg:r.c.kil.2=[]) {x y:SH} (e:pb x y) {x':SH} (h:r.app x=some x'):∃y',r.app y=some y'/\pb x' y':=by
 rw[cz hg]at h;cases h;refine⟨_,cz hg y,λt=>?_,λi=>?_⟩
 ·show look (rX _ _ _) t=look (rX _ _ _) t;rw[aS,aS,e.1 t]
 ·show look (_++_) i=look (_++_) i;rw[look_append,look_append,tN e.2 _ i]
theorem bd (p:Nat->Bool):∀(l1 l2:List DR) (k:Nat) (x:SH),replay p k (l1++l2) x=(replay p k l1 x).bind (replay p (k+l1.length) l2)
 |[],l2,k,x=>by simp[replay]
 |r::l,l2,k,x=>by
  simp only[D0,replay,DP];cases p k
  ·simp only[cond_false];rw[bd p l l2 (k+1) x,show k+1+l.length=k+(l.length+1)from by omega]
  ·simp only[cond_true,Dy]
   congr 1;funext y;rw[bd p l l2 (k+1) y,show k+1+l.length=k+(l.length+1)from by omega]
theorem c5 {p q:Nat->Bool}:∀(l:List DR) (k:Nat) (x:SH),(∀j,j<l.length->p (k+j)=q (k+j))->replay p k l x=replay q k l x
 |[],_,_,_=>rfl
 |r::l,k,x,h=>by
  simp only[replay];have h0:=h 0 (by simp);rw[DB]at h0
  have ih:=λx=>c5 (p:=p) (q:=q) l (k+1) x λj hj=>by have:=h (j+1) (by simpa using hj);rwa [show k+(j+1)=k+1+j from by omega]at this
  grind
theorem e9 {p:Nat->Bool}:∀(l:List DR) (k:Nat) (x:SH),(∀j,j<l.length->p (k+j)=false)->replay p k l x=some x
 |[],_,_,_=>rfl
 |r::l,k,x,h=>by
  simp only[replay];have h0:=h 0 (by simp);rw[DB]at h0;rw[h0,cond_false]
  exact e9 l (k+1) x λj hj=>by have:=h (j+1) (by simpa using hj);rwa [show k+(j+1)=k+1+j from by omega]at this
theorem eJ {p:Nat->Bool}:∀(l:List DR) (k:Nat) (x X:SH),replay p k l x=some X->∀i B,look X.2 i=some B->(∃B',look x.2 i=some B')\/∃(j:Nat) (r:DR),l[j]? =some r/\p (k+j)=true/\r.ib i
  |[],_,x,X,h,i,B,hB=>by cases h;exact .inl ⟨B,hB⟩
  | r :: l, k, x, X, h, i, B, hB => by
    simp only[replay]at h;cases hp:p k<;>simp only[hp,cond_false,cond_true]at h
    · rcases eJ l (k+1) x X h i B hB with h'|⟨j,r',h1,h2,h3⟩
      · exact .inl h'
      · exact .inr ⟨j+1,r',by simpa using h1,by rwa [show k+(j+1)=k+1+j from by omega],h3⟩
    · rw [An] at h;obtain⟨y,hy,h⟩:=h
      rcases eJ l (k+1) y X h i B hB with⟨B',h'⟩|⟨j,r',h1,h2,h3⟩
      · by_cases hm:r.ib i
        · exact .inr ⟨0,r,rfl,hp,hm⟩
        · left;rw[kn hy,DR.eI hm,DM]at h'
          cases hx:look x.2 i with
          |none=>rw[mv.2 hx]at h';cases hm':mem i r.c.kil.1<;>simp[hm']at h'
          |some b=>grind
      · exact .inr ⟨j+1,r',by simpa using h1,by rwa [show k+(j+1)=k+1+j from by omega],h3⟩
theorem gC {q p:Nat->Bool}:∀(l:List DR) (k:Nat) (y z Y Z:SH),(∀j,q j=true->p j=true)->replay q k l y=some Y->replay p k l z=some Z->Ext y.1 z.1->
    (∀t v,look y.1 t=some v->∀(j:Nat) (r:DR),l[j]? =some r->p (k+j)=true->q (k+j)=false->r.dst≠some t)->
    (∀(j j':Nat) (r r':DR) t,j≠j'->l[j]? =some r->l[j']? =some r'->r.dst=some t->r'.dst≠some t)->
    (∀(j:Nat) (r:DR),l[j]? =some r->p (k+j)=true->q (k+j)=false->r.c.kil.2=[])->Ext Y.1 Z.1
  |[],_,y,z,Y,Z,_,hy,hz,he,_,_,_=>by cases hy;cases hz;exact he
  | r :: l, k, y, z, Y, Z, hqp, hy, hz, he, hd, hn, hg => by
    simp only[replay]at hy hz;have hn':∀(j j':Nat) (r r':DR) t,j≠j'->l[j]? =some r->l[j']? =some r'->r.dst=some t->r'.dst≠some t:=λj j' r r' t hne h1 h2=>hn (j+1) (j'+1) r r' t (by omega) (by simpa using h1) (by simpa using h2);have hg':∀(j:Nat) (r:DR),l[j]? =some r->p (k+1+j)=true->q (k+1+j)=false->r.c.kil.2=[]:=λj r h1 h2 h3=>hg (j+1) r (by simpa using h1) (by rwa [show k+(j+1)=k+1+j from by omega]) (by rwa [show k+(j+1)=k+1+j from by omega]);have hd':∀t v,look y.1 t=some v->∀(j:Nat) (r:DR),l[j]? =some r->p (k+1+j)=true->q (k+1+j)=false->r.dst≠some t:=λt v ht j r h1 h0 h2=>hd t v ht (j+1) r (by simpa using h1) (by rwa [show k+(j+1)=k+1+j from by omega]) (by rwa [show k+(j+1)=k+1+j from by omega]);cases hq:q k<;>simp only[hq,cond_false,cond_true]at hy
    · cases hp:p k<;>simp only[hp,cond_false,cond_true]at hz
      · exact gC l (k+1) y z Y Z hqp hy hz he hd' hn' hg'
      · rw[An]at hz;obtain⟨z',hz',hz⟩:=hz;have hgr:=hg 0 r rfl (by simpa using hp) (by simpa using hq);refine gC l (k+1) y z' Y Z hqp hy hz (λt v ht=>?_) hd' hn' hg';rw[aT hz',k6 hgr,aS,if_neg (hd t v ht 0 r rfl (by simpa using hp) (by simpa using hq))];exact he t v ht
    · rw [hqp k hq] at hz;simp only[cond_true]at hz;rw[An]at hy hz;obtain⟨y',hy',hy⟩:=hy;obtain⟨z',hz',hz⟩:=hz
      have hsl:∀t,look y'.1 t=if r.dst=some t then some r.c.v else(look y.1 t).map (SV.ai r.c.kil):=λt=>by rw[aT hy',aS,aP r.c.bI]
      have CP:∀t,look z'.1 t=if r.dst=some t then some r.c.v else(look z.1 t).map (SV.ai r.c.kil):=λt=>by rw[aT hz',aS,aP r.c.bI]
      refine gC l (k+1) y' z' Y Z hqp hy hz (λt v ht=>?_) (λt v ht j r' h1 h0 h2=>?_) hn' hg'
      · rw[hsl]at ht;rw[CP];by_cases c:r.dst=some t
        · grind
        · rw[if_neg c]at ht⊢;obtain⟨u,hu,rfl⟩:=Df.1 ht;rw[he t u hu];rfl
      · rw[hsl]at ht;by_cases c:r.dst=some t
        · exact hn 0 (j+1) r r' t (by omega) rfl (by simpa using h1) c
        · rw[if_neg c]at ht;obtain⟨u,hu,_⟩:=Df.1 ht;grind
theorem dD {S:Nat->Prop} {q p:Nat->Bool}:∀(l:List DR) (k:Nat) (y z Y Z:SH),(∀j,q j=true->p j=true)->replay q k l y=some Y->replay p k l z=some Z->(∀i B,S i->look y.2 i=some B->look z.2 i=some B)->
    (∀(j:Nat) (r:DR) i,l[j]? =some r->r.ib i->look z.2 i=none)->
    (∀(j j':Nat) (r r':DR) i,j≠j'->l[j]? =some r->l[j']? =some r'->r.ib i->¬r'.ib i)->
    (∀(j:Nat) (r:DR),l[j]? =some r->p (k+j)=true->q (k+j)=false->r.c.kil.2=[]/\∀i,S i->look r.c.upd i=none)->∀i B,S i->look Y.2 i=some B->look Z.2 i=some B
  |[],_,y,z,Y,Z,_,hy,hz,he,_,_,_=>by cases hy;cases hz;exact he
  | r :: l, k, y, z, Y, Z, hqp, hy, hz, he, hf, hn, hg => by
    simp only[replay]at hy hz;have hn':∀(j j':Nat) (r r':DR) i,j≠j'->l[j]? =some r->l[j']? =some r'->r.ib i->¬r'.ib i:=λj j' r r' t hne h1 h2=>hn (j+1) (j'+1) r r' t (by omega) (by simpa using h1) (by simpa using h2);have hg':∀(j:Nat) (r:DR),l[j]? =some r->p (k+1+j)=true->q (k+1+j)=false->r.c.kil.2=[]/\∀i,S i->look r.c.upd i=none:=λj r h1 h2 h3=>hg (j+1) r (by simpa using h1) (by rwa [show k+(j+1)=k+1+j from by omega]) (by rwa [show k+(j+1)=k+1+j from by omega]);have hf':∀(j:Nat) (r:DR) i,l[j]? =some r->r.ib i->look z.2 i=none:=λj r i h1 h2=>hf (j+1) r i (by simpa using h1) h2
    have hfree:∀z',r.app z=some z'->∀(j:Nat) (r':DR) i,l[j]? =some r'->r'.ib i->look z'.2 i=none:=λz' hz' j r' i h1 h2=>by
      cases hx:look z'.2 i with
      |none=>rfl
      | some B =>
        rcases eJ (p:=λ_=>true) [r] 0 z z' (by simp[replay,hz']) i B hx with⟨B',hB'⟩|⟨j',r2,g1,_,g3⟩
        · grind
        · cases j' with
          |zero=>simp at g1;subst g1;exact(hn 0 (j+1) r r' i (by omega) rfl (by simpa using h1) g3 h2).elim
          |succ j'=>simp at g1
    cases hq:q k<;>simp only[hq,cond_false,cond_true]at hy
    · cases hp:p k<;>simp only[hp,cond_false,cond_true]at hz
      · exact dD l (k+1) y z Y Z hqp hy hz he hf' hn' hg'
      · rw[An]at hz;obtain⟨z',hz',hz⟩:=hz;obtain⟨hgr,hur⟩:=hg 0 r rfl (by simpa using hp) (by simpa using hq);refine dD l (k+1) y z' Y Z hqp hy hz (λi B hS hB=>?_) (hfree z' hz') hn' hg';rw[cz hgr]at hz';cases hz';show look (cI r.c.upd z.2++_) i=some B;rw[look_append,fW _ _ (hur i hS),he i B hS hB];rfl
    · rw [hqp k hq] at hz;simp only[cond_true]at hz;rw[An]at hy hz;obtain⟨y',hy',hy⟩:=hy;obtain⟨z',hz',hz⟩:=hz;refine dD l (k+1) y' z' Y Z hqp hy hz (λi B hS hB=>?_) (hfree z' hz') hn' hg';rw[kn hy']at hB;rw[kn hz']
      cases hx:cond (mem i r.c.kil.1) none ((look (cI r.c.upd y.2) i).bind (Blk.ai r.c.kil))with
      | some b =>
        rw[hx]at hB;cases hm:mem i r.c.kil.1<;>simp only[hm,cond_true,cond_false]at hx⊢
        · obtain⟨b0,hb0,hb1⟩:=An.1 hx;rw[tO he _ i b0 hS hb0];simp only[Dn,hb1];exact hB
        · cases hx
      | none =>
        rw[hx,Option.none_or]at hB
        have hm:r.ib i:=Classical.byContradiction λh=>by rw[DR.eI h]at hB;cases hB
        rw[mv.2 (hf 0 r i rfl hm)];grind
theorem k7 {b:DR}:∀{U:Heap},AK b U=true->∀i,b.ib i->look U i=none
  |[],_,_,_=>rfl
  | (k, _) :: l, h, i, hi => by
    simp only[AK]at h;cases hk:(Nat.ble (k+1) b.n0||Nat.ble (b.n0+b.c.news.length) k)<;>rw[hk]at h
    · cases h
    · rw[look_cons,if_neg,k7 h i hi];intro e;subst e;obtain⟨h1,h2⟩:=hi;rw[En]at hk
      rcases hk with hk|hk<;>have:=Dl hk<;>omega
theorem cc {a b:DR} (h:qt a b=true):a.c.kil.2=[]/\b.c.kil.2=[]/\((b.c.upd=[]/\∀i,b.ib i->look a.c.upd i=none)\/(a.c.upd=[]/\∀i,a.ib i->look b.c.upd i=none)):=by
 simp only[qt,De,En]at h;have h:=h.1;refine⟨ba h.1.1,ba h.1.2,?_⟩
 rcases h.2 with h|h
 ·exact .inl ⟨ba h.1,k7 h.2⟩
 ·exact .inr ⟨ba h.1,k7 h.2⟩
theorem k8 {i:Nat}:∀(u:Heap) {h h':Heap},look h i=look h' i->look (cI u h) i=look (cI u h') i
 |[],_,_,e=>e
 |(k,b)::l,h,h',e=>by
  simp only[cI];exact k8 l (by rw[cZ,cZ,e])
theorem pc {a b:DR} (h:qt a b=true):xd b.see a.c.upd=false/\xd a.see b.c.upd=false:=by
 simp only[qt,De,Bool.not_eq_true']at h;exact h.2
theorem pd {L:List Nat}:∀{U:Heap},xd L U=false->∀i,mem i L=true->look U i=none
  |[],_,_,_=>rfl
  | (k, b) :: l, h, i, hi => by
    simp only[xd]at h;cases hk:mem k L<;>simp only[hk,cond_true,cond_false]at h
    · rw[look_cons,if_neg (λe=>by subst e;rw[hi]at hk;exact nomatch hk)];exact pd h i hi
    · cases h
theorem fa {h:Heap} {i:Nat} {B:Blk}:∀{L:List Nat},look (jY h L) i=some B->mem i L=true/\look h i=some B
 |[],e=>nomatch e
 |k::l,e=>by
  simp only[jY]at e
  cases hk:look h k with
  |none=>
   rw[hk]at e;obtain⟨g1,g2⟩:=fa e
   exact⟨by simp only[mem];cases Nat.beq k i<;>simp[g1],g2⟩
  |some b=>
   rw[hk]at e;rw[look_cons]at e;by_cases c:k=i
   ·subst c;rw[if_pos rfl]at e;cases e;exact⟨by simp[mem],hk⟩
   ·rw[if_neg c]at e;obtain⟨g1,g2⟩:=fa e;exact⟨by simp only[mem];cases Nat.beq k i<;>simp[g1],g2⟩
theorem not_false {b:Bool} (h:(!b)=true):b=false:=by cases b<;>first|rfl|exact nomatch h
mutual
theorem jD {T:Kil}:(v:SV)->v.uA T=true->v.ai T=v
 |.r d x,h=>by rw[SV.ai,not_false h];rfl
 |.own j,h=>by rw[SV.ai,not_false h];rfl
 |.sub j o n,h=>by rw[SV.ai,not_false h];rfl
 |.bsl j n,h=>by rw[SV.ai,not_false h];rfl
 |.ptr j x o,h=>by rw[SV.ai,not_false h];rfl
 |.inn j x c,h=>by rw[SV.ai,not_false h];rfl
 |.dc d cs,h=>by rw[SV.ai,not_false h];rfl
 |.agg cs,h=>by rw[SV.ai,cO cs h]
 |.tup cs,h=>by rw[SV.ai,cO cs h]
 |.fn f a b,h=>by
  simp only[SV.uA,De]at h
  rw[SV.ai,cO a h.1,cO b h.2]
 |.bq,_=>rfl
 |.fI,_=>rfl
 |.undef,_=>rfl
theorem cO {T:Kil}:(l:List SV)->kF T l=true->ca T l=l
 |[],_=>rfl
 |v::l,h=>by
  simp only[kF,De]at h;rw[ca,jD v h.1,cO l h.2]
end
theorem sw {c:CR} (h:c.kil.2=[]):c.kil=([],[]):=by
 unfold CR.kil at h⊢;rw[List.append_eq_nil_iff]at h;grind
mutual
theorem mx (T U:Kil):(v:SV)->(v.ai T).ai U=(v.ai U).ai T
 |.r d x=>by
  simp only[SV.ai]
  cases h1:hit T.2 d<;>cases h2:hit U.2 d<;>simp only[cond_true,cond_false,SV.ai,h1,h2]
 |.own j=>by
  simp only[SV.ai]
  cases h1:mem j T.1<;>cases h2:mem j U.1<;>simp only[cond_true,cond_false,SV.ai,h1,h2]
 |.sub j o n=>by
  simp only[SV.ai]
  cases h1:mem j T.1<;>cases h2:mem j U.1<;>simp only[cond_true,cond_false,SV.ai,h1,h2]
 |.bsl j n=>by
  simp only[SV.ai]
  cases h1:mem j T.1<;>cases h2:mem j U.1<;>simp only[cond_true,cond_false,SV.ai,h1,h2]
 |.ptr j x o=>by
  simp only[SV.ai]
  cases h1:mem j T.1<;>cases h2:mem j U.1<;>simp only[cond_true,cond_false,SV.ai,h1,h2]
 |.inn j x c=>by
  simp only[SV.ai]
  cases h1:(mem j T.1||mem j T.2)<;>cases h2:(mem j U.1||mem j U.2)<;>simp only[cond_true,cond_false,SV.ai,h1,h2]
 |.dc d cs=>by
  simp only[SV.ai]
  cases h1:hit T.2 d<;>cases h2:hit U.2 d<;>simp only[cond_true,cond_false,SV.ai,h1,h2]
 |.agg cs=>by simp only[SV.ai,dE T U cs]
 |.tup cs=>by simp only[SV.ai,dE T U cs]
 |.fn f a b=>by simp only[SV.ai,dE T U a,dE T U b]
 |.bq=>rfl
 |.fI=>rfl
 |.undef=>rfl
theorem dE (T U:Kil):(l:List SV)->ca U (ca T l)=ca T (ca U l)
 |[]=>rfl
 |v::l=>by simp only[ca,mx T U v,dE T U l]
end
variable {cm:DR->Bool}
theorem bn {r:DR} (h:bH cm r=true):cm r=true/\r.c.kil.2=[]/\r.c.upd=[]/\r.c.news=[]:=by
 simp only[bH,De]at h;exact⟨h.2.2.2,ba h.1,ba h.2.1,ba h.2.2.1⟩
theorem my {b a:DR} (h:tq b a=true):a.c.v.ai b.c.kil=a.c.v:=by
 simp only[tq,De]at h;exact jD _ h.1
theorem sx {T:Kil} {u:SV}:∀{l:List SV},kF T l=true->u∈l->u.uA T=true
 |[],_,h=>nomatch h
 |v::l,h,hu=>by
  simp only[kF,De]at h
  rcases Dt.1 hu with rfl|hu
  ·exact h.1
  ·exact sx h.2 hu
theorem sy {b a:DR} (h:tq b a=true):∀u∈a.xb,u.ai b.c.kil=u:=by
 intro u hu;simp only[tq,De]at h;exact jD _ (sx h.2 hu)
theorem iK {b a:DR} (h:b.c.kil.2=[]):a.c.v.ai b.c.kil=a.c.v:=by rw[sw h];exact aO _
theorem br {a b:DR} (h:gL cm a b=true):
  (bH cm a=true/\a.c.v.ai b.c.kil=a.c.v)\/(bH cm b=true/\b.c.v.ai a.c.kil=b.c.v)\/(bH cm a=false/\bH cm b=false/\qt a b=true):=by
 simp only[gL,En,De]at h
 rcases h with h|⟨h2,h1⟩|⟨h2,h1⟩
 ·obtain⟨k1,k2,_⟩:=cc h;cases ha:bH cm a
  ·cases hb:bH cm b
   ·grind
   ·exact .inr (.inl ⟨rfl,iK k1⟩)
  ·exact .inl ⟨rfl,iK k2⟩
 ·exact .inl ⟨h1,my h2⟩
 ·exact .inr (.inl ⟨h1,my h2⟩)
theorem sA {a b:DR} (h:gL cm a b=true):
  (bH cm a=true->∀u∈a.xb,u.ai b.c.kil=u)/\(bH cm b=true->∀u∈b.xb,u.ai a.c.kil=u):=by
 have nl:∀{c:DR} (v:SV),c.c.kil.2=[]->v.ai c.c.kil=v:=λ{c} v h=>by rw[sw h];exact aO _
 simp only[gL,En,De]at h
 rcases h with h|⟨h2,h1⟩|⟨h2,h1⟩
 ·obtain⟨k1,k2,_⟩:=cc h;grind
 ·exact⟨λ_=>sy h2,λ_ u _=>nl u (bn h1).2.1⟩
 ·exact⟨λ_ u _=>nl u (bn h1).2.1,λ_=>sy h2⟩
theorem gD {r:DR} (h:bH cm r=true) (x:SH):r.app x=some (rX x.1 r.dst r.c.v,x.2):=by
 obtain⟨_,h1,h2,h3⟩:=bn h;rw[cz h1,h2,h3];simp only[cI,newsH,Dx]
theorem fX {r:DR} {x x' y:SH} (e:x.2=x'.2) (h:r.app x=some y):∃y',r.app x'=some y'/\y.2=y'.2:=by
 unfold DR.app at h⊢;simp only[An,Da]at h;grind
def nJ (x y:SH):Prop:=k5 x.1 y.1/\x.2=y.2
theorem nJ.same {x y:SH} (h:nJ x y):pb x y:=⟨h.1,λt=>by rw[h.2]⟩
theorem vE {r:DR} {x y:SH} (e:nJ x y) {x':SH} (h:r.app x=some x'):∃y',r.app y=some y'/\nJ x' y':=by
 obtain⟨y',h1,h2⟩:=fX e.2 h;refine⟨y',h1,λt=>?_,h2⟩;rw[aT h,aT h1,aS,aS,aP r.c.bI,aP r.c.bI,e.1 t]
theorem fY {p:Nat->Bool}:∀(l:List DR) (k:Nat) (x y X:SH),nJ x y->replay p k l x=some X->∃Y,replay p k l y=some Y/\nJ X Y
 |[],_,x,y,X,e,h=>by cases h;exact⟨y,rfl,e⟩
 |r::l,k,x,y,X,e,h=>by
  simp only[replay]at h⊢;cases hp:p k<;>simp only[hp,cond_false,cond_true]at h⊢
  ·exact fY l (k+1) x y X e h
  ·rw[An]at h;obtain⟨x',hx',h⟩:=h;obtain⟨y',hy',e'⟩:=vE e hx';rw[hy'];exact fY l (k+1) x' y' X e' h
theorem dF {p p':Nat->Bool}:∀(l:List DR) (k:Nat) (x x' X:SH),(∀(j:Nat) (r:DR),l[j]? =some r->p (k+j)≠p' (k+j)->bH cm r=true)->x.2=x'.2->replay p k l x=some X->
  ∃X',replay p' k l x'=some X'/\X.2=X'.2
 |[],_,x,x',X,_,e,h=>by cases h;exact⟨x',rfl,e⟩
 |r::l,k,x,x',X,hd,e,h=>by
  have hd':∀(j:Nat) (r:DR),l[j]? =some r->p (k+1+j)≠p' (k+1+j)->bH cm r=true:=λj r h1 h2=>hd (j+1) r (by simpa using h1) (by rwa [show k+(j+1)=k+1+j from by omega]);have h0:=hd 0 r rfl;rw[DB]at h0;simp only[replay]at h⊢;cases hp:p k<;>cases hp':p' k<;>simp only[hp,cond_false,cond_true]at h⊢
  ·exact dF l (k+1) x x' X hd' e h
  ·rw[gD (h0 (by rw[hp,hp'];exactλh=>nomatch h)),Dn];exact dF l (k+1) x (rX x'.1 r.dst r.c.v,x'.2) X hd' e h
  ·rw[gD (h0 (by rw[hp,hp'];exactλh=>nomatch h)),Dn]at h;exact dF l (k+1) (rX x.1 r.dst r.c.v,x.2) x' X hd' e h
  ·rw[An]at h;obtain⟨y,hy,h⟩:=h;obtain⟨y',h1,h2⟩:=fX e hy;rw[h1,Dn];exact dF l (k+1) y y' X hd' h2 h
def gS:List Kil->SV->SV
 |[],v=>v
 |T::l,v=>gS l (v.ai T)
theorem tP (l l':List Kil) (v:SV):gS (l++l') v=gS l' (gS l v):=by
 induction l generalizing v with
 |nil=>rfl
 |cons T l ih=>exact ih _
theorem qS (T:Kil) (l:List Kil) (v:SV):(gS l v).ai T=gS l (v.ai T):=by
 induction l generalizing v with
 |nil=>rfl
 |cons U l ih=>simp only[gS];rw[ih,mx]
theorem qT {l:List Kil} {v:SV} (h:∀T∈l,v.ai T=v):gS l v=v:=by
 induction l with
 |nil=>rfl
 |cons U l ih=>simp only[gS];rw[h U (by simp)];exact ih λT hT=>h T (by simp[hT])
theorem fb {q p:Nat->Bool} {t:Nat} {v:SV}:∀(l:List DR) (k:Nat) (y z Y Z:SH),(∀j,q j=true->p j=true)->replay q k l y=some Y->replay p k l z=some Z->look Y.1 t=some v->
  (∀(j:Nat) (r:DR),l[j]? =some r->p (k+j)=true->q (k+j)=false->r.dst≠some t/\v.ai r.c.kil=v)->
  (∀u,look y.1 t=some u->∃Ts,look z.1 t=some (gS Ts u)/\∀T∈Ts,v.ai T=v)->look Z.1 t=some v
 |[],_,y,z,Y,Z,_,hy,hz,hv,_,hi=>by
  cases hy;cases hz;obtain⟨Ts,h1,h2⟩:=hi v hv
  rw[h1,qT h2]
 |r::l,k,y,z,Y,Z,hqp,hy,hz,hv,hd,hi=>by
  simp only[replay]at hy hz;have hd':∀(j:Nat) (r:DR),l[j]? =some r->p (k+1+j)=true->q (k+1+j)=false->r.dst≠some t/\v.ai r.c.kil=v:=λj r h1 h2 h3=>hd (j+1) r (by simpa using h1) (by rwa [show k+(j+1)=k+1+j from by omega]) (by rwa [show k+(j+1)=k+1+j from by omega]);cases hq:q k<;>simp only[hq,cond_false,cond_true]at hy
  ·cases hp:p k<;>simp only[hp,cond_false,cond_true]at hz
   ·exact fb l (k+1) y z Y Z hqp hy hz hv hd' hi
   ·rw[An]at hz;obtain⟨z',hz',hz⟩:=hz;obtain⟨g1,g2⟩:=hd 0 r rfl (by simpa using hp) (by simpa using hq);refine fb l (k+1) y z' Y Z hqp hy hz hv hd' λu hu=>?_;obtain⟨Ts,h1,h2⟩:=hi u hu;refine⟨Ts++[r.c.kil],?_,λT hT=>?_⟩
    ·rw[aT hz',aS,if_neg g1,aP r.c.bI,h1,tP];rfl
    ·grind
  ·rw[hqp k hq]at hz;simp only[cond_true]at hz;rw[An]at hy hz;obtain⟨y',hy',hy⟩:=hy;obtain⟨z',hz',hz⟩:=hz;refine fb l (k+1) y' z' Y Z hqp hy hz hv hd' λu hu=>?_;rw[aT hy',aS,aP r.c.bI]at hu;rw[aT hz',aS,aP r.c.bI];by_cases c:r.dst=some t
   ·rw[if_pos c]at hu⊢;cases hu;exact⟨[],rfl,by simp⟩
   ·rw[if_neg c]at hu⊢;obtain⟨u0,hu0,rfl⟩:=Df.1 hu;obtain⟨Ts,h1,h2⟩:=hi u0 hu0;exact⟨Ts,by rw[h1,Eg,qS],h2⟩
theorem fc {q:Nat->Bool} {t:Nat} {v:SV}:∀(l:List DR) (k:Nat) (y Y:SH),replay q k l y=some Y->look Y.1 t=some v->(∃u,look y.1 t=some u)\/∃(j:Nat) (r:DR),l[j]? =some r/\q (k+j)=true/\r.dst=some t
  |[],_,y,Y,h,hv=>by cases h;exact .inl ⟨v,hv⟩
  | r :: l, k, y, Y, h, hv => by
    simp only[replay]at h;cases hq:q k<;>simp only[hq,cond_false,cond_true]at h
    · rcases fc l (k+1) y Y h hv with h'|⟨j,r',h1,h2,h3⟩
      · exact .inl h'
      · exact .inr ⟨j+1,r',by simpa using h1,by rwa [show k+(j+1)=k+1+j from by omega],h3⟩
    · rw [An] at h;obtain⟨y',hy',h⟩:=h
      rcases fc l (k+1) y' Y h hv with⟨u,hu⟩|⟨j,r',h1,h2,h3⟩
      · rw[aT hy',aS,aP r.c.bI]at hu;by_cases c:r.dst=some t
        · exact .inr ⟨0,r,rfl,hq,c⟩
        · rw[if_neg c]at hu;obtain⟨u0,hu0,_⟩:=Df.1 hu;grind
      · exact .inr ⟨j+1,r',by simpa using h1,by rwa [show k+(j+1)=k+1+j from by omega],h3⟩
theorem vF {a b:DR} (ha:bH cm a=true) (hf:a.c.v.ai b.c.kil=a.c.v) (hd:∀t,a.dst=some t->b.dst≠some t) {x y z:SH} (hy:b.app x=some y) (hz:a.app y=some z):
  ∃y' z',a.app x=some y'/\b.app y'=some z'/\nJ z z':=by
 rw[gD ha]at hz;cases hz;obtain⟨z',h1,h2⟩:=fX (x:=x) (x':=(rX x.1 a.dst a.c.v,x.2)) rfl hy;refine⟨_,z',gD ha x,h1,λt=>?_,h2⟩;rw[aT h1,aT hy];simp only[aS,aP b.c.bI];grind
theorem tQ {a b:DR} (hb:bH cm b=true) (hf:b.c.v.ai a.c.kil=b.c.v) (hd:∀t,a.dst=some t->b.dst≠some t) {x y z:SH} (hy:b.app x=some y) (hz:a.app y=some z):
  ∃y' z',a.app x=some y'/\b.app y'=some z'/\nJ z z':=by
 rw[gD hb]at hy;cases hy;obtain⟨y',h1,h2⟩:=fX (x:=(rX x.1 b.dst b.c.v,x.2)) (x':=x) rfl hz;refine⟨y',_,h1,gD hb y',λt=>?_,h2⟩;rw[aT h1,aT hz];simp only[aS,aP a.c.bI];grind
theorem comm {a b:DR} (h:qt a b=true) (hd:∀t,a.dst=some t->b.dst≠some t) (hm:∀i,a.ib i->¬b.ib i) {x y z:SH} (hy:b.app x=some y) (hz:a.app y=some z):
  ∃y' z',a.app x=some y'/\b.app y'=some z'/\pb z z':=by
 obtain⟨ga,gb,hu⟩:=cc h;rw[cz gb]at hy;cases hy;rw[cz ga]at hz;cases hz;refine⟨_,_,cz ga x,cz gb _,λt=>?_,λi=>?_⟩
 ·simp only[aS];grind
 ·have swap:(look (newsH b.n0 b.c.news) i).or (look (newsH a.n0 a.c.news) i)=(look (newsH a.n0 a.c.news) i).or (look (newsH b.n0 b.c.news) i):=by
   by_cases c:a.ib i
   ·rw[DR.eI (hm i c)];simp
   ·rw[DR.eI c];simp
  have past:∀(r:DR) (u:Heap),(∀i,r.ib i->look u i=none)->look (cI u (x.2++newsH r.n0 r.c.news)) i=(look (cI u x.2) i).or (look (newsH r.n0 r.c.news) i):=λr u hr=>by
   by_cases c:r.ib i
   ·rw[fW _ _ (hr i c),fW _ _ (hr i c),look_append]
   ·rw[DR.eI c,DM];exact k8 u (by rw[look_append,DR.eI c,DM])
  rcases hu with⟨u1,u2⟩|⟨u1,u2⟩
  ·simp only[u1,cI,look_append,Option.or_assoc];grind
  ·simp only[u1,cI,look_append,Option.or_assoc];grind
theorem ic {p:Nat->Bool}:∀(l:List DR) (k:Nat) (x y X:SH),(∀(j:Nat) (r:DR),l[j]? =some r->p (k+j)=true->r.c.kil.2=[])->pb x y->replay p k l x=some X->∃Y,replay p k l y=some Y/\pb X Y
 |[],_,x,y,X,_,e,h=>by cases h;exact⟨y,rfl,e⟩
 |r::l,k,x,y,X,hg,e,h=>by
  have hg':∀(j:Nat) (r:DR),l[j]? =some r->p (k+1+j)=true->r.c.kil.2=[]:=λj r h1 h2=>hg (j+1) r (by simpa using h1) (by rwa [show k+(j+1)=k+1+j from by omega]);simp only[replay]at h⊢;cases hp:p k<;>simp only[hp,cond_false,cond_true]at h⊢
  ·exact ic l (k+1) x y X hg' e h
  ·rw[An]at h;obtain⟨x',hx',h⟩:=h;obtain⟨y',hy',e'⟩:=xt (hg 0 r rfl (by simpa using hp)) e hx';rw[hy'];exact ic l (k+1) x' y' X hg' e' h
theorem en {p:Nat->Bool} {a:DR} (hi:bH cm a=true):∀(l:List DR) (k:Nat) (x X X':SH),
  (∀(j:Nat) (r:DR),l[j]? =some r->p (k+j)=true->a.c.v.ai r.c.kil=a.c.v/\(∀t,a.dst=some t->r.dst≠some t))->
  replay p k l x=some X->a.app X=some X'->∃x' X'',a.app x=some x'/\replay p k l x'=some X''/\nJ X' X''
 |[],_,x,X,X',_,h,ha=>by cases h;exact⟨X',X',ha,rfl,λ_=>rfl,rfl⟩
 |r::l,k,x,X,X',hc,h,ha=>by
  have hc':∀(j:Nat) (r:DR),l[j]? =some r->p (k+1+j)=true->a.c.v.ai r.c.kil=a.c.v/\(∀t,a.dst=some t->r.dst≠some t):=λj r h1 h2=>hc (j+1) r (by simpa using h1) (by rwa [show k+(j+1)=k+1+j from by omega]);simp only[replay]at h⊢;cases hp:p k<;>simp only[hp,cond_false,cond_true]at h⊢
  ·exact en hi l (k+1) x X X' hc' h ha
  ·rw[An]at h;obtain⟨y,hy,h⟩:=h;obtain⟨y',Y'',h1,h2,h3⟩:=en hi l (k+1) y X X' hc' h ha;obtain⟨c1,c2⟩:=hc 0 r rfl (by simpa using hp);obtain⟨x',z',g1,g2,g3⟩:=vF hi c1 c2 hy h1;obtain⟨W,w1,w2⟩:=fY l (k+1) y' z' Y'' g3 h2;exact⟨x',W,g1,by rw[g2];exact w1,λt=>(h3.1 t).trans (w2.1 t),h3.2.trans w2.2⟩
theorem eo {p:Nat->Bool} {a:DR} (hi:bH cm a=false):∀(l:List DR) (k:Nat) (x X X':SH),
    (∀(j:Nat) (r:DR),l[j]? =some r->p (k+j)=true->gL cm a r=true/\(∀t,a.dst=some t->r.dst≠some t)/\∀i,a.ib i->¬r.ib i)->
    replay p k l x=some X->a.app X=some X'->∃x' X'',a.app x=some x'/\replay p k l x'=some X''/\pb X' X''
  |[],_,x,X,X',_,h,ha=>by cases h;exact⟨X',X',ha,rfl,pb.refl _⟩
  | r :: l, k, x, X, X', hc, h, ha => by
    have hc':∀(j:Nat) (r:DR),l[j]? =some r->p (k+1+j)=true->gL cm a r=true/\(∀t,a.dst=some t->r.dst≠some t)/\∀i,a.ib i->¬r.ib i:=λj r h1 h2=>hc (j+1) r (by simpa using h1) (by rwa [show k+(j+1)=k+1+j from by omega])
    have kil0:∀(r:DR),gL cm a r=true->r.c.kil.2=[]:=λr h=>by
      rcases br h with⟨h1,_⟩|⟨h1,_⟩|⟨_,_,h1⟩
      · grind
      · exact(bn h1).2.1
      · exact(cc h1).2.1
    simp only[replay]at h⊢;cases hp:p k<;>simp only[hp,cond_false,cond_true]at h⊢
    · exact eo hi l (k+1) x X X' hc' h ha
    · rw [An] at h;obtain⟨y,hy,h⟩:=h;obtain⟨y',Y'',h1,h2,h3⟩:=eo hi l (k+1) y X X' hc' h ha;obtain⟨c1,c2,c3⟩:=hc 0 r rfl (by simpa using hp)
      have hcm:∃y'' z',a.app x=some y''/\r.app y''=some z'/\pb y' z':=by
        rcases br c1 with⟨h1',_⟩|⟨h1',h2'⟩|⟨_,_,h1'⟩
        · grind
        · obtain⟨u1,u2,u3,u4,u5⟩:=tQ h1' h2' c2 hy h1;exact⟨u1,u2,u3,u4,u5.same⟩
        · exact comm h1' c2 c3 hy h1
      obtain⟨x',z',g1,g2,g3⟩:=hcm;obtain⟨W,w1,w2⟩:=ic l (k+1) y' z' Y'' (λj r h1 h2=>kil0 r (hc' j r h1 h2).1) g3 h2;exact⟨x',W,g1,by rw[g2];exact w1,h3.trans w2⟩
theorem nK {p:Nat->Bool} {a:DR} (l:List DR) (k:Nat) (x X X':SH)
  (hc:∀(j:Nat) (r:DR),l[j]? =some r->p (k+j)=true->gL cm a r=true/\(∀t,a.dst=some t->r.dst≠some t)/\∀i,a.ib i->¬r.ib i)
  (h:replay p k l x=some X) (ha:a.app X=some X'):∃x' X'',a.app x=some x'/\replay p k l x'=some X''/\pb X' X'':=by
 cases hi:bH cm a with
 |false=>exact eo hi l k x X X' hc h ha
 |true=>
  obtain⟨u1,u2,u3,u4,u5⟩:=en hi l k x X X' (λj r h1 h2=>by
   obtain⟨c1,c2,_⟩:=hc j r h1 h2;refine⟨?_,c2⟩
   rcases br c1 with⟨_,h⟩|⟨h,_⟩|⟨h,_,_⟩
   ·exact h
   ·exact iK (bn h).2.1
   ·rw[hi]at h;exact nomatch h) h ha
  exact⟨u1,u2,u3,u4,u5.same⟩
theorem nL {p p':Nat->Bool} {l:List DR} {i:Nat} {a:DR} {x X X':SH} (hi:l[i]? =some a) (hpi:p i=false) (BU:p' i=true) (hpp:∀j,j≠i->p' j=p j)
  (hc:∀(j:Nat) (r:DR),i<j->l[j]? =some r->p j=true->gL cm a r=true/\(∀t,a.dst=some t->r.dst≠some t)/\∀i,a.ib i->¬r.ib i)
  (h:replay p 0 l x=some X) (ha:a.app X=some X'):∃X'',replay p' 0 l x=some X''/\pb X' X'':=by
 have hlt:=(Db.1 hi).1
 have gP:l=l.take i++a::l.drop (i+1):=by
  conv=>lhs;rw[<-DZ i l]
  rw[List.drop_eq_getElem_cons hlt,(Db.1 hi).2]
 have hl:(l.take i).length=i:=by simp;omega
 rw[gP,bd,An]at h;obtain⟨y,hy,h⟩:=h;rw[hl,Di]at h;simp only[replay,hpi,cond_false]at h;obtain⟨y',X'',g1,g2,g3⟩:=nK (l.drop (i+1)) (i+1) y X X' (λj r h1 h2=>hc (i+1+j) r (by omega) (by rwa [Dr]at h1) h2) h ha;refine⟨X'',?_,g3⟩;rw[gP,bd,hl,Di];rw[c5 (q:=p) (l.take i) 0 x λj hj=>by rw[hl]at hj;rw[Di];exact hpp j (by omega),hy];simp only[Dn,replay,BU,cond_true,g1];rw[c5 (q:=p) (l.drop (i+1)) (i+1) y' λj hj=>hpp _ (by omega)];exact g2
theorem ie {p:Nat->Bool} {t:Nat} {x0:SV} (hx0:∀T,x0.ai T=x0):∀(l:List DR) (k:Nat) (x X:SH),replay p k l x=some X->(∀(j:Nat) (r:DR),l[j]? =some r->r.dst≠some t)->look x.1 t=some x0->look X.1 t=some x0
 |[],_,x,X,h,_,hx=>by cases h;exact hx
 |r::l,k,x,X,h,hd,hx=>by
  have hd':∀(j:Nat) (r:DR),l[j]? =some r->r.dst≠some t:=λj r h1=>hd (j+1) r (by simpa using h1);simp only[replay]at h;cases hp:p k<;>simp only[hp,cond_false,cond_true]at h
  ·exact ie hx0 l (k+1) x X h hd' hx
  ·rw[An]at h;obtain⟨y,hy,h⟩:=h;refine ie hx0 l (k+1) y X h hd' ?_;rw[aT hy,aS,if_neg (hd 0 r rfl)];rw[aP r.c.bI,hx,Eg,hx0]
end
section
variable [Tok]
def Rl (w0:World) (fp0:G0) (bs:Cell->Prop) (n:Nat) (st:St) (a:Act) (w:World):Prop:=∃pl,Rel w0 fp0 st pl a w/\pl.base=bs/\st.n=n
section
variable {w:World} {H H':Heap} {pl:Pl}
theorem mz (e:k5 H' H):dd ([],[]) w H pl w H' pl:=
 ⟨λi B hB _=>⟨B,(e i).trans hB,B.aE,rfl⟩,λd p u _ h hp=>⟨⟨h.1,λi B hB=>h.2 i B ((e i).symm.trans hB)⟩,hp⟩⟩
theorem aF.same (e:k5 H' H) (h:aF H pl w):aF H' pl w:=
  ⟨λi B hB=>(h.blk i B ((e i).symm.trans hB)).aY (mz e) rfl (λ_=>EF) (λp u _ hu=>⟨hu,rfl⟩) B.aO,
   λi j B B' p h1 h2=>h.dis i j B B' p ((e i).symm.trans h1) ((e j).symm.trans h2),λi B p hB=>h.ob i B p ((e i).symm.trans hB),h.nb⟩
theorem Rel.congr {w0:World} {fp0:G0} {s s':List (Nat× SV)} {nid n:Nat} {gh:List (Option Nat)} {a:Act} (h:Rel w0 fp0 ⟨s,H,nid,n,gh⟩ pl a w) (hs:∀t v,look s' t=some v->look s t=some v) (e:k5 H' H):
    Rel w0 fp0 ⟨s',H',nid,n,gh⟩ pl a w:=
  ⟨h.hr.same e,λt v hv=>(h.sl t v (hs t v hv)).jn (mz e),h.sz,h.df,λi hi=>(e i).trans (h.fresh i hi),h.gr,λp u hp hn=>by
    obtain⟨g1,g2,g3⟩:=h.fr p u hp hn
    exact⟨λi B hB=>g1 i B ((e i).symm.trans hB),g2,g3⟩,λk i hi=>⟨(h.gk k i hi).1,λB hB=>(h.gk k i hi).2 B ((e i).symm.trans hB)⟩⟩
end
theorem nM {h:Heap} {k i:Nat} {b B:Blk} (e:look (tl h k b) i=some B):∃B',look h i=some B':=by
 induction h with
 |nil=>simp[tl,look]at e
 |cons x l ih=>
  obtain⟨k',u⟩:=x;rw[look_cons];by_cases c:k'=i
  ·exact⟨u,by simp[c]⟩
  ·rw[if_neg c];simp only[tl]at e;cases hb:Nat.beq k' k<;>simp only[hb,cond_true,cond_false]at e
   ·rw[look_cons,if_neg c]at e;exact ih e
   ·rw[look_cons,if_neg (by have:=Dc hb;omega)]at e;exact⟨B,e⟩
theorem gT:∀{l h:Heap} {i:Nat} {B:Blk},look (cI l h) i=some B->∃B',look h i=some B'
 |[],h,i,B,e=>⟨B,e⟩
 |(k,b)::l,h,i,B,e=>by
  simp only[cI]at e;obtain⟨B',hB'⟩:=gT e;exact nM hB'
theorem Rel.app {w0:World} {fp0:G0} {X X':SH} {nid n:Nat} {gh:List (Option Nat)} {pl pl':Pl} {a:Act} {w w':World} {r:DR} {H':Heap} {u:Value}
  (h:Rel w0 fp0 ⟨X.1,X.2,nid,n,gh⟩ pl a w) (hx:r.app X=some X') (hup:∀i B,look r.c.upd i=some B->∃B',look X.2 i=some B')
  (hd:∀t,r.dst=some t->t+1<=n) (hg:∀(k i:Nat),gh[k]? =some (some i)->i<r.n0) (hn:r.n0+r.c.news.length<=nid) (ha:after X.2 r.n0 r.c=some H') (hs:aJ X.2 H' r.c.kil pl pl' w w') (hv:SVRep w' H' pl' r.c.v u):
  Rel w0 fp0 ⟨X'.1,X'.2,nid,n,gh⟩ pl' (a.put r.dst u) w':=by
 have kX:k5 X'.2 H':=by
  unfold DR.app at hx;unfold after at ha;rw[jC hup]at ha;simp only[An,Da]at hx ha;obtain⟨h1,e1,rfl⟩:=hx;obtain⟨h2,e2,rfl⟩:=ha;rw[e1]at e2;cases e2;exactλ_=>rfl
 have hfr:∀i,nid<=i->look H' i=none:=λi hi=>by
  rw[<-kX i]
  cases hq:look X'.2 i with
  |none=>rfl
  |some B=>
   rcases eJ (p:=λ_=>true) [r] 0 X X' (by simp[replay,hx]) i B hq with⟨B',hB'⟩|⟨j',r2,g1,_,g3⟩
   ·have:=h.fresh i hi;rw[hB']at this;exact nomatch this
   ·cases j' with
    |zero=>simp at g1;subst g1;have:=g3.2;omega
    |succ j'=>simp at g1
 have hsl:bJ w' H' pl' (eV r.c.kil X.1) a:=h.sl.aY r.c.bI hs.kp
 have hsl2:bJ w' H' pl' X'.1 (a.put r.dst u):=by
  rw[aT hx]
  cases zG:r.dst with
  |none=>exact hsl
  |some t=>
   have ht:=hd t zG;exact bJ.put (n:=n) (dst:=some t) hsl h.sz (by simp only[Az,rX];rw[show Nat.ble (t+1) n=true from DT ht];rfl) hv
 exact Rel.congr (s:=X'.1) (H:=H') ⟨hs.hr,hsl2,by rw[Act.nx];exact h.sz,by rw[Act.ve];exact h.df,hfr,h.gr.trans hs.gr,λp q hp hno=>by
  obtain⟨g1,g2,g3⟩:=h.fr p q hp hno;obtain⟨f1,f2,f3⟩:=hs.fr p q g2 g1
  exact⟨f1,f2,f3.trans g3⟩,h.gk.step hs.kp (DA _) λk i B hki hB=>by
   have hi:=hg k i hki;rw[<-kX i]at hB;unfold DR.app at hx;simp only[An,Da]at hx;obtain⟨h1,e1,rfl⟩:=hx;rw[look_append,aq,if_neg (by omega),DM,aK r.c.bI e1 i]at hB;cases hm:mem i r.c.kil.1<;>simp only[hm,cond_true,cond_false]at hB
   ·obtain⟨B1,hB1,_⟩:=An.1 hB;exact⟨rfl,gT hB1⟩
   ·exact nomatch hB⟩ (λ_ _ h=>h) kX
theorem jE (acc:List Nat) (j:Nat):∀l:List Edge,(oO acc l).testBit j=true↔∃e∈l,Region.binds .any e=true/\(j=e.on\/(acc.getD e.on 0).testBit j=true)
 |[]=>by simp[oO]
 |e::l=>by
  simp only[oO];cases hb:Region.binds .any e
  ·simp only[cond_false,jE acc j l,Dt,exists_eq_or_imp,hb,D5,false_and,false_or]
  ·simp only[cond_true,Nat.testBit_or,Nat.testBit_two_pow,En,decide_eq_true_eq,jE acc j l,Dt,exists_eq_or_imp,hb,true_and];constructor
   ·rintro ((h|h)|h)
    ·exact .inl (.inr h)
    ·exact .inl (.inl h.symm)
    ·exact .inr h
   ·rintro ((h|h)|h)
    ·exact .inl (.inr h.symm)
    ·exact .inl (.inl h)
    ·exact .inr h
theorem c6 {n:Nat}:∀{l:List Edge},jk n l=true->∀e∈l,Region.binds .any e=true->e.on<n
 |[],_,e,he,_=>by simp at he
 |x::l,h,e,he,hb=>by
  simp only[jk]at h;cases hx:Region.binds .any x<;>simp only[hx,cond_true,cond_false]at h
  ·rcases Dt.1 he with rfl|he
   ·rw[hx]at hb;exact nomatch hb
   ·exact c6 h e he hb
  ·cases hn:Nat.ble (x.on+1) n<;>simp only[hn,cond_true,cond_false]at h
   ·exact nomatch h
   ·rcases Dt.1 he with rfl|he
    ·exact Dl hn
    ·exact c6 h e he hb
structure qU (ops:List Oper) (ag:List Nat):Prop where
 back:∀(i:Nat) (o:Oper),ops[i]? =some o->∀e∈o.after.toList,Region.binds .any e=true->e.on<i
 spec:∀(i:Nat) (o:Oper),ops[i]? =some o->∀j,(ag.getD i 0).testBit j=true↔∃e∈o.after.toList,Region.binds .any e=true/\(j=e.on\/(ag.getD e.on 0).testBit j=true)
theorem jZ:∀(l:List Oper) (acc ag:List Nat),kE acc l=some ag->(∃t,ag=acc++t)/\
  ∀(k:Nat) (o:Oper),l[k]? =some o->(∀e∈o.after.toList,Region.binds .any e=true->e.on<acc.length+k)/\
   ∀j,(ag.getD (acc.length+k) 0).testBit j=true↔∃e∈o.after.toList,Region.binds .any e=true/\(j=e.on\/(ag.getD e.on 0).testBit j=true)
 |[],acc,ag,h=>by cases h;exact⟨⟨[],by simp⟩,λk o ho=>by simp at ho⟩
 |x::l,acc,ag,h=>by
  simp only[kE]at h;cases he:jk acc.length x.after.toList<;>simp only[he,cond_true,cond_false]at h
  ·exact nomatch h
  ·obtain⟨⟨t,ht⟩,hl⟩:=jZ l _ ag h;refine⟨⟨oO acc x.after.toList::t,by rw[ht];simp⟩,λk o ho=>?_⟩
   cases k with
   |zero=>
    simp at ho;subst ho;refine⟨c6 he,λj=>?_⟩
    have hm:ag.getD (acc.length+0) 0=oO acc x.after.toList:=by rw[ht];simp[List.getD]
    rw[hm,jE];constructor
    ·rintro ⟨e,h1,h2,h3⟩
     have hlt:=c6 he e h1 h2;refine⟨e,h1,h2,h3.imp id λh3=>?_⟩;rw[ht];simpa[List.getD,Dm hlt,Ds]using h3
    ·rintro ⟨e,h1,h2,h3⟩
     have hlt:=c6 he e h1 h2;refine⟨e,h1,h2,h3.imp id λh3=>?_⟩
     rw[ht]at h3;simpa[List.getD,Dm hlt,Ds]using h3
   |succ k=>
    have:=hl k o (by simpa using ho);simp only[Ej,DP,List.length_nil]at this;rwa [show acc.length+(0+1)+k=acc.length+(k+1)from by omega]at this
theorem xu {ops:List Oper} {ag:List Nat} (h:kE [] ops=some ag):qU ops ag:=by
 obtain⟨_,h2⟩:=jZ ops [] ag h;exact⟨λi o ho=>by have:=(h2 i o ho).1;simpa using this,λi o ho=>by have:=(h2 i o ho).2;simpa using this⟩
theorem qU.closed {ops:List Oper} {ag:List Nat} (hm:qU ops ag) {p:Nat->Bool} (hp:∀(j:Nat) (o:Oper),ops[j]? =some o->p j=true->∀e∈o.after.toList,Region.binds .any e=true->p e.on=true):
  ∀(n i:Nat) (o:Oper),i<=n->ops[i]? =some o->(∀e∈o.after.toList,Region.binds .any e=true->p e.on=true)->∀j,(ag.getD i 0).testBit j=true->p j=true
 |n,i,o,hn,ho,he,j,hj=>by
  obtain⟨e,h1,h2,h3⟩:=(hm.spec i o ho j).1 hj
  rcases h3 with rfl|h3
  ·exact he e h1 h2
  ·have hlt:=hm.back i o ho e h1 h2
   have hol:e.on<ops.length:=by have:=(Db.1 ho).1;omega
   cases n with
   |zero=>omega
   |succ n=>exact hm.closed hp n e.on _ (by omega) (Dd hol) (λe' h1' h2'=>hp e.on _ (Dd hol) (he e h1 h2) e' h1' h2') j h3
theorem qU.lt {ops:List Oper} {ag:List Nat} (hm:qU ops ag) {i j:Nat} {o:Oper} (ho:ops[i]? =some o) (hj:(ag.getD i 0).testBit j=true):j<i:=
 of_decide_eq_true (hm.closed (p:=λj=>decide (j<i)) (λk o' ho' hk e h1 h2=>decide_eq_true (by have:=hm.back k o' ho' e h1 h2;have:=of_decide_eq_true hk;omega)) i i o (DA _) ho
  (λe h1 h2=>decide_eq_true (hm.back i o ho e h1 h2)) j hj)
end
section
variable [Tok]
def vG (h H:Heap):Prop:=∀i B,look h i=some B->∃B',look H i=some B'/\B.dM B'
def zH (P:Program) (o:Oper) (n:Nat) (c:CR) (s:List (Nat× SV)) (h:Heap):Prop:=
 ∀(s':List (Nat× SV)) (H:Heap) (a:Act) (w:World) (pl:Pl),Ext s s'->vG h H->aF H pl w->bJ w H pl s' a->(∀k,k<c.news.length->look H (n+k)=none)->cW P o a w H pl n c
theorem lX {P:Program} {T:TypeId} {h H:Heap} (e:vG h H) {x:SV} {k:Int} {v:SV} (hv:au P T h x k=some v):au P T H x k=some v:=by
 have sz:∀{t t':Ty},t.sz=t'.sz->slT P T t=slT P T t':=λ{t t'} e=>by unfold slT;rw[e]
 cases x with
 |own i=>
  simp only[au]at hv⊢
  cases hl:look h i with
  |none=>rw[hl]at hv;exact nomatch hv
  |some B=>
   rw[hl]at hv;obtain⟨B',h1,h2⟩:=e i B hl
   cases B with
   |box cs=>exact nomatch hv
   |arr sh t xs=>
    cases B' with
    |box cs=>exact h2.elim
    |arr sh' t' ys=>
     rw[h1];simp only at hv⊢
     rwa [<-sz h2.1,<-h2.2]
 |sub i o n=>
  simp only[au]at hv⊢
  cases hl:look h i with
  |none=>rw[hl]at hv;exact nomatch hv
  |some B=>
   rw[hl]at hv;obtain⟨B',h1,h2⟩:=e i B hl
   cases B with
   |box cs=>exact nomatch hv
   |arr sh t xs=>
    cases B' with
    |box cs=>exact h2.elim
    |arr sh' t' ys=>
     rw[h1];simp only at hv⊢
     rwa [<-sz h2.1]
 |r d x=>cases x<;>exact hv
 |_=>exact hv
def dS (ag:List Nat) (i:Nat) (o:Oper) (rs:List DR) (t:Bool):Prop:=
 match o.guard with
 |none=>t=true
 |some (g,want)=>(ag.getD i 0).testBit g=true/\∃r d,rs[g]? =some r/\r.dst=some d/\((∃b,r.c.v=.r [] (.bool b)/\t=(b==want))\/(r.c.v=.tup []/\t=false))
def A0 (E:Env) (ops:List Oper) (ag dsts:List Nat) (s0:List (Nat× SV)) (h0:Heap) (rs:List DR) (i:Nat) (o:Oper) (r:DR):Prop:=
 r.dst=o.dst/\okW E o.op r.c=true/\∃x t,replay (Nat.testBit (ag.getD i 0)) 0 (rs.take i) (eA (xc ag i 0 ops) s0 (bj o.op.operands.toList),h0)=some x/\dS ag i o rs t/\
  ((t=true/\r=zp E ag i ops h0 x o r.n0 r.c/\(uS E h0 x o=false->o8 E.P o r.n0 r.c (eA [] x.1 (bj o.op.operands.toList)) (tp E ag i ops x o))/\(uS E h0 x o=true->zH E.P o r.n0 r.c (eA [] x.1 (bj o.op.operands.toList)) (jY h0 (oQ x o))))\/(t=false/\r.c={v:=.tup []}/\r.len=false))
theorem zI {E:Env} {ρ:Type} {o:Oper} {s:List (Nat× SV)} {h0:Heap} {n:Nat} {K:CR->Option ρ} {out:ρ} (hl:AL o.op=true) (h:nd E s h0 n o.op K=some out):∃c,K c=some out/\zH E.P o n c s h0:=by
 cases ho:o.op with
 |indexAddr T x k=>
  rw[ho]at h;have h:eW E.P s h0 (.indexAddr T x k) (λv=>K {v:=v})=some out:=h;rw[eX]at h;obtain⟨v,hv,h⟩:=An.1 h;refine⟨_,h,λs' H a w pl es eh hr hs hn=>?_⟩
  have hv':bX E.P s' H (.indexAddr T x k)=some v:=by
   simp only[bX,An]at hv⊢;obtain⟨x',hx,k',hk,n',hn',hv⟩:=hv;exact⟨x',aN es _ _ hx,k',aN es _ _ hk,n',hn',lX eh hv⟩
  obtain⟨u,hu,hvr⟩:=di hr hs hv' o ho
  exact eD hr hu hvr
 |_=>rw[ho]at hl;exact nomatch hl
structure pe (E:Env) (ops:List Oper) (ag dsts:List Nat) (s0:List (Nat× SV)) (h0:Heap) (nid0:Nat) (rs:List DR) (m nid:Nat):Prop where
 len:rs.length=m
 BV:∀(i:Nat) (o:Oper) (r:DR),ops[i]? =some o->rs[i]? =some r->A0 E ops ag dsts s0 h0 rs i o r
 lo:∀(i:Nat) (r:DR),rs[i]? =some r->nid0<=r.n0/\r.n0+r.c.news.length<=nid
 ord:∀(i j:Nat) (a b:DR),i<j->rs[i]? =some a->rs[j]? =some b->a.n0+a.c.news.length<=b.n0
theorem dS.more {ag:List Nat} {i:Nat} {o:Oper} {rs:List DR} {t:Bool} (h:dS ag i o rs t) (r:DR):dS ag i o (rs++[r]) t:=by
 unfold dS at*;split at h
 ·exact h
 ·obtain⟨h1,r',d,h2,h3,h4⟩:=h;exact⟨h1,r',d,by rw[Dm (Db.1 h2).1];exact h2,h3,h4⟩
section
variable {ρ:Type} {E:Env} {ops:List Oper} {ag dsts:List Nat} {s0:List (Nat× SV)} {h0:Heap} {nid0:Nat}
theorem pe.push {rs:List DR} {m nid:Nat} (F:pe E ops ag dsts s0 h0 nid0 rs m nid) (h0n:nid0<=nid) {o:Oper} {r:DR} (ho:ops[m]? =some o) (hr:A0 E ops ag dsts s0 h0 (rs++[r]) m o r) (hn:r.n0=nid):
  pe E ops ag dsts s0 h0 nid0 (rs++[r]) (m+1) (nid+r.c.news.length):=by
 have ke:∀(i:Nat) (b:DR),(rs++[r])[i]? =some b->(i<m/\rs[i]? =some b)\/(i=m/\b=r):=λi b hb=>by
  by_cases c:i<m
  ·rw[Dm (by rw[F.len];exact c)]at hb;exact .inl ⟨c,hb⟩
  ·rw[Dh (by rw[F.len];omega),F.len]at hb
   have hi:i-m<1:=by have:=(Db.1 hb).1;simpa using this
   have:i-m=0:=by omega
   rw[this]at hb;simp at hb;exact .inr ⟨by omega,hb.symm⟩
 refine⟨by simp[F.len],λi o' b ho' hb=>?_,λi b hb=>?_,λi j a b hij ha hb=>?_⟩
 ·rcases ke i b hb with⟨hi,h⟩|⟨rfl,rfl⟩
  ·obtain⟨g1,g2,x,t,g3,g4,g5⟩:=F.BV i o' b ho' h;exact⟨g1,g2,x,t,by rw[List.take_append_of_le_length (by rw[F.len];omega)];exact g3,g4.more r,g5⟩
  ·rw[ho]at ho';cases ho';exact hr
 ·rcases ke i b hb with⟨hi,h⟩|⟨rfl,rfl⟩
  ·have:=F.lo i b h;exact⟨this.1,by omega⟩
  ·exact⟨by omega,by omega⟩
 ·rcases ke j b hb with⟨hj,h⟩|⟨rfl,rfl⟩
  ·rcases ke i a ha with⟨hi,h'⟩|⟨rfl,rfl⟩
   ·exact F.ord i j a b hij h' h
   ·omega
  ·rcases ke i a ha with⟨hi,h'⟩|⟨rfl,rfl⟩
   ·have:=F.lo i a h';omega
   ·omega
theorem qV:∀{rs:List DR} {g:Nat} {r:DR} {v:SV},rs[g]? =some r->r.c.v=v->zo rs g v=rs
 |[],_,_,_,h,_=>by simp at h
 |x::l,0,r,v,h,hv=>by simp at h;subst h;subst hv;rfl
 |x::l,g+1,r,v,h,hv=>by simp only[zo];rw[qV (rs:=l) (by simpa using h) hv]
theorem fZ (hE:ek E) {out:ρ}:∀(rest:List Oper) (i nid:Nat) (rs:List DR) (K:List DR->Nat->Option ρ),fC E ops ag dsts s0 h0 i rest nid rs K=some out->
  pe E ops ag dsts s0 h0 nid0 rs i nid->nid0<=nid->ops.drop i=rest->∃rs' lR,K rs' lR=some out/\nid0<=lR/\pe E ops ag dsts s0 h0 nid0 rs' (i+rest.length) lR
 |[],i,nid,rs,K,h,F,hn,_=>⟨rs,nid,h,hn,F⟩
 |o::rest,i,nid,rs,K,h,F,hn,hd=>by
  have ho:ops[i]? =some o:=by rw[<-List.head?_drop,hd];rfl
  have hd':ops.drop (i+1)=rest:=by rw[<-List.drop_drop,hd];rfl
  have vH:∀r,(rs++[r]).take i=rs:=λr=>by rw[List.take_append_of_le_length (by rw[F.len];omega),<-F.len,List.take_length]
  simp only[fC,An]at h;obtain⟨x,hx,h⟩:=h
  have exec:∀t,(∀r,dS ag i o (rs++[r]) t)->t=true->(nd E (eA [] x.1 (bj o.op.operands.toList)) (uT E ag i ops h0 x o) nid o.op λc=>cond (okW E o.op c) (fC E ops ag dsts s0 h0 (i+1) rest (nid+c.news.length) (rs++[zp E ag i ops h0 x o nid c]) K) none)=some out->
    ∃rs' lR,K rs' lR=some out/\nid0<=lR/\pe E ops ag dsts s0 h0 nid0 rs' (i+(o::rest).length) lR:=λt hw ht h=>by
   obtain⟨c,hc,hg⟩:∃c,(cond (okW E o.op c) (fC E ops ag dsts s0 h0 (i+1) rest (nid+c.news.length) (rs++[zp E ag i ops h0 x o nid c]) K) none)=some out/\
     (uS E h0 x o=false->o8 E.P o nid c (eA [] x.1 (bj o.op.operands.toList)) (tp E ag i ops x o))/\(uS E h0 x o=true->zH E.P o nid c (eA [] x.1 (bj o.op.operands.toList)) (jY h0 (oQ x o))):=by
    unfold uT at h;cases hL:uS E h0 x o<;>simp only[hL,cond_true,cond_false]at h
    ·obtain⟨c,hc,hg⟩:=o9 hE h;exact⟨c,hc,λ_=>hg,(λe=>nomatch e)⟩
    ·have hL':=hL;unfold uS at hL';simp only[De]at hL';obtain⟨c,hc,hg⟩:=zI hL'.2.1 h;exact⟨c,hc,(λe=>nomatch e),λ_=>hg⟩
   cases hok:okW E o.op c<;>simp only[hok,cond_true,cond_false]at hc
   ·exact nomatch hc
   ·have F':=F.push hn (r:=zp E ag i ops h0 x o nid c) ho ⟨rfl,hok,x,t,by rw[vH];exact hx,hw _,.inl ⟨ht,rfl,hg.1,hg.2⟩⟩ rfl;have:=fZ hE rest (i+1) _ _ K hc F' (by omega) hd';rwa [show i+1+rest.length=i+(o::rest).length from by simp;omega]at this
  have skip:∀t,(∀r,dS ag i o (rs++[r]) t)->t=false->fC E ops ag dsts s0 h0 (i+1) rest nid (rs++[⟨o.dst,nid,{v:=.tup []},[],[],false⟩]) K=some out->
    ∃rs' lR,K rs' lR=some out/\nid0<=lR/\pe E ops ag dsts s0 h0 nid0 rs' (i+(o::rest).length) lR:=λt hw ht h=>by
   have F':=F.push hn (r:=⟨o.dst,nid,{v:=.tup []},[],[],false⟩) ho ⟨rfl,by simp only[okW,isNil,CR.kil,List.nil_append];cases dO E o.op<;>rfl,x,t,by rw[vH];exact hx,hw _,.inr ⟨ht,rfl,rfl⟩⟩ rfl;have:=fZ hE rest (i+1) _ _ K h F' (by simpa using hn) hd';rwa [show i+1+rest.length=i+(o::rest).length from by simp;omega]at this
  split at h
  ·rename_i hg;exact exec true (λr=>by unfold dS;rw[hg]) rfl h
  ·rename_i g want hg;cases hb:(ag.getD i 0).testBit g<;>simp only[hb,cond_true,cond_false]at h
   ·exact nomatch h
   ·simp only[An]at h;obtain⟨r,hr,d,zG,h⟩:=h;split at h
    ·rename_i hv
     exact skip false (λr'=>dS.more (by
      unfold dS;rw[hg];exact⟨hb,r,d,hr,zG,.inr ⟨hv,rfl⟩⟩) r') rfl h
    ·rename_i b hv
     have hw:∀r',dS ag i o (rs++[r']) (b==want):=λr'=>dS.more (by
      unfold dS;rw[hg];exact⟨hb,r,d,hr,zG,.inl ⟨b,hv,rfl⟩⟩) r'
     cases b<;>simp only[cond_true,cond_false]at h
     ·rw[qV hr hv]at h;cases want<;>simp only[cond_true,cond_false]at h
      ·exact exec _ hw rfl h
      ·exact skip _ hw rfl h
     ·rw[qV hr hv]at h;cases want<;>simp only[cond_true,cond_false]at h
      ·exact skip _ hw rfl h
      ·exact exec _ hw rfl h
    ·exact nomatch h
end
theorem k9 {cm:DR->Bool} {ag:List Nat} {i:Nat} {r:DR}:∀{l:List DR} {k:Nat},kG cm ag i r k l=true->∀(j:Nat) (b:DR),l[j]? =some b->(ag.getD (k+j) 0).testBit i=true\/gL cm r b=true
 |[],_,_,j,b,hb=>by simp at hb
 |x::l,k,h,j,b,hb=>by
  simp only[kG]at h
  have hl:kG cm ag i r (k+1) l=true/\((ag.getD k 0).testBit i=true\/gL cm r x=true):=by
   cases h1:(ag.getD k 0).testBit i<;>simp only[h1,cond_true,cond_false]at h
   ·cases h2:gL cm r x<;>simp only[h2,cond_true,cond_false]at h
    ·exact nomatch h
    ·exact⟨h,.inr rfl⟩
   ·exact⟨h,.inl rfl⟩
  cases j with
  |zero=>simp at hb;subst hb;exact hl.2
  |succ j=>have:=k9 hl.1 j b (by simpa using hb);rwa [show k+1+j=k+(j+1)from by omega]at this
theorem ig {cm:DR->Bool} {ag:List Nat}:∀{l:List DR} {k:Nat},l9 cm ag k l=true->∀(i j:Nat) (a b:DR),i<j->l[i]? =some a->l[j]? =some b->(ag.getD (k+j) 0).testBit (k+i)=true\/gL cm a b=true
 |[],_,_,i,j,a,b,_,ha,_=>by simp at ha
 |x::l,k,h,i,j,a,b,hij,ha,hb=>by
  simp only[l9]at h;cases h1:kG cm ag k x (k+1) l<;>simp only[h1,cond_true,cond_false]at h
  ·exact nomatch h
  ·obtain⟨j,rfl⟩:∃j',j=j'+1:=⟨j-1,by omega⟩
   cases i with
   |zero=>
    simp at ha;subst ha;have:=k9 h1 j b (by simpa using hb)
    rwa [show k+1+j=k+(j+1)from by omega]at this
   |succ i=>
    have:=ig h i j a b (by omega) (by simpa using ha) (by simpa using hb);rwa [show k+1+j=k+(j+1)from by omega,show k+1+i=k+(i+1)from by omega]at this
theorem CQ {i:Nat} {l:List Nat}:mem i l=true↔i∈l:=by
 induction l with
 |nil=>simp[mem]
 |cons k l ih=>
  simp only[mem,Dt];cases h:Nat.beq k i
  ·have:¬i=k:=λe=>by subst e;simp at h
   simp[ih,this]
  ·have:=Dc h;simp[this]
theorem mA {n:Nat}:∀{l:List Nat},tn n l=true->∀i∈l,i+1<=n
 |[],_,i,hi=>by simp at hi
 |x::l,h,i,hi=>by
  simp only[tn]at h;cases hm:Nat.ble (x+1) n<;>simp only[hm,cond_true,cond_false]at h
  ·exact nomatch h
  ·rcases Dt.1 hi with rfl|hi
   ·exact Dl hm
   ·exact mA h i hi
theorem gE:∀{ops:List Oper} {j:Nat} {o:Oper} {t:Nat},ops[j]? =some o->o.dst=some t->t∈cF ops
 |[],j,o,t,h,_=>by simp at h
 |x::l,0,o,t,h,hd=>by simp at h;subst h;simp[cF,hd]
 |x::l,j+1,o,t,h,hd=>by
  have:=gE (ops:=l) (by simpa using h) hd;simp only[cF];split<;>simp[this]
theorem mB:∀{ops:List Oper},(cF ops).Nodup->∀{i j:Nat} {a b:Oper} {t:Nat},i≠j->ops[i]? =some a->ops[j]? =some b->a.dst=some t->b.dst≠some t
 |[],_,i,j,a,b,t,_,h,_,_=>by simp at h
 |x::l,hn,i,j,a,b,t,hij,ha,hb,h1=>by
  have hl:(cF l).Nodup:=by
   simp only[cF]at hn;split at hn
   ·exact(Ea.1 hn).2
   ·exact hn
  have hx:∀t,x.dst=some t->t∉cF l:=λt ht=>by
   simp only[cF,ht]at hn;exact(Ea.1 hn).1
  intro h2
  cases i with
  |zero=>
   simp at ha;subst ha
   cases j with
   |zero=>exact hij rfl
   |succ j=>exact hx t h1 (gE (by simpa using hb) h2)
  |succ i=>
   cases j with
   |zero=>simp at hb;subst hb;exact hx t h2 (gE (by simpa using ha) h1)
   |succ j=>exact mB (i:=i) (j:=j) hl (by omega) (by simpa using ha) (by simpa using hb) h1 h2
theorem nN {ag:List Nat} {i:Nat}:∀{ops:List Oper} {k j:Nat} {o:Oper} {t:Nat},ops[j]? =some o->o.dst=some t->(ag.getD (k+j) 0).testBit i=false->t∈xc ag i k ops
 |[],k,j,o,t,h,_,_=>by simp at h
 |x::l,k,0,o,t,h,hd,hb=>by simp at h;subst h;simp only[DB]at hb;simp only[xc,hb,cond_false,hd];exact DF ..
 |x::l,k,j+1,o,t,h,hd,hb=>by
  have:=nN (ops:=l) (k:=k+1) (by simpa using h) hd (by rw[show k+1+j=k+(j+1)from by omega];exact hb);simp only[xc];cases(ag.getD k 0).testBit i<;>simp only[cond_true,cond_false]
  ·split<;>simp[this]
  ·exact this
theorem tR {T:List Nat} {s:List (Nat× SV)} {l:List Nat} {t:Nat} {v:SV} (h:look (eA T s l) t=some v):v∈nh s l:=by
 induction l with
 |nil=>exact nomatch h
 |cons k l ih=>
  simp only[eA]at h;simp only[nh];cases hm:mem k T<;>simp only[hm,cond_true,cond_false]at h
  ·cases hl:look s k with
   |none=>rw[hl]at h;exact ih h
   |some u=>
    rw[hl]at h;simp only[look_cons]at h;by_cases c:k=t
    ·rw[if_pos c]at h;cases h;exact DF
    ·rw[if_neg c]at h;exact DJ _ (ih h)
  ·cases hl:look s k with
   |none=>exact ih h
   |some u=>exact DJ _ (ih h)
theorem mC {k:Nat} {B:Blk}:∀{l:List DR},uR k B l=true->∀r∈l,look r.c.upd k=none/\mem k r.c.kil.1=false/\B.uA r.c.kil=true
 |[],_,_,h=>nomatch h
 |r::l,h,r',hr=>by
  simp only[uR]at h;cases hc:((look r.c.upd k).isNone&&(!mem k r.c.kil.1&&B.uA r.c.kil))<;>rw[hc]at h<;>simp only[cond_true,cond_false]at h
  ·exact nomatch h
  ·rw[De,De,Option.isNone_iff_eq_none,Bool.not_eq_true']at hc
   rcases Dt.1 hr with rfl|hr
   ·exact hc
   ·exact mC h r' hr
theorem pf {h:Heap} {rs:List DR} {k:Nat}:∀{L:List Nat},Bt h rs L=true->mem k L=true->∃B,look h k=some B/\∀r∈rs,look r.c.upd k=none/\mem k r.c.kil.1=false/\B.uA r.c.kil=true
 |[],_,hm=>nomatch hm
 |i::l,hc,hm=>by
  simp only[Bt]at hc;split at hc
  ·rename_i B hB;cases h1:uR i B rs<;>rw[h1]at hc<;>simp only[cond_true,cond_false]at hc
   ·exact nomatch hc
   ·simp only[mem]at hm;cases hb:Nat.beq i k<;>rw[hb]at hm<;>simp only[cond_true,cond_false]at hm
    ·exact pf hc hm
    ·have:=Dc hb;subst this;exact⟨B,hB,mC h1⟩
  ·exact nomatch hc
theorem j1:∀{L T:List Nat},kH L T=true->∀k,mem k L=true->mem k T=false
 |[],_,_,k,hk=>nomatch hk
 |i::l,T,h,k,hk=>by
  simp only[kH]at h;cases hm:mem i T<;>rw[hm]at h
  ·simp only[mem]at hk;cases hb:Nat.beq i k<;>rw[hb]at hk
   ·exact j1 h k hk
   ·rw[<-Dc hb];exact hm
  ·exact nomatch h
theorem j3 {L:List Nat}:∀{rs:List DR},ni L rs=true->∀k,mem k L=true->∀r∈rs,mem k r.c.kil.1=false
 |[],_,_,_,_,hr=>nomatch hr
 |r::l,h,k,hk,r',hr=>by
  simp only[ni]at h;cases hn:kH L r.c.kil.1<;>rw[hn]at h
  ·exact nomatch h
  ·rcases Dt.1 hr with rfl|hr
   ·exact j1 hn k hk
   ·exact j3 h k hk r' hr
theorem la {cm:DR->Bool}:∀{rs:List DR},ma cm rs=true->∀r∈rs,r.len=true->bH cm r=true
 |[],_,_,hr,_=>nomatch hr
 |r::l,h,r',hr,hl=>by
  simp only[ma]at h;cases hn:(!r.len||bH cm r)<;>rw[hn]at h
  ·exact nomatch h
  ·rcases Dt.1 hr with rfl|hr
   ·rw[hl]at hn;exact hn
   ·exact la h r' hr hl
theorem xv {T:Kil} {B:Blk} (h:B.uA T=true):B.ai T=some B:=by
 cases B with
 |box cs=>simp only[Blk.ai,cO cs h]
 |arr sh t xs=>
  cases sh with
  |none=>rfl
  |some d=>simp only[Blk.ai,not_false h,cond_false]
theorem dT {p:Nat->Bool} {k:Nat} {B:Blk}:∀(l:List DR) (j:Nat) (x X:SH),(∀r∈l,look r.c.upd k=none/\mem k r.c.kil.1=false/\B.uA r.c.kil=true)->look x.2 k=some B->replay p j l x=some X->look X.2 k=some B
 |[],_,x,X,_,hx,h=>by cases h;exact hx
 |r::l,j,x,X,hl,hx,h=>by
  simp only[replay]at h;have hl':=λr' hr=>hl r' (DJ _ hr);cases hp:p j<;>rw[hp]at h<;>simp only[cond_true,cond_false]at h
  ·exact dT l (j+1) x X hl' hx h
  ·rw[An]at h;obtain⟨y,hy,h⟩:=h;obtain⟨h1,hm,h2⟩:=hl r DF;refine dT l (j+1) y X hl' ?_ h;rw[kn hy,hm,cond_false,fW _ _ h1,hx,Dn,xv h2];rfl
theorem dw {T:List Nat} {s:List (Nat× SV)} {l:List Nat} {t:Nat} {v:SV} (h:look (eA T s l) t=some v):t∉T/\look s t=some v:=by
 induction l with
 |nil=>exact nomatch h
 |cons k l ih=>
  simp only[eA]at h;cases hm:mem k T<;>simp only[hm,cond_true,cond_false]at h
  ·cases hl:look s k with
   |none=>rw[hl]at h;exact ih h
   |some u=>
    rw[hl]at h;rw[look_cons]at h;by_cases e:k=t
    ·subst e;rw[if_pos rfl]at h;cases h;exact⟨λh=>by rw[CQ.2 h]at hm;exact(nomatch hm),hl⟩
    ·rw[if_neg e]at h;exact ih h
  ·exact ih h
theorem ld {E:Env} {ag:List Nat} {i:Nat}:∀{l:List Oper} {k:Nat},jX E ag i k l=false->∀(j:Nat) (o:Oper),l[j]? =some o->dO E o.op=true->AH ag i (k+j)=true
 |[],_,_,j,o,h,_=>by simp at h
 |x::l,k,h,j,o,ho,hw=>by
  simp only[jX]at h
  have hl:jX E ag i (k+1) l=false/\(dO E x.op=true->AH ag i k=true):=by
   cases h1:dO E x.op<;>simp only[h1,cond_true,cond_false]at h
   ·exact⟨h,λh=>nomatch h⟩
   ·cases h2:AH ag i k<;>simp only[h2,cond_true,cond_false]at h
    ·exact nomatch h
    ·exact⟨h,λ_=>rfl⟩
  cases j with
  |zero=>simp at ho;subst ho;exact hl.2 hw
  |succ j=>have:=ld hl.1 j o (by simpa using ho) hw;rwa [show k+1+j=k+(j+1)from by omega]at this
end
end Go.Proofs.Ev
