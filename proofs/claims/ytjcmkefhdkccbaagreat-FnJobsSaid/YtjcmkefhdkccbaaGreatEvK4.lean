/- The evaluator over the model's code, and that it is sound: part 4. -/
import Derived.Test.YtjcmkefhdkccbaaGreatEvK3
import Derived.Lib.SliceRun
import Derived.Laws.Cover3
import Derived.Orders
set_option linter.unusedVariables false
set_option linter.unusedSimpArgs false
set_option linter.unusedVariables false
namespace Go.Proofs.Ev
variable [Tok]
set_option linter.unusedSectionVars false
section
variable {w:World} {H:aD} {pl:Pl} {P:Program}
theorem k7 {t:Ty} {ys:List t.El} {zs:List t.El} {q n i j:Nat} {r:R} (hn:q+n≤ys.length) (hz:zs.length=n) (h:ax t (ys.take q++zs++ys.drop (q+n)) i j r):
    (q≤i∧i<q+n∧ax t zs (i-q) j r)∨(¬(q≤i∧i<q+n)∧ax t ys i j r):=by
  obtain⟨x,hx,hr⟩:=h
  have hl:(ys.take q).length=q:=by rw[List.length_take];omega
  by_cases c:q≤i∧i<q+n
  · rw[List.append_assoc,List.getElem?_append_right (by omega),hl,List.getElem?_append_left (by omega)]at hx
    exact .inl ⟨c.1,c.2,x,hx,hr⟩
  · refine .inr ⟨c,x,?_,hr⟩
    by_cases c1:i<q
    · rw[List.append_assoc,List.getElem?_append_left (by omega),List.getElem?_take,if_pos c1]at hx
      exact hx
    · rw[List.getElem?_append_right (by simp[hz];omega),List.getElem?_drop]at hx
      rw[←hx];congr 1;simp[hz];omega
theorem Bh {t:Ty} {d:List Nat} {ys:List t.El} {i q num:Nat} {H':aD} {zs:List t.El} {us:List Value} {b m n cap:Nat}
    (hr:bH H pl w) (hl:look H i=some (.arr (some d) t ys)) (hzl:zs.length=num) (hh:pl.hdr i=.slice (some ⟨b,m,none⟩) n cap) (hq:q+num≤ys.length) (hus:us.length=num*t.sz) (hone:∀u∈us,one u=true)
    (hin:∀x j r,ax t zs x j r→∃u,us[x*t.sz+j]? =some u∧fg w (okd H pl d) r u) (hpos0:0<ys.length)
    (hit':hit [i] d=false) (ht:iM H H' ([],[i]) i (.arr (some d) t (ys.take q++zs++ys.drop (q+num)))):
    ∃w',(storeCells ⟨b,m+q*t.sz,none⟩ us).run P w=.ok () w'∧∃fp',bG H H' ([],[i]) pl (pl.set i (pl.hdr i) fp') w w':=by
  obtain⟨⟨a,cap',b',o,vs,fs,hhd,eK,ha,gU,hc,hrr,hd1,hd2,hfp⟩⟩:=(hr.blk i _ hl).Et
  rw[hh]at hhd
  cases hhd
  have hsp:=t.eI
  have hab:b=b'∧m=o:=by
    rcases ha with h|h
    · omega
    · cases h;exact⟨rfl,rfl⟩
  obtain⟨rfl,rfl⟩:=hab
  have hpos:q*t.sz+us.length≤cap*t.sz:=by
    have:(q+num)*t.sz≤cap*t.sz:=Nat.mul_le_mul_right _ (by omega)
    rw[Nat.add_mul]at this;omega
  have hcell:∀j,j<us.length→∃u,w.at? (b,m+q*t.sz+j)=some u∧calm (w.cD (b,m+q*t.sz+j))=true:=fun j hj=>by
    obtain⟨⟨u,q1⟩,q2⟩:=gU (q*t.sz+j) (by omega)
    rw[show m+q*t.sz+j=m+(q*t.sz+j)from by omega]
    exact⟨u,q1,kX q2⟩
  have hst:=run_storeCells_cells (P:=P) b (m+q*t.sz) us 0 w (fun j hj=>by
      obtain⟨u,q1,_⟩:=hcell j hj
      simp only[Nat.add_zero]
      have q1:w.cell? ⟨b,m+q*t.sz+j,none⟩=some u:=q1
      rw[q1];rfl) (fun j hj=>by
      obtain⟨u,q1,q2⟩:=hcell j hj
      simp only[Nat.add_zero];exact gD q1 q2) (fun u hu=>jr (hone u hu))
  simp only[Nat.add_zero]at hst
  have hcellin:∀j,j<us.length→(w.setCells b (m+q*t.sz) us).at? (b,m+q*t.sz+j)=us[j]? :=fun j hj=>by
    have:=World.cell?_setCells_in b us (m+q*t.sz) w (fun j hj=>by
      obtain⟨u,q1,_⟩:=hcell j hj
      have q1:w.cell? ⟨b,m+q*t.sz+j,none⟩=some u:=q1
      rw[q1];rfl) j hj
    rw[List.getElem?_eq_getElem hj]
    simpa[World.at?]using this
  have hcellout:∀p u,w.at? p=some u→¬(p.1=b∧m+q*t.sz≤p.2∧p.2<m+q*t.sz+us.length)→(w.setCells b (m+q*t.sz) us).at? p=some u:=fun p u hp hno=>by
    unfold World.at? at*
    rw[World.cell?_setCells_out b _ _ w _ (fun e1 _=>by simp at e1;simp;omega)]
    exact hp
  have hice:∀p,(w.setCells b (m+q*t.sz) us).cD p=w.cD p:=fun p=>dq _ _ _ _ _
  have hregin:∀p,reg b m (cap*t.sz) p→pl.fp i p:=fun p hp=>(hfp p).2 (.inl hp)
  have hfsin:∀i' j r p,ax t ys i' j r→fs i' j p→pl.fp i p:=fun i' j r p hx hf=>(hfp p).2 (.inr ⟨i',j,r,hx,hf⟩)
  have hmi:mem i [i]=true:=by simp[mem]
  have hylen:(ys.take q++zs++ys.drop (q+num)).length=ys.length:=by simp[hzl];omega
  refine⟨_,hst,fun p=>reg b m (cap*t.sz) p∨∃i' j r,ax t ys i' j r∧¬(q≤i'∧i'<q+num)∧fs i' j p,?_⟩
  refine fI (b9.setCells _ _ _ _) hr ht (fun x hx=>nomatch hx) (fun x hx=>?_) (.inr ⟨_,hl,hmi,by simp only[Blk.gQ];exact⟨trivial,hylen.symm⟩,rfl⟩) (fun p u hp hno=>⟨hcellout p u hp fun hin=>?_,hice p⟩) (fun p hp=>?_) (fun p hp=>?_) fun hkp=>?_
  · refine .inr ?_
    simp only[mem]at hx
    cases hb:Nat.beq i x
    · rw[hb]at hx;exact nomatch hx
    · exact(Nat.eq_of_beq_eq_true hb).symm
  · exact hno i _ hmi hl (hregin p ⟨hin.1,by omega,by omega⟩)
  · refine hr.nb p ?_
    cases hq':w.at? p with
    |none=>rfl
    | some u =>
      by_cases hin:p.1=b∧m+q*t.sz≤p.2∧p.2<m+q*t.sz+us.length
      · obtain⟨p1,p2⟩:=p
        obtain⟨e1,e2,e3⟩:=hin
        simp only at e1 e2 e3
        subst e1
        have:=hcellin (p2-(m+q*t.sz)) (by omega)
        rw[show m+q*t.sz+(p2-(m+q*t.sz))=p2 from by omega,hp,List.getElem?_eq_getElem (by omega)]at this
        exact nomatch this
      · rw[hcellout p u hq' hin]at hp;exact nomatch hp
  · rcases hp with hp|⟨i',j,r,hx,_,hf⟩
    · exact .inr ⟨i,_,hmi,hl,hregin p hp⟩
    · exact .inr ⟨i,_,hmi,hl,hfsin i' j r p hx hf⟩
  · have oZ:∀{i' j},j<t.sz→¬(q≤i'∧i'<q+num)→¬(m+q*t.sz≤m+(i'*t.sz+j)∧m+(i'*t.sz+j)<m+q*t.sz+us.length):=fun{i' j} hj hne ⟨g1,g2⟩=>by
      rcases Nat.lt_or_ge i' q with h|h
      · have:(i'+1)*t.sz≤q*t.sz:=Nat.mul_le_mul_right _ h
        rw[Nat.succ_mul]at this;omega
      · have h2:q+num≤i':=by omega
        have:(q+num)*t.sz≤i'*t.sz:=Nat.mul_le_mul_right _ h2
        rw[Nat.add_mul]at this;omega
    refine cC.ir ⟨some ⟨b,m,none⟩,cap,b,m,fun i' j=>if q≤i'∧i'<q+num then(us[(i'-q)*t.sz+j]?).getD undef else vs i' j,fun i' j p=>¬(q≤i'∧i'<q+num)∧fs i' j p,by rw[hylen];simp[Pl.set,hh],by rw[hylen];exact eK,.inr rfl,fun j hj=>⟨?_,by rw[hice];exact(gU j hj).2⟩,fun i' j r hx=>?_,fun i' j r hx=>?_,fun i' j r p hx hf=>?_,fun i' j r i2 j2 r2 p hx hx' hf hf'=>?_,fun p=>?_⟩
    · by_cases hin:q*t.sz≤j∧j<q*t.sz+us.length
      · have:=hcellin (j-q*t.sz) (by omega)
        rw[show m+q*t.sz+(j-q*t.sz)=m+j from by omega]at this
        exact⟨_,this.trans (List.getElem?_eq_getElem (by omega))⟩
      · obtain⟨u,hu⟩:=(gU j hj).1
        exact⟨u,hcellout _ u hu fun h=>hin ⟨by have:=h.2.1;simp at this;omega,by have:=h.2.2;simp at this;omega⟩⟩
    · rcases k7 hq hzl hx with⟨g1,g2,g3⟩|⟨g1,g2⟩
      · rw[if_pos ⟨g1,g2⟩]
        obtain⟨u,hu,_⟩:=hin _ _ _ g3
        have hlt:=(List.getElem?_eq_some_iff.1 hu).1
        have:=hcellin _ hlt
        have e:m+q*t.sz+((i'-q)*t.sz+j)=m+(i'*t.sz+j):=by
          have:i'*t.sz=q*t.sz+(i'-q)*t.sz:=by rw[←Nat.add_mul];congr 1;omega
          omega
        rw[e]at this
        rw[this,hu];rfl
      · rw[if_neg g1]
        exact hcellout _ _ (hc _ _ _ g2) fun h=>oZ (aJ g2).2 g1 ⟨h.2.1,h.2.2⟩
    · rcases k7 hq hzl hx with⟨g1,g2,g3⟩|⟨g1,g2⟩
      · rw[if_pos ⟨g1,g2⟩]
        obtain⟨u,hu,hI⟩:=hin _ _ _ g3
        rw[hu,Option.getD_some]
        have hno:∀p,¬(¬(q≤i'∧i'<q+num)∧fs i' j p):=fun p hf=>hf.1 ⟨g1,g2⟩
        rw[hh]
        exact⟨hI.frame fun p u hp hu=>(hh▸hkp).k2 d p u (fun x hx=>cT _ d hit' x hx) hp hu,hno⟩
      · simp only[if_neg g1]
        have hI:=hrr _ _ _ g2
        rw[hh]
        exact⟨hI.1.frame fun p u hp hu=>(hh▸hkp).k2 d p u (fun x hx=>cT _ d hit' x hx) hp hu,fun p hf=>hI.2 p hf.2⟩
    · rcases k7 hq hzl hx with⟨g1,g2,g3⟩|⟨g1,g2⟩
      · exact(hf.1 ⟨g1,g2⟩).elim
      · exact hd1 _ _ _ p g2 hf.2
    · rcases k7 hq hzl hx with⟨g1,g2,g3⟩|⟨g1,g2⟩
      · exact(hf.1 ⟨g1,g2⟩).elim
      · rcases k7 hq hzl hx' with⟨q1,q2,q3⟩|⟨q1,q2⟩
        · exact(hf'.1 ⟨q1,q2⟩).elim
        · exact hd2 _ _ _ _ _ _ p g2 q2 hf.2 hf'.2
    · simp only[Pl.set,if_true]
      constructor
      · rintro (h|⟨i',j,r,hx,hne,hf⟩)
        · exact .inl h
        · have hlt:=aJ hx
          obtain⟨r',hr'⟩:=cg (t:=t) (xs:=ys.take q++zs++ys.drop (q+num)) (i:=i') (j:=j) (by rw[hylen];exact hlt.1) hlt.2
          exact .inr ⟨i',j,r',hr',hne,hf⟩
      · rintro (h|⟨i',j,r,hx,hf⟩)
        · exact .inl h
        · rcases k7 hq hzl hx with⟨g1,g2,g3⟩|⟨g1,g2⟩
          · exact(hf.1 ⟨g1,g2⟩).elim
          · exact .inr ⟨_,_,_,g2,hf⟩
theorem Bi {i:Nat}:∀{d:List Nat},mem i d=false→hit [i] d=false
  |[],_=>rfl
  | k :: l, h => by
    simp only[mem]at h
    cases hb:Nat.beq k i
    · rw[hb,cond_false]at h
      have:mem k [i]=false:=by
        simp only[mem]
        cases hc:Nat.beq i k
        · rfl
        · have:=Nat.eq_of_beq_eq_true hc;subst this;simp at hb
      simp only[hit,this,cond_false]
      exact Bi h
    · rw[hb]at h;exact nomatch h
theorem C3 {o:Oper} {a:Act} {s:List (Nat× SV)} {n:Nat} {args:Array Operand} {tys:Array TypeId} {T e:TypeId} {sz:Nat} {t:Ty} {z:List SV} {d:List Nat} {xs:List t.El} {i q off num:Nat}
    (hr:bH H pl w) (hs:dI w H pl s a) (ho:o.op=.call {callee:=.builtin .append,args:=args,argTypes:=tys}) (hvs:lL s args.toList=some [.sub i 0 q,.sub i off num]) (hty:tys.toList=[T,T])
    (he:gO P T=some e) (hsz:eY P e=some sz) (hts:t.sz=sz) (hz:dG P e=some z) (hl:look H i=some (.arr (some d) t xs)) (hd:mem i d=false) (hq:q+num≤xs.length) (hoff:off+num≤xs.length) (hpos:1≤xs.length):
    fV P o a w H pl n {v:=.sub i 0 (q+num),upd:=[(i,.arr (some d) t (xs.take q++(xs.drop off).take num++xs.drop (q+num)))],gP:=[i]}:=by
  refine⟨fun j B h=>?_,fun H' next Q ha hN=>?_⟩
  · rw[aq]at h
    by_cases e:i=j
    · subst e;exact⟨_,hl⟩
    · rw[if_neg e]at h;simp[look]at h
  obtain⟨ht,_⟩:=my (c:={v:=.sub i 0 (q+num),upd:=[(i,.arr (some d) t (xs.take q++(xs.drop off).take num++xs.drop (q+num)))],gP:=[i]}) hl rfl rfl rfl ha
  obtain⟨p,p',hpq,hp,hp'⟩:=kY hvs
  have hpr:=aL hs hp
  have hpr':=aL hs hp'
  have hargs:args.map a.eval=#[a.eval p,a.eval p']:=by rw[show args=#[p,p']from Array.ext' hpq];simp
  have hta:tys=#[T,T]:=Array.ext' hty
  obtain⟨ti,hti,rfl⟩:=gu hsz
  obtain⟨zu,hzu,hzc⟩:=fj hr hti hz
  obtain⟨R⟩:=hr.blk i _ hl
  have eK:=R.eK
  have hA:R.a=some ⟨R.b,R.o,none⟩:=R.ha.resolve_left (by omega)
  have hhd:pl.hdr i=.slice (some ⟨R.b,R.o,none⟩) xs.length R.cap:=by rw[←hA];exact R.uf
  have e1:a.eval p=.slice (some ⟨R.b,R.o,none⟩) q R.cap:=by
    generalize a.eval p=u at hpr
    cases hpr with
    | sub _ _ _ sh2 t2 xs2 a1 a2 cap1 cap2 hl2 hh2 hn1 hc hc' ha2 =>
      rw[hl]at hl2;cases hl2
      rw[hhd]at hh2
      cases hh2
      have hcc:cap2=R.cap:=by omega
      subst hcc
      rcases ha2 with h|h
      · omega
      · rw[h];simp[Addr.add]
  obtain⟨A3,cap3,e2,hc3,hA3⟩:∃A3 cap3,a.eval p'=.slice A3 num cap3∧num≤cap3∧(num=0∨A3=some ⟨R.b,R.o+off*t.sz,none⟩):=by
    generalize a.eval p'=u at hpr'
    cases hpr' with
    | sub _ _ _ sh2 t2 xs2 a1 a2 cap1 cap2 hl2 hh2 hn1 hc hc' ha2 =>
      rw[hl]at hl2;cases hl2
      rw[hhd]at hh2
      cases hh2
      refine⟨a2,cap2,rfl,hc,?_⟩
      rcases ha2 with h|h
      · exact .inl (by omega)
      · exact .inr (by rw[h];simp[mu])
  have hsp:=t.eI
  have hback:∀k,k<num*t.sz→∃r,ax t xs (off+k/t.sz) (k %t.sz) r:=fun k hk=>by
    have:k/t.sz<num:=by rw[Nat.div_lt_iff_lt_mul hsp];exact hk
    exact cg (by omega) (Nat.mod_lt _ hsp)
  have hus:((List.range (num*t.sz)).map fun k=>R.vs (off+k/t.sz) (k %t.sz)).length=num*t.sz:=by simp
  generalize husd:(List.range (num*t.sz)).map (fun k=>R.vs (off+k/t.sz) (k %t.sz))=us at hus
  have hget:∀k,k<num*t.sz→us[k]? =some (R.vs (off+k/t.sz) (k %t.sz)):=fun k hk=>by rw[←husd,eO hk]
  have hcell:∀k,k<num*t.sz→w.at? (R.b,R.o+(off*t.sz+k))=some (R.vs (off+k/t.sz) (k %t.sz)):=fun k hk=>by
    obtain⟨r,hx⟩:=hback k hk
    have:=R.hc _ _ _ hx
    rw[Nat.add_mul,Nat.add_assoc,show k/t.sz*t.sz+k %t.sz=k from by rw[Nat.mul_comm];exact Nat.div_add_mod _ _]at this
    exact this
  obtain⟨w',hst,fp',hstep⟩:=Bh (P:=P) (zs:=(xs.drop off).take num) (us:=us) hr hl (by rw[List.length_take,List.length_drop];omega) hhd hq hus (fun u hu=>by
      obtain⟨k,hk⟩:=List.getElem?_of_mem hu
      have hkl:k<num*t.sz:=by rw[←hus];exact(List.getElem?_eq_some_iff.1 hk).1
      rw[hget k hkl]at hk
      cases hk
      obtain⟨r,hx⟩:=hback k hkl
      exact(R.hr _ _ _ hx).1.lN) (fun x j r hx=>by
      obtain⟨y,hy,hyr⟩:=hx
      have hxl:x<num:=by have:=(List.getElem?_eq_some_iff.1 hy).1;rw[List.length_take]at this;omega
      have hjl:j<t.sz:=by have:=(List.getElem?_eq_some_iff.1 hyr).1;rwa [Ty.bz]at this
      rw[List.getElem?_take,if_pos hxl,List.getElem?_drop]at hy
      have hx':ax t xs (off+x) j r:=⟨y,hy,hyr⟩
      refine⟨R.vs (off+x) j,?_,(R.hr _ _ _ hx').1⟩
      have hlt:x*t.sz+j<num*t.sz:=kg hxl hjl (Nat.le_refl _)
      rw[hget _ hlt]
      have g1:(x*t.sz+j)/t.sz=x:=by rw[Nat.mul_comm,Nat.mul_add_div hsp,Nat.div_eq_of_lt hjl];simp
      have g2:(x*t.sz+j) %t.sz=j:=by rw[Nat.mul_comm,Nat.mul_add_mod,Nat.mod_eq_of_lt hjl]
      rw[g1,g2]) hpos (Bi hd) ht
  have hfc:(Builtin.firstCells ti.size num (.slice A3 num cap3)).run P w=.ok us.toArray w:=by
    rw[←hts]
    rcases hA3 with h0|hA3
    · subst h0
      have hn':us=[]:=List.length_eq_zero_iff.1 (by simpa using hus)
      subst hn'
      cases A3 with
      |none=>exact run_firstCells_none w _ _ _ _
      |some A=>exact run_firstCells_some w t.sz 0 A 0 cap3 [] (by simp) (fun j v hv=>by simp at hv)
    · subst hA3
      refine run_firstCells_some w t.sz num _ num cap3 us hus fun j v hv=>?_
      have hj:j<num*t.sz:=by rw[←hus];exact(List.getElem?_eq_some_iff.1 hv).1
      rw[hget j hj]at hv;cases hv
      have:=hcell j hj
      rw[Addr.add_lit,Nat.add_assoc];exact this
  have hrun:(Builtin.append_ #[T,T] o.type #[.slice (some ⟨R.b,R.o,none⟩) q R.cap,.slice A3 num cap3]).run P w=.ok (.slice (some ⟨R.b,R.o,none⟩) (q+num) R.cap) w':=by
    have hroom:q+num≤R.cap:=by omega
    rw[hts]at hst
    simp[Builtin.append_,run_underlying (gq he),sizeOf,typeInfo,hti,Builtin.lenOf,hroom,hfc,Addr.add_lit,hst]
  refine iq (u:=.slice (some ⟨R.b,R.o,none⟩) (q+num) R.cap) (w':=w') ?_ (hN _ _ w' hstep ?_)
  · rw[execOp,ho,hta]
    simp only[resolve,hargs,invoke,builtin,Sem.run_bind,Sem.run_pure,Result.andThen_ok,e1,e2,hrun]
  · refine .sub i 0 (q+num) (some d) t _ (some ⟨R.b,R.o,none⟩) _ R.cap R.cap ht.FJ (by simp[Pl.set,hhd,List.length_append];omega) (by simp;omega) (by omega) (by omega) (.inr (by simp[Addr.add]))
end
end Go.Proofs.Ev
set_option linter.unusedVariables false
set_option linter.unusedSimpArgs false
namespace Go.Proofs.Ev
variable [Tok]
set_option linter.unusedSectionVars false
section
variable {w:World} {H:aD} {pl:Pl} {P:Program}
def mark (w:World) (b n:Nat):World:=w.freeze ⟨b,n,none⟩ 1
def Bj (n:Nat) (fr:Nat× Nat):Nat× Nat:=if fr.1==fr.2 then(n,n+1)else(min fr.1 n,max fr.2 (n+1))
theorem nK {b n:Nat} {c:Array Value} {e:TypeId} {fr:Nat× Nat} (h:w.heap[b]? =some (.cells c e fr)):(mark w b n).heap[b]? =some (.cells c e (Bj n fr)):=by
  unfold mark World.freeze Bj
  rw[if_neg (by decide)]
  simp only[Array.getElem?_modify,if_true,h]
  rfl
theorem nL {b n i:Nat} (h:i≠b):(mark w b n).heap[i]? =w.heap[i]? :=by
  unfold mark World.freeze
  rw[if_neg (by decide)]
  simp only[Array.getElem?_modify]
  rw[if_neg (fun e:b=i=>h e.symm)]
theorem Bl {b n:Nat} {c:Array Value} {e:TypeId} {fr:Nat× Nat} (h:w.heap[b]? =some (.cells c e fr)) (p:Cell):(mark w b n).at? p=w.at? p:=by
  unfold World.at? World.cell?
  by_cases q:p.1=b
  · simp only[q,h,nK h]
  · simp only[nL q]
theorem iu {b n:Nat} {p:Cell} (h:p.1≠b):(mark w b n).cD p=w.cD p:=by
  unfold World.cD;rw[nL h]
theorem xQ {b n j o m:Nat} {c:Array Value} {e:TypeId} {fr:Nat× Nat} (h:w.heap[b]? =some (.cells c e fr)) (hn:n=c.size) (hw:whole (w.cD (b,j)) o m=true):whole ((mark w b n).cD (b,j)) o m=true:=by
  unfold World.cD at*
  simp only[h]at hw
  simp only[nK h]
  unfold whole calm at*
  simp only[Bool.and_eq_true,decide_eq_true_eq]at*
  refine⟨?_,hw.2⟩
  unfold Bj
  obtain⟨lo,hi⟩:=fr
  simp only at hw⊢
  by_cases q:lo=hi
  · subst q;simp;omega
  · have:(lo==hi)=false:=by simpa using q
    rw[this]
    simp only[Bool.false_eq_true,if_false]
    omega
theorem sU {b j:Nat} {u:Value} (h:w.at? (b,j)=some u):∃c e fr,w.heap[b]? =some (.cells c e fr)∧j<c.size:=by
  unfold World.at? World.cell? at h
  cases hb:w.heap[b]? with
  |none=>simp[hb]at h
  | some ob =>
    cases ob with
    | cells c e fr =>
      simp only[hb,Option.isSome_none,Bool.false_eq_true,if_false]at h
      exact⟨c,e,fr,rfl,(Array.getElem?_eq_some_iff.1 h).1⟩
    |_=>simp[hb]at h
theorem Bm {i b n cap:Nat} {sh:Option (List Nat)} {t:Ty} {xs:List t.El} {a:Option Addr} {o:Nat} {c:Array Value} {e:TypeId} {fr:Nat× Nat} (hr:bH H pl w) (hl:look H i=some (.arr sh t xs))
    (hb:w.heap[b]? =some (.cells c e fr)) (hc0:0<c.size) (hn:n=c.size) (hin:∀j,j<c.size→pl.fp i (b,j)) (hsz:c.size=cap*t.sz) (hrow:cC (mark w b n) H pl i (.arr sh t xs)):
    bG H H ([],[]) pl pl w (mark w b n):=by
  have hat:=fun p=>Bl (n:=n) hb p
  have hmine:∀p u,w.at? p=some u→p.1=b→pl.fp i p:=fun p u hp q=>by
    obtain⟨p1,p2⟩:=p
    simp only at q
    subst q
    obtain⟨c',e',fr',h1,h2⟩:=sU hp
    rw[hb]at h1;cases h1
    exact hin p2 h2
  have hk:gF ([],[]) w H pl (mark w b n) H pl:=⟨fun j B hB _=>⟨B,hB,B.bR,rfl⟩,fun d p u _ ho hp=>⟨ho,(hat p).trans hp⟩⟩
  refine⟨⟨fun j B hB=>?_,hr.dis,hr.ob,fun p hp=>hr.nb p ((hat p).symm.trans hp)⟩,hk,rfl,⟨rfl,rfl,fun k hk'=>?_⟩,fun p u hp hno=>⟨hno,(hat p).trans hp,iu fun q=>hno i _ hl (hmine p u hp q)⟩⟩
  · by_cases q:j=i
    · subst q
      rw[hl]at hB;cases hB
      exact hrow
    · refine(hr.blk j B hB).cP hk rfl (fun _=>Iff.rfl) (fun p u hf hu=>⟨(hat p).trans hu,iu fun q'=>q (hr.dis j i B _ p hB hl hf (hmine p u hu q'))⟩) B.bS
  · by_cases q:k=b
    · subst q
      rw[hb,nK hb]
      exact⟨rfl,.inr hc0,rfl⟩
    · rw[nL q]
      split
      · rename_i e1 e2
        rw[e1]at e2;cases e2
        exact⟨rfl,.inl rfl,rfl⟩
      · rfl
theorem C4 {o:Oper} {a:Act} {T:TypeId} {x:Operand} {m i:Nat} {sh:Option (List Nat)} {t:Ty} {y:t.El} {ys:List t.El} (hr:bH H pl w) (ho:o.op=.convert T T x) (hT:oB P T=true)
    (hl:look H i=some (.arr sh t (y::ys))) (hx:aj w H pl (.own i) (a.eval x)):fV P o a w H pl m {v:=.own i}:=by
  have ha:a.eval x=pl.hdr i:=by generalize a.eval x=u at hx;cases hx;rfl
  unfold oB gO at hT
  split at hT
  · rename_i e he
    split at he
    · rename_i e' hu
      cases he
      split at hT
      · rename_i he8
        have hrow:=hr.blk i _ hl
        obtain⟨ad,cap,b,o',hh,hlen,hadr,gU⟩:∃ad cap b o',pl.hdr i=.slice ad (y::ys).length cap∧(y::ys).length≤cap∧(cap=0∨ad=some ⟨b,o',none⟩)∧
            (∀j,j<cap*t.sz→(∃v,w.at? (b,o'+j)=some v)∧whole (w.cD (b,o'+j)) o' (cap*t.sz)=true∧pl.fp i (b,o'+j)):=by
          cases sh with
          |none=>obtain⟨⟨ad,cap,b,o',vs,fs,q1,q2,q3,q4,q5,q6,q7,q8,q9⟩⟩:=hrow;exact⟨ad,cap,b,o',q1,q2,q3,fun j hj=>⟨(q4 j hj).1,(q4 j hj).2,(q9 _).2 (.inl ⟨rfl,by simp,by simp;omega⟩)⟩⟩
          |some d=>obtain⟨⟨ad,cap,b,o',vs,fs,q1,q2,q3,q4,q5,q6,q7,q8,q9⟩⟩:=hrow;exact⟨ad,cap,b,o',q1,q2,q3,fun j hj=>⟨(q4 j hj).1,(q4 j hj).2,(q9 _).2 (.inl ⟨rfl,by simp,by simp;omega⟩)⟩⟩
        have eK:0<cap:=by simp at hlen;omega
        have hpos:0<cap*t.sz:=Nat.mul_pos eK (Ty.eI t)
        obtain⟨⟨v0,hv0⟩,hw0,_⟩:=gU 0 hpos
        obtain⟨c,ee,fr,hb,hc0⟩:=sU hv0
        have ho0:o'=0∧c.size=cap*t.sz:=by
          unfold whole World.cD at hw0
          simp only[hb,Bool.and_eq_true,decide_eq_true_eq]at hw0
          exact hw0.2
        obtain⟨rfl,hsz⟩:=ho0
        have hadr:=hadr.resolve_left (by omega)
        subst hadr
        have hin:∀j,j<c.size→pl.fp i (b,j):=fun j hj=>by
          have:=(gU j (by omega)).2.2
          rwa [Nat.zero_add]at this
        have hshape:w.shape? b=some (ee,c.size):=by unfold World.shape?;rw[hb]
        have hrun:(execOp a.eval o).run P w=.ok (.value (a.eval x)) (mark w b c.size):=by
          rw[execOp,ho,ha,hh]
          simp[ha,hh,convert,run_underlying hu,run_underlying he8,markStringish,hshape,mark]
        have hat:=fun p=>Bl (n:=c.size) hb p
        have hk:gF ([],[]) w H pl (mark w b c.size) H pl:=⟨fun j B hB _=>⟨B,hB,B.bR,rfl⟩,fun d p u _ ho hp=>⟨ho,(hat p).trans hp⟩⟩
        have hnb:∀p,reg b 0 (cap*t.sz) p∨p.1≠b∨w.at? p=none:=fun p=>by
          by_cases q:p.1=b
          · cases hp:w.at? p with
            |none=>exact .inr (.inr rfl)
            | some u =>
              obtain⟨p1,p2⟩:=p
              simp only at q
              subst q
              obtain⟨c',e',fr',h1,h2⟩:=sU hp
              rw[hb]at h1;cases h1
              exact .inl ⟨rfl,Nat.zero_le _,by simp only;omega⟩
          · exact .inr (.inl q)
        have hblk:cC (mark w b c.size) H pl i (.arr sh t (y::ys)):=by
          cases sh with
          | none =>
            obtain⟨⟨ad,cap',b',o',vs,fs,q1,q2,q3,q4,q5,q6,q7,q8,q9⟩⟩:=hrow
            rw[hh]at q1;cases q1
            have q3:=q3.resolve_left (by omega)
            cases q3
            refine⟨⟨_,cap,b,0,vs,fs,hh,q2,.inr rfl,fun j hj=>⟨?_,xQ hb rfl (q4 j hj).2⟩,fun i' j r h=>(hat _).trans (q5 i' j r h),fun i' j r h=>(q6 i' j r h).frame fun p u hp hu=>⟨(hat p).trans hu,iu fun q=>?_⟩,q7,q8,q9⟩⟩
            · obtain⟨⟨v,hv⟩,_⟩:=q4 j hj
              exact⟨v,(hat _).trans hv⟩
            · rcases hnb p with h1|h1|h1
              · exact q7 _ _ _ p h hp h1
              · exact h1 q
              · rw[hu]at h1;exact nomatch h1
          | some d =>
            obtain⟨⟨ad,cap',b',o',vs,fs,q1,q2,q3,q4,q5,q6,q7,q8,q9⟩⟩:=hrow
            rw[hh]at q1;cases q1
            have q3:=q3.resolve_left (by omega)
            cases q3
            refine⟨⟨_,cap,b,0,vs,fs,hh,q2,.inr rfl,fun j hj=>⟨?_,xQ hb rfl (q4 j hj).2⟩,fun i' j r h=>(hat _).trans (q5 i' j r h),fun i' j r h=>⟨(q6 i' j r h).1.frame fun p u hp hu=>⟨hp,(hat p).trans hu⟩,(q6 i' j r h).2⟩,q7,q8,q9⟩⟩
            obtain⟨⟨v,hv⟩,_⟩:=q4 j hj
            exact⟨v,(hat _).trans hv⟩
        refine⟨fun j B h=>by simp[look]at h,fun H' next Q ha' hN=>?_⟩
        cases ha'
        have hH:lD [] H++aI m []=H:=by simp[lD,aI]
        simp only[hH]at hN
        have hst:=Bm (n:=c.size) hr hl hb hc0 rfl hin hsz hblk (a:=some ⟨b,0,none⟩) (o:=0)
        exact iq hrun (hN _ pl _ hst (hx.oY hk))
      · exact nomatch hT
    · exact nomatch he
  · exact nomatch hT
end
end Go.Proofs.Ev
namespace Go.Proofs.Ev
variable [Tok]
set_option linter.unusedSectionVars false
def xR (P:Program) (g:FuncId):Prop:=∀(args:Array Value) (w:World),(callFunc g args).run P w=.ok (.enter g args) w
theorem uu {P:Program} {g:FuncId} {fn:Func} (h:P.funcs[g]? =some fn) (hb:fn.body.isNone=false) (hn:(fn.name== "runtime.NumGoroutine")=false):xR P g:=by
  intro args w
  have hn':¬fn.name= "runtime.NumGoroutine":=by simpa using hn
  have hb':¬fn.body=none:=fun e=>by rw[e]at hb;exact nomatch hb
  simp[callFunc,h,hb',hn']
def Bn (P:Program) (g:FuncId) (nid:Nat) (vs:List SV) (H:aD) (c:CR):Prop:=
  xR P g∧(∀i B,look c.upd i=some B→∃B',look H i=some B')∧
  ∀ (H1 : aD) (pl : Pl) (w : World) (us : Array Value), Ext H H1 → bH H1 pl w → (∀ k, k < c.news.length → look H1 (nid + k) = none) → vs.length = us.size →
    (∀(j:Nat) (x:SV) (u:Value),vs[j]? =some x→us[j]? =some u→aj w H1 pl x u)→∀H',after H1 nid c=some H'→
    Calls P g us w fun e w'=>∃u pl',e=.returned u∧bG H1 H' c.kil pl pl' w w'∧aj w' H' pl' c.v u
def nM (P:Program) (g:FuncId) (o:Orc):Prop:=
  ∀(ρ:Type) nid vs H (K:CR→Option ρ) (out:ρ),o ρ nid vs H K=some out→∃c,K c=some out∧Bn P g nid vs H c
theorem C5 (P:Program) (g:FuncId):nM P g Ft:=fun _ _ _ _ _ _ h=>nomatch h
def bY (E:Env):Prop:=∀g,nM E.P g (E.orc g)
section
variable {w:World} {H:aD} {pl:Pl} {P:Program}
theorem C6 {o:Oper} {a:Act} {s:List (Nat× SV)} {f:Operand} {args:Array Operand} {tys:Array TypeId} {g:FuncId} {first vs cap:List SV} {n:Nat} {c:CR} {H0:aD}
    (he:Ext H0 H) (hr:bH H pl w) (hs:dI w H pl s a) (hn:∀k,k<c.news.length→look H (n+k)=none) (ho:o.op=.call {callee:=.value f,args:=args,argTypes:=tys})
    (hf:opd s f=some (.fn (.func g) first cap)) (hv:lL s args.toList=some vs) (hc:Bn P g n (first++vs++cap) H0 c):fV P o a w H pl n c:=by
  obtain⟨hen,hup,hcall⟩:=hc
  refine⟨fun i B hB=>(hup i B hB).imp fun B' h=>he i B' h,fun H' next Q ha hN=>?_⟩
  have hfr:=aL hs hf
  obtain⟨g1,g2⟩:=sJ hs hv
  generalize hfe:a.eval f=fe at hfr
  cases hfr with
  | fn _ _ _ us vs' hl h1 hl' h2 =>
    have hlen:(first++vs++cap).length=(us++args.map a.eval++vs').size:=by simp only[List.length_append,Array.size_append,hl,hl',g1]
    have hpt:∀(j:Nat) (x:SV) (u:Value),(first++vs++cap)[j]? =some x→(us++args.map a.eval++vs')[j]? =some u→aj w H pl x u:=fun j x u hx hu=>by
      by_cases c1:j<first.length
      · rw[List.append_assoc,List.getElem?_append_left c1]at hx
        rw[Array.append_assoc,Array.getElem?_append_left (by omega)]at hu
        exact h1 j x u hx hu
      · by_cases c2:j<first.length+vs.length
        · rw[List.append_assoc,List.getElem?_append_right (by omega),List.getElem?_append_left (by omega)]at hx
          rw[Array.append_assoc,Array.getElem?_append_right (by omega),Array.getElem?_append_left (by omega)]at hu
          rw[←hl]at hu
          exact g2 _ x u hx hu
        · rw[List.append_assoc,List.getElem?_append_right (by omega),List.getElem?_append_right (by omega)]at hx
          rw[Array.append_assoc,Array.getElem?_append_right (by omega),Array.getElem?_append_right (by omega)]at hu
          rw[←hl,←g1]at hu
          exact h2 _ x u hx hu
    have hcl:=hcall H pl w _ he hr hn hlen hpt H' ha
    unfold Oper.wp
    have hrun:(execOp a.eval o).run P w=.ok (.enter g (us++args.map a.eval++vs')) w:=by
      rw[execOp,ho]
      simp only[resolve,hfe,Deferred.ofValue,invoke,Sem.run_bind,Sem.run_pure,Result.andThen_ok]
      exact hen _ w
    rw[hrun]
    show Calls P g _ w _
    refine hcl.mono fun e w' ⟨u,pl',he,hst,hv⟩=>?_
    subst he
    exact hN u pl' w' hst hv
variable {ρ:Type}
def uv (P:Program) (o:Oper) (n:Nat) (c:CR) (s:List (Nat× SV)) (h:aD):Prop:=
  ∀(s':List (Nat× SV)) (H:aD) (a:Act) (w:World) (pl:Pl),Ext s s'→Ext h H→bH H pl w→dI w H pl s' a→(∀k,k<c.news.length→look H (n+k)=none)→fV P o a w H pl n c
theorem sV {H:aD} {n:Nat} {B:Blk} (h:∀k,k<[B].length→look H (n+k)=none):look H n=none:=h 0 (by simp)
theorem Ey (hr:bH H pl w) {o:Oper} {a:Act} {T:TypeId} {p:Operand} {n i x k:Nat} {t:Ty} {xs:List t.El} (ho:o.op=.load T p) (hT:xy P T=true)
    (hl:look H i=some (.arr none t xs)) (hk:k<t.sz) (hp:aj w H pl (.ptr i x k) (a.eval p)):fV P o a w H pl n {v:=.inn i x k}:=by
  generalize he:a.eval p=u at hp
  cases hp with
  |nB _ _ cs b m hl' hh=>rw[hl]at hl';exact nomatch hl'
  | mi _ _ _ sh t' xs' b m nn cap hl' hx hh =>
    rw[hl]at hl';cases hl'
    obtain⟨⟨a',cap',b',o',vs,fs,h1,h2,h3,h4,h5,h6,h7,h8,h9⟩⟩:=hr.blk i _ hl
    rw[hh]at h1;cases h1
    have h3:=h3.resolve_left (by omega)
    cases h3
    obtain⟨r,hcell⟩:=cg hx hk
    have hat:=h5 x k r hcell
    have hone:one (vs x k)=true:=((h6 _ _ _ hcell).CD (ok:=fun _=>True) (fun _ _=>trivial)).lN
    have hfp:pl.fp i (b,m+(x*t.sz+k)):=(h9 _).2 (.inl ⟨rfl,by simp,by have:=kg hx hk h2;simp;omega⟩)
    obtain⟨el,_,hu,_⟩:=sF hT
    refine iL (u:=vs x k) hr ?_ (.inn i x k none t xs b m _ _ _ hl hx hk hh ⟨hr.ob i _ _ hl hfp,fun j B hB hm hf=>?_⟩ hat hone)
    · rw[execOp,ho]
      refine cj ?_
      rw[Instr.loadAt,he]
      have hat:w.cell? ⟨b,m+(x*t.sz+k),none⟩=some (vs x k):=hat
      have h1:(loadVar T ⟨b,m+(x*t.sz+k),none⟩).run P w=.ok (vs x k) w:=by simp[loadVar,gp hu,pE,hu,hat]
      exact h1
    · have:=hr.dis j i _ _ _ hB hl hf hfp
      subst this
      rw[hl]at hB;cases hB
      have:=hm (by simp[mem])
      exact nomatch this
theorem wD {E:Env} {o:Oper} {s:List (Nat× SV)} {h0:aD} {n:Nat} {K:CR→Option ρ} {out:ρ} {args:Array Operand} {tys:Array TypeId} {b x:SV} {T T' e:TypeId} {sz:Nat} {t:Ty}
    (ho:o.op=.call {callee:=.builtin .append,args:=args,argTypes:=tys}) (hvs:lL s args.toList=some [b,x]) (hty:tys.toList=[T,T']) (he:gO E.P T=some e) (hsz:eY E.P e=some sz)
    (h:vZ E h0 n e sz t T' b x K=some out):∃c,K c=some out∧uv E.P o n c s h0:=by
  unfold vZ at h
  split at h
  · cases hb:(Fy E.P T'&&(kd E.P e&&Nat.beq t.sz sz))<;>simp only[hb,cond_true,cond_false,Option.bind_eq_some_iff]at h
    · exact nomatch h
    simp only[Bool.and_eq_true]at hb
    obtain⟨l,hl,z,hz,q,hq,h⟩:=h
    cases hi:(isNil q.1&&Nat.beq z.length sz)<;>simp only[hi,cond_true,cond_false]at h
    · exact nomatch h
    simp only[Bool.and_eq_true]at hi
    split at h
    · rename_i y hy
      cases hd:decide (1≤l∧l≤(b7:Int))<;>simp only[hd,cond_true,cond_false]at h
      · exact nomatch h
      have hd:=of_decide_eq_true hd
      have hq':e9 h0 t 1 z=some ([],[y]):=by rw[hq];obtain⟨q1,q2⟩:=q;simp only at hy hi;rw[hy,ch hi.1]
      exact⟨_,h,fun s' H a w pl es eh hr hs hn=>qO hr hs (sV hn) ho (ff es _ _ hvs) hty hl hb.1 he hsz hb.2.1 (Nat.eq_of_beq_eq_true hb.2.2) hz (Nat.eq_of_beq_eq_true hi.2) (gC eh _ _ _ _ hq') hd⟩
    · exact nomatch h
  · exact nomatch h
theorem wE {P:Program} {o:Oper} {s:List (Nat× SV)} {h0:aD} {n:Nat} {K:CR→Option ρ} {out:ρ} {args:Array Operand} {tys:Array TypeId} {b x:SV} {T e:TypeId} {sz:Nat} {t:Ty} {z:List SV}
    (ho:o.op=.call {callee:=.builtin .append,args:=args,argTypes:=tys}) (hvs:lL s args.toList=some [b,x]) (hty:tys.toList=[T,T]) (he:gO P T=some e) (hsz:eY P e=some sz) (hts:t.sz=sz) (hz:dG P e=some z)
    (h:v7 h0 t b x K=some out):∃c,K c=some out∧uv P o n c s h0:=by
  unfold v7 at h
  split at h
  · rename_i i a i' off num
    cases hi:Nat.beq i i'<;>simp only[hi,cond_true,cond_false]at h
    · exact nomatch h
    have:=Nat.eq_of_beq_eq_true hi
    subst this
    split at h
    · rename_i d t' xs hl
      split at h
      · rename_i htt
        subst htt
        cases hm:mem i d<;>simp only[hm,cond_true,cond_false]at h
        rotate_left
        · exact nomatch h
        cases hb:(Nat.ble (a+num) xs.length&&(Nat.ble (off+num) xs.length&&Nat.ble 1 xs.length))<;>simp only[hb,cond_true,cond_false]at h
        · exact nomatch h
        simp only[Bool.and_eq_true]at hb
        exact⟨_,h,fun s' H a w pl es eh hr hs hn=>C3 hr hs ho (ff es _ _ hvs) hty he hsz hts hz (eh _ _ hl) hm (Nat.le_of_ble_eq_true hb.1) (Nat.le_of_ble_eq_true hb.2.1) (Nat.le_of_ble_eq_true hb.2.2)⟩
      · exact nomatch h
    · exact nomatch h
  · exact nomatch h
theorem uw {E:Env} (hE:bY E) {o:Oper} {s:List (Nat× SV)} {h0:aD} {n:Nat} {K:CR→Option ρ} {out:ρ}
    (h:sw E s h0 n o.op K=some out):∃c,K c=some out∧uv E.P o n c s h0:=by
  unfold sw at h
  split at h
  · rename_i T ho
    simp only[Option.bind_eq_some_iff]at h
    obtain⟨z,hz,h⟩:=h
    exact⟨_,h,fun s' H a w pl es eh hr hs hn=>A7 hr (sV hn) ho hz⟩
  · rename_i T x ho
    simp only[Option.bind_eq_some_iff]at h
    obtain⟨v,hv,cs,hcs,h⟩:=h
    exact⟨_,h,fun s' H a w pl es eh hr hs hn=>Er hr (sV hn) ho (aL hs (bM es _ _ hv)) hcs⟩
  · rename_i T k parts ho
    simp only[Option.bind_eq_some_iff]at h
    obtain⟨e,he,sz,hsz,ps,hps,z,hz,h⟩:=h
    cases hb:(Nat.ble (k*sz) 16777216&&Nat.beq z.length sz)<;>simp only[hb,cond_true,cond_false,Option.bind_eq_some_iff]at h
    · exact nomatch h
    obtain⟨cs,hcs,h⟩:=h
    simp only[Bool.and_eq_true]at hb
    have h1:=Nat.le_of_ble_eq_true hb.1
    have h2:=Nat.eq_of_beq_eq_true hb.2
    have bx:K {v:=.bsl n k,news:=[.box cs]}=some out→∃c,K c=some out∧uv E.P o n c s h0:=fun h=>
      ⟨_,h,fun s' H a w pl es eh hr hs hn=>qQ hr hs (sV hn) ho he hsz (ke es _ _ hps) hz h2 h1 hcs⟩
    split at h
    · exact bx h
    · rename_i t ht
      cases hc:((kb t||Nat.beq k 0)&&Nat.beq t.sz sz)<;>simp only[hc,cond_true,cond_false,Option.bind_eq_some_iff]at h
      · unfold Gv at h
        cases hd:(E.lit&&Nat.beq t.sz sz)<;>simp only[hd,cond_true,cond_false]at h
        · exact bx h
        simp only[Bool.and_eq_true]at hd
        split at h
        · rename_i xs hx
          exact⟨_,h,fun s' H a w pl es eh hr hs hn=>lE hr hs (sV hn) ho he hsz (ke es _ _ hps) hz h2 h1 hcs (Nat.eq_of_beq_eq_true hd.2) (gC eh _ _ _ _ hx)⟩
        · exact bx h
      simp only[Bool.and_eq_true]at hc
      obtain⟨⟨ids,xs⟩,hx,h⟩:=h
      cases hi:isNil ids<;>simp only[hi,cond_true,cond_false]at h
      · exact nomatch h
      have:=ch hi
      subst this
      exact⟨_,h,fun s' H a w pl es eh hr hs hn=>lE hr hs (sV hn) ho he hsz (ke es _ _ hps) hz h2 h1 hcs (Nat.eq_of_beq_eq_true hc.2) (gC eh _ _ _ _ hx)⟩
  · rename_i T l c ho
    simp only[Option.bind_eq_some_iff]at h
    obtain⟨e,he,sz,hsz,t,ht,z,hz,lv,hl,cv,hc,li,hli,ci,hci,h⟩:=h
    cases hb:(kd E.P e&&Nat.beq t.sz sz)<;>simp only[hb,cond_true,cond_false,Option.bind_eq_some_iff]at h
    · exact nomatch h
    simp only[Bool.and_eq_true]at hb
    obtain⟨⟨ids,xs⟩,hx,h⟩:=h
    cases hi:(isNil ids&&Nat.beq z.length sz)<;>simp only[hi,cond_true,cond_false]at h
    · exact nomatch h
    simp only[Bool.and_eq_true]at hi
    have hids:=ch hi.1
    subst hids
    split at h
    · rename_i y
      by_cases hd:0≤li∧li≤ci∧ci≤(b7:Int)
      · simp only[hd,and_self,decide_true,cond_true]at h
        exact⟨_,h,fun s' H a w pl es eh hr hs hn=>sQ hr hs (sV hn) ho (bM es _ _ hl) (bM es _ _ hc) hli hci he hsz hb.1 (Nat.eq_of_beq_eq_true hb.2) hz (Nat.eq_of_beq_eq_true hi.2) (gC eh _ _ _ _ hx) hd⟩
      · simp only[hd,decide_false,cond_false]at h;exact nomatch h
    · exact nomatch h
  · rename_i args tys ho
    simp only[Option.bind_eq_some_iff]at h
    obtain⟨vs,hvs,h⟩:=h
    split at h
    · rename_i b x T T' hty
      simp only[Option.bind_eq_some_iff]at h
      obtain⟨e,he,sz,hsz,t,ht,h⟩:=h
      cases hb:(kd E.P e&&(Nat.beq t.sz sz&&Nat.beq T T'))<;>simp only[hb,cond_true,cond_false,Option.bind_eq_some_iff]at h
      · exact wD ho hvs hty he hsz h
      simp only[Bool.and_eq_true]at hb
      have hTT:T=T':=Nat.eq_of_beq_eq_true hb.2.2
      subst hTT
      have hts:=Nat.eq_of_beq_eq_true hb.2.1
      obtain⟨z,hz,h⟩:=h
      cases hzl:Nat.beq z.length sz<;>simp only[hzl,cond_true,cond_false,Option.bind_eq_some_iff]at h
      · exact nomatch h
      have hzl:=Nat.eq_of_beq_eq_true hzl
      obtain⟨⟨sh1,ids,ys⟩,hy,h⟩:=h
      split at h
      · cases hh:hit ids (sh1.getD [])<;>simp only[hh,cond_true,cond_false]at h
        · cases hn':Nat.ble ys.length b7<;>simp only[hn',cond_true,cond_false]at h
          · exact nomatch h
          exact⟨_,h,fun s' H a w pl es eh hr hs hn=>ru (xs:=[]) hr hs (sV hn) ho (ff es _ _ hvs) hty he hsz hb.1 hts hz hzl (ri eh _ _ _ hy) (.inl ⟨rfl,rfl,rfl,rfl⟩) hh (by simpa using Nat.le_of_ble_eq_true hn')⟩
        · exact nomatch h
      · rename_i i
        split at h
        · rename_i sh t' xs hl
          split at h
          · rename_i htt
            subst htt
            simp only[Option.bind_eq_some_iff]at h
            obtain⟨sh',hj,h⟩:=h
            cases hm:mem i ids<;>simp only[hm,cond_true,cond_false]at h
            rotate_left
            · exact nomatch h
            cases hh:hit (i::ids) (sh'.getD [])<;>simp only[hh,cond_true,cond_false]at h
            rotate_left
            · exact nomatch h
            cases hn':Nat.ble (xs.length+ys.length) b7<;>simp only[hn',cond_true,cond_false]at h
            · exact nomatch h
            exact⟨_,h,fun s' H a w pl es eh hr hs hn=>ru hr hs (sV hn) ho (ff es _ _ hvs) hty he hsz hb.1 hts hz hzl (ri eh _ _ _ hy) (.inr ⟨i,sh,rfl,eh _ _ hl,rfl,hm,hj⟩) hh (Nat.le_of_ble_eq_true hn')⟩
          · exact nomatch h
        · exact nomatch h
      · exact wE ho hvs hty he hsz hts hz h
    · exact nomatch h
  · rename_i args tys ho
    simp only[Option.bind_eq_some_iff]at h
    obtain⟨vs,hvs,h⟩:=h
    split at h
    · rename_i v T hty
      simp only[Option.bind_eq_some_iff]at h
      obtain⟨e,he,z,hz,⟨i,q,num⟩,hv,h⟩:=h
      split at h
      · rename_i sh t xs hl
        cases hzl:Nat.beq z.length t.sz<;>simp only[hzl,cond_true,cond_false,Option.bind_eq_some_iff]at h
        · exact nomatch h
        obtain⟨⟨ids,ys⟩,hy,h⟩:=h
        cases hi:isNil ids<;>simp only[hi,cond_true,cond_false]at h
        · exact nomatch h
        have hids:=ch hi
        subst hids
        split at h
        · rename_i y
          exact⟨_,h,fun s' H a w pl es eh hr hs hn=>Bg hr hs ho (ff es _ _ hvs) hty he hz (Nat.eq_of_beq_eq_true hzl) (C0 eh hv) (eh _ _ hl) (gC eh _ _ _ _ hy)⟩
        · exact nomatch h
      · exact nomatch h
    · exact nomatch h
  · rename_i T p x ho
    simp only[Option.bind_eq_some_iff]at h
    obtain⟨p',hp,x',hx,h⟩:=h
    have arr:∀{i k off:Nat} {sh:Option (List Nat)} {t:Ty} {ys:List t.El},p'=.ptr i k off→look h0 i=some (.arr sh t ys)→o9 E.P T h0 i sh t ys k off x' K=some out→∃c,K c=some out∧uv E.P o n c s h0:=fun e hl h3=>by
      clear h
      subst e
      obtain⟨c,h1,h2⟩:=uq (n:=n) ho h3
      exact⟨c,h1,fun s' H a w pl es eh hr hs hn=>h2 H a w pl eh (eh _ _ hl) hr (aL hs (bM es _ _ hp)) (aL hs (bM es _ _ hx))⟩
    split at h
    · rename_i i k off
      split at h
      · rename_i cs hl
        cases hk0:Nat.beq k 0<;>simp only[hk0,cond_true,cond_false,Option.bind_eq_some_iff]at h
        · exact nomatch h
        have hk0:=Nat.eq_of_beq_eq_true hk0
        subst hk0
        obtain⟨xs,hxs,sz,hsz,h⟩:=h
        cases hb:Nat.beq sz xs.length<;>simp only[hb,cond_true,cond_false,Option.bind_eq_some_iff]at h
        · exact nomatch h
        · obtain⟨cs',hcs,h⟩:=h
          exact⟨_,h,fun s' H a w pl es eh hr hs hn=>A8 hr ho (eh _ _ hl) (aL hs (bM es _ _ hp)) (aL hs (bM es _ _ hx)) hxs hsz (Nat.eq_of_beq_eq_true hb) hcs⟩
      · rename_i sh t ys hl
        exact arr rfl hl h
      · exact nomatch h
    · exact nomatch h
  · rename_i f args tys ho
    simp only[Option.bind_eq_some_iff]at h
    obtain⟨f',hf,vs,hvs,h⟩:=h
    split at h
    · rename_i g first cap
      obtain⟨c,hc,hcs⟩:=hE g _ _ _ _ _ _ h
      exact⟨c,hc,fun s' H a w pl es eh hr hs hn=>C6 eh hr hs hn ho (bM es _ _ hf) (ff es _ _ hvs) hcs⟩
    · exact nomatch h
  · rename_i T x ho
    split at h
    · rename_i v hv
      unfold Fw at hv
      cases hi:E.inn<;>simp only[hi,cond_true,cond_false]at hv
      · exact nomatch hv
      cases hT:xy E.P T<;>simp only[hT,cond_true,cond_false]at hv
      · exact nomatch hv
      split at hv
      · rename_i i y k hx
        split at hv
        · rename_i t xs hl
          cases hk:Nat.ble (k+1) t.sz<;>simp only[hk,cond_true,cond_false,Option.some.injEq]at hv
          · exact nomatch hv
          subst hv
          exact⟨_,h,fun s' H a w pl es eh hr hs hn=>Ey hr ho hT (eh _ _ hl) (Nat.le_of_ble_eq_true hk) (aL hs (bM es _ _ hx))⟩
        · exact nomatch hv
      · exact nomatch hv
    · have dflt:jl E.P s h0 (.load T x) (fun v=>K {v:=v})=some out→∃c,K c=some out∧uv E.P o n c s h0:=fun h=>by
        rw[jm]at h
        simp only[Option.bind_eq_some_iff]at h
        obtain⟨v,hv,h⟩:=h
        exact⟨_,h,fun s' H a w pl es eh hr hs hn=>by
          obtain⟨u,hu,hvr⟩:=fZ hr hs (nA es eh _ _ hv) o ho
          exact iL hr hu hvr⟩
      unfold Fz at h
      cases ht:E.tak<;>simp only[ht,cond_true,cond_false]at h
      · exact dflt h
      split at h
      · rename_i i y hx
        split at h
        · rename_i st xs hl
          cases hf:kb (.st st)<;>simp only[hf,cond_true,cond_false]at h
          · simp only[Option.bind_eq_some_iff]at h
            obtain⟨e,he,v,hv,h⟩:=h
            exact⟨_,h,fun s' H a w pl es eh hr hs hn=>CZ hr ho (eh _ _ hl) he hv (aL hs (bM es _ _ hx)) hn⟩
          · exact dflt h
        · exact dflt h
      · exact dflt h
  · rename_i src dst x ho
    split at h
    · rename_i i hi
      unfold Fx at hi
      cases hT:(Nat.beq src dst&&oB E.P src)<;>simp only[hT,cond_true,cond_false]at hi
      · exact nomatch hi
      simp only[Bool.and_eq_true]at hT
      have hsd:=Nat.eq_of_beq_eq_true hT.1
      split at hi
      · rename_i j hx
        split at hi
        · rename_i sh t y ys hl
          cases hi
          subst hsd
          exact⟨_,h,fun s' H a w pl es eh hr hs hn=>C4 hr ho hT.2 (eh _ _ hl) (aL hs (bM es _ _ hx))⟩
        · exact nomatch hi
      · exact nomatch hi
    · rw[jm]at h
      simp only[Option.bind_eq_some_iff]at h
      obtain⟨v,hv,h⟩:=h
      exact⟨_,h,fun s' H a w pl es eh hr hs hn=>by
        obtain⟨u,hu,hvr⟩:=fZ hr hs (nA es eh _ _ hv) o ho
        exact iL hr hu hvr⟩
  · rw[jm]at h
    simp only[Option.bind_eq_some_iff]at h
    obtain⟨v,hv,h⟩:=h
    exact⟨_,h,fun s' H a w pl es eh hr hs hn=>by
      obtain⟨u,hu,hvr⟩:=fZ hr hs (nA es eh _ _ hv) o rfl
      exact iL hr hu hvr⟩
theorem wF {E:Env} (hE:bY E) {o:Oper} {a:Act} {s:List (Nat× SV)} {n:Nat} {K:CR→Option ρ} {out:ρ}
    (hr:bH H pl w) (hs:dI w H pl s a) (hn:∀i,n≤i→look H i=none) (h:sw E s H n o.op K=some out):∃c,K c=some out∧fV E.P o a w H pl n c:=by
  obtain⟨c,h1,h2⟩:=uw hE h
  exact⟨c,h1,h2 s H a w pl .rfl' .rfl' hr hs fun k _=>hn _ (Nat.le_add_right _ _)⟩
theorem Bo {x y:Option ρ} {out:ρ} (h:both x y=some out):x=some out∧y=some out:=by
  unfold both at h
  split at h
  · rename_i e;exact⟨h,e▸h⟩
  · exact nomatch h
theorem wG {op:Op} {T:TypeId} {x:Operand} {e:Bool} (h:xB op=some (T,x,e)):∃U,op=.binOp (cond e .eql .neq) T x (.const (.slice none 0 0)) U:=by
  unfold xB at h
  split at h
  · cases h;exact⟨_,rfl⟩
  · cases h;exact⟨_,rfl⟩
  · exact nomatch h
theorem Bp (hr:bH H pl w) {v:SV} {u:Value} {K:Bool→Option ρ} {out:ρ} (h:Gd H v K=some out) (hv:aj w H pl v u):
    ∃a n c,u=.slice a n c∧K a.isNone=some out:=by
  have fork:∀{α:Type} {xs:List α} {a:Option Addr},(xs=[]∨a.isSome=true)→cond (isNil xs) (both (K true) (K false)) (K false)=some out→K a.isNone=some out:=fun{α xs a} hx h=>by
    cases xs with
    | nil =>
      obtain⟨h1,h2⟩:=Bo h
      cases a<;>assumption
    | cons y ys =>
      rcases hx with hx|hx
      · exact nomatch hx
      · cases a with
        |none=>exact nomatch hx
        |some a=>exact h
  unfold Gd at h
  split at h
  · cases hv;exact⟨_,_,_,rfl,h⟩
  · rename_i d t xs
    cases hv with
    | r _ _ _ hx => cases hx with
      |sl _ _ a cap b o vs eK ha hc hr'=>exact⟨_,_,_,rfl,fork (ha.imp_right fun e=>by rw[e];rfl) h⟩
  · rename_i i
    cases hv with
    | own _ sh t xs hl =>
      simp only[hl]at h
      have hb:=hr.blk i _ hl
      have:∃a cap b o,pl.hdr i=.slice a xs.length cap∧xs.length≤cap∧(cap=0∨a=some ⟨b,o,none⟩):=by
        cases sh with
        |none=>obtain⟨⟨a,cap,b,o,vs,fs,q1,q2,q3,_⟩⟩:=hb;exact⟨a,cap,b,o,q1,q2,q3⟩
        |some d=>obtain⟨⟨a,cap,b,o,vs,fs,q1,q2,q3,_⟩⟩:=hb;exact⟨a,cap,b,o,q1,q2,q3⟩
      obtain⟨a,cap,b,o,q1,q2,q3⟩:=this
      refine⟨a,_,_,q1,fork ?_ h⟩
      rcases q3 with rfl|rfl
      · exact .inl (List.length_eq_zero_iff.1 (by omega))
      · exact .inr rfl
  · exact nomatch h
theorem Ez (hr:bH H pl w) {o:Oper} {a:Act} {T:TypeId} {x:Operand} {e:Bool} {n:Nat} (hT:xy P T=true) (ho:xB o.op=some (T,x,e)) {b:Option Addr} {l c:Nat} (hx:a.eval x=.slice b l c):
    fV P o a w H pl n {v:=.b (cond b.isNone e (!e))}:=by
  obtain⟨U,ho⟩:=wG ho
  obtain⟨el,_,hu,_⟩:=sF hT
  refine iL (u:=.bool (cond b.isNone e (!e))) hr ?_ gV
  rw[execOp,ho]
  have hc:a.eval (.const (.slice none 0 0))=.slice none 0 0:=rfl
  have key:(do eqGuard (cond e .eql .neq) T x (.const (.slice none 0 0)) (a.eval x) (a.eval (.const (.slice none 0 0)));binOp (cond e .eql .neq) T (a.eval x) (a.eval (.const (.slice none 0 0))):Sem Value).run P w=.ok (.bool (cond b.isNone e (!e))) w:=by
    rw[hc,hx]
    refine guarded (fun h=>nomatch h) (fun _ h=>nomatch h) ?_
    cases e
    · rw[cond_false,run_neq_slice_nil w T el b l c hu];cases b<;>rfl
    · rw[cond_true,Lib.run_eql_slice_nil w T el b l c _ _ hu];cases b<;>rfl
  simp only[Sem.run_bind,key,Result.andThen_ok];rfl
theorem zG {E:Env} (hE:bY E) {w0:World} {fp0:G0} {o:Oper} {st:St} {a:Act} {K:St→Option ρ} {out:ρ} {next:Act→World→Prop} {Q:Exit→Act→World→Prop}
    (hr:Rel w0 fp0 st pl a w) (h:Fb E o st K=some out) (hK:∀st' pl' a' w',K st'=some out→pl'.base=pl.base→st'.n=st.n→Rel w0 fp0 st' pl' a' w'→next a' w'):o.wp E.P a w next Q:=by
  obtain⟨c,hc,hup,hsem⟩:∃c,((st.take o.dst c).bind K)=some out∧fV E.P o a w st.heap pl st.nid c:=by
    unfold Fb at h
    split at h
    · rename_i T x e ho
      cases hT:xy E.P T<;>simp only[hT,cond_true,cond_false,Option.bind_eq_some_iff]at h
      · exact nomatch h
      obtain⟨v,hv,h⟩:=h
      obtain⟨b,l,c,hu,hk⟩:=Bp hr.hr h (aL hr.sl hv)
      exact⟨_,hk,Ez hr.hr hT ho hu⟩
    · exact wF hE hr.hr hr.sl hr.fresh h
  simp only[Option.bind_eq_some_iff]at hc
  obtain⟨st',ht,hk⟩:=hc
  refine hsem st'.heap next Q (A6 ht) fun u pl' w' hst hv=>?_
  have hn:st'.n=st.n:=by
    simp only[St.take,Option.bind_eq_some_iff,Option.some.injEq]at ht
    obtain⟨h1,e1,s,h2,rfl⟩:=ht
    rfl
  exact hK st' pl' _ w' hk hst.bs hn (hr.take ht hup hst hv)
end
end Go.Proofs.Ev
namespace Go.Proofs.Ev
variable [Tok]
set_option linter.unusedSectionVars false
theorem fJ (h:aD) (n:Nat) (b:Blk) (i:Nat):look (zg h n b) i=if n=i then(look h i).map fun _=>b else look h i:=by
  induction h with
  |nil=>simp[zg,look]
  | cons x l ih =>
    obtain⟨k,u⟩:=x
    simp only[zg]
    cases hb:Nat.beq k n
    · simp only[cond_false,aq,ih]
      have hne:k≠n:=fun e=>by subst e;simp at hb
      by_cases e:k=i
      · subst e;simp only[if_true];rw[if_neg (fun e=>hne e.symm)]
      · simp only[if_neg e]
    · simp only[cond_true,aq]
      have:=Nat.eq_of_beq_eq_true hb
      subst this
      by_cases e:k=i<;>simp[e]
theorem bV (s:List (Nat× SV)) (dst:Option Tmp) (v:SV) (t:Nat):look (xC s dst v) t=if dst=some t then some v else look s t:=by
  cases dst with
  |none=>simp[xC]
  |some d=>simp[xC,cE]
def p4 {α:Type} (x y:List (Nat× α)):Prop:=∀t,look x t=look y t
theorem Bq {h h':aD} (e:p4 h h') (n:Nat) (b:Blk):p4 (zg h n b) (zg h' n b):=fun t=>by rw[fJ,fJ,e t]
theorem zH {h h':aD} (e:p4 h h') (u:aD):p4 (fc u h) (fc u h'):=by
  induction u generalizing h h' with
  |nil=>exact e
  |cons x l ih=>obtain⟨k,b⟩:=x;exact ih (Bq e k b)
theorem Br (u h:aD) (i:Nat):(look (fc u h) i).isSome=(look h i).isSome:=by
  induction u generalizing h with
  |nil=>rfl
  | cons x l ih =>
    obtain⟨k,b⟩:=x
    rw[fc,ih,fJ]
    by_cases e:k=i<;>simp[e]
theorem rz {u h:aD} {i:Nat}:look (fc u h) i=none↔look h i=none:=by
  have:=Br u h i
  rw[←Option.not_isSome_iff_eq_none,←Option.not_isSome_iff_eq_none,this]
theorem zI {S:Nat→Prop} {h h':aD} (e:∀i B,S i→look h i=some B→look h' i=some B) (u:aD):∀i B,S i→look (fc u h) i=some B→look (fc u h') i=some B:=by
  induction u generalizing h h' with
  |nil=>exact e
  | cons x l ih =>
    obtain⟨k,b⟩:=x
    refine ih fun t v ht hv=>?_
    rw[fJ]at hv⊢
    by_cases c:k=t
    · rw[if_pos c]at hv⊢
      obtain⟨y,hy,rfl⟩:=Option.map_eq_some_iff.1 hv
      rw[e t y ht hy];rfl
    · rw[if_neg c]at hv⊢;exact e t v ht hv
theorem kr {i:Nat}:∀(u h:aD),look u i=none→look (fc u h) i=look h i
  |[],_,_=>rfl
  | (k, b) :: l, h, e => by
    rw[aq]at e
    by_cases c:k=i
    · rw[if_pos c]at e;exact nomatch e
    · rw[if_neg c]at e
      show look (fc l (zg h k b)) i=_
      rw[kr l _ e,fJ,if_neg c]
theorem C7 {h:aD} {k:Nat} (b:Blk) (hk:∃B,look h k=some B):put h k b=zg h k b:=by
  induction h with
  |nil=>obtain⟨B,hB⟩:=hk;exact nomatch hB
  | cons x l ih =>
    obtain⟨k',u⟩:=x
    simp only[put,zg]
    obtain⟨B,hB⟩:=hk
    rw[aq]at hB
    cases hb:Nat.beq k' k
    · have hne:k'≠k:=fun e=>by subst e;simp at hb
      rw[if_neg hne]at hB
      simp only[cond_false,ih ⟨B,hB⟩]
    · rfl
theorem nN {u h:aD} (hd:∀i B,look u i=some B→∃B',look h i=some B'):lD u h=fc u h:=by
  induction u generalizing h with
  |nil=>rfl
  | cons x l ih =>
    obtain⟨k,b⟩:=x
    have hk:=hd k b (by rw[aq];simp)
    simp only[lD,fc]
    rw[C7 b hk]
    refine ih fun i B hB=>?_
    rw[fJ]
    by_cases e:k=i
    · subst e;obtain⟨B',hB'⟩:=hk;exact⟨b,by simp[hB']⟩
    · rw[if_neg e];exact hd i B (by rw[aq,if_neg e];exact hB)
def uy (x y:SH):Prop:=p4 x.1 y.1∧p4 x.2 y.2
theorem uy.refl (x:SH):uy x x:=⟨fun _=>rfl,fun _=>rfl⟩
theorem uy.trans {x y z:SH} (h:uy x y) (g:uy y z):uy x z:=⟨fun t=>(h.1 t).trans (g.1 t),fun t=>(h.2 t).trans (g.2 t)⟩
def DR.lT (r:DR) (i:Nat):Prop:=r.n0≤i∧i<r.n0+r.c.news.length
theorem DR.iO {r:DR} {i:Nat} (h:¬r.lT i):look (aI r.n0 r.c.news) i=none:=by
  rw[aW]
  by_cases c:r.n0≤i
  · rw[if_pos c];exact List.getElem?_eq_none (Nat.le_of_not_lt fun h'=>h ⟨c,by omega⟩)
  · rw[if_neg c]
theorem p5 {T:Kil} (h:T.2=[]) (x:List (Nat× SV)):jk T x=x:=by unfold jk;rw[h]
theorem wH {T:Kil} (h:T.2=[]) (x:aD):eJ T x=some x:=by unfold eJ;rw[h]
theorem eQ {r:DR} (hg:r.c.kil.2=[]) (x:SH):r.app x=some (xC x.1 r.dst r.c.v,fc r.c.upd x.2++aI r.n0 r.c.news):=by
  unfold DR.app;rw[wH hg,p5 hg];rfl
theorem bW {r:DR} {x y:SH} (h:r.app x=some y):y.1=xC (jk r.c.kil x.1) r.dst r.c.v:=by
  unfold DR.app at h
  simp only[Option.bind_eq_some_iff,Option.some.injEq]at h
  obtain⟨hh,h1,rfl⟩:=h
  rfl
theorem pd {r:DR} {x y:SH} (h:r.app x=some y) (i:Nat):look y.2 i=(cond (mem i r.c.kil.1) none ((look (fc r.c.upd x.2) i).bind (Blk.aG r.c.kil))).or (look (aI r.n0 r.c.news) i):=by
  unfold DR.app at h
  simp only[Option.bind_eq_some_iff,Option.some.injEq]at h
  obtain⟨hh,h1,rfl⟩:=h
  show look (hh++_) i=_
  rw[az,bA r.c.dg h1 i]
theorem C8 {r:DR} (hg:r.c.kil.2=[]) {x y:SH} (e:uy x y) {x':SH} (h:r.app x=some x'):∃y',r.app y=some y'∧uy x' y':=by
  rw[eQ hg]at h;cases h
  refine⟨_,eQ hg y,fun t=>?_,fun i=>?_⟩
  · show look (xC _ _ _) t=look (xC _ _ _) t
    rw[bV,bV,e.1 t]
  · show look (_++_) i=look (_++_) i
    rw[az,az,zH e.2 _ i]
theorem cl (p:Nat→Bool):∀(l1 l2:List DR) (k:Nat) (x:SH),replay p k (l1++l2) x=(replay p k l1 x).bind (replay p (k+l1.length) l2)
  |[],l2,k,x=>by simp[replay]
  | r :: l, l2, k, x => by
    simp only[List.cons_append,replay,List.length_cons]
    cases p k
    · simp only[cond_false];rw[cl p l l2 (k+1) x,show k+1+l.length=k+(l.length+1)from by omega]
    · simp only[cond_true,Option.bind_assoc]
      congr 1;funext y;rw[cl p l l2 (k+1) y,show k+1+l.length=k+(l.length+1)from by omega]
theorem fK {p q:Nat→Bool}:∀(l:List DR) (k:Nat) (x:SH),(∀j,j<l.length→p (k+j)=q (k+j))→replay p k l x=replay q k l x
  |[],_,_,_=>rfl
  | r :: l, k, x, h => by
    simp only[replay]
    have h0:=h 0 (by simp)
    rw[Nat.add_zero]at h0
    have ih:=fun x=>fK (p:=p) (q:=q) l (k+1) x fun j hj=>by have:=h (j+1) (by simpa using hj);rwa [show k+(j+1)=k+1+j from by omega]at this
    rw[h0,ih x];congr 1;congr 1;exact funext ih
theorem ju {p:Nat→Bool}:∀(l:List DR) (k:Nat) (x:SH),(∀j,j<l.length→p (k+j)=false)→replay p k l x=some x
  |[],_,_,_=>rfl
  | r :: l, k, x, h => by
    simp only[replay]
    have h0:=h 0 (by simp)
    rw[Nat.add_zero]at h0
    rw[h0,cond_false]
    exact ju l (k+1) x fun j hj=>by have:=h (j+1) (by simpa using hj);rwa [show k+(j+1)=k+1+j from by omega]at this
theorem iP {p:Nat→Bool}:∀(l:List DR) (k:Nat) (x X:SH),replay p k l x=some X→∀i B,look X.2 i=some B→(∃B',look x.2 i=some B')∨∃(j:Nat) (r:DR),l[j]? =some r∧p (k+j)=true∧r.lT i
  |[],_,x,X,h,i,B,hB=>by cases h;exact .inl ⟨B,hB⟩
  | r :: l, k, x, X, h, i, B, hB => by
    simp only[replay]at h
    cases hp:p k<;>simp only[hp,cond_false,cond_true]at h
    · rcases iP l (k+1) x X h i B hB with h'|⟨j,r',h1,h2,h3⟩
      · exact .inl h'
      · exact .inr ⟨j+1,r',by simpa using h1,by rwa [show k+(j+1)=k+1+j from by omega],h3⟩
    · rw [Option.bind_eq_some_iff] at h
      obtain⟨y,hy,h⟩:=h
      rcases iP l (k+1) y X h i B hB with⟨B',h'⟩|⟨j,r',h1,h2,h3⟩
      · by_cases hm:r.lT i
        · exact .inr ⟨0,r,rfl,hp,hm⟩
        · left
          rw[pd hy,DR.iO hm,Option.or_none]at h'
          cases hx:look x.2 i with
          |none=>rw[rz.2 hx]at h';cases hm':mem i r.c.kil.1<;>simp[hm']at h'
          |some b=>exact⟨b,rfl⟩
      · exact .inr ⟨j+1,r',by simpa using h1,by rwa [show k+(j+1)=k+1+j from by omega],h3⟩
theorem k8 {q p:Nat→Bool}:∀(l:List DR) (k:Nat) (y z Y Z:SH),(∀j,q j=true→p j=true)→replay q k l y=some Y→replay p k l z=some Z→Ext y.1 z.1→
    (∀t v,look y.1 t=some v→∀(j:Nat) (r:DR),l[j]? =some r→p (k+j)=true→q (k+j)=false→r.dst≠some t)→
    (∀(j j':Nat) (r r':DR) t,j≠j'→l[j]? =some r→l[j']? =some r'→r.dst=some t→r'.dst≠some t)→
    (∀(j:Nat) (r:DR),l[j]? =some r→p (k+j)=true→q (k+j)=false→r.c.kil.2=[])→Ext Y.1 Z.1
  |[],_,y,z,Y,Z,_,hy,hz,he,_,_,_=>by cases hy;cases hz;exact he
  | r :: l, k, y, z, Y, Z, hqp, hy, hz, he, hd, hn, hg => by
    simp only[replay]at hy hz
    have hn':∀(j j':Nat) (r r':DR) t,j≠j'→l[j]? =some r→l[j']? =some r'→r.dst=some t→r'.dst≠some t:=fun j j' r r' t hne h1 h2=>hn (j+1) (j'+1) r r' t (by omega) (by simpa using h1) (by simpa using h2)
    have hg':∀(j:Nat) (r:DR),l[j]? =some r→p (k+1+j)=true→q (k+1+j)=false→r.c.kil.2=[]:=fun j r h1 h2 h3=>hg (j+1) r (by simpa using h1) (by rwa [show k+(j+1)=k+1+j from by omega]) (by rwa [show k+(j+1)=k+1+j from by omega])
    have hd':∀t v,look y.1 t=some v→∀(j:Nat) (r:DR),l[j]? =some r→p (k+1+j)=true→q (k+1+j)=false→r.dst≠some t:=fun t v ht j r h1 h0 h2=>hd t v ht (j+1) r (by simpa using h1) (by rwa [show k+(j+1)=k+1+j from by omega]) (by rwa [show k+(j+1)=k+1+j from by omega])
    cases hq:q k<;>simp only[hq,cond_false,cond_true]at hy
    · cases hp:p k<;>simp only[hp,cond_false,cond_true]at hz
      · exact k8 l (k+1) y z Y Z hqp hy hz he hd' hn' hg'
      · rw[Option.bind_eq_some_iff]at hz
        obtain⟨z',hz',hz⟩:=hz
        have hgr:=hg 0 r rfl (by simpa using hp) (by simpa using hq)
        refine k8 l (k+1) y z' Y Z hqp hy hz (fun t v ht=>?_) hd' hn' hg'
        rw[bW hz',p5 hgr,bV,if_neg (hd t v ht 0 r rfl (by simpa using hp) (by simpa using hq))]
        exact he t v ht
    · rw [hqp k hq] at hz
      simp only[cond_true]at hz
      rw[Option.bind_eq_some_iff]at hy hz
      obtain⟨y',hy',hy⟩:=hy
      obtain⟨z',hz',hz⟩:=hz
      have hsl:∀t,look y'.1 t=if r.dst=some t then some r.c.v else(look y.1 t).map (SV.aG r.c.kil):=fun t=>by rw[bW hy',bV,bN r.c.dg]
      have hslz:∀t,look z'.1 t=if r.dst=some t then some r.c.v else(look z.1 t).map (SV.aG r.c.kil):=fun t=>by rw[bW hz',bV,bN r.c.dg]
      refine k8 l (k+1) y' z' Y Z hqp hy hz (fun t v ht=>?_) (fun t v ht j r' h1 h0 h2=>?_) hn' hg'
      · rw[hsl]at ht;rw[hslz]
        by_cases c:r.dst=some t
        · rw[if_pos c]at ht⊢;exact ht
        · rw[if_neg c]at ht⊢
          obtain⟨u,hu,rfl⟩:=Option.map_eq_some_iff.1 ht
          rw[he t u hu];rfl
      · rw[hsl]at ht
        by_cases c:r.dst=some t
        · exact hn 0 (j+1) r r' t (by omega) rfl (by simpa using h1) c
        · rw[if_neg c]at ht
          obtain⟨u,hu,_⟩:=Option.map_eq_some_iff.1 ht
          exact hd' t u hu j r' h1 h0 h2
theorem gH {S:Nat→Prop} {q p:Nat→Bool}:∀(l:List DR) (k:Nat) (y z Y Z:SH),(∀j,q j=true→p j=true)→replay q k l y=some Y→replay p k l z=some Z→(∀i B,S i→look y.2 i=some B→look z.2 i=some B)→
    (∀(j:Nat) (r:DR) i,l[j]? =some r→r.lT i→look z.2 i=none)→
    (∀(j j':Nat) (r r':DR) i,j≠j'→l[j]? =some r→l[j']? =some r'→r.lT i→¬r'.lT i)→
    (∀(j:Nat) (r:DR),l[j]? =some r→p (k+j)=true→q (k+j)=false→r.c.kil.2=[]∧∀i,S i→look r.c.upd i=none)→∀i B,S i→look Y.2 i=some B→look Z.2 i=some B
  |[],_,y,z,Y,Z,_,hy,hz,he,_,_,_=>by cases hy;cases hz;exact he
  | r :: l, k, y, z, Y, Z, hqp, hy, hz, he, hf, hn, hg => by
    simp only[replay]at hy hz
    have hn':∀(j j':Nat) (r r':DR) i,j≠j'→l[j]? =some r→l[j']? =some r'→r.lT i→¬r'.lT i:=fun j j' r r' t hne h1 h2=>hn (j+1) (j'+1) r r' t (by omega) (by simpa using h1) (by simpa using h2)
    have hg':∀(j:Nat) (r:DR),l[j]? =some r→p (k+1+j)=true→q (k+1+j)=false→r.c.kil.2=[]∧∀i,S i→look r.c.upd i=none:=fun j r h1 h2 h3=>hg (j+1) r (by simpa using h1) (by rwa [show k+(j+1)=k+1+j from by omega]) (by rwa [show k+(j+1)=k+1+j from by omega])
    have hf':∀(j:Nat) (r:DR) i,l[j]? =some r→r.lT i→look z.2 i=none:=fun j r i h1 h2=>hf (j+1) r i (by simpa using h1) h2
    have lU:∀z',r.app z=some z'→∀(j:Nat) (r':DR) i,l[j]? =some r'→r'.lT i→look z'.2 i=none:=fun z' hz' j r' i h1 h2=>by
      cases hx:look z'.2 i with
      |none=>rfl
      | some B =>
        rcases iP (p:=fun _=>true) [r] 0 z z' (by simp[replay,hz']) i B hx with⟨B',hB'⟩|⟨j',r2,g1,_,g3⟩
        · rw[hf' j r' i h1 h2]at hB';exact nomatch hB'
        · cases j' with
          |zero=>simp at g1;subst g1;exact(hn 0 (j+1) r r' i (by omega) rfl (by simpa using h1) g3 h2).elim
          |succ j'=>simp at g1
    cases hq:q k<;>simp only[hq,cond_false,cond_true]at hy
    · cases hp:p k<;>simp only[hp,cond_false,cond_true]at hz
      · exact gH l (k+1) y z Y Z hqp hy hz he hf' hn' hg'
      · rw[Option.bind_eq_some_iff]at hz
        obtain⟨z',hz',hz⟩:=hz
        obtain⟨hgr,hur⟩:=hg 0 r rfl (by simpa using hp) (by simpa using hq)
        refine gH l (k+1) y z' Y Z hqp hy hz (fun i B hS hB=>?_) (lU z' hz') hn' hg'
        rw[eQ hgr]at hz'
        cases hz'
        show look (fc r.c.upd z.2++_) i=some B
        rw[az,kr _ _ (hur i hS),he i B hS hB];rfl
    · rw [hqp k hq] at hz
      simp only[cond_true]at hz
      rw[Option.bind_eq_some_iff]at hy hz
      obtain⟨y',hy',hy⟩:=hy
      obtain⟨z',hz',hz⟩:=hz
      refine gH l (k+1) y' z' Y Z hqp hy hz (fun i B hS hB=>?_) (lU z' hz') hn' hg'
      rw[pd hy']at hB
      rw[pd hz']
      cases hx:cond (mem i r.c.kil.1) none ((look (fc r.c.upd y.2) i).bind (Blk.aG r.c.kil))with
      | some b =>
        rw[hx]at hB
        cases hm:mem i r.c.kil.1<;>simp only[hm,cond_true,cond_false]at hx⊢
        · obtain⟨b0,hb0,hb1⟩:=Option.bind_eq_some_iff.1 hx
          rw[zI he _ i b0 hS hb0];simp only[Option.bind_some,hb1];exact hB
        · exact nomatch hx
      | none =>
        rw[hx,Option.none_or]at hB
        have hm:r.lT i:=Classical.byContradiction fun h=>by rw[DR.iO h]at hB;exact nomatch hB
        rw[rz.2 (hf 0 r i rfl hm)]
        cases mem i r.c.kil.1<;>exact hB
theorem p6 {b:DR}:∀{U:aD},FC b U=true→∀i,b.lT i→look U i=none
  |[],_,_,_=>rfl
  | (k, _) :: l, h, i, hi => by
    simp only[FC]at h
    cases hk:(Nat.ble (k+1) b.n0||Nat.ble (b.n0+b.c.news.length) k)<;>rw[hk]at h
    · exact nomatch h
    · rw[aq,if_neg,p6 h i hi]
      intro e
      subst e
      obtain⟨h1,h2⟩:=hi
      rw[Bool.or_eq_true]at hk
      rcases hk with hk|hk<;>have:=Nat.le_of_ble_eq_true hk<;>omega
theorem eo {a b:DR} (h:v8 a b=true):a.c.kil.2=[]∧b.c.kil.2=[]∧((b.c.upd=[]∧∀i,b.lT i→look a.c.upd i=none)∨(a.c.upd=[]∧∀i,a.lT i→look b.c.upd i=none)):=by
  simp only[v8,Bool.and_eq_true,Bool.or_eq_true]at h
  have h:=h.1
  refine⟨ch h.1.1,ch h.1.2,?_⟩
  rcases h.2 with h|h
  · exact .inl ⟨ch h.1,p6 h.2⟩
  · exact .inr ⟨ch h.1,p6 h.2⟩
theorem p7 {i:Nat}:∀(u:aD) {h h':aD},look h i=look h' i→look (fc u h) i=look (fc u h') i
  |[],_,_,e=>e
  | (k, b) :: l, h, h', e => by
    simp only[fc]
    exact p7 l (by rw[fJ,fJ,e])
theorem uz {a b:DR} (h:v8 a b=true):CQ b.see a.c.upd=false∧CQ a.see b.c.upd=false:=by
  simp only[v8,Bool.and_eq_true,Bool.not_eq_true']at h
  exact h.2
theorem uA {L:List Nat}:∀{U:aD},CQ L U=false→∀i,mem i L=true→look U i=none
  |[],_,_,_=>rfl
  | (k, b) :: l, h, i, hi => by
    simp only[CQ]at h
    cases hk:mem k L<;>simp only[hk,cond_true,cond_false]at h
    · rw[aq,if_neg (fun e=>by subst e;rw[hi]at hk;exact nomatch hk)]
      exact uA h i hi
    · exact nomatch h
theorem jv {h:aD} {i:Nat} {B:Blk}:∀{L:List Nat},look (oD h L) i=some B→mem i L=true∧look h i=some B
  |[],e=>nomatch e
  | k :: l, e => by
    simp only[oD]at e
    cases hk:look h k with
    | none =>
      rw[hk]at e
      obtain⟨g1,g2⟩:=jv e
      exact⟨by simp only[mem];cases Nat.beq k i<;>simp[g1],g2⟩
    | some b =>
      rw[hk]at e
      rw[aq]at e
      by_cases c:k=i
      · subst c;rw[if_pos rfl]at e;cases e
        exact⟨by simp[mem],hk⟩
      · rw[if_neg c]at e
        obtain⟨g1,g2⟩:=jv e
        exact⟨by simp only[mem];cases Nat.beq k i<;>simp[g1],g2⟩
theorem not_false {b:Bool} (h:(!b)=true):b=false:=by cases b<;>first|rfl|exact nomatch h
mutual
theorem nO {T:Kil}:(v:SV)→v.As T=true→v.aG T=v
  |.r d x,h=>by rw[SV.aG,not_false h];rfl
  |.own j,h=>by rw[SV.aG,not_false h];rfl
  |.sub j o n,h=>by rw[SV.aG,not_false h];rfl
  |.bsl j n,h=>by rw[SV.aG,not_false h];rfl
  |.ptr j x o,h=>by rw[SV.aG,not_false h];rfl
  |.inn j x c,h=>by rw[SV.aG,not_false h];rfl
  |.fU d cs,h=>by rw[SV.aG,not_false h];rfl
  |.agg cs,h=>by rw[SV.aG,fk cs h]
  |.tup cs,h=>by rw[SV.aG,fk cs h]
  | .fn f a b, h => by
    simp only[SV.As,Bool.and_eq_true]at h
    rw[SV.aG,fk a h.1,fk b h.2]
  |.bn,_=>rfl
  |.j7,_=>rfl
  |.undef,_=>rfl
theorem fk {T:Kil}:(l:List SV)→pG T l=true→ek T l=l
  |[],_=>rfl
  | v :: l, h => by
    simp only[pG,Bool.and_eq_true]at h
    rw[ek,nO v h.1,fk l h.2]
end
theorem xS {c:CR} (h:c.kil.2=[]):c.kil=([],[]):=by
  unfold CR.kil at h⊢
  rw[List.append_eq_nil_iff]at h
  rw[h.1,h.2];rfl
mutual
theorem rA (T U:Kil):(v:SV)→(v.aG T).aG U=(v.aG U).aG T
  | .r d x => by
    simp only[SV.aG]
    cases h1:hit T.2 d<;>cases h2:hit U.2 d<;>simp only[cond_true,cond_false,SV.aG,h1,h2]
  | .own j => by
    simp only[SV.aG]
    cases h1:mem j T.1<;>cases h2:mem j U.1<;>simp only[cond_true,cond_false,SV.aG,h1,h2]
  | .sub j o n => by
    simp only[SV.aG]
    cases h1:mem j T.1<;>cases h2:mem j U.1<;>simp only[cond_true,cond_false,SV.aG,h1,h2]
  | .bsl j n => by
    simp only[SV.aG]
    cases h1:mem j T.1<;>cases h2:mem j U.1<;>simp only[cond_true,cond_false,SV.aG,h1,h2]
  | .ptr j x o => by
    simp only[SV.aG]
    cases h1:mem j T.1<;>cases h2:mem j U.1<;>simp only[cond_true,cond_false,SV.aG,h1,h2]
  | .inn j x c => by
    simp only[SV.aG]
    cases h1:(mem j T.1||mem j T.2)<;>cases h2:(mem j U.1||mem j U.2)<;>simp only[cond_true,cond_false,SV.aG,h1,h2]
  | .fU d cs => by
    simp only[SV.aG]
    cases h1:hit T.2 d<;>cases h2:hit U.2 d<;>simp only[cond_true,cond_false,SV.aG,h1,h2]
  |.agg cs=>by simp only[SV.aG,gI T U cs]
  |.tup cs=>by simp only[SV.aG,gI T U cs]
  |.fn f a b=>by simp only[SV.aG,gI T U a,gI T U b]
  |.bn=>rfl
  |.j7=>rfl
  |.undef=>rfl
theorem gI (T U:Kil):(l:List SV)→ek U (ek T l)=ek T (ek U l)
  |[]=>rfl
  |v::l=>by simp only[ek,rA T U v,gI T U l]
end
variable {cm:DR→Bool}
theorem cH {r:DR} (h:de cm r=true):cm r=true∧r.c.kil.2=[]∧r.c.upd=[]∧r.c.news=[]:=by
  simp only[de,Bool.and_eq_true]at h
  exact⟨h.2.2.2,ch h.1,ch h.2.1,ch h.2.2.1⟩
theorem rB {b a:DR} (h:zk b a=true):a.c.v.aG b.c.kil=a.c.v:=by
  simp only[zk,Bool.and_eq_true]at h
  exact nO _ h.1
theorem xT {T:Kil} {u:SV}:∀{l:List SV},pG T l=true→u∈l→u.As T=true
  |[],_,h=>nomatch h
  | v :: l, h, hu => by
    simp only[pG,Bool.and_eq_true]at h
    rcases List.mem_cons.1 hu with rfl|hu
    · exact h.1
    · exact xT h.2 hu
theorem xU {b a:DR} (h:zk b a=true):∀u∈a.CO,u.aG b.c.kil=u:=by
  intro u hu
  simp only[zk,Bool.and_eq_true]at h
  exact nO _ (xT h.2 hu)
theorem mC {b a:DR} (h:b.c.kil.2=[]):a.c.v.aG b.c.kil=a.c.v:=by rw[xS h];exact bS _
theorem cQ {a b:DR} (h:ly cm a b=true):
    (de cm a=true∧a.c.v.aG b.c.kil=a.c.v)∨(de cm b=true∧b.c.v.aG a.c.kil=b.c.v)∨(de cm a=false∧de cm b=false∧v8 a b=true):=by
  simp only[ly,Bool.or_eq_true,Bool.and_eq_true]at h
  rcases h with h|⟨h2,h1⟩|⟨h2,h1⟩
  · obtain⟨k1,k2,_⟩:=eo h
    cases ha:de cm a
    · cases hb:de cm b
      · exact .inr (.inr ⟨rfl,rfl,h⟩)
      · exact .inr (.inl ⟨rfl,mC k1⟩)
    · exact .inl ⟨rfl,mC k2⟩
  · exact .inl ⟨h1,rB h2⟩
  · exact .inr (.inl ⟨h1,rB h2⟩)
theorem xV {a b:DR} (h:ly cm a b=true):
    (de cm a=true→∀u∈a.CO,u.aG b.c.kil=u)∧(de cm b=true→∀u∈b.CO,u.aG a.c.kil=u):=by
  have nl:∀{c:DR} (v:SV),c.c.kil.2=[]→v.aG c.c.kil=v:=fun{c} v h=>by rw[xS h];exact bS _
  simp only[ly,Bool.or_eq_true,Bool.and_eq_true]at h
  rcases h with h|⟨h2,h1⟩|⟨h2,h1⟩
  · obtain⟨k1,k2,_⟩:=eo h
    exact⟨fun _ u _=>nl u k2,fun _ u _=>nl u k1⟩
  · exact⟨fun _=>xU h2,fun _ u _=>nl u (cH h1).2.1⟩
  · exact⟨fun _ u _=>nl u (cH h1).2.1,fun _=>xU h2⟩
theorem k9 {r:DR} (h:de cm r=true) (x:SH):r.app x=some (xC x.1 r.dst r.c.v,x.2):=by
  obtain⟨_,h1,h2,h3⟩:=cH h
  rw[eQ h1,h2,h3]
  simp only[fc,aI,List.append_nil]
theorem kt {r:DR} {x x' y:SH} (e:x.2=x'.2) (h:r.app x=some y):∃y',r.app x'=some y'∧y.2=y'.2:=by
  unfold DR.app at h⊢
  simp only[Option.bind_eq_some_iff,Option.some.injEq]at h
  obtain⟨hh,h1,rfl⟩:=h
  rw[←e,h1]
  exact⟨_,rfl,rfl⟩
def sW (x y:SH):Prop:=p4 x.1 y.1∧x.2=y.2
theorem sW.same {x y:SH} (h:sW x y):uy x y:=⟨h.1,fun t=>by rw[h.2]⟩
theorem Bs {r:DR} {x y:SH} (e:sW x y) {x':SH} (h:r.app x=some x'):∃y',r.app y=some y'∧sW x' y':=by
  obtain⟨y',h1,h2⟩:=kt e.2 h
  refine⟨y',h1,fun t=>?_,h2⟩
  rw[bW h,bW h1,bV,bV,bN r.c.dg,bN r.c.dg,e.1 t]
theorem ku {p:Nat→Bool}:∀(l:List DR) (k:Nat) (x y X:SH),sW x y→replay p k l x=some X→∃Y,replay p k l y=some Y∧sW X Y
  |[],_,x,y,X,e,h=>by cases h;exact⟨y,rfl,e⟩
  | r :: l, k, x, y, X, e, h => by
    simp only[replay]at h⊢
    cases hp:p k<;>simp only[hp,cond_false,cond_true]at h⊢
    · exact ku l (k+1) x y X e h
    · rw[Option.bind_eq_some_iff]at h
      obtain⟨x',hx',h⟩:=h
      obtain⟨y',hy',e'⟩:=Bs e hx'
      rw[hy']
      exact ku l (k+1) x' y' X e' h
theorem gJ {p p':Nat→Bool}:∀(l:List DR) (k:Nat) (x x' X:SH),(∀(j:Nat) (r:DR),l[j]? =some r→p (k+j)≠p' (k+j)→de cm r=true)→x.2=x'.2→replay p k l x=some X→
    ∃X',replay p' k l x'=some X'∧X.2=X'.2
  |[],_,x,x',X,_,e,h=>by cases h;exact⟨x',rfl,e⟩
  | r :: l, k, x, x', X, hd, e, h => by
    have hd':∀(j:Nat) (r:DR),l[j]? =some r→p (k+1+j)≠p' (k+1+j)→de cm r=true:=fun j r h1 h2=>hd (j+1) r (by simpa using h1) (by rwa [show k+(j+1)=k+1+j from by omega])
    have h0:=hd 0 r rfl
    rw[Nat.add_zero]at h0
    simp only[replay]at h⊢
    cases hp:p k<;>cases hp':p' k<;>simp only[hp,cond_false,cond_true]at h⊢
    · exact gJ l (k+1) x x' X hd' e h
    · rw[k9 (h0 (by rw[hp,hp'];exact fun h=>nomatch h)),Option.bind_some]
      exact gJ l (k+1) x (xC x'.1 r.dst r.c.v,x'.2) X hd' e h
    · rw[k9 (h0 (by rw[hp,hp'];exact fun h=>nomatch h)),Option.bind_some]at h
      exact gJ l (k+1) (xC x.1 r.dst r.c.v,x.2) x' X hd' e h
    · rw[Option.bind_eq_some_iff]at h
      obtain⟨y,hy,h⟩:=h
      obtain⟨y',h1,h2⟩:=kt e hy
      rw[h1,Option.bind_some]
      exact gJ l (k+1) y y' X hd' h2 h
def lG:List Kil→SV→SV
  |[],v=>v
  |T::l,v=>lG l (v.aG T)
theorem zJ (l l':List Kil) (v:SV):lG (l++l') v=lG l' (lG l v):=by
  induction l generalizing v with
  |nil=>rfl
  |cons T l ih=>exact ih _
theorem wI (T:Kil) (l:List Kil) (v:SV):(lG l v).aG T=lG l (v.aG T):=by
  induction l generalizing v with
  |nil=>rfl
  |cons U l ih=>simp only[lG];rw[ih,rA]
theorem wJ {l:List Kil} {v:SV} (h:∀T∈l,v.aG T=v):lG l v=v:=by
  induction l with
  |nil=>rfl
  |cons U l ih=>simp only[lG];rw[h U (by simp)];exact ih fun T hT=>h T (by simp[hT])
theorem jx {q p:Nat→Bool} {t:Nat} {v:SV}:∀(l:List DR) (k:Nat) (y z Y Z:SH),(∀j,q j=true→p j=true)→replay q k l y=some Y→replay p k l z=some Z→look Y.1 t=some v→
    (∀(j:Nat) (r:DR),l[j]? =some r→p (k+j)=true→q (k+j)=false→r.dst≠some t∧v.aG r.c.kil=v)→
    (∀u,look y.1 t=some u→∃Ts,look z.1 t=some (lG Ts u)∧∀T∈Ts,v.aG T=v)→look Z.1 t=some v
  | [], _, y, z, Y, Z, _, hy, hz, hv, _, hi => by
    cases hy;cases hz
    obtain⟨Ts,h1,h2⟩:=hi v hv
    rw[h1,wJ h2]
  | r :: l, k, y, z, Y, Z, hqp, hy, hz, hv, hd, hi => by
    simp only[replay]at hy hz
    have hd':∀(j:Nat) (r:DR),l[j]? =some r→p (k+1+j)=true→q (k+1+j)=false→r.dst≠some t∧v.aG r.c.kil=v:=fun j r h1 h2 h3=>hd (j+1) r (by simpa using h1) (by rwa [show k+(j+1)=k+1+j from by omega]) (by rwa [show k+(j+1)=k+1+j from by omega])
    cases hq:q k<;>simp only[hq,cond_false,cond_true]at hy
    · cases hp:p k<;>simp only[hp,cond_false,cond_true]at hz
      · exact jx l (k+1) y z Y Z hqp hy hz hv hd' hi
      · rw[Option.bind_eq_some_iff]at hz
        obtain⟨z',hz',hz⟩:=hz
        obtain⟨g1,g2⟩:=hd 0 r rfl (by simpa using hp) (by simpa using hq)
        refine jx l (k+1) y z' Y Z hqp hy hz hv hd' fun u hu=>?_
        obtain⟨Ts,h1,h2⟩:=hi u hu
        refine⟨Ts++[r.c.kil],?_,fun T hT=>?_⟩
        · rw[bW hz',bV,if_neg g1,bN r.c.dg,h1,zJ];rfl
        · rcases List.mem_append.1 hT with h|h
          · exact h2 T h
          · simp at h;subst h;exact g2
    · rw[hqp k hq]at hz
      simp only[cond_true]at hz
      rw[Option.bind_eq_some_iff]at hy hz
      obtain⟨y',hy',hy⟩:=hy
      obtain⟨z',hz',hz⟩:=hz
      refine jx l (k+1) y' z' Y Z hqp hy hz hv hd' fun u hu=>?_
      rw[bW hy',bV,bN r.c.dg]at hu
      rw[bW hz',bV,bN r.c.dg]
      by_cases c:r.dst=some t
      · rw[if_pos c]at hu⊢;cases hu;exact⟨[],rfl,by simp⟩
      · rw[if_neg c]at hu⊢
        obtain⟨u0,hu0,rfl⟩:=Option.map_eq_some_iff.1 hu
        obtain⟨Ts,h1,h2⟩:=hi u0 hu0
        exact⟨Ts,by rw[h1,Option.map_some,wI],h2⟩
theorem jy {q:Nat→Bool} {t:Nat} {v:SV}:∀(l:List DR) (k:Nat) (y Y:SH),replay q k l y=some Y→look Y.1 t=some v→(∃u,look y.1 t=some u)∨∃(j:Nat) (r:DR),l[j]? =some r∧q (k+j)=true∧r.dst=some t
  |[],_,y,Y,h,hv=>by cases h;exact .inl ⟨v,hv⟩
  | r :: l, k, y, Y, h, hv => by
    simp only[replay]at h
    cases hq:q k<;>simp only[hq,cond_false,cond_true]at h
    · rcases jy l (k+1) y Y h hv with h'|⟨j,r',h1,h2,h3⟩
      · exact .inl h'
      · exact .inr ⟨j+1,r',by simpa using h1,by rwa [show k+(j+1)=k+1+j from by omega],h3⟩
    · rw [Option.bind_eq_some_iff] at h
      obtain⟨y',hy',h⟩:=h
      rcases jy l (k+1) y' Y h hv with⟨u,hu⟩|⟨j,r',h1,h2,h3⟩
      · rw[bW hy',bV,bN r.c.dg]at hu
        by_cases c:r.dst=some t
        · exact .inr ⟨0,r,rfl,hq,c⟩
        · rw[if_neg c]at hu
          obtain⟨u0,hu0,_⟩:=Option.map_eq_some_iff.1 hu
          exact .inl ⟨u0,hu0⟩
      · exact .inr ⟨j+1,r',by simpa using h1,by rwa [show k+(j+1)=k+1+j from by omega],h3⟩
theorem Bt {a b:DR} (ha:de cm a=true) (hf:a.c.v.aG b.c.kil=a.c.v) (hd:∀t,a.dst=some t→b.dst≠some t) {x y z:SH} (hy:b.app x=some y) (hz:a.app y=some z):
    ∃y' z',a.app x=some y'∧b.app y'=some z'∧sW z z':=by
  rw[k9 ha]at hz;cases hz
  obtain⟨z',h1,h2⟩:=kt (x:=x) (x':=(xC x.1 a.dst a.c.v,x.2)) rfl hy
  refine⟨_,z',k9 ha x,h1,fun t=>?_,h2⟩
  rw[bW h1,bW hy]
  simp only[bV,bN b.c.dg]
  by_cases c:a.dst=some t
  · rw[if_pos c,if_neg (hd t c),if_pos c,Option.map_some,hf]
  · simp only[if_neg c]
theorem zK {a b:DR} (hb:de cm b=true) (hf:b.c.v.aG a.c.kil=b.c.v) (hd:∀t,a.dst=some t→b.dst≠some t) {x y z:SH} (hy:b.app x=some y) (hz:a.app y=some z):
    ∃y' z',a.app x=some y'∧b.app y'=some z'∧sW z z':=by
  rw[k9 hb]at hy;cases hy
  obtain⟨y',h1,h2⟩:=kt (x:=(xC x.1 b.dst b.c.v,x.2)) (x':=x) rfl hz
  refine⟨y',_,h1,k9 hb y',fun t=>?_,h2⟩
  rw[bW h1,bW hz]
  simp only[bV,bN a.c.dg]
  by_cases c:a.dst=some t
  · simp only[if_pos c,if_neg (hd t c)]
  · simp only[if_neg c]
    by_cases c':b.dst=some t
    · simp only[if_pos c',Option.map_some,hf]
    · simp only[if_neg c']
theorem comm {a b:DR} (h:v8 a b=true) (hd:∀t,a.dst=some t→b.dst≠some t) (hm:∀i,a.lT i→¬b.lT i) {x y z:SH} (hy:b.app x=some y) (hz:a.app y=some z):
    ∃y' z',a.app x=some y'∧b.app y'=some z'∧uy z z':=by
  obtain⟨ga,gb,hu⟩:=eo h
  rw[eQ gb]at hy;cases hy
  rw[eQ ga]at hz;cases hz
  refine⟨_,_,eQ ga x,eQ gb _,fun t=>?_,fun i=>?_⟩
  · simp only[bV]
    by_cases c:a.dst=some t
    · rw[if_pos c,if_neg (hd t c),if_pos c]
    · rw[if_neg c]
      by_cases c':b.dst=some t
      · rw[if_pos c',if_pos c']
      · rw[if_neg c',if_neg c',if_neg c]
  · have swap:(look (aI b.n0 b.c.news) i).or (look (aI a.n0 a.c.news) i)=(look (aI a.n0 a.c.news) i).or (look (aI b.n0 b.c.news) i):=by
      by_cases c:a.lT i
      · rw[DR.iO (hm i c)];simp
      · rw[DR.iO c];simp
    have past:∀(r:DR) (u:aD),(∀i,r.lT i→look u i=none)→look (fc u (x.2++aI r.n0 r.c.news)) i=(look (fc u x.2) i).or (look (aI r.n0 r.c.news) i):=fun r u hr=>by
      by_cases c:r.lT i
      · rw[kr _ _ (hr i c),kr _ _ (hr i c),az]
      · rw[DR.iO c,Option.or_none]
        exact p7 u (by rw[az,DR.iO c,Option.or_none])
    rcases hu with⟨u1,u2⟩|⟨u1,u2⟩
    · simp only[u1,fc,az,Option.or_assoc]
      rw[past b _ u2,Option.or_assoc,swap]
    · simp only[u1,fc,az,Option.or_assoc]
      rw[past a _ u2,Option.or_assoc,swap]
theorem lV {p:Nat→Bool}:∀(l:List DR) (k:Nat) (x y X:SH),(∀(j:Nat) (r:DR),l[j]? =some r→p (k+j)=true→r.c.kil.2=[])→uy x y→replay p k l x=some X→∃Y,replay p k l y=some Y∧uy X Y
  |[],_,x,y,X,_,e,h=>by cases h;exact⟨y,rfl,e⟩
  | r :: l, k, x, y, X, hg, e, h => by
    have hg':∀(j:Nat) (r:DR),l[j]? =some r→p (k+1+j)=true→r.c.kil.2=[]:=fun j r h1 h2=>hg (j+1) r (by simpa using h1) (by rwa [show k+(j+1)=k+1+j from by omega])
    simp only[replay]at h⊢
    cases hp:p k<;>simp only[hp,cond_false,cond_true]at h⊢
    · exact lV l (k+1) x y X hg' e h
    · rw[Option.bind_eq_some_iff]at h
      obtain⟨x',hx',h⟩:=h
      obtain⟨y',hy',e'⟩:=C8 (hg 0 r rfl (by simpa using hp)) e hx'
      rw[hy']
      exact lV l (k+1) x' y' X hg' e' h
theorem iv {p:Nat→Bool} {a:DR} (hi:de cm a=true):∀(l:List DR) (k:Nat) (x X X':SH),
    (∀(j:Nat) (r:DR),l[j]? =some r→p (k+j)=true→a.c.v.aG r.c.kil=a.c.v∧(∀t,a.dst=some t→r.dst≠some t))→
    replay p k l x=some X→a.app X=some X'→∃x' X'',a.app x=some x'∧replay p k l x'=some X''∧sW X' X''
  |[],_,x,X,X',_,h,ha=>by cases h;exact⟨X',X',ha,rfl,fun _=>rfl,rfl⟩
  | r :: l, k, x, X, X', hc, h, ha => by
    have hc':∀(j:Nat) (r:DR),l[j]? =some r→p (k+1+j)=true→a.c.v.aG r.c.kil=a.c.v∧(∀t,a.dst=some t→r.dst≠some t):=fun j r h1 h2=>hc (j+1) r (by simpa using h1) (by rwa [show k+(j+1)=k+1+j from by omega])
    simp only[replay]at h⊢
    cases hp:p k<;>simp only[hp,cond_false,cond_true]at h⊢
    · exact iv hi l (k+1) x X X' hc' h ha
    · rw[Option.bind_eq_some_iff]at h
      obtain⟨y,hy,h⟩:=h
      obtain⟨y',Y'',h1,h2,h3⟩:=iv hi l (k+1) y X X' hc' h ha
      obtain⟨c1,c2⟩:=hc 0 r rfl (by simpa using hp)
      obtain⟨x',z',g1,g2,g3⟩:=Bt hi c1 c2 hy h1
      obtain⟨W,w1,w2⟩:=ku l (k+1) y' z' Y'' g3 h2
      exact⟨x',W,g1,by rw[g2];exact w1,fun t=>(h3.1 t).trans (w2.1 t),h3.2.trans w2.2⟩
theorem iw {p:Nat→Bool} {a:DR} (hi:de cm a=false):∀(l:List DR) (k:Nat) (x X X':SH),
    (∀(j:Nat) (r:DR),l[j]? =some r→p (k+j)=true→ly cm a r=true∧(∀t,a.dst=some t→r.dst≠some t)∧∀i,a.lT i→¬r.lT i)→
    replay p k l x=some X→a.app X=some X'→∃x' X'',a.app x=some x'∧replay p k l x'=some X''∧uy X' X''
  |[],_,x,X,X',_,h,ha=>by cases h;exact⟨X',X',ha,rfl,uy.refl _⟩
  | r :: l, k, x, X, X', hc, h, ha => by
    have hc':∀(j:Nat) (r:DR),l[j]? =some r→p (k+1+j)=true→ly cm a r=true∧(∀t,a.dst=some t→r.dst≠some t)∧∀i,a.lT i→¬r.lT i:=fun j r h1 h2=>hc (j+1) r (by simpa using h1) (by rwa [show k+(j+1)=k+1+j from by omega])
    have kil0:∀(r:DR),ly cm a r=true→r.c.kil.2=[]:=fun r h=>by
      rcases cQ h with⟨h1,_⟩|⟨h1,_⟩|⟨_,_,h1⟩
      · rw[hi]at h1;exact nomatch h1
      · exact(cH h1).2.1
      · exact(eo h1).2.1
    simp only[replay]at h⊢
    cases hp:p k<;>simp only[hp,cond_false,cond_true]at h⊢
    · exact iw hi l (k+1) x X X' hc' h ha
    · rw [Option.bind_eq_some_iff] at h
      obtain⟨y,hy,h⟩:=h
      obtain⟨y',Y'',h1,h2,h3⟩:=iw hi l (k+1) y X X' hc' h ha
      obtain⟨c1,c2,c3⟩:=hc 0 r rfl (by simpa using hp)
      have hcm:∃y'' z',a.app x=some y''∧r.app y''=some z'∧uy y' z':=by
        rcases cQ c1 with⟨h1',_⟩|⟨h1',h2'⟩|⟨_,_,h1'⟩
        · rw[hi]at h1';exact nomatch h1'
        · obtain⟨u1,u2,u3,u4,u5⟩:=zK h1' h2' c2 hy h1
          exact⟨u1,u2,u3,u4,u5.same⟩
        · exact comm h1' c2 c3 hy h1
      obtain⟨x',z',g1,g2,g3⟩:=hcm
      obtain⟨W,w1,w2⟩:=lV l (k+1) y' z' Y'' (fun j r h1 h2=>kil0 r (hc' j r h1 h2).1) g3 h2
      exact⟨x',W,g1,by rw[g2];exact w1,h3.trans w2⟩
theorem sX {p:Nat→Bool} {a:DR} (l:List DR) (k:Nat) (x X X':SH)
    (hc:∀(j:Nat) (r:DR),l[j]? =some r→p (k+j)=true→ly cm a r=true∧(∀t,a.dst=some t→r.dst≠some t)∧∀i,a.lT i→¬r.lT i)
    (h:replay p k l x=some X) (ha:a.app X=some X'):∃x' X'',a.app x=some x'∧replay p k l x'=some X''∧uy X' X'':=by
  cases hi:de cm a with
  |false=>exact iw hi l k x X X' hc h ha
  | true =>
    obtain⟨u1,u2,u3,u4,u5⟩:=iv hi l k x X X' (fun j r h1 h2=>by
      obtain⟨c1,c2,_⟩:=hc j r h1 h2
      refine⟨?_,c2⟩
      rcases cQ c1 with⟨_,h⟩|⟨h,_⟩|⟨h,_,_⟩
      · exact h
      · exact mC (cH h).2.1
      · rw[hi]at h;exact nomatch h) h ha
    exact⟨u1,u2,u3,u4,u5.same⟩
theorem sY {p p':Nat→Bool} {l:List DR} {i:Nat} {a:DR} {x X X':SH} (hi:l[i]? =some a) (hpi:p i=false) (hpi':p' i=true) (hpp:∀j,j≠i→p' j=p j)
    (hc:∀(j:Nat) (r:DR),i<j→l[j]? =some r→p j=true→ly cm a r=true∧(∀t,a.dst=some t→r.dst≠some t)∧∀i,a.lT i→¬r.lT i)
    (h:replay p 0 l x=some X) (ha:a.app X=some X'):∃X'',replay p' 0 l x=some X''∧uy X' X'':=by
  have hlt:=(List.getElem?_eq_some_iff.1 hi).1
  have hsplit:l=l.take i++a::l.drop (i+1):=by
    conv=>lhs;rw[←List.take_append_drop i l]
    rw[List.drop_eq_getElem_cons hlt,(List.getElem?_eq_some_iff.1 hi).2]
  have hl:(l.take i).length=i:=by simp;omega
  rw[hsplit,cl,Option.bind_eq_some_iff]at h
  obtain⟨y,hy,h⟩:=h
  rw[hl,Nat.zero_add]at h
  simp only[replay,hpi,cond_false]at h
  obtain⟨y',X'',g1,g2,g3⟩:=sX (l.drop (i+1)) (i+1) y X X' (fun j r h1 h2=>hc (i+1+j) r (by omega) (by rwa [List.getElem?_drop]at h1) h2) h ha
  refine⟨X'',?_,g3⟩
  rw[hsplit,cl,hl,Nat.zero_add]
  rw[fK (q:=p) (l.take i) 0 x fun j hj=>by rw[hl]at hj;rw[Nat.zero_add];exact hpp j (by omega),hy]
  simp only[Option.bind_some,replay,hpi',cond_true,g1]
  rw[fK (q:=p) (l.drop (i+1)) (i+1) y' fun j hj=>hpp _ (by omega)]
  exact g2
theorem lW {p:Nat→Bool} {t:Nat} {x0:SV} (hx0:∀T,x0.aG T=x0):∀(l:List DR) (k:Nat) (x X:SH),replay p k l x=some X→(∀(j:Nat) (r:DR),l[j]? =some r→r.dst≠some t)→look x.1 t=some x0→look X.1 t=some x0
  |[],_,x,X,h,_,hx=>by cases h;exact hx
  | r :: l, k, x, X, h, hd, hx => by
    have hd':∀(j:Nat) (r:DR),l[j]? =some r→r.dst≠some t:=fun j r h1=>hd (j+1) r (by simpa using h1)
    simp only[replay]at h
    cases hp:p k<;>simp only[hp,cond_false,cond_true]at h
    · exact lW hx0 l (k+1) x X h hd' hx
    · rw[Option.bind_eq_some_iff]at h
      obtain⟨y,hy,h⟩:=h
      refine lW hx0 l (k+1) y X h hd' ?_
      rw[bW hy,bV,if_neg (hd 0 r rfl)]
      rw[bN r.c.dg,hx,Option.map_some,hx0]
end Go.Proofs.Ev
set_option linter.unusedVariables false
namespace Go.Proofs.Ev
variable [Tok]
set_option linter.unusedSectionVars false
def Rl (w0:World) (fp0:G0) (bs:Cell→Prop) (n:Nat) (st:St) (a:Act) (w:World):Prop:=∃pl,Rel w0 fp0 st pl a w∧pl.base=bs∧st.n=n
section
variable {w:World} {H H':aD} {pl:Pl}
theorem rC (e:p4 H' H):gF ([],[]) w H pl w H' pl:=
  ⟨fun i B hB _=>⟨B,(e i).trans hB,B.bR,rfl⟩,fun d p u _ h hp=>⟨⟨h.1,fun i B hB=>h.2 i B ((e i).symm.trans hB)⟩,hp⟩⟩
theorem bH.same (e:p4 H' H) (h:bH H pl w):bH H' pl w:=
  ⟨fun i B hB=>(h.blk i B ((e i).symm.trans hB)).cP (rC e) rfl (fun _=>Iff.rfl) (fun p u _ hu=>⟨hu,rfl⟩) B.bS,
   fun i j B B' p h1 h2=>h.dis i j B B' p ((e i).symm.trans h1) ((e j).symm.trans h2),fun i B p hB=>h.ob i B p ((e i).symm.trans hB),h.nb⟩
theorem Rel.congr {w0:World} {fp0:G0} {s s':List (Nat× SV)} {nid n:Nat} {gh:List (Option Nat)} {a:Act} (h:Rel w0 fp0 ⟨s,H,nid,n,gh⟩ pl a w) (hs:∀t v,look s' t=some v→look s t=some v) (e:p4 H' H):
    Rel w0 fp0 ⟨s',H',nid,n,gh⟩ pl a w:=
  ⟨h.hr.same e,fun t v hv=>(h.sl t v (hs t v hv)).oY (rC e),h.sz,h.df,fun i hi=>(e i).trans (h.fresh i hi),h.gr,fun p u hp hn=>by
    obtain⟨g1,g2,g3⟩:=h.fr p u hp hn
    exact⟨fun i B hB=>g1 i B ((e i).symm.trans hB),g2,g3⟩,fun k i hi=>⟨(h.gk k i hi).1,fun B hB=>(h.gk k i hi).2 B ((e i).symm.trans hB)⟩⟩
end
theorem sZ {h:aD} {k i:Nat} {b B:Blk} (e:look (zg h k b) i=some B):∃B',look h i=some B':=by
  induction h with
  |nil=>simp[zg,look]at e
  | cons x l ih =>
    obtain⟨k',u⟩:=x
    rw[aq]
    by_cases c:k'=i
    · exact⟨u,by simp[c]⟩
    · rw[if_neg c]
      simp only[zg]at e
      cases hb:Nat.beq k' k<;>simp only[hb,cond_true,cond_false]at e
      · rw[aq,if_neg c]at e;exact ih e
      · rw[aq,if_neg (by have:=Nat.eq_of_beq_eq_true hb;omega)]at e;exact⟨B,e⟩
theorem lH:∀{l h:aD} {i:Nat} {B:Blk},look (fc l h) i=some B→∃B',look h i=some B'
  |[],h,i,B,e=>⟨B,e⟩
  | (k, b) :: l, h, i, B, e => by
    simp only[fc]at e
    obtain⟨B',hB'⟩:=lH e
    exact sZ hB'
theorem Rel.app {w0:World} {fp0:G0} {X X':SH} {nid n:Nat} {gh:List (Option Nat)} {pl pl':Pl} {a:Act} {w w':World} {r:DR} {H':aD} {u:Value}
    (h:Rel w0 fp0 ⟨X.1,X.2,nid,n,gh⟩ pl a w) (hx:r.app X=some X') (hup:∀i B,look r.c.upd i=some B→∃B',look X.2 i=some B')
    (hd:∀t,r.dst=some t→t+1≤n) (hg:∀(k i:Nat),gh[k]? =some (some i)→i<r.n0) (hn:r.n0+r.c.news.length≤nid) (ha:after X.2 r.n0 r.c=some H') (hs:bG X.2 H' r.c.kil pl pl' w w') (hv:aj w' H' pl' r.c.v u):
    Rel w0 fp0 ⟨X'.1,X'.2,nid,n,gh⟩ pl' (a.put r.dst u) w':=by
  have hsame:p4 X'.2 H':=by
    unfold DR.app at hx
    unfold after at ha
    rw[nN hup]at ha
    simp only[Option.bind_eq_some_iff,Option.some.injEq]at hx ha
    obtain⟨h1,e1,rfl⟩:=hx
    obtain⟨h2,e2,rfl⟩:=ha
    rw[e1]at e2;cases e2
    exact fun _=>rfl
  have hfr:∀i,nid≤i→look H' i=none:=fun i hi=>by
    rw[←hsame i]
    cases hq:look X'.2 i with
    |none=>rfl
    | some B =>
      rcases iP (p:=fun _=>true) [r] 0 X X' (by simp[replay,hx]) i B hq with⟨B',hB'⟩|⟨j',r2,g1,_,g3⟩
      · have:=h.fresh i hi;rw[hB']at this;exact nomatch this
      · cases j' with
        |zero=>simp at g1;subst g1;have:=g3.2;omega
        |succ j'=>simp at g1
  have hsl:dI w' H' pl' (jk r.c.kil X.1) a:=h.sl.cP r.c.dg hs.kp
  have hsl2:dI w' H' pl' X'.1 (a.put r.dst u):=by
    rw[bW hx]
    cases hdst:r.dst with
    |none=>exact hsl
    | some t =>
      have ht:=hd t hdst
      exact dI.put (n:=n) (dst:=some t) hsl h.sz (by simp only[Fv,xC];rw[show Nat.ble (t+1) n=true from Nat.ble_eq_true_of_le ht];rfl) hv
  exact Rel.congr (s:=X'.1) (H:=H') ⟨hs.hr,hsl2,by rw[Act.sM];exact h.sz,by rw[Act.A5];exact h.df,hfr,h.gr.trans hs.gr,fun p q hp hno=>by
    obtain⟨g1,g2,g3⟩:=h.fr p q hp hno
    obtain⟨f1,f2,f3⟩:=hs.fr p q g2 g1
    exact⟨f1,f2,f3.trans g3⟩,h.gk.step hs.kp (Nat.le_refl _) fun k i B hki hB=>by
      have hi:=hg k i hki
      rw[←hsame i]at hB
      unfold DR.app at hx
      simp only[Option.bind_eq_some_iff,Option.some.injEq]at hx
      obtain⟨h1,e1,rfl⟩:=hx
      rw[az,aW,if_neg (by omega),Option.or_none,bA r.c.dg e1 i]at hB
      cases hm:mem i r.c.kil.1<;>simp only[hm,cond_true,cond_false]at hB
      · obtain⟨B1,hB1,_⟩:=Option.bind_eq_some_iff.1 hB
        exact⟨rfl,lH hB1⟩
      · exact nomatch hB⟩ (fun _ _ h=>h) hsame
theorem nP (acc:List Nat) (j:Nat):∀l:List Edge,(ua acc l).testBit j=true↔∃e∈l,Region.binds .any e=true∧(j=e.on∨(acc.getD e.on 0).testBit j=true)
  |[]=>by simp[ua]
  | e :: l => by
    simp only[ua]
    cases hb:Region.binds .any e
    · simp only[cond_false,nP acc j l,List.mem_cons,exists_eq_or_imp,hb,Bool.false_eq_true,false_and,false_or]
    · simp only[cond_true,Nat.testBit_or,Nat.testBit_two_pow,Bool.or_eq_true,decide_eq_true_eq,nP acc j l,List.mem_cons,exists_eq_or_imp,hb,true_and]
      constructor
      · rintro ((h|h)|h)
        · exact .inl (.inr h)
        · exact .inl (.inl h.symm)
        · exact .inr h
      · rintro ((h|h)|h)
        · exact .inl (.inr h.symm)
        · exact .inl (.inl h)
        · exact .inr h
theorem fL {n:Nat}:∀{l:List Edge},nz n l=true→∀e∈l,Region.binds .any e=true→e.on<n
  |[],_,e,he,_=>by simp at he
  | x :: l, h, e, he, hb => by
    simp only[nz]at h
    cases hx:Region.binds .any x<;>simp only[hx,cond_true,cond_false]at h
    · rcases List.mem_cons.1 he with rfl|he
      · rw[hx]at hb;exact nomatch hb
      · exact fL h e he hb
    · cases hn:Nat.ble (x.on+1) n<;>simp only[hn,cond_true,cond_false]at h
      · exact nomatch h
      · rcases List.mem_cons.1 he with rfl|he
        · exact Nat.le_of_ble_eq_true hn
        · exact fL h e he hb
structure wK (ops:List Oper) (masks:List Nat):Prop where
  back:∀(i:Nat) (o:Oper),ops[i]? =some o→∀e∈o.after.toList,Region.binds .any e=true→e.on<i
  spec:∀(i:Nat) (o:Oper),ops[i]? =some o→∀j,(masks.getD i 0).testBit j=true↔∃e∈o.after.toList,Region.binds .any e=true∧(j=e.on∨(masks.getD e.on 0).testBit j=true)
theorem oE:∀(l:List Oper) (acc masks:List Nat),pF acc l=some masks→(∃t,masks=acc++t)∧
    ∀ (k : Nat) (o : Oper), l[k]? = some o → (∀ e ∈ o.after.toList, Region.binds .any e = true → e.on < acc.length + k) ∧
      ∀j,(masks.getD (acc.length+k) 0).testBit j=true↔∃e∈o.after.toList,Region.binds .any e=true∧(j=e.on∨(masks.getD e.on 0).testBit j=true)
  |[],acc,masks,h=>by cases h;exact⟨⟨[],by simp⟩,fun k o ho=>by simp at ho⟩
  | x :: l, acc, masks, h => by
    simp only[pF]at h
    cases he:nz acc.length x.after.toList<;>simp only[he,cond_true,cond_false]at h
    · exact nomatch h
    · obtain⟨⟨t,ht⟩,hl⟩:=oE l _ masks h
      refine⟨⟨ua acc x.after.toList::t,by rw[ht];simp⟩,fun k o ho=>?_⟩
      cases k with
      | zero =>
        simp at ho;subst ho
        refine⟨fL he,fun j=>?_⟩
        have hm:masks.getD (acc.length+0) 0=ua acc x.after.toList:=by rw[ht];simp[List.getD]
        rw[hm,nP]
        constructor
        · rintro ⟨e,h1,h2,h3⟩
          have hlt:=fL he e h1 h2
          refine⟨e,h1,h2,h3.imp id fun h3=>?_⟩
          rw[ht];simpa[List.getD,List.getElem?_append_left hlt,List.append_assoc]using h3
        · rintro ⟨e,h1,h2,h3⟩
          have hlt:=fL he e h1 h2
          refine⟨e,h1,h2,h3.imp id fun h3=>?_⟩
          rw[ht]at h3;simpa[List.getD,List.getElem?_append_left hlt,List.append_assoc]using h3
      | succ k =>
        have:=hl k o (by simpa using ho)
        simp only[List.length_append,List.length_cons,List.length_nil]at this
        rwa [show acc.length+(0+1)+k=acc.length+(k+1)from by omega]at this
theorem C9 {ops:List Oper} {masks:List Nat} (h:pF [] ops=some masks):wK ops masks:=by
  obtain⟨_,h2⟩:=oE ops [] masks h
  exact⟨fun i o ho=>by have:=(h2 i o ho).1;simpa using this,fun i o ho=>by have:=(h2 i o ho).2;simpa using this⟩
theorem wK.closed {ops:List Oper} {masks:List Nat} (hm:wK ops masks) {p:Nat→Bool} (hp:∀(j:Nat) (o:Oper),ops[j]? =some o→p j=true→∀e∈o.after.toList,Region.binds .any e=true→p e.on=true):
    ∀(n i:Nat) (o:Oper),i≤n→ops[i]? =some o→(∀e∈o.after.toList,Region.binds .any e=true→p e.on=true)→∀j,(masks.getD i 0).testBit j=true→p j=true
  | n, i, o, hn, ho, he, j, hj => by
    obtain⟨e,h1,h2,h3⟩:=(hm.spec i o ho j).1 hj
    rcases h3 with rfl|h3
    · exact he e h1 h2
    · have hlt:=hm.back i o ho e h1 h2
      have hol:e.on<ops.length:=by have:=(List.getElem?_eq_some_iff.1 ho).1;omega
      cases n with
      |zero=>omega
      |succ n=>exact hm.closed hp n e.on _ (by omega) (List.getElem?_eq_getElem hol) (fun e' h1' h2'=>hp e.on _ (List.getElem?_eq_getElem hol) (he e h1 h2) e' h1' h2') j h3
theorem wK.lt {ops:List Oper} {masks:List Nat} (hm:wK ops masks) {i j:Nat} {o:Oper} (ho:ops[i]? =some o) (hj:(masks.getD i 0).testBit j=true):j<i:=
  of_decide_eq_true (hm.closed (p:=fun j=>decide (j<i)) (fun k o' ho' hk e h1 h2=>decide_eq_true (by have:=hm.back k o' ho' e h1 h2;have:=of_decide_eq_true hk;omega)) i i o (Nat.le_refl _) ho
    (fun e h1 h2=>decide_eq_true (hm.back i o ho e h1 h2)) j hj)
end Go.Proofs.Ev
set_option linter.unusedVariables false
namespace Go.Proofs.Ev
variable [Tok]
set_option linter.unusedSectionVars false
def Bu (h H:aD):Prop:=∀i B,look h i=some B→∃B',look H i=some B'∧B.gQ B'
def EA (P:Program) (o:Oper) (n:Nat) (c:CR) (s:List (Nat× SV)) (h:aD):Prop:=
  ∀(s':List (Nat× SV)) (H:aD) (a:Act) (w:World) (pl:Pl),Ext s s'→Bu h H→bH H pl w→dI w H pl s' a→(∀k,k<c.news.length→look H (n+k)=none)→fV P o a w H pl n c
theorem qR {P:Program} {T:TypeId} {h H:aD} (e:Bu h H) {x:SV} {k:Int} {v:SV} (hv:bf P T h x k=some v):bf P T H x k=some v:=by
  have sz:∀{t t':Ty},t.sz=t'.sz→slT P T t=slT P T t':=fun{t t'} e=>by unfold slT;rw[e]
  cases x with
  | own i =>
    simp only[bf]at hv⊢
    cases hl:look h i with
    |none=>rw[hl]at hv;exact nomatch hv
    | some B =>
      rw[hl]at hv
      obtain⟨B',h1,h2⟩:=e i B hl
      cases B with
      |box cs=>exact nomatch hv
      | arr sh t xs =>
        cases B' with
        |box cs=>exact h2.elim
        | arr sh' t' ys =>
          rw[h1]
          simp only at hv⊢
          rwa [←sz h2.1,←h2.2]
  | sub i o n =>
    simp only[bf]at hv⊢
    cases hl:look h i with
    |none=>rw[hl]at hv;exact nomatch hv
    | some B =>
      rw[hl]at hv
      obtain⟨B',h1,h2⟩:=e i B hl
      cases B with
      |box cs=>exact nomatch hv
      | arr sh t xs =>
        cases B' with
        |box cs=>exact h2.elim
        | arr sh' t' ys =>
          rw[h1]
          simp only at hv⊢
          rwa [←sz h2.1]
  |r d x=>cases x<;>exact hv
  |_=>exact hv
def gX (masks:List Nat) (i:Nat) (o:Oper) (rs:List DR) (t:Bool):Prop:=
  match o.guard with
  |none=>t=true
  |some (g,want)=>(masks.getD i 0).testBit g=true∧∃r d,rs[g]? =some r∧r.dst=some d∧((∃b,r.c.v=.r [] (.bool b)∧t=(b==want))∨(r.c.v=.tup []∧t=false))
def FL (E:Env) (ops:List Oper) (masks dsts:List Nat) (s0:List (Nat× SV)) (h0:aD) (rs:List DR) (i:Nat) (o:Oper) (r:DR):Prop:=
  r.dst=o.dst∧okW E o.op r.c=true∧∃x t,replay (Nat.testBit (masks.getD i 0)) 0 (rs.take i) (iI (CP masks i 0 ops) s0 (cF o.op.operands.toList),h0)=some x∧gX masks i o rs t∧
    ((t=true∧r=Em E masks i ops h0 x o r.n0 r.c∧(AL E h0 x o=false→uv E.P o r.n0 r.c (iI [] x.1 (cF o.op.operands.toList)) (zj E masks i ops x o))∧(AL E h0 x o=true→EA E.P o r.n0 r.c (iI [] x.1 (cF o.op.operands.toList)) (oD h0 (ub x o))))∨(t=false∧r.c={v:=.tup []}∧r.len=false))
theorem EB {E:Env} {ρ:Type} {o:Oper} {s:List (Nat× SV)} {h0:aD} {n:Nat} {K:CR→Option ρ} {out:ρ} (hl:FD o.op=true) (h:sw E s h0 n o.op K=some out):∃c,K c=some out∧EA E.P o n c s h0:=by
  cases ho:o.op with
  | indexAddr T x k =>
    rw[ho]at h
    have h:jl E.P s h0 (.indexAddr T x k) (fun v=>K {v:=v})=some out:=h
    rw[jm]at h
    obtain⟨v,hv,h⟩:=Option.bind_eq_some_iff.1 h
    refine⟨_,h,fun s' H a w pl es eh hr hs hn=>?_⟩
    have hv':dH E.P s' H (.indexAddr T x k)=some v:=by
      simp only[dH,Option.bind_eq_some_iff]at hv⊢
      obtain⟨x',hx,k',hk,n',hn',hv⟩:=hv
      exact⟨x',bM es _ _ hx,k',bM es _ _ hk,n',hn',qR eh hv⟩
    obtain⟨u,hu,hvr⟩:=fZ hr hs hv' o ho
    exact iL hr hu hvr
  |_=>rw[ho]at hl;exact nomatch hl
structure uB (E:Env) (ops:List Oper) (masks dsts:List Nat) (s0:List (Nat× SV)) (h0:aD) (nid0:Nat) (rs:List DR) (m nid:Nat):Prop where
  len:rs.length=m
  Gj:∀(i:Nat) (o:Oper) (r:DR),ops[i]? =some o→rs[i]? =some r→FL E ops masks dsts s0 h0 rs i o r
  lo:∀(i:Nat) (r:DR),rs[i]? =some r→nid0≤r.n0∧r.n0+r.c.news.length≤nid
  ord:∀(i j:Nat) (a b:DR),i<j→rs[i]? =some a→rs[j]? =some b→a.n0+a.c.news.length≤b.n0
theorem gX.more {masks:List Nat} {i:Nat} {o:Oper} {rs:List DR} {t:Bool} (h:gX masks i o rs t) (r:DR):gX masks i o (rs++[r]) t:=by
  unfold gX at*
  split at h
  · exact h
  · obtain⟨h1,r',d,h2,h3,h4⟩:=h
    exact⟨h1,r',d,by rw[List.getElem?_append_left (List.getElem?_eq_some_iff.1 h2).1];exact h2,h3,h4⟩
section
variable {ρ:Type} {E:Env} {ops:List Oper} {masks dsts:List Nat} {s0:List (Nat× SV)} {h0:aD} {nid0:Nat}
theorem uB.push {rs:List DR} {m nid:Nat} (F:uB E ops masks dsts s0 h0 nid0 rs m nid) (h0n:nid0≤nid) {o:Oper} {r:DR} (ho:ops[m]? =some o) (hr:FL E ops masks dsts s0 h0 (rs++[r]) m o r) (hn:r.n0=nid):
    uB E ops masks dsts s0 h0 nid0 (rs++[r]) (m+1) (nid+r.c.news.length):=by
  have hcase:∀(i:Nat) (b:DR),(rs++[r])[i]? =some b→(i<m∧rs[i]? =some b)∨(i=m∧b=r):=fun i b hb=>by
    by_cases c:i<m
    · rw[List.getElem?_append_left (by rw[F.len];exact c)]at hb;exact .inl ⟨c,hb⟩
    · rw[List.getElem?_append_right (by rw[F.len];omega),F.len]at hb
      have hi:i-m<1:=by have:=(List.getElem?_eq_some_iff.1 hb).1;simpa using this
      have:i-m=0:=by omega
      rw[this]at hb;simp at hb
      exact .inr ⟨by omega,hb.symm⟩
  refine⟨by simp[F.len],fun i o' b ho' hb=>?_,fun i b hb=>?_,fun i j a b hij ha hb=>?_⟩
  · rcases hcase i b hb with⟨hi,h⟩|⟨rfl,rfl⟩
    · obtain⟨g1,g2,x,t,g3,g4,g5⟩:=F.Gj i o' b ho' h
      exact⟨g1,g2,x,t,by rw[List.take_append_of_le_length (by rw[F.len];omega)];exact g3,g4.more r,g5⟩
    · rw[ho]at ho';cases ho';exact hr
  · rcases hcase i b hb with⟨hi,h⟩|⟨rfl,rfl⟩
    · have:=F.lo i b h;exact⟨this.1,by omega⟩
    · exact⟨by omega,by omega⟩
  · rcases hcase j b hb with⟨hj,h⟩|⟨rfl,rfl⟩
    · rcases hcase i a ha with⟨hi,h'⟩|⟨rfl,rfl⟩
      · exact F.ord i j a b hij h' h
      · omega
    · rcases hcase i a ha with⟨hi,h'⟩|⟨rfl,rfl⟩
      · have:=F.lo i a h';omega
      · omega
theorem wL:∀{rs:List DR} {g:Nat} {r:DR} {v:SV},rs[g]? =some r→r.c.v=v→Ek rs g v=rs
  |[],_,_,_,h,_=>by simp at h
  |x::l,0,r,v,h,hv=>by simp at h;subst h;subst hv;rfl
  |x::l,g+1,r,v,h,hv=>by simp only[Ek];rw[wL (rs:=l) (by simpa using h) hv]
theorem kv (hE:bY E) {out:ρ}:∀(rest:List Oper) (i nid:Nat) (rs:List DR) (K:List DR→Nat→Option ρ),jZ E ops masks dsts s0 h0 i rest nid rs K=some out→
    uB E ops masks dsts s0 h0 nid0 rs i nid→nid0≤nid→ops.drop i=rest→∃rs' nid',K rs' nid'=some out∧nid0≤nid'∧uB E ops masks dsts s0 h0 nid0 rs' (i+rest.length) nid'
  |[],i,nid,rs,K,h,F,hn,_=>⟨rs,nid,h,hn,F⟩
  | o :: rest, i, nid, rs, K, h, F, hn, hd => by
    have ho:ops[i]? =some o:=by rw[←List.head?_drop,hd];rfl
    have hd':ops.drop (i+1)=rest:=by rw[←List.drop_drop,hd];rfl
    have htake:∀r,(rs++[r]).take i=rs:=fun r=>by rw[List.take_append_of_le_length (by rw[F.len];omega),←F.len,List.take_length]
    simp only[jZ,Option.bind_eq_some_iff]at h
    obtain⟨x,hx,h⟩:=h
    have exec:∀t,(∀r,gX masks i o (rs++[r]) t)→t=true→(sw E (iI [] x.1 (cF o.op.operands.toList)) (AM E masks i ops h0 x o) nid o.op fun c=>cond (okW E o.op c) (jZ E ops masks dsts s0 h0 (i+1) rest (nid+c.news.length) (rs++[Em E masks i ops h0 x o nid c]) K) none)=some out→
        ∃rs' nid',K rs' nid'=some out∧nid0≤nid'∧uB E ops masks dsts s0 h0 nid0 rs' (i+(o::rest).length) nid':=fun t hw ht h=>by
      obtain⟨c,hc,hg⟩:∃c,(cond (okW E o.op c) (jZ E ops masks dsts s0 h0 (i+1) rest (nid+c.news.length) (rs++[Em E masks i ops h0 x o nid c]) K) none)=some out∧
          (AL E h0 x o=false→uv E.P o nid c (iI [] x.1 (cF o.op.operands.toList)) (zj E masks i ops x o))∧(AL E h0 x o=true→EA E.P o nid c (iI [] x.1 (cF o.op.operands.toList)) (oD h0 (ub x o))):=by
        unfold AM at h
        cases hL:AL E h0 x o<;>simp only[hL,cond_true,cond_false]at h
        · obtain⟨c,hc,hg⟩:=uw hE h
          exact⟨c,hc,fun _=>hg,(fun e=>nomatch e)⟩
        · have hL':=hL
          unfold AL at hL'
          simp only[Bool.and_eq_true]at hL'
          obtain⟨c,hc,hg⟩:=EB hL'.2.1 h
          exact⟨c,hc,(fun e=>nomatch e),fun _=>hg⟩
      cases hok:okW E o.op c<;>simp only[hok,cond_true,cond_false]at hc
      · exact nomatch hc
      · have F':=F.push hn (r:=Em E masks i ops h0 x o nid c) ho ⟨rfl,hok,x,t,by rw[htake];exact hx,hw _,.inl ⟨ht,rfl,hg.1,hg.2⟩⟩ rfl
        have:=kv hE rest (i+1) _ _ K hc F' (by omega) hd'
        rwa [show i+1+rest.length=i+(o::rest).length from by simp;omega]at this
    have skip:∀t,(∀r,gX masks i o (rs++[r]) t)→t=false→jZ E ops masks dsts s0 h0 (i+1) rest nid (rs++[⟨o.dst,nid,{v:=.tup []},[],[],false⟩]) K=some out→
        ∃rs' nid',K rs' nid'=some out∧nid0≤nid'∧uB E ops masks dsts s0 h0 nid0 rs' (i+(o::rest).length) nid':=fun t hw ht h=>by
      have F':=F.push hn (r:=⟨o.dst,nid,{v:=.tup []},[],[],false⟩) ho ⟨rfl,by simp only[okW,isNil,CR.kil,List.nil_append];cases gT E o.op<;>rfl,x,t,by rw[htake];exact hx,hw _,.inr ⟨ht,rfl,rfl⟩⟩ rfl
      have:=kv hE rest (i+1) _ _ K h F' (by simpa using hn) hd'
      rwa [show i+1+rest.length=i+(o::rest).length from by simp;omega]at this
    split at h
    · rename_i hg
      exact exec true (fun r=>by unfold gX;rw[hg]) rfl h
    · rename_i g want hg
      cases hb:(masks.getD i 0).testBit g<;>simp only[hb,cond_true,cond_false]at h
      · exact nomatch h
      · simp only[Option.bind_eq_some_iff]at h
        obtain⟨r,hr,d,hdst,h⟩:=h
        split at h
        · rename_i hv
          exact skip false (fun r'=>gX.more (by
            unfold gX;rw[hg];exact⟨hb,r,d,hr,hdst,.inr ⟨hv,rfl⟩⟩) r') rfl h
        · rename_i b hv
          have hw:∀r',gX masks i o (rs++[r']) (b==want):=fun r'=>gX.more (by
            unfold gX;rw[hg];exact⟨hb,r,d,hr,hdst,.inl ⟨b,hv,rfl⟩⟩) r'
          cases b<;>simp only[cond_true,cond_false]at h
          · rw[wL hr hv]at h
            cases want<;>simp only[cond_true,cond_false]at h
            · exact exec _ hw rfl h
            · exact skip _ hw rfl h
          · rw[wL hr hv]at h
            cases want<;>simp only[cond_true,cond_false]at h
            · exact skip _ hw rfl h
            · exact exec _ hw rfl h
        · exact nomatch h
end
theorem p8 {cm:DR→Bool} {masks:List Nat} {i:Nat} {r:DR}:∀{l:List DR} {k:Nat},pH cm masks i r k l=true→∀(j:Nat) (b:DR),l[j]? =some b→(masks.getD (k+j) 0).testBit i=true∨ly cm r b=true
  |[],_,_,j,b,hb=>by simp at hb
  | x :: l, k, h, j, b, hb => by
    simp only[pH]at h
    have hl:pH cm masks i r (k+1) l=true∧((masks.getD k 0).testBit i=true∨ly cm r x=true):=by
      cases h1:(masks.getD k 0).testBit i<;>simp only[h1,cond_true,cond_false]at h
      · cases h2:ly cm r x<;>simp only[h2,cond_true,cond_false]at h
        · exact nomatch h
        · exact⟨h,.inr rfl⟩
      · exact⟨h,.inl rfl⟩
    cases j with
    |zero=>simp at hb;subst hb;exact hl.2
    |succ j=>have:=p8 hl.1 j b (by simpa using hb);rwa [show k+1+j=k+(j+1)from by omega]at this
theorem lX {cm:DR→Bool} {masks:List Nat}:∀{l:List DR} {k:Nat},rf cm masks k l=true→∀(i j:Nat) (a b:DR),i<j→l[i]? =some a→l[j]? =some b→(masks.getD (k+j) 0).testBit (k+i)=true∨ly cm a b=true
  |[],_,_,i,j,a,b,_,ha,_=>by simp at ha
  | x :: l, k, h, i, j, a, b, hij, ha, hb => by
    simp only[rf]at h
    cases h1:pH cm masks k x (k+1) l<;>simp only[h1,cond_true,cond_false]at h
    · exact nomatch h
    · obtain⟨j,rfl⟩:∃j',j=j'+1:=⟨j-1,by omega⟩
      cases i with
      | zero =>
        simp at ha;subst ha
        have:=p8 h1 j b (by simpa using hb)
        rwa [show k+1+j=k+(j+1)from by omega]at this
      | succ i =>
        have:=lX h i j a b (by omega) (by simpa using ha) (by simpa using hb)
        rwa [show k+1+j=k+(j+1)from by omega,show k+1+i=k+(i+1)from by omega]at this
theorem GC {i:Nat} {l:List Nat}:mem i l=true↔i∈l:=by
  induction l with
  |nil=>simp[mem]
  | cons k l ih =>
    simp only[mem,List.mem_cons]
    cases h:Nat.beq k i
    · have:¬i=k:=fun e=>by subst e;simp at h
      simp[ih,this]
    · have:=Nat.eq_of_beq_eq_true h;simp[this]
theorem rD {n:Nat}:∀{l:List Nat},zi n l=true→∀i∈l,i+1≤n
  |[],_,i,hi=>by simp at hi
  | x :: l, h, i, hi => by
    simp only[zi]at h
    cases hm:Nat.ble (x+1) n<;>simp only[hm,cond_true,cond_false]at h
    · exact nomatch h
    · rcases List.mem_cons.1 hi with rfl|hi
      · exact Nat.le_of_ble_eq_true hm
      · exact rD h i hi
theorem la:∀{ops:List Oper} {j:Nat} {o:Oper} {t:Nat},ops[j]? =some o→o.dst=some t→t∈fa ops
  |[],j,o,t,h,_=>by simp at h
  |x::l,0,o,t,h,hd=>by simp at h;subst h;simp[fa,hd]
  | x :: l, j + 1, o, t, h, hd => by
    have:=la (ops:=l) (by simpa using h) hd
    simp only[fa];split<;>simp[this]
theorem rE:∀{ops:List Oper},(fa ops).Nodup→∀{i j:Nat} {a b:Oper} {t:Nat},i≠j→ops[i]? =some a→ops[j]? =some b→a.dst=some t→b.dst≠some t
  |[],_,i,j,a,b,t,_,h,_,_=>by simp at h
  | x :: l, hn, i, j, a, b, t, hij, ha, hb, h1 => by
    have hl:(fa l).Nodup:=by
      simp only[fa]at hn;split at hn
      · exact(List.nodup_cons.1 hn).2
      · exact hn
    have hx:∀t,x.dst=some t→t∉fa l:=fun t ht=>by
      simp only[fa,ht]at hn;exact(List.nodup_cons.1 hn).1
    intro h2
    cases i with
    | zero =>
      simp at ha;subst ha
      cases j with
      |zero=>exact hij rfl
      |succ j=>exact hx t h1 (la (by simpa using hb) h2)
    | succ i =>
      cases j with
      |zero=>simp at hb;subst hb;exact hx t h2 (la (by simpa using ha) h1)
      |succ j=>exact rE (i:=i) (j:=j) hl (by omega) (by simpa using ha) (by simpa using hb) h1 h2
theorem s4 {masks:List Nat} {i:Nat}:∀{ops:List Oper} {k j:Nat} {o:Oper} {t:Nat},ops[j]? =some o→o.dst=some t→(masks.getD (k+j) 0).testBit i=false→t∈CP masks i k ops
  |[],k,j,o,t,h,_,_=>by simp at h
  |x::l,k,0,o,t,h,hd,hb=>by simp at h;subst h;simp only[Nat.add_zero]at hb;simp only[CP,hb,cond_false,hd];exact List.mem_cons_self ..
  | x :: l, k, j + 1, o, t, h, hd, hb => by
    have:=s4 (ops:=l) (k:=k+1) (by simpa using h) hd (by rw[show k+1+j=k+(j+1)from by omega];exact hb)
    simp only[CP]
    cases(masks.getD k 0).testBit i<;>simp only[cond_true,cond_false]
    · split<;>simp[this]
    · exact this
theorem zL {T:List Nat} {s:List (Nat× SV)} {l:List Nat} {t:Nat} {v:SV} (h:look (iI T s l) t=some v):v∈sy s l:=by
  induction l with
  |nil=>exact nomatch h
  | cons k l ih =>
    simp only[iI]at h
    simp only[sy]
    cases hm:mem k T<;>simp only[hm,cond_true,cond_false]at h
    · cases hl:look s k with
      |none=>rw[hl]at h;exact ih h
      | some u =>
        rw[hl]at h
        simp only[aq]at h
        by_cases c:k=t
        · rw[if_pos c]at h;cases h;exact List.mem_cons_self
        · rw[if_neg c]at h;exact List.mem_cons_of_mem _ (ih h)
    · cases hl:look s k with
      |none=>exact ih h
      |some u=>exact List.mem_cons_of_mem _ (ih h)
theorem rF {k:Nat} {B:Blk}:∀{l:List DR},AK k B l=true→∀r∈l,look r.c.upd k=none∧mem k r.c.kil.1=false∧B.As r.c.kil=true
  |[],_,_,h=>nomatch h
  | r :: l, h, r', hr => by
    simp only[AK]at h
    cases hc:((look r.c.upd k).isNone&&(!mem k r.c.kil.1&&B.As r.c.kil))<;>rw[hc]at h<;>simp only[cond_true,cond_false]at h
    · exact nomatch h
    · rw[Bool.and_eq_true,Bool.and_eq_true,Option.isNone_iff_eq_none,Bool.not_eq_true']at hc
      rcases List.mem_cons.1 hr with rfl|hr
      · exact hc
      · exact rF h r' hr
theorem uC {h:aD} {rs:List DR} {k:Nat}:∀{L:List Nat},F2 h rs L=true→mem k L=true→∃B,look h k=some B∧∀r∈rs,look r.c.upd k=none∧mem k r.c.kil.1=false∧B.As r.c.kil=true
  |[],_,hm=>nomatch hm
  | i :: l, hc, hm => by
    simp only[F2]at hc
    split at hc
    · rename_i B hB
      cases h1:AK i B rs<;>rw[h1]at hc<;>simp only[cond_true,cond_false]at hc
      · exact nomatch hc
      · simp only[mem]at hm
        cases hb:Nat.beq i k<;>rw[hb]at hm<;>simp only[cond_true,cond_false]at hm
        · exact uC hc hm
        · have:=Nat.eq_of_beq_eq_true hb
          subst this
          exact⟨B,hB,rF h1⟩
    · exact nomatch hc
theorem oF:∀{L T:List Nat},pI L T=true→∀k,mem k L=true→mem k T=false
  |[],_,_,k,hk=>nomatch hk
  | i :: l, T, h, k, hk => by
    simp only[pI]at h
    cases hm:mem i T<;>rw[hm]at h
    · simp only[mem]at hk
      cases hb:Nat.beq i k<;>rw[hb]at hk
      · exact oF h k hk
      · rw[←Nat.eq_of_beq_eq_true hb];exact hm
    · exact nomatch h
theorem oG {L:List Nat}:∀{rs:List DR},sA L rs=true→∀k,mem k L=true→∀r∈rs,mem k r.c.kil.1=false
  |[],_,_,_,_,hr=>nomatch hr
  | r :: l, h, k, hk, r', hr => by
    simp only[sA]at h
    cases hn:pI L r.c.kil.1<;>rw[hn]at h
    · exact nomatch h
    · rcases List.mem_cons.1 hr with rfl|hr
      · exact oF hn k hk
      · exact oG h k hk r' hr
theorem p9 {cm:DR→Bool}:∀{rs:List DR},rh cm rs=true→∀r∈rs,r.len=true→de cm r=true
  |[],_,_,hr,_=>nomatch hr
  | r :: l, h, r', hr, hl => by
    simp only[rh]at h
    cases hn:(!r.len||de cm r)<;>rw[hn]at h
    · exact nomatch h
    · rcases List.mem_cons.1 hr with rfl|hr
      · rw[hl]at hn;exact hn
      · exact p9 h r' hr hl
theorem Da {T:Kil} {B:Blk} (h:B.As T=true):B.aG T=some B:=by
  cases B with
  |box cs=>simp only[Blk.aG,fk cs h]
  | arr sh t xs =>
    cases sh with
    |none=>rfl
    |some d=>simp only[Blk.aG,not_false h,cond_false]
theorem gY {p:Nat→Bool} {k:Nat} {B:Blk}:∀(l:List DR) (j:Nat) (x X:SH),(∀r∈l,look r.c.upd k=none∧mem k r.c.kil.1=false∧B.As r.c.kil=true)→look x.2 k=some B→replay p j l x=some X→look X.2 k=some B
  |[],_,x,X,_,hx,h=>by cases h;exact hx
  | r :: l, j, x, X, hl, hx, h => by
    simp only[replay]at h
    have hl':=fun r' hr=>hl r' (List.mem_cons_of_mem _ hr)
    cases hp:p j<;>rw[hp]at h<;>simp only[cond_true,cond_false]at h
    · exact gY l (j+1) x X hl' hx h
    · rw[Option.bind_eq_some_iff]at h
      obtain⟨y,hy,h⟩:=h
      obtain⟨h1,hm,h2⟩:=hl r List.mem_cons_self
      refine gY l (j+1) y X hl' ?_ h
      rw[pd hy,hm,cond_false,kr _ _ h1,hx,Option.bind_some,Da h2];rfl
theorem gv {T:List Nat} {s:List (Nat× SV)} {l:List Nat} {t:Nat} {v:SV} (h:look (iI T s l) t=some v):t∉T∧look s t=some v:=by
  induction l with
  |nil=>exact nomatch h
  | cons k l ih =>
    simp only[iI]at h
    cases hm:mem k T<;>simp only[hm,cond_true,cond_false]at h
    · cases hl:look s k with
      |none=>rw[hl]at h;exact ih h
      | some u =>
        rw[hl]at h
        rw[aq]at h
        by_cases e:k=t
        · subst e;rw[if_pos rfl]at h;cases h
          exact⟨fun h=>by rw[GC.2 h]at hm;exact(nomatch hm),hl⟩
        · rw[if_neg e]at h;exact ih h
    · exact ih h
theorem qa {E:Env} {masks:List Nat} {i:Nat}:∀{l:List Oper} {k:Nat},oC E masks i k l=false→∀(j:Nat) (o:Oper),l[j]? =some o→gT E o.op=true→FA masks i (k+j)=true
  |[],_,_,j,o,h,_=>by simp at h
  | x :: l, k, h, j, o, ho, hw => by
    simp only[oC]at h
    have hl:oC E masks i (k+1) l=false∧(gT E x.op=true→FA masks i k=true):=by
      cases h1:gT E x.op<;>simp only[h1,cond_true,cond_false]at h
      · exact⟨h,fun h=>nomatch h⟩
      · cases h2:FA masks i k<;>simp only[h2,cond_true,cond_false]at h
        · exact nomatch h
        · exact⟨h,fun _=>rfl⟩
    cases j with
    |zero=>simp at ho;subst ho;exact hl.2 hw
    |succ j=>have:=qa hl.1 j o (by simpa using ho) hw;rwa [show k+1+j=k+(j+1)from by omega]at this
end Go.Proofs.Ev
