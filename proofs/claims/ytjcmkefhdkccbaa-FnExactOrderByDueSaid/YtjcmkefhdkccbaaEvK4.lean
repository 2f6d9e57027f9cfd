/- The evaluator over the model's code, and that it is sound: part 4. -/
import Derived.Test.YtjcmkefhdkccbaaEvK3
import Derived.Lib.SliceRun
import Derived.Laws.Cover3
import Derived.Orders
set_option linter.unusedVariables false
set_option linter.unusedSimpArgs false
set_option linter.unusedVariables false
namespace Go.Proofs.Ev
variable [Tok]
set_option linter.unusedSectionVars false
section
variable {w:World} {H:GV} {pl:Pl} {P:Program}
theorem LC {t:Ty} {ys:List t.El} {zs:List t.El} {q n i j:Nat} {r:R} (hn:q+n≤ys.length) (hz:zs.length=n) (h:GM t (ys.take q++zs++ys.drop (q+n)) i j r):
    (q≤i∧i<q+n∧GM t zs (i-q) j r)∨(¬(q≤i∧i<q+n)∧GM t ys i j r):=by
  obtain⟨x,hx,hr⟩:=h
  have hl:(ys.take q).length=q:=by rw[List.length_take];omega
  by_cases c:q≤i∧i<q+n
  · rw[List.append_assoc,List.getElem?_append_right (by omega),hl,List.getElem?_append_left (by omega)]at hx
    exact .inl ⟨c.1,c.2,x,hx,hr⟩
  · refine .inr ⟨c,x,?_,hr⟩
    by_cases c1:i<q
    · rw[List.append_assoc,List.getElem?_append_left (by omega),List.getElem?_take,if_pos c1]at hx
      exact hx
    · rw[List.getElem?_append_right (by simp[hz];omega),List.getElem?_drop]at hx
      rw[←hx];congr 1;simp[hz];omega
theorem VS {t:Ty} {d:List Nat} {ys:List t.El} {i q num:Nat} {H':GV} {zs:List t.El} {us:List Value} {b m n cap:Nat}
    (hr:Hq H pl w) (hl:look H i=some (.arr (some d) t ys)) (hzl:zs.length=num) (hh:pl.hdr i=.slice (some ⟨b,m,none⟩) n cap) (hq:q+num≤ys.length) (hus:us.length=num*t.sz) (hone:∀u∈us,one u=true)
    (hin:∀x j r,GM t zs x j r→∃u,us[x*t.sz+j]? =some u∧I4 w (okd H pl d) r u) (hpos0:0<ys.length)
    (hit':hit [i] d=false) (ht:Kl H H' ([],[i]) i (.arr (some d) t (ys.take q++zs++ys.drop (q+num)))):
    ∃w',(storeCells ⟨b,m+q*t.sz,none⟩ us).run P w=.ok () w'∧∃fp',Hp H H' ([],[i]) pl (pl.set i (pl.hdr i) fp') w w':=by
  obtain⟨⟨a,cap',b',o,vs,fs,hhd,IH,ha,JR,hc,hrr,hd1,hd2,hfp⟩⟩:=(hr.blk i _ hl).Yp
  rw[hh]at hhd
  cases hhd
  have hsp:=t.IE
  have hab:b=b'∧m=o:=by
    rcases ha with h|h
    · omega
    · cases h;exact⟨rfl,rfl⟩
  obtain⟨rfl,rfl⟩:=hab
  have hpos:q*t.sz+us.length≤cap*t.sz:=by
    have:(q+num)*t.sz≤cap*t.sz:=Nat.mul_le_mul_right _ (by omega)
    rw[Nat.add_mul]at this;omega
  have hcell:∀j,j<us.length→∃u,w.at? (b,m+q*t.sz+j)=some u∧calm (w.HW (b,m+q*t.sz+j))=true:=fun j hj=>by
    obtain⟨⟨u,q1⟩,q2⟩:=JR (q*t.sz+j) (by omega)
    rw[show m+q*t.sz+j=m+(q*t.sz+j)from by omega]
    exact⟨u,q1,Ly q2⟩
  have hst:=run_storeCells_cells (P:=P) b (m+q*t.sz) us 0 w (fun j hj=>by
      obtain⟨u,q1,_⟩:=hcell j hj
      simp only[Nat.add_zero]
      have q1:w.cell? ⟨b,m+q*t.sz+j,none⟩=some u:=q1
      rw[q1];rfl) (fun j hj=>by
      obtain⟨u,q1,q2⟩:=hcell j hj
      simp only[Nat.add_zero];exact JD q1 q2) (fun u hu=>KA (hone u hu))
  simp only[Nat.add_zero]at hst
  have hcellin:∀j,j<us.length→(w.setCells b (m+q*t.sz) us).at? (b,m+q*t.sz+j)=us[j]? :=fun j hj=>by
    have:=World.cell?_setCells_in b us (m+q*t.sz) w (fun j hj=>by
      obtain⟨u,q1,_⟩:=hcell j hj
      have q1:w.cell? ⟨b,m+q*t.sz+j,none⟩=some u:=q1
      rw[q1];rfl) j hj
    rw[List.getElem?_eq_getElem hj]
    simpa[World.at?]using this
  have hcellout:∀p u,w.at? p=some u→¬(p.1=b∧m+q*t.sz≤p.2∧p.2<m+q*t.sz+us.length)→(w.setCells b (m+q*t.sz) us).at? p=some u:=fun p u hp hno=>by
    unfold World.at? at*
    rw[World.cell?_setCells_out b _ _ w _ (fun e1 _=>by simp at e1;simp;omega)]
    exact hp
  have hice:∀p,(w.setCells b (m+q*t.sz) us).HW p=w.HW p:=fun p=>Ii _ _ _ _ _
  have hregin:∀p,reg b m (cap*t.sz) p→pl.fp i p:=fun p hp=>(hfp p).2 (.inl hp)
  have hfsin:∀i' j r p,GM t ys i' j r→fs i' j p→pl.fp i p:=fun i' j r p hx hf=>(hfp p).2 (.inr ⟨i',j,r,hx,hf⟩)
  have hmi:mem i [i]=true:=by simp[mem]
  have hylen:(ys.take q++zs++ys.drop (q+num)).length=ys.length:=by simp[hzl];omega
  refine⟨_,hst,fun p=>reg b m (cap*t.sz) p∨∃i' j r,GM t ys i' j r∧¬(q≤i'∧i'<q+num)∧fs i' j p,?_⟩
  refine Jh (HG.setCells _ _ _ _) hr ht (fun x hx=>nomatch hx) (fun x hx=>?_) (.inr ⟨_,hl,hmi,by simp only[Blk.JP];exact⟨trivial,hylen.symm⟩,rfl⟩) (fun p u hp hno=>⟨hcellout p u hp fun hin=>?_,hice p⟩) (fun p hp=>?_) (fun p hp=>?_) fun hkp=>?_
  · refine .inr ?_
    simp only[mem]at hx
    cases hb:Nat.beq i x
    · rw[hb]at hx;exact nomatch hx
    · exact(Nat.eq_of_beq_eq_true hb).symm
  · exact hno i _ hmi hl (hregin p ⟨hin.1,by omega,by omega⟩)
  · refine hr.nb p ?_
    cases hq':w.at? p with
    |none=>rfl
    | some u =>
      by_cases hin:p.1=b∧m+q*t.sz≤p.2∧p.2<m+q*t.sz+us.length
      · obtain⟨p1,p2⟩:=p
        obtain⟨e1,e2,e3⟩:=hin
        simp only at e1 e2 e3
        subst e1
        have:=hcellin (p2-(m+q*t.sz)) (by omega)
        rw[show m+q*t.sz+(p2-(m+q*t.sz))=p2 from by omega,hp,List.getElem?_eq_getElem (by omega)]at this
        exact nomatch this
      · rw[hcellout p u hq' hin]at hp;exact nomatch hp
  · rcases hp with hp|⟨i',j,r,hx,_,hf⟩
    · exact .inr ⟨i,_,hmi,hl,hregin p hp⟩
    · exact .inr ⟨i,_,hmi,hl,hfsin i' j r p hx hf⟩
  · have ND:∀{i' j},j<t.sz→¬(q≤i'∧i'<q+num)→¬(m+q*t.sz≤m+(i'*t.sz+j)∧m+(i'*t.sz+j)<m+q*t.sz+us.length):=fun{i' j} hj hne ⟨g1,g2⟩=>by
      rcases Nat.lt_or_ge i' q with h|h
      · have:(i'+1)*t.sz≤q*t.sz:=Nat.mul_le_mul_right _ h
        rw[Nat.succ_mul]at this;omega
      · have h2:q+num≤i':=by omega
        have:(q+num)*t.sz≤i'*t.sz:=Nat.mul_le_mul_right _ h2
        rw[Nat.add_mul]at this;omega
    refine HV.J7 ⟨some ⟨b,m,none⟩,cap,b,m,fun i' j=>if q≤i'∧i'<q+num then(us[(i'-q)*t.sz+j]?).getD undef else vs i' j,fun i' j p=>¬(q≤i'∧i'<q+num)∧fs i' j p,by rw[hylen];simp[Pl.set,hh],by rw[hylen];exact IH,.inr rfl,fun j hj=>⟨?_,by rw[hice];exact(JR j hj).2⟩,fun i' j r hx=>?_,fun i' j r hx=>?_,fun i' j r p hx hf=>?_,fun i' j r i2 j2 r2 p hx hx' hf hf'=>?_,fun p=>?_⟩
    · by_cases hin:q*t.sz≤j∧j<q*t.sz+us.length
      · have:=hcellin (j-q*t.sz) (by omega)
        rw[show m+q*t.sz+(j-q*t.sz)=m+j from by omega]at this
        exact⟨_,this.trans (List.getElem?_eq_getElem (by omega))⟩
      · obtain⟨u,hu⟩:=(JR j hj).1
        exact⟨u,hcellout _ u hu fun h=>hin ⟨by have:=h.2.1;simp at this;omega,by have:=h.2.2;simp at this;omega⟩⟩
    · rcases LC hq hzl hx with⟨g1,g2,g3⟩|⟨g1,g2⟩
      · rw[if_pos ⟨g1,g2⟩]
        obtain⟨u,hu,_⟩:=hin _ _ _ g3
        have hlt:=(List.getElem?_eq_some_iff.1 hu).1
        have:=hcellin _ hlt
        have e:m+q*t.sz+((i'-q)*t.sz+j)=m+(i'*t.sz+j):=by
          have:i'*t.sz=q*t.sz+(i'-q)*t.sz:=by rw[←Nat.add_mul];congr 1;omega
          omega
        rw[e]at this
        rw[this,hu];rfl
      · rw[if_neg g1]
        exact hcellout _ _ (hc _ _ _ g2) fun h=>ND (GZ g2).2 g1 ⟨h.2.1,h.2.2⟩
    · rcases LC hq hzl hx with⟨g1,g2,g3⟩|⟨g1,g2⟩
      · rw[if_pos ⟨g1,g2⟩]
        obtain⟨u,hu,hI⟩:=hin _ _ _ g3
        rw[hu,Option.getD_some]
        have hno:∀p,¬(¬(q≤i'∧i'<q+num)∧fs i' j p):=fun p hf=>hf.1 ⟨g1,g2⟩
        rw[hh]
        exact⟨hI.frame fun p u hp hu=>(hh▸hkp).k2 d p u (fun x hx=>H9 _ d hit' x hx) hp hu,hno⟩
      · simp only[if_neg g1]
        have hI:=hrr _ _ _ g2
        rw[hh]
        exact⟨hI.1.frame fun p u hp hu=>(hh▸hkp).k2 d p u (fun x hx=>H9 _ d hit' x hx) hp hu,fun p hf=>hI.2 p hf.2⟩
    · rcases LC hq hzl hx with⟨g1,g2,g3⟩|⟨g1,g2⟩
      · exact(hf.1 ⟨g1,g2⟩).elim
      · exact hd1 _ _ _ p g2 hf.2
    · rcases LC hq hzl hx with⟨g1,g2,g3⟩|⟨g1,g2⟩
      · exact(hf.1 ⟨g1,g2⟩).elim
      · rcases LC hq hzl hx' with⟨q1,q2,q3⟩|⟨q1,q2⟩
        · exact(hf'.1 ⟨q1,q2⟩).elim
        · exact hd2 _ _ _ _ _ _ p g2 q2 hf.2 hf'.2
    · simp only[Pl.set,if_true]
      constructor
      · rintro (h|⟨i',j,r,hx,hne,hf⟩)
        · exact .inl h
        · have hlt:=GZ hx
          obtain⟨r',hr'⟩:=HP (t:=t) (xs:=ys.take q++zs++ys.drop (q+num)) (i:=i') (j:=j) (by rw[hylen];exact hlt.1) hlt.2
          exact .inr ⟨i',j,r',hr',hne,hf⟩
      · rintro (h|⟨i',j,r,hx,hf⟩)
        · exact .inl h
        · rcases LC hq hzl hx with⟨g1,g2,g3⟩|⟨g1,g2⟩
          · exact(hf.1 ⟨g1,g2⟩).elim
          · exact .inr ⟨_,_,_,g2,hf⟩
theorem VT {i:Nat}:∀{d:List Nat},mem i d=false→hit [i] d=false
  |[],_=>rfl
  | k :: l, h => by
    simp only[mem]at h
    cases hb:Nat.beq k i
    · rw[hb,cond_false]at h
      have:mem k [i]=false:=by
        simp only[mem]
        cases hc:Nat.beq i k
        · rfl
        · have:=Nat.eq_of_beq_eq_true hc;subst this;simp at hb
      simp only[hit,this,cond_false]
      exact VT h
    · rw[hb]at h;exact nomatch h
theorem Xj {o:Oper} {a:Act} {s:List (Nat× SV)} {n:Nat} {args:Array Operand} {tys:Array TypeId} {T e:TypeId} {sz:Nat} {t:Ty} {z:List SV} {d:List Nat} {xs:List t.El} {i q off num:Nat}
    (hr:Hq H pl w) (hs:Iv w H pl s a) (ho:o.op=.call {callee:=.builtin .append,args:=args,argTypes:=tys}) (hvs:L0 s args.toList=some [.sub i 0 q,.sub i off num]) (hty:tys.toList=[T,T])
    (he:JN P T=some e) (hsz:IY P e=some sz) (hts:t.sz=sz) (hz:Ir P e=some z) (hl:look H i=some (.arr (some d) t xs)) (hd:mem i d=false) (hq:q+num≤xs.length) (hoff:off+num≤xs.length) (hpos:1≤xs.length):
    Jr P o a w H pl n {v:=.sub i 0 (q+num),upd:=[(i,.arr (some d) t (xs.take q++(xs.drop off).take num++xs.drop (q+num)))],JO:=[i]}:=by
  refine⟨fun j B h=>?_,fun H' next Q ha hN=>?_⟩
  · rw[GK]at h
    by_cases e:i=j
    · subst e;exact⟨_,hl⟩
    · rw[if_neg e]at h;simp[look]at h
  obtain⟨ht,_⟩:=Mt (c:={v:=.sub i 0 (q+num),upd:=[(i,.arr (some d) t (xs.take q++(xs.drop off).take num++xs.drop (q+num)))],JO:=[i]}) hl rfl rfl rfl ha
  obtain⟨p,p',hpq,hp,hp'⟩:=Lz hvs
  have hpr:=G1 hs hp
  have hpr':=G1 hs hp'
  have hargs:args.map a.eval=#[a.eval p,a.eval p']:=by rw[show args=#[p,p']from Array.ext' hpq];simp
  have hta:tys=#[T,T]:=Array.ext' hty
  obtain⟨ti,hti,rfl⟩:=Jz hsz
  obtain⟨zu,hzu,hzc⟩:=I7 hr hti hz
  obtain⟨R⟩:=hr.blk i _ hl
  have IH:=R.IH
  have hA:R.a=some ⟨R.b,R.o,none⟩:=R.ha.resolve_left (by omega)
  have hhd:pl.hdr i=.slice (some ⟨R.b,R.o,none⟩) xs.length R.cap:=by rw[←hA];exact R.Ra
  have e1:a.eval p=.slice (some ⟨R.b,R.o,none⟩) q R.cap:=by
    generalize a.eval p=u at hpr
    cases hpr with
    | sub _ _ _ sh2 t2 xs2 a1 a2 cap1 cap2 hl2 hh2 hn1 hc hc' ha2 =>
      rw[hl]at hl2;cases hl2
      rw[hhd]at hh2
      cases hh2
      have hcc:cap2=R.cap:=by omega
      subst hcc
      rcases ha2 with h|h
      · omega
      · rw[h];simp[Addr.add]
  obtain⟨A3,cap3,e2,hc3,hA3⟩:∃A3 cap3,a.eval p'=.slice A3 num cap3∧num≤cap3∧(num=0∨A3=some ⟨R.b,R.o+off*t.sz,none⟩):=by
    generalize a.eval p'=u at hpr'
    cases hpr' with
    | sub _ _ _ sh2 t2 xs2 a1 a2 cap1 cap2 hl2 hh2 hn1 hc hc' ha2 =>
      rw[hl]at hl2;cases hl2
      rw[hhd]at hh2
      cases hh2
      refine⟨a2,cap2,rfl,hc,?_⟩
      rcases ha2 with h|h
      · exact .inl (by omega)
      · exact .inr (by rw[h];simp[Mq])
  have hsp:=t.IE
  have hback:∀k,k<num*t.sz→∃r,GM t xs (off+k/t.sz) (k %t.sz) r:=fun k hk=>by
    have:k/t.sz<num:=by rw[Nat.div_lt_iff_lt_mul hsp];exact hk
    exact HP (by omega) (Nat.mod_lt _ hsp)
  have hus:((List.range (num*t.sz)).map fun k=>R.vs (off+k/t.sz) (k %t.sz)).length=num*t.sz:=by simp
  generalize husd:(List.range (num*t.sz)).map (fun k=>R.vs (off+k/t.sz) (k %t.sz))=us at hus
  have hget:∀k,k<num*t.sz→us[k]? =some (R.vs (off+k/t.sz) (k %t.sz)):=fun k hk=>by rw[←husd,IL hk]
  have hcell:∀k,k<num*t.sz→w.at? (R.b,R.o+(off*t.sz+k))=some (R.vs (off+k/t.sz) (k %t.sz)):=fun k hk=>by
    obtain⟨r,hx⟩:=hback k hk
    have:=R.hc _ _ _ hx
    rw[Nat.add_mul,Nat.add_assoc,show k/t.sz*t.sz+k %t.sz=k from by rw[Nat.mul_comm];exact Nat.div_add_mod _ _]at this
    exact this
  obtain⟨w',hst,fp',hstep⟩:=VS (P:=P) (zs:=(xs.drop off).take num) (us:=us) hr hl (by rw[List.length_take,List.length_drop];omega) hhd hq hus (fun u hu=>by
      obtain⟨k,hk⟩:=List.getElem?_of_mem hu
      have hkl:k<num*t.sz:=by rw[←hus];exact(List.getElem?_eq_some_iff.1 hk).1
      rw[hget k hkl]at hk
      cases hk
      obtain⟨r,hx⟩:=hback k hkl
      exact(R.hr _ _ _ hx).1.L3) (fun x j r hx=>by
      obtain⟨y,hy,hyr⟩:=hx
      have hxl:x<num:=by have:=(List.getElem?_eq_some_iff.1 hy).1;rw[List.length_take]at this;omega
      have hjl:j<t.sz:=by have:=(List.getElem?_eq_some_iff.1 hyr).1;rwa [Ty.Hn]at this
      rw[List.getElem?_take,if_pos hxl,List.getElem?_drop]at hy
      have hx':GM t xs (off+x) j r:=⟨y,hy,hyr⟩
      refine⟨R.vs (off+x) j,?_,(R.hr _ _ _ hx').1⟩
      have hlt:x*t.sz+j<num*t.sz:=K8 hxl hjl (Nat.le_refl _)
      rw[hget _ hlt]
      have g1:(x*t.sz+j)/t.sz=x:=by rw[Nat.mul_comm,Nat.mul_add_div hsp,Nat.div_eq_of_lt hjl];simp
      have g2:(x*t.sz+j) %t.sz=j:=by rw[Nat.mul_comm,Nat.mul_add_mod,Nat.mod_eq_of_lt hjl]
      rw[g1,g2]) hpos (VT hd) ht
  have hfc:(Builtin.firstCells ti.size num (.slice A3 num cap3)).run P w=.ok us.toArray w:=by
    rw[←hts]
    rcases hA3 with h0|hA3
    · subst h0
      have hn':us=[]:=List.length_eq_zero_iff.1 (by simpa using hus)
      subst hn'
      cases A3 with
      |none=>exact run_firstCells_none w _ _ _ _
      |some A=>exact run_firstCells_some w t.sz 0 A 0 cap3 [] (by simp) (fun j v hv=>by simp at hv)
    · subst hA3
      refine run_firstCells_some w t.sz num _ num cap3 us hus fun j v hv=>?_
      have hj:j<num*t.sz:=by rw[←hus];exact(List.getElem?_eq_some_iff.1 hv).1
      rw[hget j hj]at hv;cases hv
      have:=hcell j hj
      rw[Addr.add_lit,Nat.add_assoc];exact this
  have hrun:(Builtin.append_ #[T,T] o.type #[.slice (some ⟨R.b,R.o,none⟩) q R.cap,.slice A3 num cap3]).run P w=.ok (.slice (some ⟨R.b,R.o,none⟩) (q+num) R.cap) w':=by
    have hroom:q+num≤R.cap:=by omega
    rw[hts]at hst
    simp[Builtin.append_,run_underlying (Jy he),sizeOf,typeInfo,hti,Builtin.lenOf,hroom,hfc,Addr.add_lit,hst]
  refine J6 (u:=.slice (some ⟨R.b,R.o,none⟩) (q+num) R.cap) (w':=w') ?_ (hN _ _ w' hstep ?_)
  · rw[execOp,ho,hta]
    simp only[resolve,hargs,invoke,builtin,Sem.run_bind,Sem.run_pure,Result.andThen_ok,e1,e2,hrun]
  · refine .sub i 0 (q+num) (some d) t _ (some ⟨R.b,R.o,none⟩) _ R.cap R.cap ht.Zn (by simp[Pl.set,hhd,List.length_append];omega) (by simp;omega) (by omega) (by omega) (.inr (by simp[Addr.add]))
end
end Go.Proofs.Ev
set_option linter.unusedVariables false
set_option linter.unusedSimpArgs false
namespace Go.Proofs.Ev
variable [Tok]
set_option linter.unusedSectionVars false
section
variable {w:World} {H:GV} {pl:Pl} {P:Program}
def mark (w:World) (b n:Nat):World:=w.freeze ⟨b,n,none⟩ 1
def VU (n:Nat) (fr:Nat× Nat):Nat× Nat:=if fr.1==fr.2 then(n,n+1)else(min fr.1 n,max fr.2 (n+1))
theorem M9 {b n:Nat} {c:Array Value} {e:TypeId} {fr:Nat× Nat} (h:w.heap[b]? =some (.cells c e fr)):(mark w b n).heap[b]? =some (.cells c e (VU n fr)):=by
  unfold mark World.freeze VU
  rw[if_neg (by decide)]
  simp only[Array.getElem?_modify,if_true,h]
  rfl
theorem Na {b n i:Nat} (h:i≠b):(mark w b n).heap[i]? =w.heap[i]? :=by
  unfold mark World.freeze
  rw[if_neg (by decide)]
  simp only[Array.getElem?_modify]
  rw[if_neg (fun e:b=i=>h e.symm)]
theorem VV {b n:Nat} {c:Array Value} {e:TypeId} {fr:Nat× Nat} (h:w.heap[b]? =some (.cells c e fr)) (p:Cell):(mark w b n).at? p=w.at? p:=by
  unfold World.at? World.cell?
  by_cases q:p.1=b
  · simp only[q,h,M9 h]
  · simp only[Na q]
theorem J8 {b n:Nat} {p:Cell} (h:p.1≠b):(mark w b n).HW p=w.HW p:=by
  unfold World.HW;rw[Na h]
theorem TI {b n j o m:Nat} {c:Array Value} {e:TypeId} {fr:Nat× Nat} (h:w.heap[b]? =some (.cells c e fr)) (hn:n=c.size) (hw:whole (w.HW (b,j)) o m=true):whole ((mark w b n).HW (b,j)) o m=true:=by
  unfold World.HW at*
  simp only[h]at hw
  simp only[M9 h]
  unfold whole calm at*
  simp only[Bool.and_eq_true,decide_eq_true_eq]at*
  refine⟨?_,hw.2⟩
  unfold VU
  obtain⟨lo,hi⟩:=fr
  simp only at hw⊢
  by_cases q:lo=hi
  · subst q;simp;omega
  · have:(lo==hi)=false:=by simpa using q
    rw[this]
    simp only[Bool.false_eq_true,if_false]
    omega
theorem Qn {b j:Nat} {u:Value} (h:w.at? (b,j)=some u):∃c e fr,w.heap[b]? =some (.cells c e fr)∧j<c.size:=by
  unfold World.at? World.cell? at h
  cases hb:w.heap[b]? with
  |none=>simp[hb]at h
  | some ob =>
    cases ob with
    | cells c e fr =>
      simp only[hb,Option.isSome_none,Bool.false_eq_true,if_false]at h
      exact⟨c,e,fr,rfl,(Array.getElem?_eq_some_iff.1 h).1⟩
    |_=>simp[hb]at h
theorem VW {i b n cap:Nat} {sh:Option (List Nat)} {t:Ty} {xs:List t.El} {a:Option Addr} {o:Nat} {c:Array Value} {e:TypeId} {fr:Nat× Nat} (hr:Hq H pl w) (hl:look H i=some (.arr sh t xs))
    (hb:w.heap[b]? =some (.cells c e fr)) (hc0:0<c.size) (hn:n=c.size) (hin:∀j,j<c.size→pl.fp i (b,j)) (hsz:c.size=cap*t.sz) (hrow:HV (mark w b n) H pl i (.arr sh t xs)):
    Hp H H ([],[]) pl pl w (mark w b n):=by
  have hat:=fun p=>VV (n:=n) hb p
  have hmine:∀p u,w.at? p=some u→p.1=b→pl.fp i p:=fun p u hp q=>by
    obtain⟨p1,p2⟩:=p
    simp only at q
    subst q
    obtain⟨c',e',fr',h1,h2⟩:=Qn hp
    rw[hb]at h1;cases h1
    exact hin p2 h2
  have hk:JF ([],[]) w H pl (mark w b n) H pl:=⟨fun j B hB _=>⟨B,hB,B.Hz,rfl⟩,fun d p u _ ho hp=>⟨ho,(hat p).trans hp⟩⟩
  refine⟨⟨fun j B hB=>?_,hr.dis,hr.ob,fun p hp=>hr.nb p ((hat p).symm.trans hp)⟩,hk,rfl,⟨rfl,rfl,fun k hk'=>?_⟩,fun p u hp hno=>⟨hno,(hat p).trans hp,J8 fun q=>hno i _ hl (hmine p u hp q)⟩⟩
  · by_cases q:j=i
    · subst q
      rw[hl]at hB;cases hB
      exact hrow
    · refine(hr.blk j B hB).HL hk rfl (fun _=>Iff.rfl) (fun p u hf hu=>⟨(hat p).trans hu,J8 fun q'=>q (hr.dis j i B _ p hB hl hf (hmine p u hu q'))⟩) B.HA
  · by_cases q:k=b
    · subst q
      rw[hb,M9 hb]
      exact⟨rfl,.inr hc0,rfl⟩
    · rw[Na q]
      split
      · rename_i e1 e2
        rw[e1]at e2;cases e2
        exact⟨rfl,.inl rfl,rfl⟩
      · rfl
theorem Xk {o:Oper} {a:Act} {T:TypeId} {x:Operand} {m i:Nat} {sh:Option (List Nat)} {t:Ty} {y:t.El} {ys:List t.El} (hr:Hq H pl w) (ho:o.op=.convert T T x) (hT:Nt P T=true)
    (hl:look H i=some (.arr sh t (y::ys))) (hx:GG w H pl (.own i) (a.eval x)):Jr P o a w H pl m {v:=.own i}:=by
  have ha:a.eval x=pl.hdr i:=by generalize a.eval x=u at hx;cases hx;rfl
  unfold Nt JN at hT
  split at hT
  · rename_i e he
    split at he
    · rename_i e' hu
      cases he
      split at hT
      · rename_i he8
        have hrow:=hr.blk i _ hl
        obtain⟨ad,cap,b,o',hh,hlen,hadr,JR⟩:∃ad cap b o',pl.hdr i=.slice ad (y::ys).length cap∧(y::ys).length≤cap∧(cap=0∨ad=some ⟨b,o',none⟩)∧
            (∀j,j<cap*t.sz→(∃v,w.at? (b,o'+j)=some v)∧whole (w.HW (b,o'+j)) o' (cap*t.sz)=true∧pl.fp i (b,o'+j)):=by
          cases sh with
          |none=>obtain⟨⟨ad,cap,b,o',vs,fs,q1,q2,q3,q4,q5,q6,q7,q8,q9⟩⟩:=hrow;exact⟨ad,cap,b,o',q1,q2,q3,fun j hj=>⟨(q4 j hj).1,(q4 j hj).2,(q9 _).2 (.inl ⟨rfl,by simp,by simp;omega⟩)⟩⟩
          |some d=>obtain⟨⟨ad,cap,b,o',vs,fs,q1,q2,q3,q4,q5,q6,q7,q8,q9⟩⟩:=hrow;exact⟨ad,cap,b,o',q1,q2,q3,fun j hj=>⟨(q4 j hj).1,(q4 j hj).2,(q9 _).2 (.inl ⟨rfl,by simp,by simp;omega⟩)⟩⟩
        have IH:0<cap:=by simp at hlen;omega
        have hpos:0<cap*t.sz:=Nat.mul_pos IH (Ty.IE t)
        obtain⟨⟨v0,hv0⟩,hw0,_⟩:=JR 0 hpos
        obtain⟨c,ee,fr,hb,hc0⟩:=Qn hv0
        have ho0:o'=0∧c.size=cap*t.sz:=by
          unfold whole World.HW at hw0
          simp only[hb,Bool.and_eq_true,decide_eq_true_eq]at hw0
          exact hw0.2
        obtain⟨rfl,hsz⟩:=ho0
        have hadr:=hadr.resolve_left (by omega)
        subst hadr
        have hin:∀j,j<c.size→pl.fp i (b,j):=fun j hj=>by
          have:=(JR j (by omega)).2.2
          rwa [Nat.zero_add]at this
        have hshape:w.shape? b=some (ee,c.size):=by unfold World.shape?;rw[hb]
        have hrun:(execOp a.eval o).run P w=.ok (.value (a.eval x)) (mark w b c.size):=by
          rw[execOp,ho,ha,hh]
          simp[ha,hh,convert,run_underlying hu,run_underlying he8,markStringish,hshape,mark]
        have hat:=fun p=>VV (n:=c.size) hb p
        have hk:JF ([],[]) w H pl (mark w b c.size) H pl:=⟨fun j B hB _=>⟨B,hB,B.Hz,rfl⟩,fun d p u _ ho hp=>⟨ho,(hat p).trans hp⟩⟩
        have hnb:∀p,reg b 0 (cap*t.sz) p∨p.1≠b∨w.at? p=none:=fun p=>by
          by_cases q:p.1=b
          · cases hp:w.at? p with
            |none=>exact .inr (.inr rfl)
            | some u =>
              obtain⟨p1,p2⟩:=p
              simp only at q
              subst q
              obtain⟨c',e',fr',h1,h2⟩:=Qn hp
              rw[hb]at h1;cases h1
              exact .inl ⟨rfl,Nat.zero_le _,by simp only;omega⟩
          · exact .inr (.inl q)
        have hblk:HV (mark w b c.size) H pl i (.arr sh t (y::ys)):=by
          cases sh with
          | none =>
            obtain⟨⟨ad,cap',b',o',vs,fs,q1,q2,q3,q4,q5,q6,q7,q8,q9⟩⟩:=hrow
            rw[hh]at q1;cases q1
            have q3:=q3.resolve_left (by omega)
            cases q3
            refine⟨⟨_,cap,b,0,vs,fs,hh,q2,.inr rfl,fun j hj=>⟨?_,TI hb rfl (q4 j hj).2⟩,fun i' j r h=>(hat _).trans (q5 i' j r h),fun i' j r h=>(q6 i' j r h).frame fun p u hp hu=>⟨(hat p).trans hu,J8 fun q=>?_⟩,q7,q8,q9⟩⟩
            · obtain⟨⟨v,hv⟩,_⟩:=q4 j hj
              exact⟨v,(hat _).trans hv⟩
            · rcases hnb p with h1|h1|h1
              · exact q7 _ _ _ p h hp h1
              · exact h1 q
              · rw[hu]at h1;exact nomatch h1
          | some d =>
            obtain⟨⟨ad,cap',b',o',vs,fs,q1,q2,q3,q4,q5,q6,q7,q8,q9⟩⟩:=hrow
            rw[hh]at q1;cases q1
            have q3:=q3.resolve_left (by omega)
            cases q3
            refine⟨⟨_,cap,b,0,vs,fs,hh,q2,.inr rfl,fun j hj=>⟨?_,TI hb rfl (q4 j hj).2⟩,fun i' j r h=>(hat _).trans (q5 i' j r h),fun i' j r h=>⟨(q6 i' j r h).1.frame fun p u hp hu=>⟨hp,(hat p).trans hu⟩,(q6 i' j r h).2⟩,q7,q8,q9⟩⟩
            obtain⟨⟨v,hv⟩,_⟩:=q4 j hj
            exact⟨v,(hat _).trans hv⟩
        refine⟨fun j B h=>by simp[look]at h,fun H' next Q ha' hN=>?_⟩
        cases ha'
        have hH:LV [] H++GY m []=H:=by simp[LV,GY]
        simp only[hH]at hN
        have hst:=VW (n:=c.size) hr hl hb hc0 rfl hin hsz hblk (a:=some ⟨b,0,none⟩) (o:=0)
        exact J6 hrun (hN _ pl _ hst (hx.NC hk))
      · exact nomatch hT
    · exact nomatch he
  · exact nomatch hT
end
end Go.Proofs.Ev
namespace Go.Proofs.Ev
variable [Tok]
set_option linter.unusedSectionVars false
def TJ (P:Program) (g:FuncId):Prop:=∀(args:Array Value) (w:World),(callFunc g args).run P w=.ok (.enter g args) w
theorem Rj {P:Program} {g:FuncId} {fn:Func} (h:P.funcs[g]? =some fn) (hb:fn.body.isNone=false) (hn:(fn.name== "runtime.NumGoroutine")=false):TJ P g:=by
  intro args w
  have hn':¬fn.name= "runtime.NumGoroutine":=by simpa using hn
  have hb':¬fn.body=none:=fun e=>by rw[e]at hb;exact nomatch hb
  simp[callFunc,h,hb',hn']
def VX (P:Program) (g:FuncId) (nid:Nat) (vs:List SV) (H:GV) (c:CR):Prop:=
  TJ P g∧(∀i B,look c.upd i=some B→∃B',look H i=some B')∧
  ∀ (H1 : GV) (pl : Pl) (w : World) (us : Array Value), Ext H H1 → Hq H1 pl w → (∀ k, k < c.news.length → look H1 (nid + k) = none) → vs.length = us.size →
    (∀(j:Nat) (x:SV) (u:Value),vs[j]? =some x→us[j]? =some u→GG w H1 pl x u)→∀H',after H1 nid c=some H'→
    Calls P g us w fun e w'=>∃u pl',e=.returned u∧Hp H1 H' c.kil pl pl' w w'∧GG w' H' pl' c.v u
def L9 (P:Program) (g:FuncId) (o:Orc):Prop:=
  ∀(ρ:Type) nid vs H (K:CR→Option ρ) (out:ρ),o ρ nid vs H K=some out→∃c,K c=some out∧VX P g nid vs H c
theorem Xl (P:Program) (g:FuncId):L9 P g Y7:=fun _ _ _ _ _ _ h=>nomatch h
def I8 (E:Env):Prop:=∀g,L9 E.P g (E.orc g)
section
variable {w:World} {H:GV} {pl:Pl} {P:Program}
theorem Xm {o:Oper} {a:Act} {s:List (Nat× SV)} {f:Operand} {args:Array Operand} {tys:Array TypeId} {g:FuncId} {first vs cap:List SV} {n:Nat} {c:CR} {H0:GV}
    (he:Ext H0 H) (hr:Hq H pl w) (hs:Iv w H pl s a) (hn:∀k,k<c.news.length→look H (n+k)=none) (ho:o.op=.call {callee:=.value f,args:=args,argTypes:=tys})
    (hf:opd s f=some (.fn (.func g) first cap)) (hv:L0 s args.toList=some vs) (hc:VX P g n (first++vs++cap) H0 c):Jr P o a w H pl n c:=by
  obtain⟨hen,hup,hcall⟩:=hc
  refine⟨fun i B hB=>(hup i B hB).imp fun B' h=>he i B' h,fun H' next Q ha hN=>?_⟩
  have hfr:=G1 hs hf
  obtain⟨g1,g2⟩:=Qc hs hv
  generalize hfe:a.eval f=fe at hfr
  cases hfr with
  | fn _ _ _ us vs' hl h1 hl' h2 =>
    have hlen:(first++vs++cap).length=(us++args.map a.eval++vs').size:=by simp only[List.length_append,Array.size_append,hl,hl',g1]
    have hpt:∀(j:Nat) (x:SV) (u:Value),(first++vs++cap)[j]? =some x→(us++args.map a.eval++vs')[j]? =some u→GG w H pl x u:=fun j x u hx hu=>by
      by_cases c1:j<first.length
      · rw[List.append_assoc,List.getElem?_append_left c1]at hx
        rw[Array.append_assoc,Array.getElem?_append_left (by omega)]at hu
        exact h1 j x u hx hu
      · by_cases c2:j<first.length+vs.length
        · rw[List.append_assoc,List.getElem?_append_right (by omega),List.getElem?_append_left (by omega)]at hx
          rw[Array.append_assoc,Array.getElem?_append_right (by omega),Array.getElem?_append_left (by omega)]at hu
          rw[←hl]at hu
          exact g2 _ x u hx hu
        · rw[List.append_assoc,List.getElem?_append_right (by omega),List.getElem?_append_right (by omega)]at hx
          rw[Array.append_assoc,Array.getElem?_append_right (by omega),Array.getElem?_append_right (by omega)]at hu
          rw[←hl,←g1]at hu
          exact h2 _ x u hx hu
    have hcl:=hcall H pl w _ he hr hn hlen hpt H' ha
    unfold Oper.wp
    have hrun:(execOp a.eval o).run P w=.ok (.enter g (us++args.map a.eval++vs')) w:=by
      rw[execOp,ho]
      simp only[resolve,hfe,Deferred.ofValue,invoke,Sem.run_bind,Sem.run_pure,Result.andThen_ok]
      exact hen _ w
    rw[hrun]
    show Calls P g _ w _
    refine hcl.mono fun e w' ⟨u,pl',he,hst,hv⟩=>?_
    subst he
    exact hN u pl' w' hst hv
variable {ρ:Type}
def Rk (P:Program) (o:Oper) (n:Nat) (c:CR) (s:List (Nat× SV)) (h:GV):Prop:=
  ∀(s':List (Nat× SV)) (H:GV) (a:Act) (w:World) (pl:Pl),Ext s s'→Ext h H→Hq H pl w→Iv w H pl s' a→(∀k,k<c.news.length→look H (n+k)=none)→Jr P o a w H pl n c
theorem Qo {H:GV} {n:Nat} {B:Blk} (h:∀k,k<[B].length→look H (n+k)=none):look H n=none:=h 0 (by simp)
theorem Ys (hr:Hq H pl w) {o:Oper} {a:Act} {T:TypeId} {p:Operand} {n i x k:Nat} {t:Ty} {xs:List t.El} (ho:o.op=.load T p) (hT:To P T=true)
    (hl:look H i=some (.arr none t xs)) (hk:k<t.sz) (hp:GG w H pl (.ptr i x k) (a.eval p)):Jr P o a w H pl n {v:=.inn i x k}:=by
  generalize he:a.eval p=u at hp
  cases hp with
  |MZ _ _ cs b m hl' hh=>rw[hl]at hl';exact nomatch hl'
  | Mj _ _ _ sh t' xs' b m nn cap hl' hx hh =>
    rw[hl]at hl';cases hl'
    obtain⟨⟨a',cap',b',o',vs,fs,h1,h2,h3,h4,h5,h6,h7,h8,h9⟩⟩:=hr.blk i _ hl
    rw[hh]at h1;cases h1
    have h3:=h3.resolve_left (by omega)
    cases h3
    obtain⟨r,hcell⟩:=HP hx hk
    have hat:=h5 x k r hcell
    have hone:one (vs x k)=true:=((h6 _ _ _ hcell).WX (ok:=fun _=>True) (fun _ _=>trivial)).L3
    have hfp:pl.fp i (b,m+(x*t.sz+k)):=(h9 _).2 (.inl ⟨rfl,by simp,by have:=K8 hx hk h2;simp;omega⟩)
    obtain⟨el,_,hu,_⟩:=P8 hT
    refine Kk (u:=vs x k) hr ?_ (.inn i x k none t xs b m _ _ _ hl hx hk hh ⟨hr.ob i _ _ hl hfp,fun j B hB hm hf=>?_⟩ hat hone)
    · rw[execOp,ho]
      refine HR ?_
      rw[Instr.loadAt,he]
      have hat:w.cell? ⟨b,m+(x*t.sz+k),none⟩=some (vs x k):=hat
      have h1:(loadVar T ⟨b,m+(x*t.sz+k),none⟩).run P w=.ok (vs x k) w:=by simp[loadVar,Jx hu,NZ,hu,hat]
      exact h1
    · have:=hr.dis j i _ _ _ hB hl hf hfp
      subst this
      rw[hl]at hB;cases hB
      have:=hm (by simp[mem])
      exact nomatch this
theorem SE {E:Env} {o:Oper} {s:List (Nat× SV)} {h0:GV} {n:Nat} {K:CR→Option ρ} {out:ρ} {args:Array Operand} {tys:Array TypeId} {b x:SV} {T T' e:TypeId} {sz:Nat} {t:Ty}
    (ho:o.op=.call {callee:=.builtin .append,args:=args,argTypes:=tys}) (hvs:L0 s args.toList=some [b,x]) (hty:tys.toList=[T,T']) (he:JN E.P T=some e) (hsz:IY E.P e=some sz)
    (h:Si E h0 n e sz t T' b x K=some out):∃c,K c=some out∧Rk E.P o n c s h0:=by
  unfold Si at h
  split at h
  · cases hb:(Zc E.P T'&&(K6 E.P e&&Nat.beq t.sz sz))<;>simp only[hb,cond_true,cond_false,Option.bind_eq_some_iff]at h
    · exact nomatch h
    simp only[Bool.and_eq_true]at hb
    obtain⟨l,hl,z,hz,q,hq,h⟩:=h
    cases hi:(isNil q.1&&Nat.beq z.length sz)<;>simp only[hi,cond_true,cond_false]at h
    · exact nomatch h
    simp only[Bool.and_eq_true]at hi
    split at h
    · rename_i y hy
      cases hd:decide (1≤l∧l≤(Ns:Int))<;>simp only[hd,cond_true,cond_false]at h
      · exact nomatch h
      have hd:=of_decide_eq_true hd
      have hq':IZ h0 t 1 z=some ([],[y]):=by rw[hq];obtain⟨q1,q2⟩:=q;simp only at hy hi;rw[hy,HQ hi.1]
      exact⟨_,h,fun s' H a w pl es eh hr hs hn=>OT hr hs (Qo hn) ho (I3 es _ _ hvs) hty hl hb.1 he hsz hb.2.1 (Nat.eq_of_beq_eq_true hb.2.2) hz (Nat.eq_of_beq_eq_true hi.2) (JC eh _ _ _ _ hq') hd⟩
    · exact nomatch h
  · exact nomatch h
theorem SF {P:Program} {o:Oper} {s:List (Nat× SV)} {h0:GV} {n:Nat} {K:CR→Option ρ} {out:ρ} {args:Array Operand} {tys:Array TypeId} {b x:SV} {T e:TypeId} {sz:Nat} {t:Ty} {z:List SV}
    (ho:o.op=.call {callee:=.builtin .append,args:=args,argTypes:=tys}) (hvs:L0 s args.toList=some [b,x]) (hty:tys.toList=[T,T]) (he:JN P T=some e) (hsz:IY P e=some sz) (hts:t.sz=sz) (hz:Ir P e=some z)
    (h:Sj h0 t b x K=some out):∃c,K c=some out∧Rk P o n c s h0:=by
  unfold Sj at h
  split at h
  · rename_i i a i' off num
    cases hi:Nat.beq i i'<;>simp only[hi,cond_true,cond_false]at h
    · exact nomatch h
    have:=Nat.eq_of_beq_eq_true hi
    subst this
    split at h
    · rename_i d t' xs hl
      split at h
      · rename_i htt
        subst htt
        cases hm:mem i d<;>simp only[hm,cond_true,cond_false]at h
        rotate_left
        · exact nomatch h
        cases hb:(Nat.ble (a+num) xs.length&&(Nat.ble (off+num) xs.length&&Nat.ble 1 xs.length))<;>simp only[hb,cond_true,cond_false]at h
        · exact nomatch h
        simp only[Bool.and_eq_true]at hb
        exact⟨_,h,fun s' H a w pl es eh hr hs hn=>Xj hr hs ho (I3 es _ _ hvs) hty he hsz hts hz (eh _ _ hl) hm (Nat.le_of_ble_eq_true hb.1) (Nat.le_of_ble_eq_true hb.2.1) (Nat.le_of_ble_eq_true hb.2.2)⟩
      · exact nomatch h
    · exact nomatch h
  · exact nomatch h
theorem Rm {E:Env} (hE:I8 E) {o:Oper} {s:List (Nat× SV)} {h0:GV} {n:Nat} {K:CR→Option ρ} {out:ρ}
    (h:P0 E s h0 n o.op K=some out):∃c,K c=some out∧Rk E.P o n c s h0:=by
  unfold P0 at h
  split at h
  · rename_i T ho
    simp only[Option.bind_eq_some_iff]at h
    obtain⟨z,hz,h⟩:=h
    exact⟨_,h,fun s' H a w pl es eh hr hs hn=>VI hr (Qo hn) ho hz⟩
  · rename_i T x ho
    simp only[Option.bind_eq_some_iff]at h
    obtain⟨v,hv,cs,hcs,h⟩:=h
    exact⟨_,h,fun s' H a w pl es eh hr hs hn=>Yn hr (Qo hn) ho (G1 hs (Hu es _ _ hv)) hcs⟩
  · rename_i T k parts ho
    simp only[Option.bind_eq_some_iff]at h
    obtain⟨e,he,sz,hsz,ps,hps,z,hz,h⟩:=h
    cases hb:(Nat.ble (k*sz) 16777216&&Nat.beq z.length sz)<;>simp only[hb,cond_true,cond_false,Option.bind_eq_some_iff]at h
    · exact nomatch h
    obtain⟨cs,hcs,h⟩:=h
    simp only[Bool.and_eq_true]at hb
    have h1:=Nat.le_of_ble_eq_true hb.1
    have h2:=Nat.eq_of_beq_eq_true hb.2
    have bx:K {v:=.bsl n k,news:=[.box cs]}=some out→∃c,K c=some out∧Rk E.P o n c s h0:=fun h=>
      ⟨_,h,fun s' H a w pl es eh hr hs hn=>OV hr hs (Qo hn) ho he hsz (K7 es _ _ hps) hz h2 h1 hcs⟩
    split at h
    · exact bx h
    · rename_i t ht
      cases hc:((K5 t||Nat.beq k 0)&&Nat.beq t.sz sz)<;>simp only[hc,cond_true,cond_false,Option.bind_eq_some_iff]at h
      · unfold Z4 at h
        cases hd:(E.lit&&Nat.beq t.sz sz)<;>simp only[hd,cond_true,cond_false]at h
        · exact bx h
        simp only[Bool.and_eq_true]at hd
        split at h
        · rename_i xs hx
          exact⟨_,h,fun s' H a w pl es eh hr hs hn=>LW hr hs (Qo hn) ho he hsz (K7 es _ _ hps) hz h2 h1 hcs (Nat.eq_of_beq_eq_true hd.2) (JC eh _ _ _ _ hx)⟩
        · exact bx h
      simp only[Bool.and_eq_true]at hc
      obtain⟨⟨ids,xs⟩,hx,h⟩:=h
      cases hi:isNil ids<;>simp only[hi,cond_true,cond_false]at h
      · exact nomatch h
      have:=HQ hi
      subst this
      exact⟨_,h,fun s' H a w pl es eh hr hs hn=>LW hr hs (Qo hn) ho he hsz (K7 es _ _ hps) hz h2 h1 hcs (Nat.eq_of_beq_eq_true hc.2) (JC eh _ _ _ _ hx)⟩
  · rename_i T l c ho
    simp only[Option.bind_eq_some_iff]at h
    obtain⟨e,he,sz,hsz,t,ht,z,hz,lv,hl,cv,hc,li,hli,ci,hci,h⟩:=h
    cases hb:(K6 E.P e&&Nat.beq t.sz sz)<;>simp only[hb,cond_true,cond_false,Option.bind_eq_some_iff]at h
    · exact nomatch h
    simp only[Bool.and_eq_true]at hb
    obtain⟨⟨ids,xs⟩,hx,h⟩:=h
    cases hi:(isNil ids&&Nat.beq z.length sz)<;>simp only[hi,cond_true,cond_false]at h
    · exact nomatch h
    simp only[Bool.and_eq_true]at hi
    have hids:=HQ hi.1
    subst hids
    split at h
    · rename_i y
      by_cases hd:0≤li∧li≤ci∧ci≤(Ns:Int)
      · simp only[hd,and_self,decide_true,cond_true]at h
        exact⟨_,h,fun s' H a w pl es eh hr hs hn=>Qj hr hs (Qo hn) ho (Hu es _ _ hl) (Hu es _ _ hc) hli hci he hsz hb.1 (Nat.eq_of_beq_eq_true hb.2) hz (Nat.eq_of_beq_eq_true hi.2) (JC eh _ _ _ _ hx) hd⟩
      · simp only[hd,decide_false,cond_false]at h;exact nomatch h
    · exact nomatch h
  · rename_i args tys ho
    simp only[Option.bind_eq_some_iff]at h
    obtain⟨vs,hvs,h⟩:=h
    split at h
    · rename_i b x T T' hty
      simp only[Option.bind_eq_some_iff]at h
      obtain⟨e,he,sz,hsz,t,ht,h⟩:=h
      cases hb:(K6 E.P e&&(Nat.beq t.sz sz&&Nat.beq T T'))<;>simp only[hb,cond_true,cond_false,Option.bind_eq_some_iff]at h
      · exact SE ho hvs hty he hsz h
      simp only[Bool.and_eq_true]at hb
      have hTT:T=T':=Nat.eq_of_beq_eq_true hb.2.2
      subst hTT
      have hts:=Nat.eq_of_beq_eq_true hb.2.1
      obtain⟨z,hz,h⟩:=h
      cases hzl:Nat.beq z.length sz<;>simp only[hzl,cond_true,cond_false,Option.bind_eq_some_iff]at h
      · exact nomatch h
      have hzl:=Nat.eq_of_beq_eq_true hzl
      obtain⟨⟨sh1,ids,ys⟩,hy,h⟩:=h
      split at h
      · cases hh:hit ids (sh1.getD [])<;>simp only[hh,cond_true,cond_false]at h
        · cases hn':Nat.ble ys.length Ns<;>simp only[hn',cond_true,cond_false]at h
          · exact nomatch h
          exact⟨_,h,fun s' H a w pl es eh hr hs hn=>Pm (xs:=[]) hr hs (Qo hn) ho (I3 es _ _ hvs) hty he hsz hb.1 hts hz hzl (O9 eh _ _ _ hy) (.inl ⟨rfl,rfl,rfl,rfl⟩) hh (by simpa using Nat.le_of_ble_eq_true hn')⟩
        · exact nomatch h
      · rename_i i
        split at h
        · rename_i sh t' xs hl
          split at h
          · rename_i htt
            subst htt
            simp only[Option.bind_eq_some_iff]at h
            obtain⟨sh',hj,h⟩:=h
            cases hm:mem i ids<;>simp only[hm,cond_true,cond_false]at h
            rotate_left
            · exact nomatch h
            cases hh:hit (i::ids) (sh'.getD [])<;>simp only[hh,cond_true,cond_false]at h
            rotate_left
            · exact nomatch h
            cases hn':Nat.ble (xs.length+ys.length) Ns<;>simp only[hn',cond_true,cond_false]at h
            · exact nomatch h
            exact⟨_,h,fun s' H a w pl es eh hr hs hn=>Pm hr hs (Qo hn) ho (I3 es _ _ hvs) hty he hsz hb.1 hts hz hzl (O9 eh _ _ _ hy) (.inr ⟨i,sh,rfl,eh _ _ hl,rfl,hm,hj⟩) hh (Nat.le_of_ble_eq_true hn')⟩
          · exact nomatch h
        · exact nomatch h
      · exact SF ho hvs hty he hsz hts hz h
    · exact nomatch h
  · rename_i args tys ho
    simp only[Option.bind_eq_some_iff]at h
    obtain⟨vs,hvs,h⟩:=h
    split at h
    · rename_i v T hty
      simp only[Option.bind_eq_some_iff]at h
      obtain⟨e,he,z,hz,⟨i,q,num⟩,hv,h⟩:=h
      split at h
      · rename_i sh t xs hl
        cases hzl:Nat.beq z.length t.sz<;>simp only[hzl,cond_true,cond_false,Option.bind_eq_some_iff]at h
        · exact nomatch h
        obtain⟨⟨ids,ys⟩,hy,h⟩:=h
        cases hi:isNil ids<;>simp only[hi,cond_true,cond_false]at h
        · exact nomatch h
        have hids:=HQ hi
        subst hids
        split at h
        · rename_i y
          exact⟨_,h,fun s' H a w pl es eh hr hs hn=>VR hr hs ho (I3 es _ _ hvs) hty he hz (Nat.eq_of_beq_eq_true hzl) (Xi eh hv) (eh _ _ hl) (JC eh _ _ _ _ hy)⟩
        · exact nomatch h
      · exact nomatch h
    · exact nomatch h
  · rename_i T p x ho
    simp only[Option.bind_eq_some_iff]at h
    obtain⟨p',hp,x',hx,h⟩:=h
    have arr:∀{i k off:Nat} {sh:Option (List Nat)} {t:Ty} {ys:List t.El},p'=.ptr i k off→look h0 i=some (.arr sh t ys)→NJ E.P T h0 i sh t ys k off x' K=some out→∃c,K c=some out∧Rk E.P o n c s h0:=fun e hl h3=>by
      clear h
      subst e
      obtain⟨c,h1,h2⟩:=Rh (n:=n) ho h3
      exact⟨c,h1,fun s' H a w pl es eh hr hs hn=>h2 H a w pl eh (eh _ _ hl) hr (G1 hs (Hu es _ _ hp)) (G1 hs (Hu es _ _ hx))⟩
    split at h
    · rename_i i k off
      split at h
      · rename_i cs hl
        cases hk0:Nat.beq k 0<;>simp only[hk0,cond_true,cond_false,Option.bind_eq_some_iff]at h
        · exact nomatch h
        have hk0:=Nat.eq_of_beq_eq_true hk0
        subst hk0
        obtain⟨xs,hxs,sz,hsz,h⟩:=h
        cases hb:Nat.beq sz xs.length<;>simp only[hb,cond_true,cond_false,Option.bind_eq_some_iff]at h
        · exact nomatch h
        · obtain⟨cs',hcs,h⟩:=h
          exact⟨_,h,fun s' H a w pl es eh hr hs hn=>VJ hr ho (eh _ _ hl) (G1 hs (Hu es _ _ hp)) (G1 hs (Hu es _ _ hx)) hxs hsz (Nat.eq_of_beq_eq_true hb) hcs⟩
      · rename_i sh t ys hl
        exact arr rfl hl h
      · exact nomatch h
    · exact nomatch h
  · rename_i f args tys ho
    simp only[Option.bind_eq_some_iff]at h
    obtain⟨f',hf,vs,hvs,h⟩:=h
    split at h
    · rename_i g first cap
      obtain⟨c,hc,hcs⟩:=hE g _ _ _ _ _ _ h
      exact⟨c,hc,fun s' H a w pl es eh hr hs hn=>Xm eh hr hs hn ho (Hu es _ _ hf) (I3 es _ _ hvs) hcs⟩
    · exact nomatch h
  · rename_i T x ho
    split at h
    · rename_i v hv
      unfold Za at hv
      cases hi:E.inn<;>simp only[hi,cond_true,cond_false]at hv
      · exact nomatch hv
      cases hT:To E.P T<;>simp only[hT,cond_true,cond_false]at hv
      · exact nomatch hv
      split at hv
      · rename_i i y k hx
        split at hv
        · rename_i t xs hl
          cases hk:Nat.ble (k+1) t.sz<;>simp only[hk,cond_true,cond_false,Option.some.injEq]at hv
          · exact nomatch hv
          subst hv
          exact⟨_,h,fun s' H a w pl es eh hr hs hn=>Ys hr ho hT (eh _ _ hl) (Nat.le_of_ble_eq_true hk) (G1 hs (Hu es _ _ hx))⟩
        · exact nomatch hv
      · exact nomatch hv
    · have dflt:Kv E.P s h0 (.load T x) (fun v=>K {v:=v})=some out→∃c,K c=some out∧Rk E.P o n c s h0:=fun h=>by
        rw[Kw]at h
        simp only[Option.bind_eq_some_iff]at h
        obtain⟨v,hv,h⟩:=h
        exact⟨_,h,fun s' H a w pl es eh hr hs hn=>by
          obtain⟨u,hu,hvr⟩:=Jt hr hs (MY es eh _ _ hv) o ho
          exact Kk hr hu hvr⟩
      unfold Zd at h
      cases ht:E.tak<;>simp only[ht,cond_true,cond_false]at h
      · exact dflt h
      split at h
      · rename_i i y hx
        split at h
        · rename_i st xs hl
          cases hf:K5 (.st st)<;>simp only[hf,cond_true,cond_false]at h
          · simp only[Option.bind_eq_some_iff]at h
            obtain⟨e,he,v,hv,h⟩:=h
            exact⟨_,h,fun s' H a w pl es eh hr hs hn=>Xh hr ho (eh _ _ hl) he hv (G1 hs (Hu es _ _ hx)) hn⟩
          · exact dflt h
        · exact dflt h
      · exact dflt h
  · rename_i src dst x ho
    split at h
    · rename_i i hi
      unfold Zb at hi
      cases hT:(Nat.beq src dst&&Nt E.P src)<;>simp only[hT,cond_true,cond_false]at hi
      · exact nomatch hi
      simp only[Bool.and_eq_true]at hT
      have hsd:=Nat.eq_of_beq_eq_true hT.1
      split at hi
      · rename_i j hx
        split at hi
        · rename_i sh t y ys hl
          cases hi
          subst hsd
          exact⟨_,h,fun s' H a w pl es eh hr hs hn=>Xk hr ho hT.2 (eh _ _ hl) (G1 hs (Hu es _ _ hx))⟩
        · exact nomatch hi
      · exact nomatch hi
    · rw[Kw]at h
      simp only[Option.bind_eq_some_iff]at h
      obtain⟨v,hv,h⟩:=h
      exact⟨_,h,fun s' H a w pl es eh hr hs hn=>by
        obtain⟨u,hu,hvr⟩:=Jt hr hs (MY es eh _ _ hv) o ho
        exact Kk hr hu hvr⟩
  · rw[Kw]at h
    simp only[Option.bind_eq_some_iff]at h
    obtain⟨v,hv,h⟩:=h
    exact⟨_,h,fun s' H a w pl es eh hr hs hn=>by
      obtain⟨u,hu,hvr⟩:=Jt hr hs (MY es eh _ _ hv) o rfl
      exact Kk hr hu hvr⟩
theorem SG {E:Env} (hE:I8 E) {o:Oper} {a:Act} {s:List (Nat× SV)} {n:Nat} {K:CR→Option ρ} {out:ρ}
    (hr:Hq H pl w) (hs:Iv w H pl s a) (hn:∀i,n≤i→look H i=none) (h:P0 E s H n o.op K=some out):∃c,K c=some out∧Jr E.P o a w H pl n c:=by
  obtain⟨c,h1,h2⟩:=Rm hE h
  exact⟨c,h1,h2 s H a w pl .rfl' .rfl' hr hs fun k _=>hn _ (Nat.le_add_right _ _)⟩
theorem VY {x y:Option ρ} {out:ρ} (h:both x y=some out):x=some out∧y=some out:=by
  unfold both at h
  split at h
  · rename_i e;exact⟨h,e▸h⟩
  · exact nomatch h
theorem SI {op:Op} {T:TypeId} {x:Operand} {e:Bool} (h:Tr op=some (T,x,e)):∃U,op=.binOp (cond e .eql .neq) T x (.const (.slice none 0 0)) U:=by
  unfold Tr at h
  split at h
  · cases h;exact⟨_,rfl⟩
  · cases h;exact⟨_,rfl⟩
  · exact nomatch h
theorem VZ (hr:Hq H pl w) {v:SV} {u:Value} {K:Bool→Option ρ} {out:ρ} (h:ZP H v K=some out) (hv:GG w H pl v u):
    ∃a n c,u=.slice a n c∧K a.isNone=some out:=by
  have fork:∀{α:Type} {xs:List α} {a:Option Addr},(xs=[]∨a.isSome=true)→cond (isNil xs) (both (K true) (K false)) (K false)=some out→K a.isNone=some out:=fun{α xs a} hx h=>by
    cases xs with
    | nil =>
      obtain⟨h1,h2⟩:=VY h
      cases a<;>assumption
    | cons y ys =>
      rcases hx with hx|hx
      · exact nomatch hx
      · cases a with
        |none=>exact nomatch hx
        |some a=>exact h
  unfold ZP at h
  split at h
  · cases hv;exact⟨_,_,_,rfl,h⟩
  · rename_i d t xs
    cases hv with
    | r _ _ _ hx => cases hx with
      |sl _ _ a cap b o vs IH ha hc hr'=>exact⟨_,_,_,rfl,fork (ha.imp_right fun e=>by rw[e];rfl) h⟩
  · rename_i i
    cases hv with
    | own _ sh t xs hl =>
      simp only[hl]at h
      have hb:=hr.blk i _ hl
      have:∃a cap b o,pl.hdr i=.slice a xs.length cap∧xs.length≤cap∧(cap=0∨a=some ⟨b,o,none⟩):=by
        cases sh with
        |none=>obtain⟨⟨a,cap,b,o,vs,fs,q1,q2,q3,_⟩⟩:=hb;exact⟨a,cap,b,o,q1,q2,q3⟩
        |some d=>obtain⟨⟨a,cap,b,o,vs,fs,q1,q2,q3,_⟩⟩:=hb;exact⟨a,cap,b,o,q1,q2,q3⟩
      obtain⟨a,cap,b,o,q1,q2,q3⟩:=this
      refine⟨a,_,_,q1,fork ?_ h⟩
      rcases q3 with rfl|rfl
      · exact .inl (List.length_eq_zero_iff.1 (by omega))
      · exact .inr rfl
  · exact nomatch h
theorem Yt (hr:Hq H pl w) {o:Oper} {a:Act} {T:TypeId} {x:Operand} {e:Bool} {n:Nat} (hT:To P T=true) (ho:Tr o.op=some (T,x,e)) {b:Option Addr} {l c:Nat} (hx:a.eval x=.slice b l c):
    Jr P o a w H pl n {v:=.b (cond b.isNone e (!e))}:=by
  obtain⟨U,ho⟩:=SI ho
  obtain⟨el,_,hu,_⟩:=P8 hT
  refine Kk (u:=.bool (cond b.isNone e (!e))) hr ?_ JS
  rw[execOp,ho]
  have hc:a.eval (.const (.slice none 0 0))=.slice none 0 0:=rfl
  have key:(do eqGuard (cond e .eql .neq) T x (.const (.slice none 0 0)) (a.eval x) (a.eval (.const (.slice none 0 0)));binOp (cond e .eql .neq) T (a.eval x) (a.eval (.const (.slice none 0 0))):Sem Value).run P w=.ok (.bool (cond b.isNone e (!e))) w:=by
    rw[hc,hx]
    refine guarded (fun h=>nomatch h) (fun _ h=>nomatch h) ?_
    cases e
    · rw[cond_false,run_neq_slice_nil w T el b l c hu];cases b<;>rfl
    · rw[cond_true,Lib.run_eql_slice_nil w T el b l c _ _ hu];cases b<;>rfl
  simp only[Sem.run_bind,key,Result.andThen_ok];rfl
theorem UH {E:Env} (hE:I8 E) {w0:World} {fp0:G0} {o:Oper} {st:St} {a:Act} {K:St→Option ρ} {out:ρ} {next:Act→World→Prop} {Q:Exit→Act→World→Prop}
    (hr:Rel w0 fp0 st pl a w) (h:YX E o st K=some out) (hK:∀st' pl' a' w',K st'=some out→pl'.base=pl.base→st'.n=st.n→Rel w0 fp0 st' pl' a' w'→next a' w'):o.wp E.P a w next Q:=by
  obtain⟨c,hc,hup,hsem⟩:∃c,((st.take o.dst c).bind K)=some out∧Jr E.P o a w st.heap pl st.nid c:=by
    unfold YX at h
    split at h
    · rename_i T x e ho
      cases hT:To E.P T<;>simp only[hT,cond_true,cond_false,Option.bind_eq_some_iff]at h
      · exact nomatch h
      obtain⟨v,hv,h⟩:=h
      obtain⟨b,l,c,hu,hk⟩:=VZ hr.hr h (G1 hr.sl hv)
      exact⟨_,hk,Yt hr.hr hT ho hu⟩
    · exact SG hE hr.hr hr.sl hr.fresh h
  simp only[Option.bind_eq_some_iff]at hc
  obtain⟨st',ht,hk⟩:=hc
  refine hsem st'.heap next Q (VH ht) fun u pl' w' hst hv=>?_
  have hn:st'.n=st.n:=by
    simp only[St.take,Option.bind_eq_some_iff,Option.some.injEq]at ht
    obtain⟨h1,e1,s,h2,rfl⟩:=ht
    rfl
  exact hK st' pl' _ w' hk hst.bs hn (hr.take ht hup hst hv)
end
end Go.Proofs.Ev
namespace Go.Proofs.Ev
variable [Tok]
set_option linter.unusedSectionVars false
theorem Jj (h:GV) (n:Nat) (b:Blk) (i:Nat):look (Ul h n b) i=if n=i then(look h i).map fun _=>b else look h i:=by
  induction h with
  |nil=>simp[Ul,look]
  | cons x l ih =>
    obtain⟨k,u⟩:=x
    simp only[Ul]
    cases hb:Nat.beq k n
    · simp only[cond_false,GK,ih]
      have hne:k≠n:=fun e=>by subst e;simp at hb
      by_cases e:k=i
      · subst e;simp only[if_true];rw[if_neg (fun e=>hne e.symm)]
      · simp only[if_neg e]
    · simp only[cond_true,GK]
      have:=Nat.eq_of_beq_eq_true hb
      subst this
      by_cases e:k=i<;>simp[e]
theorem HD (s:List (Nat× SV)) (dst:Option Tmp) (v:SV) (t:Nat):look (Tt s dst v) t=if dst=some t then some v else look s t:=by
  cases dst with
  |none=>simp[Tt]
  |some d=>simp[Tt,HX]
def Om {α:Type} (x y:List (Nat× α)):Prop:=∀t,look x t=look y t
theorem V0 {h h':GV} (e:Om h h') (n:Nat) (b:Blk):Om (Ul h n b) (Ul h' n b):=fun t=>by rw[Jj,Jj,e t]
theorem UI {h h':GV} (e:Om h h') (u:GV):Om (I2 u h) (I2 u h'):=by
  induction u generalizing h h' with
  |nil=>exact e
  |cons x l ih=>obtain⟨k,b⟩:=x;exact ih (V0 e k b)
theorem V3 (u h:GV) (i:Nat):(look (I2 u h) i).isSome=(look h i).isSome:=by
  induction u generalizing h with
  |nil=>rfl
  | cons x l ih =>
    obtain⟨k,b⟩:=x
    rw[I2,ih,Jj]
    by_cases e:k=i<;>simp[e]
theorem Pp {u h:GV} {i:Nat}:look (I2 u h) i=none↔look h i=none:=by
  have:=V3 u h i
  rw[←Option.not_isSome_iff_eq_none,←Option.not_isSome_iff_eq_none,this]
theorem UJ {S:Nat→Prop} {h h':GV} (e:∀i B,S i→look h i=some B→look h' i=some B) (u:GV):∀i B,S i→look (I2 u h) i=some B→look (I2 u h') i=some B:=by
  induction u generalizing h h' with
  |nil=>exact e
  | cons x l ih =>
    obtain⟨k,b⟩:=x
    refine ih fun t v ht hv=>?_
    rw[Jj]at hv⊢
    by_cases c:k=t
    · rw[if_pos c]at hv⊢
      obtain⟨y,hy,rfl⟩:=Option.map_eq_some_iff.1 hv
      rw[e t y ht hy];rfl
    · rw[if_neg c]at hv⊢;exact e t v ht hv
theorem Lg {i:Nat}:∀(u h:GV),look u i=none→look (I2 u h) i=look h i
  |[],_,_=>rfl
  | (k, b) :: l, h, e => by
    rw[GK]at e
    by_cases c:k=i
    · rw[if_pos c]at e;exact nomatch e
    · rw[if_neg c]at e
      show look (I2 l (Ul h k b)) i=_
      rw[Lg l _ e,Jj,if_neg c]
theorem Xn {h:GV} {k:Nat} (b:Blk) (hk:∃B,look h k=some B):put h k b=Ul h k b:=by
  induction h with
  |nil=>obtain⟨B,hB⟩:=hk;exact nomatch hB
  | cons x l ih =>
    obtain⟨k',u⟩:=x
    simp only[put,Ul]
    obtain⟨B,hB⟩:=hk
    rw[GK]at hB
    cases hb:Nat.beq k' k
    · have hne:k'≠k:=fun e=>by subst e;simp at hb
      rw[if_neg hne]at hB
      simp only[cond_false,ih ⟨B,hB⟩]
    · rfl
theorem Nb {u h:GV} (hd:∀i B,look u i=some B→∃B',look h i=some B'):LV u h=I2 u h:=by
  induction u generalizing h with
  |nil=>rfl
  | cons x l ih =>
    obtain⟨k,b⟩:=x
    have hk:=hd k b (by rw[GK];simp)
    simp only[LV,I2]
    rw[Xn b hk]
    refine ih fun i B hB=>?_
    rw[Jj]
    by_cases e:k=i
    · subst e;obtain⟨B',hB'⟩:=hk;exact⟨b,by simp[hB']⟩
    · rw[if_neg e];exact hd i B (by rw[GK,if_neg e];exact hB)
def Rn (x y:SH):Prop:=Om x.1 y.1∧Om x.2 y.2
theorem Rn.refl (x:SH):Rn x x:=⟨fun _=>rfl,fun _=>rfl⟩
theorem Rn.trans {x y z:SH} (h:Rn x y) (g:Rn y z):Rn x z:=⟨fun t=>(h.1 t).trans (g.1 t),fun t=>(h.2 t).trans (g.2 t)⟩
def DR.Ma (r:DR) (i:Nat):Prop:=r.n0≤i∧i<r.n0+r.c.news.length
theorem DR.Kn {r:DR} {i:Nat} (h:¬r.Ma i):look (GY r.n0 r.c.news) i=none:=by
  rw[Ha]
  by_cases c:r.n0≤i
  · rw[if_pos c];exact List.getElem?_eq_none (Nat.le_of_not_lt fun h'=>h ⟨c,by omega⟩)
  · rw[if_neg c]
theorem Oo {T:Kil} (h:T.2=[]) (x:List (Nat× SV)):Ku T x=x:=by unfold Ku;rw[h]
theorem SJ {T:Kil} (h:T.2=[]) (x:GV):IG T x=some x:=by unfold IG;rw[h]
theorem IP {r:DR} (hg:r.c.kil.2=[]) (x:SH):r.app x=some (Tt x.1 r.dst r.c.v,I2 r.c.upd x.2++GY r.n0 r.c.news):=by
  unfold DR.app;rw[SJ hg,Oo hg];rfl
theorem HE {r:DR} {x y:SH} (h:r.app x=some y):y.1=Tt (Ku r.c.kil x.1) r.dst r.c.v:=by
  unfold DR.app at h
  simp only[Option.bind_eq_some_iff,Option.some.injEq]at h
  obtain⟨hh,h1,rfl⟩:=h
  rfl
theorem NM {r:DR} {x y:SH} (h:r.app x=some y) (i:Nat):look y.2 i=(cond (mem i r.c.kil.1) none ((look (I2 r.c.upd x.2) i).bind (Blk.GW r.c.kil))).or (look (GY r.n0 r.c.news) i):=by
  unfold DR.app at h
  simp only[Option.bind_eq_some_iff,Option.some.injEq]at h
  obtain⟨hh,h1,rfl⟩:=h
  show look (hh++_) i=_
  rw[GR,Ho r.c.Ih h1 i]
theorem Xo {r:DR} (hg:r.c.kil.2=[]) {x y:SH} (e:Rn x y) {x':SH} (h:r.app x=some x'):∃y',r.app y=some y'∧Rn x' y':=by
  rw[IP hg]at h;cases h
  refine⟨_,IP hg y,fun t=>?_,fun i=>?_⟩
  · show look (Tt _ _ _) t=look (Tt _ _ _) t
    rw[HD,HD,e.1 t]
  · show look (_++_) i=look (_++_) i
    rw[GR,GR,UI e.2 _ i]
theorem HS (p:Nat→Bool):∀(l1 l2:List DR) (k:Nat) (x:SH),replay p k (l1++l2) x=(replay p k l1 x).bind (replay p (k+l1.length) l2)
  |[],l2,k,x=>by simp[replay]
  | r :: l, l2, k, x => by
    simp only[List.cons_append,replay,List.length_cons]
    cases p k
    · simp only[cond_false];rw[HS p l l2 (k+1) x,show k+1+l.length=k+(l.length+1)from by omega]
    · simp only[cond_true,Option.bind_assoc]
      congr 1;funext y;rw[HS p l l2 (k+1) y,show k+1+l.length=k+(l.length+1)from by omega]
theorem Jk {p q:Nat→Bool}:∀(l:List DR) (k:Nat) (x:SH),(∀j,j<l.length→p (k+j)=q (k+j))→replay p k l x=replay q k l x
  |[],_,_,_=>rfl
  | r :: l, k, x, h => by
    simp only[replay]
    have h0:=h 0 (by simp)
    rw[Nat.add_zero]at h0
    have ih:=fun x=>Jk (p:=p) (q:=q) l (k+1) x fun j hj=>by have:=h (j+1) (by simpa using hj);rwa [show k+(j+1)=k+1+j from by omega]at this
    rw[h0,ih x];congr 1;congr 1;exact funext ih
theorem KC {p:Nat→Bool}:∀(l:List DR) (k:Nat) (x:SH),(∀j,j<l.length→p (k+j)=false)→replay p k l x=some x
  |[],_,_,_=>rfl
  | r :: l, k, x, h => by
    simp only[replay]
    have h0:=h 0 (by simp)
    rw[Nat.add_zero]at h0
    rw[h0,cond_false]
    exact KC l (k+1) x fun j hj=>by have:=h (j+1) (by simpa using hj);rwa [show k+(j+1)=k+1+j from by omega]at this
theorem Ko {p:Nat→Bool}:∀(l:List DR) (k:Nat) (x X:SH),replay p k l x=some X→∀i B,look X.2 i=some B→(∃B',look x.2 i=some B')∨∃(j:Nat) (r:DR),l[j]? =some r∧p (k+j)=true∧r.Ma i
  |[],_,x,X,h,i,B,hB=>by cases h;exact .inl ⟨B,hB⟩
  | r :: l, k, x, X, h, i, B, hB => by
    simp only[replay]at h
    cases hp:p k<;>simp only[hp,cond_false,cond_true]at h
    · rcases Ko l (k+1) x X h i B hB with h'|⟨j,r',h1,h2,h3⟩
      · exact .inl h'
      · exact .inr ⟨j+1,r',by simpa using h1,by rwa [show k+(j+1)=k+1+j from by omega],h3⟩
    · rw [Option.bind_eq_some_iff] at h
      obtain⟨y,hy,h⟩:=h
      rcases Ko l (k+1) y X h i B hB with⟨B',h'⟩|⟨j,r',h1,h2,h3⟩
      · by_cases hm:r.Ma i
        · exact .inr ⟨0,r,rfl,hp,hm⟩
        · left
          rw[NM hy,DR.Kn hm,Option.or_none]at h'
          cases hx:look x.2 i with
          |none=>rw[Pp.2 hx]at h';cases hm':mem i r.c.kil.1<;>simp[hm']at h'
          |some b=>exact⟨b,rfl⟩
      · exact .inr ⟨j+1,r',by simpa using h1,by rwa [show k+(j+1)=k+1+j from by omega],h3⟩
theorem LD {q p:Nat→Bool}:∀(l:List DR) (k:Nat) (y z Y Z:SH),(∀j,q j=true→p j=true)→replay q k l y=some Y→replay p k l z=some Z→Ext y.1 z.1→
    (∀t v,look y.1 t=some v→∀(j:Nat) (r:DR),l[j]? =some r→p (k+j)=true→q (k+j)=false→r.dst≠some t)→
    (∀(j j':Nat) (r r':DR) t,j≠j'→l[j]? =some r→l[j']? =some r'→r.dst=some t→r'.dst≠some t)→
    (∀(j:Nat) (r:DR),l[j]? =some r→p (k+j)=true→q (k+j)=false→r.c.kil.2=[])→Ext Y.1 Z.1
  |[],_,y,z,Y,Z,_,hy,hz,he,_,_,_=>by cases hy;cases hz;exact he
  | r :: l, k, y, z, Y, Z, hqp, hy, hz, he, hd, hn, hg => by
    simp only[replay]at hy hz
    have hn':∀(j j':Nat) (r r':DR) t,j≠j'→l[j]? =some r→l[j']? =some r'→r.dst=some t→r'.dst≠some t:=fun j j' r r' t hne h1 h2=>hn (j+1) (j'+1) r r' t (by omega) (by simpa using h1) (by simpa using h2)
    have hg':∀(j:Nat) (r:DR),l[j]? =some r→p (k+1+j)=true→q (k+1+j)=false→r.c.kil.2=[]:=fun j r h1 h2 h3=>hg (j+1) r (by simpa using h1) (by rwa [show k+(j+1)=k+1+j from by omega]) (by rwa [show k+(j+1)=k+1+j from by omega])
    have hd':∀t v,look y.1 t=some v→∀(j:Nat) (r:DR),l[j]? =some r→p (k+1+j)=true→q (k+1+j)=false→r.dst≠some t:=fun t v ht j r h1 h0 h2=>hd t v ht (j+1) r (by simpa using h1) (by rwa [show k+(j+1)=k+1+j from by omega]) (by rwa [show k+(j+1)=k+1+j from by omega])
    cases hq:q k<;>simp only[hq,cond_false,cond_true]at hy
    · cases hp:p k<;>simp only[hp,cond_false,cond_true]at hz
      · exact LD l (k+1) y z Y Z hqp hy hz he hd' hn' hg'
      · rw[Option.bind_eq_some_iff]at hz
        obtain⟨z',hz',hz⟩:=hz
        have hgr:=hg 0 r rfl (by simpa using hp) (by simpa using hq)
        refine LD l (k+1) y z' Y Z hqp hy hz (fun t v ht=>?_) hd' hn' hg'
        rw[HE hz',Oo hgr,HD,if_neg (hd t v ht 0 r rfl (by simpa using hp) (by simpa using hq))]
        exact he t v ht
    · rw [hqp k hq] at hz
      simp only[cond_true]at hz
      rw[Option.bind_eq_some_iff]at hy hz
      obtain⟨y',hy',hy⟩:=hy
      obtain⟨z',hz',hz⟩:=hz
      have hsl:∀t,look y'.1 t=if r.dst=some t then some r.c.v else(look y.1 t).map (SV.GW r.c.kil):=fun t=>by rw[HE hy',HD,Hv r.c.Ih]
      have hslz:∀t,look z'.1 t=if r.dst=some t then some r.c.v else(look z.1 t).map (SV.GW r.c.kil):=fun t=>by rw[HE hz',HD,Hv r.c.Ih]
      refine LD l (k+1) y' z' Y Z hqp hy hz (fun t v ht=>?_) (fun t v ht j r' h1 h0 h2=>?_) hn' hg'
      · rw[hsl]at ht;rw[hslz]
        by_cases c:r.dst=some t
        · rw[if_pos c]at ht⊢;exact ht
        · rw[if_neg c]at ht⊢
          obtain⟨u,hu,rfl⟩:=Option.map_eq_some_iff.1 ht
          rw[he t u hu];rfl
      · rw[hsl]at ht
        by_cases c:r.dst=some t
        · exact hn 0 (j+1) r r' t (by omega) rfl (by simpa using h1) c
        · rw[if_neg c]at ht
          obtain⟨u,hu,_⟩:=Option.map_eq_some_iff.1 ht
          exact hd' t u hu j r' h1 h0 h2
theorem JH {S:Nat→Prop} {q p:Nat→Bool}:∀(l:List DR) (k:Nat) (y z Y Z:SH),(∀j,q j=true→p j=true)→replay q k l y=some Y→replay p k l z=some Z→(∀i B,S i→look y.2 i=some B→look z.2 i=some B)→
    (∀(j:Nat) (r:DR) i,l[j]? =some r→r.Ma i→look z.2 i=none)→
    (∀(j j':Nat) (r r':DR) i,j≠j'→l[j]? =some r→l[j']? =some r'→r.Ma i→¬r'.Ma i)→
    (∀(j:Nat) (r:DR),l[j]? =some r→p (k+j)=true→q (k+j)=false→r.c.kil.2=[]∧∀i,S i→look r.c.upd i=none)→∀i B,S i→look Y.2 i=some B→look Z.2 i=some B
  |[],_,y,z,Y,Z,_,hy,hz,he,_,_,_=>by cases hy;cases hz;exact he
  | r :: l, k, y, z, Y, Z, hqp, hy, hz, he, hf, hn, hg => by
    simp only[replay]at hy hz
    have hn':∀(j j':Nat) (r r':DR) i,j≠j'→l[j]? =some r→l[j']? =some r'→r.Ma i→¬r'.Ma i:=fun j j' r r' t hne h1 h2=>hn (j+1) (j'+1) r r' t (by omega) (by simpa using h1) (by simpa using h2)
    have hg':∀(j:Nat) (r:DR),l[j]? =some r→p (k+1+j)=true→q (k+1+j)=false→r.c.kil.2=[]∧∀i,S i→look r.c.upd i=none:=fun j r h1 h2 h3=>hg (j+1) r (by simpa using h1) (by rwa [show k+(j+1)=k+1+j from by omega]) (by rwa [show k+(j+1)=k+1+j from by omega])
    have hf':∀(j:Nat) (r:DR) i,l[j]? =some r→r.Ma i→look z.2 i=none:=fun j r i h1 h2=>hf (j+1) r i (by simpa using h1) h2
    have Mb:∀z',r.app z=some z'→∀(j:Nat) (r':DR) i,l[j]? =some r'→r'.Ma i→look z'.2 i=none:=fun z' hz' j r' i h1 h2=>by
      cases hx:look z'.2 i with
      |none=>rfl
      | some B =>
        rcases Ko (p:=fun _=>true) [r] 0 z z' (by simp[replay,hz']) i B hx with⟨B',hB'⟩|⟨j',r2,g1,_,g3⟩
        · rw[hf' j r' i h1 h2]at hB';exact nomatch hB'
        · cases j' with
          |zero=>simp at g1;subst g1;exact(hn 0 (j+1) r r' i (by omega) rfl (by simpa using h1) g3 h2).elim
          |succ j'=>simp at g1
    cases hq:q k<;>simp only[hq,cond_false,cond_true]at hy
    · cases hp:p k<;>simp only[hp,cond_false,cond_true]at hz
      · exact JH l (k+1) y z Y Z hqp hy hz he hf' hn' hg'
      · rw[Option.bind_eq_some_iff]at hz
        obtain⟨z',hz',hz⟩:=hz
        obtain⟨hgr,hur⟩:=hg 0 r rfl (by simpa using hp) (by simpa using hq)
        refine JH l (k+1) y z' Y Z hqp hy hz (fun i B hS hB=>?_) (Mb z' hz') hn' hg'
        rw[IP hgr]at hz'
        cases hz'
        show look (I2 r.c.upd z.2++_) i=some B
        rw[GR,Lg _ _ (hur i hS),he i B hS hB];rfl
    · rw [hqp k hq] at hz
      simp only[cond_true]at hz
      rw[Option.bind_eq_some_iff]at hy hz
      obtain⟨y',hy',hy⟩:=hy
      obtain⟨z',hz',hz⟩:=hz
      refine JH l (k+1) y' z' Y Z hqp hy hz (fun i B hS hB=>?_) (Mb z' hz') hn' hg'
      rw[NM hy']at hB
      rw[NM hz']
      cases hx:cond (mem i r.c.kil.1) none ((look (I2 r.c.upd y.2) i).bind (Blk.GW r.c.kil))with
      | some b =>
        rw[hx]at hB
        cases hm:mem i r.c.kil.1<;>simp only[hm,cond_true,cond_false]at hx⊢
        · obtain⟨b0,hb0,hb1⟩:=Option.bind_eq_some_iff.1 hx
          rw[UJ he _ i b0 hS hb0];simp only[Option.bind_some,hb1];exact hB
        · exact nomatch hx
      | none =>
        rw[hx,Option.none_or]at hB
        have hm:r.Ma i:=Classical.byContradiction fun h=>by rw[DR.Kn h]at hB;exact nomatch hB
        rw[Pp.2 (hf 0 r i rfl hm)]
        cases mem i r.c.kil.1<;>exact hB
theorem Oq {b:DR}:∀{U:GV},Zg b U=true→∀i,b.Ma i→look U i=none
  |[],_,_,_=>rfl
  | (k, _) :: l, h, i, hi => by
    simp only[Zg]at h
    cases hk:(Nat.ble (k+1) b.n0||Nat.ble (b.n0+b.c.news.length) k)<;>rw[hk]at h
    · exact nomatch h
    · rw[GK,if_neg,Oq h i hi]
      intro e
      subst e
      obtain⟨h1,h2⟩:=hi
      rw[Bool.or_eq_true]at hk
      rcases hk with hk|hk<;>have:=Nat.le_of_ble_eq_true hk<;>omega
theorem IA {a b:DR} (h:Sl a b=true):a.c.kil.2=[]∧b.c.kil.2=[]∧((b.c.upd=[]∧∀i,b.Ma i→look a.c.upd i=none)∨(a.c.upd=[]∧∀i,a.Ma i→look b.c.upd i=none)):=by
  simp only[Sl,Bool.and_eq_true,Bool.or_eq_true]at h
  have h:=h.1
  refine⟨HQ h.1.1,HQ h.1.2,?_⟩
  rcases h.2 with h|h
  · exact .inl ⟨HQ h.1,Oq h.2⟩
  · exact .inr ⟨HQ h.1,Oq h.2⟩
theorem Ot {i:Nat}:∀(u:GV) {h h':GV},look h i=look h' i→look (I2 u h) i=look (I2 u h') i
  |[],_,_,e=>e
  | (k, b) :: l, h, h', e => by
    simp only[I2]
    exact Ot l (by rw[Jj,Jj,e])
theorem Ro {a b:DR} (h:Sl a b=true):W9 b.see a.c.upd=false∧W9 a.see b.c.upd=false:=by
  simp only[Sl,Bool.and_eq_true,Bool.not_eq_true']at h
  exact h.2
theorem Rp {L:List Nat}:∀{U:GV},W9 L U=false→∀i,mem i L=true→look U i=none
  |[],_,_,_=>rfl
  | (k, b) :: l, h, i, hi => by
    simp only[W9]at h
    cases hk:mem k L<;>simp only[hk,cond_true,cond_false]at h
    · rw[GK,if_neg (fun e=>by subst e;rw[hi]at hk;exact nomatch hk)]
      exact Rp h i hi
    · exact nomatch h
theorem KE {h:GV} {i:Nat} {B:Blk}:∀{L:List Nat},look (Nv h L) i=some B→mem i L=true∧look h i=some B
  |[],e=>nomatch e
  | k :: l, e => by
    simp only[Nv]at e
    cases hk:look h k with
    | none =>
      rw[hk]at e
      obtain⟨g1,g2⟩:=KE e
      exact⟨by simp only[mem];cases Nat.beq k i<;>simp[g1],g2⟩
    | some b =>
      rw[hk]at e
      rw[GK]at e
      by_cases c:k=i
      · subst c;rw[if_pos rfl]at e;cases e
        exact⟨by simp[mem],hk⟩
      · rw[if_neg c]at e
        obtain⟨g1,g2⟩:=KE e
        exact⟨by simp only[mem];cases Nat.beq k i<;>simp[g1],g2⟩
theorem not_false {b:Bool} (h:(!b)=true):b=false:=by cases b<;>first|rfl|exact nomatch h
mutual
theorem Nc {T:Kil}:(v:SV)→v.Ve T=true→v.GW T=v
  |.r d x,h=>by rw[SV.GW,not_false h];rfl
  |.own j,h=>by rw[SV.GW,not_false h];rfl
  |.sub j o n,h=>by rw[SV.GW,not_false h];rfl
  |.bsl j n,h=>by rw[SV.GW,not_false h];rfl
  |.ptr j x o,h=>by rw[SV.GW,not_false h];rfl
  |.inn j x c,h=>by rw[SV.GW,not_false h];rfl
  |.Jp d cs,h=>by rw[SV.GW,not_false h];rfl
  |.agg cs,h=>by rw[SV.GW,I9 cs h]
  |.tup cs,h=>by rw[SV.GW,I9 cs h]
  | .fn f a b, h => by
    simp only[SV.Ve,Bool.and_eq_true]at h
    rw[SV.GW,I9 a h.1,I9 b h.2]
  |.H5,_=>rfl
  |.K0,_=>rfl
  |.undef,_=>rfl
theorem I9 {T:Kil}:(l:List SV)→N1 T l=true→Iz T l=l
  |[],_=>rfl
  | v :: l, h => by
    simp only[N1,Bool.and_eq_true]at h
    rw[Iz,Nc v h.1,I9 l h.2]
end
theorem TK {c:CR} (h:c.kil.2=[]):c.kil=([],[]):=by
  unfold CR.kil at h⊢
  rw[List.append_eq_nil_iff]at h
  rw[h.1,h.2];rfl
mutual
theorem Pq (T U:Kil):(v:SV)→(v.GW T).GW U=(v.GW U).GW T
  | .r d x => by
    simp only[SV.GW]
    cases h1:hit T.2 d<;>cases h2:hit U.2 d<;>simp only[cond_true,cond_false,SV.GW,h1,h2]
  | .own j => by
    simp only[SV.GW]
    cases h1:mem j T.1<;>cases h2:mem j U.1<;>simp only[cond_true,cond_false,SV.GW,h1,h2]
  | .sub j o n => by
    simp only[SV.GW]
    cases h1:mem j T.1<;>cases h2:mem j U.1<;>simp only[cond_true,cond_false,SV.GW,h1,h2]
  | .bsl j n => by
    simp only[SV.GW]
    cases h1:mem j T.1<;>cases h2:mem j U.1<;>simp only[cond_true,cond_false,SV.GW,h1,h2]
  | .ptr j x o => by
    simp only[SV.GW]
    cases h1:mem j T.1<;>cases h2:mem j U.1<;>simp only[cond_true,cond_false,SV.GW,h1,h2]
  | .inn j x c => by
    simp only[SV.GW]
    cases h1:(mem j T.1||mem j T.2)<;>cases h2:(mem j U.1||mem j U.2)<;>simp only[cond_true,cond_false,SV.GW,h1,h2]
  | .Jp d cs => by
    simp only[SV.GW]
    cases h1:hit T.2 d<;>cases h2:hit U.2 d<;>simp only[cond_true,cond_false,SV.GW,h1,h2]
  |.agg cs=>by simp only[SV.GW,JI T U cs]
  |.tup cs=>by simp only[SV.GW,JI T U cs]
  |.fn f a b=>by simp only[SV.GW,JI T U a,JI T U b]
  |.H5=>rfl
  |.K0=>rfl
  |.undef=>rfl
theorem JI (T U:Kil):(l:List SV)→Iz U (Iz T l)=Iz T (Iz U l)
  |[]=>rfl
  |v::l=>by simp only[Iz,Pq T U v,JI T U l]
end
variable {cm:DR→Bool}
theorem H3 {r:DR} (h:Ig cm r=true):cm r=true∧r.c.kil.2=[]∧r.c.upd=[]∧r.c.news=[]:=by
  simp only[Ig,Bool.and_eq_true]at h
  exact⟨h.2.2.2,HQ h.1,HQ h.2.1,HQ h.2.2.1⟩
theorem Pt {b a:DR} (h:Uo b a=true):a.c.v.GW b.c.kil=a.c.v:=by
  simp only[Uo,Bool.and_eq_true]at h
  exact Nc _ h.1
theorem TL {T:Kil} {u:SV}:∀{l:List SV},N1 T l=true→u∈l→u.Ve T=true
  |[],_,h=>nomatch h
  | v :: l, h, hu => by
    simp only[N1,Bool.and_eq_true]at h
    rcases List.mem_cons.1 hu with rfl|hu
    · exact h.1
    · exact TL h.2 hu
theorem TM {b a:DR} (h:Uo b a=true):∀u∈a.W7,u.GW b.c.kil=u:=by
  intro u hu
  simp only[Uo,Bool.and_eq_true]at h
  exact Nc _ (TL h.2 hu)
theorem Mx {b a:DR} (h:b.c.kil.2=[]):a.c.v.GW b.c.kil=a.c.v:=by rw[TK h];exact HA _
theorem H6 {a b:DR} (h:LR cm a b=true):
    (Ig cm a=true∧a.c.v.GW b.c.kil=a.c.v)∨(Ig cm b=true∧b.c.v.GW a.c.kil=b.c.v)∨(Ig cm a=false∧Ig cm b=false∧Sl a b=true):=by
  simp only[LR,Bool.or_eq_true,Bool.and_eq_true]at h
  rcases h with h|⟨h2,h1⟩|⟨h2,h1⟩
  · obtain⟨k1,k2,_⟩:=IA h
    cases ha:Ig cm a
    · cases hb:Ig cm b
      · exact .inr (.inr ⟨rfl,rfl,h⟩)
      · exact .inr (.inl ⟨rfl,Mx k1⟩)
    · exact .inl ⟨rfl,Mx k2⟩
  · exact .inl ⟨h1,Pt h2⟩
  · exact .inr (.inl ⟨h1,Pt h2⟩)
theorem TN {a b:DR} (h:LR cm a b=true):
    (Ig cm a=true→∀u∈a.W7,u.GW b.c.kil=u)∧(Ig cm b=true→∀u∈b.W7,u.GW a.c.kil=u):=by
  have nl:∀{c:DR} (v:SV),c.c.kil.2=[]→v.GW c.c.kil=v:=fun{c} v h=>by rw[TK h];exact HA _
  simp only[LR,Bool.or_eq_true,Bool.and_eq_true]at h
  rcases h with h|⟨h2,h1⟩|⟨h2,h1⟩
  · obtain⟨k1,k2,_⟩:=IA h
    exact⟨fun _ u _=>nl u k2,fun _ u _=>nl u k1⟩
  · exact⟨fun _=>TM h2,fun _ u _=>nl u (H3 h1).2.1⟩
  · exact⟨fun _ u _=>nl u (H3 h1).2.1,fun _=>TM h2⟩
theorem LF {r:DR} (h:Ig cm r=true) (x:SH):r.app x=some (Tt x.1 r.dst r.c.v,x.2):=by
  obtain⟨_,h1,h2,h3⟩:=H3 h
  rw[IP h1,h2,h3]
  simp only[I2,GY,List.append_nil]
theorem Lh {r:DR} {x x' y:SH} (e:x.2=x'.2) (h:r.app x=some y):∃y',r.app x'=some y'∧y.2=y'.2:=by
  unfold DR.app at h⊢
  simp only[Option.bind_eq_some_iff,Option.some.injEq]at h
  obtain⟨hh,h1,rfl⟩:=h
  rw[←e,h1]
  exact⟨_,rfl,rfl⟩
def Qp (x y:SH):Prop:=Om x.1 y.1∧x.2=y.2
theorem Qp.same {x y:SH} (h:Qp x y):Rn x y:=⟨h.1,fun t=>by rw[h.2]⟩
theorem V4 {r:DR} {x y:SH} (e:Qp x y) {x':SH} (h:r.app x=some x'):∃y',r.app y=some y'∧Qp x' y':=by
  obtain⟨y',h1,h2⟩:=Lh e.2 h
  refine⟨y',h1,fun t=>?_,h2⟩
  rw[HE h,HE h1,HD,HD,Hv r.c.Ih,Hv r.c.Ih,e.1 t]
theorem Li {p:Nat→Bool}:∀(l:List DR) (k:Nat) (x y X:SH),Qp x y→replay p k l x=some X→∃Y,replay p k l y=some Y∧Qp X Y
  |[],_,x,y,X,e,h=>by cases h;exact⟨y,rfl,e⟩
  | r :: l, k, x, y, X, e, h => by
    simp only[replay]at h⊢
    cases hp:p k<;>simp only[hp,cond_false,cond_true]at h⊢
    · exact Li l (k+1) x y X e h
    · rw[Option.bind_eq_some_iff]at h
      obtain⟨x',hx',h⟩:=h
      obtain⟨y',hy',e'⟩:=V4 e hx'
      rw[hy']
      exact Li l (k+1) x' y' X e' h
theorem JJ {p p':Nat→Bool}:∀(l:List DR) (k:Nat) (x x' X:SH),(∀(j:Nat) (r:DR),l[j]? =some r→p (k+j)≠p' (k+j)→Ig cm r=true)→x.2=x'.2→replay p k l x=some X→
    ∃X',replay p' k l x'=some X'∧X.2=X'.2
  |[],_,x,x',X,_,e,h=>by cases h;exact⟨x',rfl,e⟩
  | r :: l, k, x, x', X, hd, e, h => by
    have hd':∀(j:Nat) (r:DR),l[j]? =some r→p (k+1+j)≠p' (k+1+j)→Ig cm r=true:=fun j r h1 h2=>hd (j+1) r (by simpa using h1) (by rwa [show k+(j+1)=k+1+j from by omega])
    have h0:=hd 0 r rfl
    rw[Nat.add_zero]at h0
    simp only[replay]at h⊢
    cases hp:p k<;>cases hp':p' k<;>simp only[hp,cond_false,cond_true]at h⊢
    · exact JJ l (k+1) x x' X hd' e h
    · rw[LF (h0 (by rw[hp,hp'];exact fun h=>nomatch h)),Option.bind_some]
      exact JJ l (k+1) x (Tt x'.1 r.dst r.c.v,x'.2) X hd' e h
    · rw[LF (h0 (by rw[hp,hp'];exact fun h=>nomatch h)),Option.bind_some]at h
      exact JJ l (k+1) (Tt x.1 r.dst r.c.v,x.2) x' X hd' e h
    · rw[Option.bind_eq_some_iff]at h
      obtain⟨y,hy,h⟩:=h
      obtain⟨y',h1,h2⟩:=Lh e hy
      rw[h1,Option.bind_some]
      exact JJ l (k+1) y y' X hd' h2 h
def LY:List Kil→SV→SV
  |[],v=>v
  |T::l,v=>LY l (v.GW T)
theorem UK (l l':List Kil) (v:SV):LY (l++l') v=LY l' (LY l v):=by
  induction l generalizing v with
  |nil=>rfl
  |cons T l ih=>exact ih _
theorem SK (T:Kil) (l:List Kil) (v:SV):(LY l v).GW T=LY l (v.GW T):=by
  induction l generalizing v with
  |nil=>rfl
  |cons U l ih=>simp only[LY];rw[ih,Pq]
theorem SL {l:List Kil} {v:SV} (h:∀T∈l,v.GW T=v):LY l v=v:=by
  induction l with
  |nil=>rfl
  |cons U l ih=>simp only[LY];rw[h U (by simp)];exact ih fun T hT=>h T (by simp[hT])
theorem KF {q p:Nat→Bool} {t:Nat} {v:SV}:∀(l:List DR) (k:Nat) (y z Y Z:SH),(∀j,q j=true→p j=true)→replay q k l y=some Y→replay p k l z=some Z→look Y.1 t=some v→
    (∀(j:Nat) (r:DR),l[j]? =some r→p (k+j)=true→q (k+j)=false→r.dst≠some t∧v.GW r.c.kil=v)→
    (∀u,look y.1 t=some u→∃Ts,look z.1 t=some (LY Ts u)∧∀T∈Ts,v.GW T=v)→look Z.1 t=some v
  | [], _, y, z, Y, Z, _, hy, hz, hv, _, hi => by
    cases hy;cases hz
    obtain⟨Ts,h1,h2⟩:=hi v hv
    rw[h1,SL h2]
  | r :: l, k, y, z, Y, Z, hqp, hy, hz, hv, hd, hi => by
    simp only[replay]at hy hz
    have hd':∀(j:Nat) (r:DR),l[j]? =some r→p (k+1+j)=true→q (k+1+j)=false→r.dst≠some t∧v.GW r.c.kil=v:=fun j r h1 h2 h3=>hd (j+1) r (by simpa using h1) (by rwa [show k+(j+1)=k+1+j from by omega]) (by rwa [show k+(j+1)=k+1+j from by omega])
    cases hq:q k<;>simp only[hq,cond_false,cond_true]at hy
    · cases hp:p k<;>simp only[hp,cond_false,cond_true]at hz
      · exact KF l (k+1) y z Y Z hqp hy hz hv hd' hi
      · rw[Option.bind_eq_some_iff]at hz
        obtain⟨z',hz',hz⟩:=hz
        obtain⟨g1,g2⟩:=hd 0 r rfl (by simpa using hp) (by simpa using hq)
        refine KF l (k+1) y z' Y Z hqp hy hz hv hd' fun u hu=>?_
        obtain⟨Ts,h1,h2⟩:=hi u hu
        refine⟨Ts++[r.c.kil],?_,fun T hT=>?_⟩
        · rw[HE hz',HD,if_neg g1,Hv r.c.Ih,h1,UK];rfl
        · rcases List.mem_append.1 hT with h|h
          · exact h2 T h
          · simp at h;subst h;exact g2
    · rw[hqp k hq]at hz
      simp only[cond_true]at hz
      rw[Option.bind_eq_some_iff]at hy hz
      obtain⟨y',hy',hy⟩:=hy
      obtain⟨z',hz',hz⟩:=hz
      refine KF l (k+1) y' z' Y Z hqp hy hz hv hd' fun u hu=>?_
      rw[HE hy',HD,Hv r.c.Ih]at hu
      rw[HE hz',HD,Hv r.c.Ih]
      by_cases c:r.dst=some t
      · rw[if_pos c]at hu⊢;cases hu;exact⟨[],rfl,by simp⟩
      · rw[if_neg c]at hu⊢
        obtain⟨u0,hu0,rfl⟩:=Option.map_eq_some_iff.1 hu
        obtain⟨Ts,h1,h2⟩:=hi u0 hu0
        exact⟨Ts,by rw[h1,Option.map_some,SK],h2⟩
theorem KG {q:Nat→Bool} {t:Nat} {v:SV}:∀(l:List DR) (k:Nat) (y Y:SH),replay q k l y=some Y→look Y.1 t=some v→(∃u,look y.1 t=some u)∨∃(j:Nat) (r:DR),l[j]? =some r∧q (k+j)=true∧r.dst=some t
  |[],_,y,Y,h,hv=>by cases h;exact .inl ⟨v,hv⟩
  | r :: l, k, y, Y, h, hv => by
    simp only[replay]at h
    cases hq:q k<;>simp only[hq,cond_false,cond_true]at h
    · rcases KG l (k+1) y Y h hv with h'|⟨j,r',h1,h2,h3⟩
      · exact .inl h'
      · exact .inr ⟨j+1,r',by simpa using h1,by rwa [show k+(j+1)=k+1+j from by omega],h3⟩
    · rw [Option.bind_eq_some_iff] at h
      obtain⟨y',hy',h⟩:=h
      rcases KG l (k+1) y' Y h hv with⟨u,hu⟩|⟨j,r',h1,h2,h3⟩
      · rw[HE hy',HD,Hv r.c.Ih]at hu
        by_cases c:r.dst=some t
        · exact .inr ⟨0,r,rfl,hq,c⟩
        · rw[if_neg c]at hu
          obtain⟨u0,hu0,_⟩:=Option.map_eq_some_iff.1 hu
          exact .inl ⟨u0,hu0⟩
      · exact .inr ⟨j+1,r',by simpa using h1,by rwa [show k+(j+1)=k+1+j from by omega],h3⟩
theorem V5 {a b:DR} (ha:Ig cm a=true) (hf:a.c.v.GW b.c.kil=a.c.v) (hd:∀t,a.dst=some t→b.dst≠some t) {x y z:SH} (hy:b.app x=some y) (hz:a.app y=some z):
    ∃y' z',a.app x=some y'∧b.app y'=some z'∧Qp z z':=by
  rw[LF ha]at hz;cases hz
  obtain⟨z',h1,h2⟩:=Lh (x:=x) (x':=(Tt x.1 a.dst a.c.v,x.2)) rfl hy
  refine⟨_,z',LF ha x,h1,fun t=>?_,h2⟩
  rw[HE h1,HE hy]
  simp only[HD,Hv b.c.Ih]
  by_cases c:a.dst=some t
  · rw[if_pos c,if_neg (hd t c),if_pos c,Option.map_some,hf]
  · simp only[if_neg c]
theorem UL {a b:DR} (hb:Ig cm b=true) (hf:b.c.v.GW a.c.kil=b.c.v) (hd:∀t,a.dst=some t→b.dst≠some t) {x y z:SH} (hy:b.app x=some y) (hz:a.app y=some z):
    ∃y' z',a.app x=some y'∧b.app y'=some z'∧Qp z z':=by
  rw[LF hb]at hy;cases hy
  obtain⟨y',h1,h2⟩:=Lh (x:=(Tt x.1 b.dst b.c.v,x.2)) (x':=x) rfl hz
  refine⟨y',_,h1,LF hb y',fun t=>?_,h2⟩
  rw[HE h1,HE hz]
  simp only[HD,Hv a.c.Ih]
  by_cases c:a.dst=some t
  · simp only[if_pos c,if_neg (hd t c)]
  · simp only[if_neg c]
    by_cases c':b.dst=some t
    · simp only[if_pos c',Option.map_some,hf]
    · simp only[if_neg c']
theorem comm {a b:DR} (h:Sl a b=true) (hd:∀t,a.dst=some t→b.dst≠some t) (hm:∀i,a.Ma i→¬b.Ma i) {x y z:SH} (hy:b.app x=some y) (hz:a.app y=some z):
    ∃y' z',a.app x=some y'∧b.app y'=some z'∧Rn z z':=by
  obtain⟨ga,gb,hu⟩:=IA h
  rw[IP gb]at hy;cases hy
  rw[IP ga]at hz;cases hz
  refine⟨_,_,IP ga x,IP gb _,fun t=>?_,fun i=>?_⟩
  · simp only[HD]
    by_cases c:a.dst=some t
    · rw[if_pos c,if_neg (hd t c),if_pos c]
    · rw[if_neg c]
      by_cases c':b.dst=some t
      · rw[if_pos c',if_pos c']
      · rw[if_neg c',if_neg c',if_neg c]
  · have swap:(look (GY b.n0 b.c.news) i).or (look (GY a.n0 a.c.news) i)=(look (GY a.n0 a.c.news) i).or (look (GY b.n0 b.c.news) i):=by
      by_cases c:a.Ma i
      · rw[DR.Kn (hm i c)];simp
      · rw[DR.Kn c];simp
    have past:∀(r:DR) (u:GV),(∀i,r.Ma i→look u i=none)→look (I2 u (x.2++GY r.n0 r.c.news)) i=(look (I2 u x.2) i).or (look (GY r.n0 r.c.news) i):=fun r u hr=>by
      by_cases c:r.Ma i
      · rw[Lg _ _ (hr i c),Lg _ _ (hr i c),GR]
      · rw[DR.Kn c,Option.or_none]
        exact Ot u (by rw[GR,DR.Kn c,Option.or_none])
    rcases hu with⟨u1,u2⟩|⟨u1,u2⟩
    · simp only[u1,I2,GR,Option.or_assoc]
      rw[past b _ u2,Option.or_assoc,swap]
    · simp only[u1,I2,GR,Option.or_assoc]
      rw[past a _ u2,Option.or_assoc,swap]
theorem Mc {p:Nat→Bool}:∀(l:List DR) (k:Nat) (x y X:SH),(∀(j:Nat) (r:DR),l[j]? =some r→p (k+j)=true→r.c.kil.2=[])→Rn x y→replay p k l x=some X→∃Y,replay p k l y=some Y∧Rn X Y
  |[],_,x,y,X,_,e,h=>by cases h;exact⟨y,rfl,e⟩
  | r :: l, k, x, y, X, hg, e, h => by
    have hg':∀(j:Nat) (r:DR),l[j]? =some r→p (k+1+j)=true→r.c.kil.2=[]:=fun j r h1 h2=>hg (j+1) r (by simpa using h1) (by rwa [show k+(j+1)=k+1+j from by omega])
    simp only[replay]at h⊢
    cases hp:p k<;>simp only[hp,cond_false,cond_true]at h⊢
    · exact Mc l (k+1) x y X hg' e h
    · rw[Option.bind_eq_some_iff]at h
      obtain⟨x',hx',h⟩:=h
      obtain⟨y',hy',e'⟩:=Xo (hg 0 r rfl (by simpa using hp)) e hx'
      rw[hy']
      exact Mc l (k+1) x' y' X hg' e' h
theorem J9 {p:Nat→Bool} {a:DR} (hi:Ig cm a=true):∀(l:List DR) (k:Nat) (x X X':SH),
    (∀(j:Nat) (r:DR),l[j]? =some r→p (k+j)=true→a.c.v.GW r.c.kil=a.c.v∧(∀t,a.dst=some t→r.dst≠some t))→
    replay p k l x=some X→a.app X=some X'→∃x' X'',a.app x=some x'∧replay p k l x'=some X''∧Qp X' X''
  |[],_,x,X,X',_,h,ha=>by cases h;exact⟨X',X',ha,rfl,fun _=>rfl,rfl⟩
  | r :: l, k, x, X, X', hc, h, ha => by
    have hc':∀(j:Nat) (r:DR),l[j]? =some r→p (k+1+j)=true→a.c.v.GW r.c.kil=a.c.v∧(∀t,a.dst=some t→r.dst≠some t):=fun j r h1 h2=>hc (j+1) r (by simpa using h1) (by rwa [show k+(j+1)=k+1+j from by omega])
    simp only[replay]at h⊢
    cases hp:p k<;>simp only[hp,cond_false,cond_true]at h⊢
    · exact J9 hi l (k+1) x X X' hc' h ha
    · rw[Option.bind_eq_some_iff]at h
      obtain⟨y,hy,h⟩:=h
      obtain⟨y',Y'',h1,h2,h3⟩:=J9 hi l (k+1) y X X' hc' h ha
      obtain⟨c1,c2⟩:=hc 0 r rfl (by simpa using hp)
      obtain⟨x',z',g1,g2,g3⟩:=V5 hi c1 c2 hy h1
      obtain⟨W,w1,w2⟩:=Li l (k+1) y' z' Y'' g3 h2
      exact⟨x',W,g1,by rw[g2];exact w1,fun t=>(h3.1 t).trans (w2.1 t),h3.2.trans w2.2⟩
theorem Ka {p:Nat→Bool} {a:DR} (hi:Ig cm a=false):∀(l:List DR) (k:Nat) (x X X':SH),
    (∀(j:Nat) (r:DR),l[j]? =some r→p (k+j)=true→LR cm a r=true∧(∀t,a.dst=some t→r.dst≠some t)∧∀i,a.Ma i→¬r.Ma i)→
    replay p k l x=some X→a.app X=some X'→∃x' X'',a.app x=some x'∧replay p k l x'=some X''∧Rn X' X''
  |[],_,x,X,X',_,h,ha=>by cases h;exact⟨X',X',ha,rfl,Rn.refl _⟩
  | r :: l, k, x, X, X', hc, h, ha => by
    have hc':∀(j:Nat) (r:DR),l[j]? =some r→p (k+1+j)=true→LR cm a r=true∧(∀t,a.dst=some t→r.dst≠some t)∧∀i,a.Ma i→¬r.Ma i:=fun j r h1 h2=>hc (j+1) r (by simpa using h1) (by rwa [show k+(j+1)=k+1+j from by omega])
    have kil0:∀(r:DR),LR cm a r=true→r.c.kil.2=[]:=fun r h=>by
      rcases H6 h with⟨h1,_⟩|⟨h1,_⟩|⟨_,_,h1⟩
      · rw[hi]at h1;exact nomatch h1
      · exact(H3 h1).2.1
      · exact(IA h1).2.1
    simp only[replay]at h⊢
    cases hp:p k<;>simp only[hp,cond_false,cond_true]at h⊢
    · exact Ka hi l (k+1) x X X' hc' h ha
    · rw [Option.bind_eq_some_iff] at h
      obtain⟨y,hy,h⟩:=h
      obtain⟨y',Y'',h1,h2,h3⟩:=Ka hi l (k+1) y X X' hc' h ha
      obtain⟨c1,c2,c3⟩:=hc 0 r rfl (by simpa using hp)
      have hcm:∃y'' z',a.app x=some y''∧r.app y''=some z'∧Rn y' z':=by
        rcases H6 c1 with⟨h1',_⟩|⟨h1',h2'⟩|⟨_,_,h1'⟩
        · rw[hi]at h1';exact nomatch h1'
        · obtain⟨u1,u2,u3,u4,u5⟩:=UL h1' h2' c2 hy h1
          exact⟨u1,u2,u3,u4,u5.same⟩
        · exact comm h1' c2 c3 hy h1
      obtain⟨x',z',g1,g2,g3⟩:=hcm
      obtain⟨W,w1,w2⟩:=Mc l (k+1) y' z' Y'' (fun j r h1 h2=>kil0 r (hc' j r h1 h2).1) g3 h2
      exact⟨x',W,g1,by rw[g2];exact w1,h3.trans w2⟩
theorem Qq {p:Nat→Bool} {a:DR} (l:List DR) (k:Nat) (x X X':SH)
    (hc:∀(j:Nat) (r:DR),l[j]? =some r→p (k+j)=true→LR cm a r=true∧(∀t,a.dst=some t→r.dst≠some t)∧∀i,a.Ma i→¬r.Ma i)
    (h:replay p k l x=some X) (ha:a.app X=some X'):∃x' X'',a.app x=some x'∧replay p k l x'=some X''∧Rn X' X'':=by
  cases hi:Ig cm a with
  |false=>exact Ka hi l k x X X' hc h ha
  | true =>
    obtain⟨u1,u2,u3,u4,u5⟩:=J9 hi l k x X X' (fun j r h1 h2=>by
      obtain⟨c1,c2,_⟩:=hc j r h1 h2
      refine⟨?_,c2⟩
      rcases H6 c1 with⟨_,h⟩|⟨h,_⟩|⟨h,_,_⟩
      · exact h
      · exact Mx (H3 h).2.1
      · rw[hi]at h;exact nomatch h) h ha
    exact⟨u1,u2,u3,u4,u5.same⟩
theorem Qs {p p':Nat→Bool} {l:List DR} {i:Nat} {a:DR} {x X X':SH} (hi:l[i]? =some a) (hpi:p i=false) (hpi':p' i=true) (hpp:∀j,j≠i→p' j=p j)
    (hc:∀(j:Nat) (r:DR),i<j→l[j]? =some r→p j=true→LR cm a r=true∧(∀t,a.dst=some t→r.dst≠some t)∧∀i,a.Ma i→¬r.Ma i)
    (h:replay p 0 l x=some X) (ha:a.app X=some X'):∃X'',replay p' 0 l x=some X''∧Rn X' X'':=by
  have hlt:=(List.getElem?_eq_some_iff.1 hi).1
  have hsplit:l=l.take i++a::l.drop (i+1):=by
    conv=>lhs;rw[←List.take_append_drop i l]
    rw[List.drop_eq_getElem_cons hlt,(List.getElem?_eq_some_iff.1 hi).2]
  have hl:(l.take i).length=i:=by simp;omega
  rw[hsplit,HS,Option.bind_eq_some_iff]at h
  obtain⟨y,hy,h⟩:=h
  rw[hl,Nat.zero_add]at h
  simp only[replay,hpi,cond_false]at h
  obtain⟨y',X'',g1,g2,g3⟩:=Qq (l.drop (i+1)) (i+1) y X X' (fun j r h1 h2=>hc (i+1+j) r (by omega) (by rwa [List.getElem?_drop]at h1) h2) h ha
  refine⟨X'',?_,g3⟩
  rw[hsplit,HS,hl,Nat.zero_add]
  rw[Jk (q:=p) (l.take i) 0 x fun j hj=>by rw[hl]at hj;rw[Nat.zero_add];exact hpp j (by omega),hy]
  simp only[Option.bind_some,replay,hpi',cond_true,g1]
  rw[Jk (q:=p) (l.drop (i+1)) (i+1) y' fun j hj=>hpp _ (by omega)]
  exact g2
theorem Md {p:Nat→Bool} {t:Nat} {x0:SV} (hx0:∀T,x0.GW T=x0):∀(l:List DR) (k:Nat) (x X:SH),replay p k l x=some X→(∀(j:Nat) (r:DR),l[j]? =some r→r.dst≠some t)→look x.1 t=some x0→look X.1 t=some x0
  |[],_,x,X,h,_,hx=>by cases h;exact hx
  | r :: l, k, x, X, h, hd, hx => by
    have hd':∀(j:Nat) (r:DR),l[j]? =some r→r.dst≠some t:=fun j r h1=>hd (j+1) r (by simpa using h1)
    simp only[replay]at h
    cases hp:p k<;>simp only[hp,cond_false,cond_true]at h
    · exact Md hx0 l (k+1) x X h hd' hx
    · rw[Option.bind_eq_some_iff]at h
      obtain⟨y,hy,h⟩:=h
      refine Md hx0 l (k+1) y X h hd' ?_
      rw[HE hy,HD,if_neg (hd 0 r rfl)]
      rw[Hv r.c.Ih,hx,Option.map_some,hx0]
end Go.Proofs.Ev
set_option linter.unusedVariables false
namespace Go.Proofs.Ev
variable [Tok]
set_option linter.unusedSectionVars false
def Rl (w0:World) (fp0:G0) (bs:Cell→Prop) (n:Nat) (st:St) (a:Act) (w:World):Prop:=∃pl,Rel w0 fp0 st pl a w∧pl.base=bs∧st.n=n
section
variable {w:World} {H H':GV} {pl:Pl}
theorem Pu (e:Om H' H):JF ([],[]) w H pl w H' pl:=
  ⟨fun i B hB _=>⟨B,(e i).trans hB,B.Hz,rfl⟩,fun d p u _ h hp=>⟨⟨h.1,fun i B hB=>h.2 i B ((e i).symm.trans hB)⟩,hp⟩⟩
theorem Hq.same (e:Om H' H) (h:Hq H pl w):Hq H' pl w:=
  ⟨fun i B hB=>(h.blk i B ((e i).symm.trans hB)).HL (Pu e) rfl (fun _=>Iff.rfl) (fun p u _ hu=>⟨hu,rfl⟩) B.HA,
   fun i j B B' p h1 h2=>h.dis i j B B' p ((e i).symm.trans h1) ((e j).symm.trans h2),fun i B p hB=>h.ob i B p ((e i).symm.trans hB),h.nb⟩
theorem Rel.congr {w0:World} {fp0:G0} {s s':List (Nat× SV)} {nid n:Nat} {gh:List (Option Nat)} {a:Act} (h:Rel w0 fp0 ⟨s,H,nid,n,gh⟩ pl a w) (hs:∀t v,look s' t=some v→look s t=some v) (e:Om H' H):
    Rel w0 fp0 ⟨s',H',nid,n,gh⟩ pl a w:=
  ⟨h.hr.same e,fun t v hv=>(h.sl t v (hs t v hv)).NC (Pu e),h.sz,h.df,fun i hi=>(e i).trans (h.fresh i hi),h.gr,fun p u hp hn=>by
    obtain⟨g1,g2,g3⟩:=h.fr p u hp hn
    exact⟨fun i B hB=>g1 i B ((e i).symm.trans hB),g2,g3⟩,fun k i hi=>⟨(h.gk k i hi).1,fun B hB=>(h.gk k i hi).2 B ((e i).symm.trans hB)⟩⟩
end
theorem Qt {h:GV} {k i:Nat} {b B:Blk} (e:look (Ul h k b) i=some B):∃B',look h i=some B':=by
  induction h with
  |nil=>simp[Ul,look]at e
  | cons x l ih =>
    obtain⟨k',u⟩:=x
    rw[GK]
    by_cases c:k'=i
    · exact⟨u,by simp[c]⟩
    · rw[if_neg c]
      simp only[Ul]at e
      cases hb:Nat.beq k' k<;>simp only[hb,cond_true,cond_false]at e
      · rw[GK,if_neg c]at e;exact ih e
      · rw[GK,if_neg (by have:=Nat.eq_of_beq_eq_true hb;omega)]at e;exact⟨B,e⟩
theorem LZ:∀{l h:GV} {i:Nat} {B:Blk},look (I2 l h) i=some B→∃B',look h i=some B'
  |[],h,i,B,e=>⟨B,e⟩
  | (k, b) :: l, h, i, B, e => by
    simp only[I2]at e
    obtain⟨B',hB'⟩:=LZ e
    exact Qt hB'
theorem Rel.app {w0:World} {fp0:G0} {X X':SH} {nid n:Nat} {gh:List (Option Nat)} {pl pl':Pl} {a:Act} {w w':World} {r:DR} {H':GV} {u:Value}
    (h:Rel w0 fp0 ⟨X.1,X.2,nid,n,gh⟩ pl a w) (hx:r.app X=some X') (hup:∀i B,look r.c.upd i=some B→∃B',look X.2 i=some B')
    (hd:∀t,r.dst=some t→t+1≤n) (hg:∀(k i:Nat),gh[k]? =some (some i)→i<r.n0) (hn:r.n0+r.c.news.length≤nid) (ha:after X.2 r.n0 r.c=some H') (hs:Hp X.2 H' r.c.kil pl pl' w w') (hv:GG w' H' pl' r.c.v u):
    Rel w0 fp0 ⟨X'.1,X'.2,nid,n,gh⟩ pl' (a.put r.dst u) w':=by
  have hsame:Om X'.2 H':=by
    unfold DR.app at hx
    unfold after at ha
    rw[Nb hup]at ha
    simp only[Option.bind_eq_some_iff,Option.some.injEq]at hx ha
    obtain⟨h1,e1,rfl⟩:=hx
    obtain⟨h2,e2,rfl⟩:=ha
    rw[e1]at e2;cases e2
    exact fun _=>rfl
  have hfr:∀i,nid≤i→look H' i=none:=fun i hi=>by
    rw[←hsame i]
    cases hq:look X'.2 i with
    |none=>rfl
    | some B =>
      rcases Ko (p:=fun _=>true) [r] 0 X X' (by simp[replay,hx]) i B hq with⟨B',hB'⟩|⟨j',r2,g1,_,g3⟩
      · have:=h.fresh i hi;rw[hB']at this;exact nomatch this
      · cases j' with
        |zero=>simp at g1;subst g1;have:=g3.2;omega
        |succ j'=>simp at g1
  have hsl:Iv w' H' pl' (Ku r.c.kil X.1) a:=h.sl.HL r.c.Ih hs.kp
  have hsl2:Iv w' H' pl' X'.1 (a.put r.dst u):=by
    rw[HE hx]
    cases hdst:r.dst with
    |none=>exact hsl
    | some t =>
      have ht:=hd t hdst
      exact Iv.put (n:=n) (dst:=some t) hsl h.sz (by simp only[Y9,Tt];rw[show Nat.ble (t+1) n=true from Nat.ble_eq_true_of_le ht];rfl) hv
  exact Rel.congr (s:=X'.1) (H:=H') ⟨hs.hr,hsl2,by rw[Act.Qf];exact h.sz,by rw[Act.VG];exact h.df,hfr,h.gr.trans hs.gr,fun p q hp hno=>by
    obtain⟨g1,g2,g3⟩:=h.fr p q hp hno
    obtain⟨f1,f2,f3⟩:=hs.fr p q g2 g1
    exact⟨f1,f2,f3.trans g3⟩,h.gk.step hs.kp (Nat.le_refl _) fun k i B hki hB=>by
      have hi:=hg k i hki
      rw[←hsame i]at hB
      unfold DR.app at hx
      simp only[Option.bind_eq_some_iff,Option.some.injEq]at hx
      obtain⟨h1,e1,rfl⟩:=hx
      rw[GR,Ha,if_neg (by omega),Option.or_none,Ho r.c.Ih e1 i]at hB
      cases hm:mem i r.c.kil.1<;>simp only[hm,cond_true,cond_false]at hB
      · obtain⟨B1,hB1,_⟩:=Option.bind_eq_some_iff.1 hB
        exact⟨rfl,LZ hB1⟩
      · exact nomatch hB⟩ (fun _ _ h=>h) hsame
theorem Nd (acc:List Nat) (j:Nat):∀l:List Edge,(Q5 acc l).testBit j=true↔∃e∈l,Region.binds .any e=true∧(j=e.on∨(acc.getD e.on 0).testBit j=true)
  |[]=>by simp[Q5]
  | e :: l => by
    simp only[Q5]
    cases hb:Region.binds .any e
    · simp only[cond_false,Nd acc j l,List.mem_cons,exists_eq_or_imp,hb,Bool.false_eq_true,false_and,false_or]
    · simp only[cond_true,Nat.testBit_or,Nat.testBit_two_pow,Bool.or_eq_true,decide_eq_true_eq,Nd acc j l,List.mem_cons,exists_eq_or_imp,hb,true_and]
      constructor
      · rintro ((h|h)|h)
        · exact .inl (.inr h)
        · exact .inl (.inl h.symm)
        · exact .inr h
      · rintro ((h|h)|h)
        · exact .inl (.inr h.symm)
        · exact .inl (.inl h)
        · exact .inr h
theorem Jl {n:Nat}:∀{l:List Edge},MX n l=true→∀e∈l,Region.binds .any e=true→e.on<n
  |[],_,e,he,_=>by simp at he
  | x :: l, h, e, he, hb => by
    simp only[MX]at h
    cases hx:Region.binds .any x<;>simp only[hx,cond_true,cond_false]at h
    · rcases List.mem_cons.1 he with rfl|he
      · rw[hx]at hb;exact nomatch hb
      · exact Jl h e he hb
    · cases hn:Nat.ble (x.on+1) n<;>simp only[hn,cond_true,cond_false]at h
      · exact nomatch h
      · rcases List.mem_cons.1 he with rfl|he
        · exact Nat.le_of_ble_eq_true hn
        · exact Jl h e he hb
structure SM (ops:List Oper) (masks:List Nat):Prop where
  back:∀(i:Nat) (o:Oper),ops[i]? =some o→∀e∈o.after.toList,Region.binds .any e=true→e.on<i
  spec:∀(i:Nat) (o:Oper),ops[i]? =some o→∀j,(masks.getD i 0).testBit j=true↔∃e∈o.after.toList,Region.binds .any e=true∧(j=e.on∨(masks.getD e.on 0).testBit j=true)
theorem Nw:∀(l:List Oper) (acc masks:List Nat),N0 acc l=some masks→(∃t,masks=acc++t)∧
    ∀ (k : Nat) (o : Oper), l[k]? = some o → (∀ e ∈ o.after.toList, Region.binds .any e = true → e.on < acc.length + k) ∧
      ∀j,(masks.getD (acc.length+k) 0).testBit j=true↔∃e∈o.after.toList,Region.binds .any e=true∧(j=e.on∨(masks.getD e.on 0).testBit j=true)
  |[],acc,masks,h=>by cases h;exact⟨⟨[],by simp⟩,fun k o ho=>by simp at ho⟩
  | x :: l, acc, masks, h => by
    simp only[N0]at h
    cases he:MX acc.length x.after.toList<;>simp only[he,cond_true,cond_false]at h
    · exact nomatch h
    · obtain⟨⟨t,ht⟩,hl⟩:=Nw l _ masks h
      refine⟨⟨Q5 acc x.after.toList::t,by rw[ht];simp⟩,fun k o ho=>?_⟩
      cases k with
      | zero =>
        simp at ho;subst ho
        refine⟨Jl he,fun j=>?_⟩
        have hm:masks.getD (acc.length+0) 0=Q5 acc x.after.toList:=by rw[ht];simp[List.getD]
        rw[hm,Nd]
        constructor
        · rintro ⟨e,h1,h2,h3⟩
          have hlt:=Jl he e h1 h2
          refine⟨e,h1,h2,h3.imp id fun h3=>?_⟩
          rw[ht];simpa[List.getD,List.getElem?_append_left hlt,List.append_assoc]using h3
        · rintro ⟨e,h1,h2,h3⟩
          have hlt:=Jl he e h1 h2
          refine⟨e,h1,h2,h3.imp id fun h3=>?_⟩
          rw[ht]at h3;simpa[List.getD,List.getElem?_append_left hlt,List.append_assoc]using h3
      | succ k =>
        have:=hl k o (by simpa using ho)
        simp only[List.length_append,List.length_cons,List.length_nil]at this
        rwa [show acc.length+(0+1)+k=acc.length+(k+1)from by omega]at this
theorem Xp {ops:List Oper} {masks:List Nat} (h:N0 [] ops=some masks):SM ops masks:=by
  obtain⟨_,h2⟩:=Nw ops [] masks h
  exact⟨fun i o ho=>by have:=(h2 i o ho).1;simpa using this,fun i o ho=>by have:=(h2 i o ho).2;simpa using this⟩
theorem SM.closed {ops:List Oper} {masks:List Nat} (hm:SM ops masks) {p:Nat→Bool} (hp:∀(j:Nat) (o:Oper),ops[j]? =some o→p j=true→∀e∈o.after.toList,Region.binds .any e=true→p e.on=true):
    ∀(n i:Nat) (o:Oper),i≤n→ops[i]? =some o→(∀e∈o.after.toList,Region.binds .any e=true→p e.on=true)→∀j,(masks.getD i 0).testBit j=true→p j=true
  | n, i, o, hn, ho, he, j, hj => by
    obtain⟨e,h1,h2,h3⟩:=(hm.spec i o ho j).1 hj
    rcases h3 with rfl|h3
    · exact he e h1 h2
    · have hlt:=hm.back i o ho e h1 h2
      have hol:e.on<ops.length:=by have:=(List.getElem?_eq_some_iff.1 ho).1;omega
      cases n with
      |zero=>omega
      |succ n=>exact hm.closed hp n e.on _ (by omega) (List.getElem?_eq_getElem hol) (fun e' h1' h2'=>hp e.on _ (List.getElem?_eq_getElem hol) (he e h1 h2) e' h1' h2') j h3
theorem SM.lt {ops:List Oper} {masks:List Nat} (hm:SM ops masks) {i j:Nat} {o:Oper} (ho:ops[i]? =some o) (hj:(masks.getD i 0).testBit j=true):j<i:=
  of_decide_eq_true (hm.closed (p:=fun j=>decide (j<i)) (fun k o' ho' hk e h1 h2=>decide_eq_true (by have:=hm.back k o' ho' e h1 h2;have:=of_decide_eq_true hk;omega)) i i o (Nat.le_refl _) ho
    (fun e h1 h2=>decide_eq_true (hm.back i o ho e h1 h2)) j hj)
end Go.Proofs.Ev
set_option linter.unusedVariables false
namespace Go.Proofs.Ev
variable [Tok]
set_option linter.unusedSectionVars false
def V6 (h H:GV):Prop:=∀i B,look h i=some B→∃B',look H i=some B'∧B.JP B'
def Yu (P:Program) (o:Oper) (n:Nat) (c:CR) (s:List (Nat× SV)) (h:GV):Prop:=
  ∀(s':List (Nat× SV)) (H:GV) (a:Act) (w:World) (pl:Pl),Ext s s'→V6 h H→Hq H pl w→Iv w H pl s' a→(∀k,k<c.news.length→look H (n+k)=none)→Jr P o a w H pl n c
theorem OW {P:Program} {T:TypeId} {h H:GV} (e:V6 h H) {x:SV} {k:Int} {v:SV} (hv:He P T h x k=some v):He P T H x k=some v:=by
  have sz:∀{t t':Ty},t.sz=t'.sz→slT P T t=slT P T t':=fun{t t'} e=>by unfold slT;rw[e]
  cases x with
  | own i =>
    simp only[He]at hv⊢
    cases hl:look h i with
    |none=>rw[hl]at hv;exact nomatch hv
    | some B =>
      rw[hl]at hv
      obtain⟨B',h1,h2⟩:=e i B hl
      cases B with
      |box cs=>exact nomatch hv
      | arr sh t xs =>
        cases B' with
        |box cs=>exact h2.elim
        | arr sh' t' ys =>
          rw[h1]
          simp only at hv⊢
          rwa [←sz h2.1,←h2.2]
  | sub i o n =>
    simp only[He]at hv⊢
    cases hl:look h i with
    |none=>rw[hl]at hv;exact nomatch hv
    | some B =>
      rw[hl]at hv
      obtain⟨B',h1,h2⟩:=e i B hl
      cases B with
      |box cs=>exact nomatch hv
      | arr sh t xs =>
        cases B' with
        |box cs=>exact h2.elim
        | arr sh' t' ys =>
          rw[h1]
          simp only at hv⊢
          rwa [←sz h2.1]
  |r d x=>cases x<;>exact hv
  |_=>exact hv
def JU (masks:List Nat) (i:Nat) (o:Oper) (rs:List DR) (t:Bool):Prop:=
  match o.guard with
  |none=>t=true
  |some (g,want)=>(masks.getD i 0).testBit g=true∧∃r d,rs[g]? =some r∧r.dst=some d∧((∃b,r.c.v=.r [] (.bool b)∧t=(b==want))∨(r.c.v=.tup []∧t=false))
def Zp (E:Env) (ops:List Oper) (masks dsts:List Nat) (s0:List (Nat× SV)) (h0:GV) (rs:List DR) (i:Nat) (o:Oper) (r:DR):Prop:=
  r.dst=o.dst∧okW E o.op r.c=true∧∃x t,replay (Nat.testBit (masks.getD i 0)) 0 (rs.take i) (Kh (W8 masks i 0 ops) s0 (HY o.op.operands.toList),h0)=some x∧JU masks i o rs t∧
    ((t=true∧r=Yj E masks i ops h0 x o r.n0 r.c∧(Vu E h0 x o=false→Rk E.P o r.n0 r.c (Kh [] x.1 (HY o.op.operands.toList)) (Un E masks i ops x o))∧(Vu E h0 x o=true→Yu E.P o r.n0 r.c (Kh [] x.1 (HY o.op.operands.toList)) (Nv h0 (Q6 x o))))∨(t=false∧r.c={v:=.tup []}∧r.len=false))
theorem Yv {E:Env} {ρ:Type} {o:Oper} {s:List (Nat× SV)} {h0:GV} {n:Nat} {K:CR→Option ρ} {out:ρ} (hl:Zh o.op=true) (h:P0 E s h0 n o.op K=some out):∃c,K c=some out∧Yu E.P o n c s h0:=by
  cases ho:o.op with
  | indexAddr T x k =>
    rw[ho]at h
    have h:Kv E.P s h0 (.indexAddr T x k) (fun v=>K {v:=v})=some out:=h
    rw[Kw]at h
    obtain⟨v,hv,h⟩:=Option.bind_eq_some_iff.1 h
    refine⟨_,h,fun s' H a w pl es eh hr hs hn=>?_⟩
    have hv':Iu E.P s' H (.indexAddr T x k)=some v:=by
      simp only[Iu,Option.bind_eq_some_iff]at hv⊢
      obtain⟨x',hx,k',hk,n',hn',hv⟩:=hv
      exact⟨x',Hu es _ _ hx,k',Hu es _ _ hk,n',hn',OW eh hv⟩
    obtain⟨u,hu,hvr⟩:=Jt hr hs hv' o ho
    exact Kk hr hu hvr
  |_=>rw[ho]at hl;exact nomatch hl
structure Rq (E:Env) (ops:List Oper) (masks dsts:List Nat) (s0:List (Nat× SV)) (h0:GV) (nid0:Nat) (rs:List DR) (m nid:Nat):Prop where
  len:rs.length=m
  ZV:∀(i:Nat) (o:Oper) (r:DR),ops[i]? =some o→rs[i]? =some r→Zp E ops masks dsts s0 h0 rs i o r
  lo:∀(i:Nat) (r:DR),rs[i]? =some r→nid0≤r.n0∧r.n0+r.c.news.length≤nid
  ord:∀(i j:Nat) (a b:DR),i<j→rs[i]? =some a→rs[j]? =some b→a.n0+a.c.news.length≤b.n0
theorem JU.more {masks:List Nat} {i:Nat} {o:Oper} {rs:List DR} {t:Bool} (h:JU masks i o rs t) (r:DR):JU masks i o (rs++[r]) t:=by
  unfold JU at*
  split at h
  · exact h
  · obtain⟨h1,r',d,h2,h3,h4⟩:=h
    exact⟨h1,r',d,by rw[List.getElem?_append_left (List.getElem?_eq_some_iff.1 h2).1];exact h2,h3,h4⟩
section
variable {ρ:Type} {E:Env} {ops:List Oper} {masks dsts:List Nat} {s0:List (Nat× SV)} {h0:GV} {nid0:Nat}
theorem Rq.push {rs:List DR} {m nid:Nat} (F:Rq E ops masks dsts s0 h0 nid0 rs m nid) (h0n:nid0≤nid) {o:Oper} {r:DR} (ho:ops[m]? =some o) (hr:Zp E ops masks dsts s0 h0 (rs++[r]) m o r) (hn:r.n0=nid):
    Rq E ops masks dsts s0 h0 nid0 (rs++[r]) (m+1) (nid+r.c.news.length):=by
  have hcase:∀(i:Nat) (b:DR),(rs++[r])[i]? =some b→(i<m∧rs[i]? =some b)∨(i=m∧b=r):=fun i b hb=>by
    by_cases c:i<m
    · rw[List.getElem?_append_left (by rw[F.len];exact c)]at hb;exact .inl ⟨c,hb⟩
    · rw[List.getElem?_append_right (by rw[F.len];omega),F.len]at hb
      have hi:i-m<1:=by have:=(List.getElem?_eq_some_iff.1 hb).1;simpa using this
      have:i-m=0:=by omega
      rw[this]at hb;simp at hb
      exact .inr ⟨by omega,hb.symm⟩
  refine⟨by simp[F.len],fun i o' b ho' hb=>?_,fun i b hb=>?_,fun i j a b hij ha hb=>?_⟩
  · rcases hcase i b hb with⟨hi,h⟩|⟨rfl,rfl⟩
    · obtain⟨g1,g2,x,t,g3,g4,g5⟩:=F.ZV i o' b ho' h
      exact⟨g1,g2,x,t,by rw[List.take_append_of_le_length (by rw[F.len];omega)];exact g3,g4.more r,g5⟩
    · rw[ho]at ho';cases ho';exact hr
  · rcases hcase i b hb with⟨hi,h⟩|⟨rfl,rfl⟩
    · have:=F.lo i b h;exact⟨this.1,by omega⟩
    · exact⟨by omega,by omega⟩
  · rcases hcase j b hb with⟨hj,h⟩|⟨rfl,rfl⟩
    · rcases hcase i a ha with⟨hi,h'⟩|⟨rfl,rfl⟩
      · exact F.ord i j a b hij h' h
      · omega
    · rcases hcase i a ha with⟨hi,h'⟩|⟨rfl,rfl⟩
      · have:=F.lo i a h';omega
      · omega
theorem SN:∀{rs:List DR} {g:Nat} {r:DR} {v:SV},rs[g]? =some r→r.c.v=v→Yi rs g v=rs
  |[],_,_,_,h,_=>by simp at h
  |x::l,0,r,v,h,hv=>by simp at h;subst h;subst hv;rfl
  |x::l,g+1,r,v,h,hv=>by simp only[Yi];rw[SN (rs:=l) (by simpa using h) hv]
theorem Lj (hE:I8 E) {out:ρ}:∀(rest:List Oper) (i nid:Nat) (rs:List DR) (K:List DR→Nat→Option ρ),KW E ops masks dsts s0 h0 i rest nid rs K=some out→
    Rq E ops masks dsts s0 h0 nid0 rs i nid→nid0≤nid→ops.drop i=rest→∃rs' nid',K rs' nid'=some out∧nid0≤nid'∧Rq E ops masks dsts s0 h0 nid0 rs' (i+rest.length) nid'
  |[],i,nid,rs,K,h,F,hn,_=>⟨rs,nid,h,hn,F⟩
  | o :: rest, i, nid, rs, K, h, F, hn, hd => by
    have ho:ops[i]? =some o:=by rw[←List.head?_drop,hd];rfl
    have hd':ops.drop (i+1)=rest:=by rw[←List.drop_drop,hd];rfl
    have htake:∀r,(rs++[r]).take i=rs:=fun r=>by rw[List.take_append_of_le_length (by rw[F.len];omega),←F.len,List.take_length]
    simp only[KW,Option.bind_eq_some_iff]at h
    obtain⟨x,hx,h⟩:=h
    have exec:∀t,(∀r,JU masks i o (rs++[r]) t)→t=true→(P0 E (Kh [] x.1 (HY o.op.operands.toList)) (Vv E masks i ops h0 x o) nid o.op fun c=>cond (okW E o.op c) (KW E ops masks dsts s0 h0 (i+1) rest (nid+c.news.length) (rs++[Yj E masks i ops h0 x o nid c]) K) none)=some out→
        ∃rs' nid',K rs' nid'=some out∧nid0≤nid'∧Rq E ops masks dsts s0 h0 nid0 rs' (i+(o::rest).length) nid':=fun t hw ht h=>by
      obtain⟨c,hc,hg⟩:∃c,(cond (okW E o.op c) (KW E ops masks dsts s0 h0 (i+1) rest (nid+c.news.length) (rs++[Yj E masks i ops h0 x o nid c]) K) none)=some out∧
          (Vu E h0 x o=false→Rk E.P o nid c (Kh [] x.1 (HY o.op.operands.toList)) (Un E masks i ops x o))∧(Vu E h0 x o=true→Yu E.P o nid c (Kh [] x.1 (HY o.op.operands.toList)) (Nv h0 (Q6 x o))):=by
        unfold Vv at h
        cases hL:Vu E h0 x o<;>simp only[hL,cond_true,cond_false]at h
        · obtain⟨c,hc,hg⟩:=Rm hE h
          exact⟨c,hc,fun _=>hg,(fun e=>nomatch e)⟩
        · have hL':=hL
          unfold Vu at hL'
          simp only[Bool.and_eq_true]at hL'
          obtain⟨c,hc,hg⟩:=Yv hL'.2.1 h
          exact⟨c,hc,(fun e=>nomatch e),fun _=>hg⟩
      cases hok:okW E o.op c<;>simp only[hok,cond_true,cond_false]at hc
      · exact nomatch hc
      · have F':=F.push hn (r:=Yj E masks i ops h0 x o nid c) ho ⟨rfl,hok,x,t,by rw[htake];exact hx,hw _,.inl ⟨ht,rfl,hg.1,hg.2⟩⟩ rfl
        have:=Lj hE rest (i+1) _ _ K hc F' (by omega) hd'
        rwa [show i+1+rest.length=i+(o::rest).length from by simp;omega]at this
    have skip:∀t,(∀r,JU masks i o (rs++[r]) t)→t=false→KW E ops masks dsts s0 h0 (i+1) rest nid (rs++[⟨o.dst,nid,{v:=.tup []},[],[],false⟩]) K=some out→
        ∃rs' nid',K rs' nid'=some out∧nid0≤nid'∧Rq E ops masks dsts s0 h0 nid0 rs' (i+(o::rest).length) nid':=fun t hw ht h=>by
      have F':=F.push hn (r:=⟨o.dst,nid,{v:=.tup []},[],[],false⟩) ho ⟨rfl,by simp only[okW,isNil,CR.kil,List.nil_append];cases JQ E o.op<;>rfl,x,t,by rw[htake];exact hx,hw _,.inr ⟨ht,rfl,rfl⟩⟩ rfl
      have:=Lj hE rest (i+1) _ _ K h F' (by simpa using hn) hd'
      rwa [show i+1+rest.length=i+(o::rest).length from by simp;omega]at this
    split at h
    · rename_i hg
      exact exec true (fun r=>by unfold JU;rw[hg]) rfl h
    · rename_i g want hg
      cases hb:(masks.getD i 0).testBit g<;>simp only[hb,cond_true,cond_false]at h
      · exact nomatch h
      · simp only[Option.bind_eq_some_iff]at h
        obtain⟨r,hr,d,hdst,h⟩:=h
        split at h
        · rename_i hv
          exact skip false (fun r'=>JU.more (by
            unfold JU;rw[hg];exact⟨hb,r,d,hr,hdst,.inr ⟨hv,rfl⟩⟩) r') rfl h
        · rename_i b hv
          have hw:∀r',JU masks i o (rs++[r']) (b==want):=fun r'=>JU.more (by
            unfold JU;rw[hg];exact⟨hb,r,d,hr,hdst,.inl ⟨b,hv,rfl⟩⟩) r'
          cases b<;>simp only[cond_true,cond_false]at h
          · rw[SN hr hv]at h
            cases want<;>simp only[cond_true,cond_false]at h
            · exact exec _ hw rfl h
            · exact skip _ hw rfl h
          · rw[SN hr hv]at h
            cases want<;>simp only[cond_true,cond_false]at h
            · exact skip _ hw rfl h
            · exact exec _ hw rfl h
        · exact nomatch h
end
theorem Ou {cm:DR→Bool} {masks:List Nat} {i:Nat} {r:DR}:∀{l:List DR} {k:Nat},N2 cm masks i r k l=true→∀(j:Nat) (b:DR),l[j]? =some b→(masks.getD (k+j) 0).testBit i=true∨LR cm r b=true
  |[],_,_,j,b,hb=>by simp at hb
  | x :: l, k, h, j, b, hb => by
    simp only[N2]at h
    have hl:N2 cm masks i r (k+1) l=true∧((masks.getD k 0).testBit i=true∨LR cm r x=true):=by
      cases h1:(masks.getD k 0).testBit i<;>simp only[h1,cond_true,cond_false]at h
      · cases h2:LR cm r x<;>simp only[h2,cond_true,cond_false]at h
        · exact nomatch h
        · exact⟨h,.inr rfl⟩
      · exact⟨h,.inl rfl⟩
    cases j with
    |zero=>simp at hb;subst hb;exact hl.2
    |succ j=>have:=Ou hl.1 j b (by simpa using hb);rwa [show k+1+j=k+(j+1)from by omega]at this
theorem Me {cm:DR→Bool} {masks:List Nat}:∀{l:List DR} {k:Nat},O7 cm masks k l=true→∀(i j:Nat) (a b:DR),i<j→l[i]? =some a→l[j]? =some b→(masks.getD (k+j) 0).testBit (k+i)=true∨LR cm a b=true
  |[],_,_,i,j,a,b,_,ha,_=>by simp at ha
  | x :: l, k, h, i, j, a, b, hij, ha, hb => by
    simp only[O7]at h
    cases h1:N2 cm masks k x (k+1) l<;>simp only[h1,cond_true,cond_false]at h
    · exact nomatch h
    · obtain⟨j,rfl⟩:∃j',j=j'+1:=⟨j-1,by omega⟩
      cases i with
      | zero =>
        simp at ha;subst ha
        have:=Ou h1 j b (by simpa using hb)
        rwa [show k+1+j=k+(j+1)from by omega]at this
      | succ i =>
        have:=Me h i j a b (by omega) (by simpa using ha) (by simpa using hb)
        rwa [show k+1+j=k+(j+1)from by omega,show k+1+i=k+(i+1)from by omega]at this
theorem memI {i:Nat} {l:List Nat}:mem i l=true↔i∈l:=by
  induction l with
  |nil=>simp[mem]
  | cons k l ih =>
    simp only[mem,List.mem_cons]
    cases h:Nat.beq k i
    · have:¬i=k:=fun e=>by subst e;simp at h
      simp[ih,this]
    · have:=Nat.eq_of_beq_eq_true h;simp[this]
theorem Pv {n:Nat}:∀{l:List Nat},Um n l=true→∀i∈l,i+1≤n
  |[],_,i,hi=>by simp at hi
  | x :: l, h, i, hi => by
    simp only[Um]at h
    cases hm:Nat.ble (x+1) n<;>simp only[hm,cond_true,cond_false]at h
    · exact nomatch h
    · rcases List.mem_cons.1 hi with rfl|hi
      · exact Nat.le_of_ble_eq_true hm
      · exact Pv h i hi
theorem LG:∀{ops:List Oper} {j:Nat} {o:Oper} {t:Nat},ops[j]? =some o→o.dst=some t→t∈I0 ops
  |[],j,o,t,h,_=>by simp at h
  |x::l,0,o,t,h,hd=>by simp at h;subst h;simp[I0,hd]
  | x :: l, j + 1, o, t, h, hd => by
    have:=LG (ops:=l) (by simpa using h) hd
    simp only[I0];split<;>simp[this]
theorem Pw:∀{ops:List Oper},(I0 ops).Nodup→∀{i j:Nat} {a b:Oper} {t:Nat},i≠j→ops[i]? =some a→ops[j]? =some b→a.dst=some t→b.dst≠some t
  |[],_,i,j,a,b,t,_,h,_,_=>by simp at h
  | x :: l, hn, i, j, a, b, t, hij, ha, hb, h1 => by
    have hl:(I0 l).Nodup:=by
      simp only[I0]at hn;split at hn
      · exact(List.nodup_cons.1 hn).2
      · exact hn
    have hx:∀t,x.dst=some t→t∉I0 l:=fun t ht=>by
      simp only[I0,ht]at hn;exact(List.nodup_cons.1 hn).1
    intro h2
    cases i with
    | zero =>
      simp at ha;subst ha
      cases j with
      |zero=>exact hij rfl
      |succ j=>exact hx t h1 (LG (by simpa using hb) h2)
    | succ i =>
      cases j with
      |zero=>simp at hb;subst hb;exact hx t h2 (LG (by simpa using ha) h1)
      |succ j=>exact Pw (i:=i) (j:=j) hl (by omega) (by simpa using ha) (by simpa using hb) h1 h2
theorem Qu {masks:List Nat} {i:Nat}:∀{ops:List Oper} {k j:Nat} {o:Oper} {t:Nat},ops[j]? =some o→o.dst=some t→(masks.getD (k+j) 0).testBit i=false→t∈W8 masks i k ops
  |[],k,j,o,t,h,_,_=>by simp at h
  |x::l,k,0,o,t,h,hd,hb=>by simp at h;subst h;simp only[Nat.add_zero]at hb;simp only[W8,hb,cond_false,hd];exact List.mem_cons_self ..
  | x :: l, k, j + 1, o, t, h, hd, hb => by
    have:=Qu (ops:=l) (k:=k+1) (by simpa using h) hd (by rw[show k+1+j=k+(j+1)from by omega];exact hb)
    simp only[W8]
    cases(masks.getD k 0).testBit i<;>simp only[cond_true,cond_false]
    · split<;>simp[this]
    · exact this
theorem UM {T:List Nat} {s:List (Nat× SV)} {l:List Nat} {t:Nat} {v:SV} (h:look (Kh T s l) t=some v):v∈P2 s l:=by
  induction l with
  |nil=>exact nomatch h
  | cons k l ih =>
    simp only[Kh]at h
    simp only[P2]
    cases hm:mem k T<;>simp only[hm,cond_true,cond_false]at h
    · cases hl:look s k with
      |none=>rw[hl]at h;exact ih h
      | some u =>
        rw[hl]at h
        simp only[GK]at h
        by_cases c:k=t
        · rw[if_pos c]at h;cases h;exact List.mem_cons_self
        · rw[if_neg c]at h;exact List.mem_cons_of_mem _ (ih h)
    · cases hl:look s k with
      |none=>exact ih h
      |some u=>exact List.mem_cons_of_mem _ (ih h)
theorem Px {k:Nat} {B:Blk}:∀{l:List DR},Vt k B l=true→∀r∈l,look r.c.upd k=none∧mem k r.c.kil.1=false∧B.Ve r.c.kil=true
  |[],_,_,h=>nomatch h
  | r :: l, h, r', hr => by
    simp only[Vt]at h
    cases hc:((look r.c.upd k).isNone&&(!mem k r.c.kil.1&&B.Ve r.c.kil))<;>rw[hc]at h<;>simp only[cond_true,cond_false]at h
    · exact nomatch h
    · rw[Bool.and_eq_true,Bool.and_eq_true,Option.isNone_iff_eq_none,Bool.not_eq_true']at hc
      rcases List.mem_cons.1 hr with rfl|hr
      · exact hc
      · exact Px h r' hr
theorem Rr {h:GV} {rs:List DR} {k:Nat}:∀{L:List Nat},ZF h rs L=true→mem k L=true→∃B,look h k=some B∧∀r∈rs,look r.c.upd k=none∧mem k r.c.kil.1=false∧B.Ve r.c.kil=true
  |[],_,hm=>nomatch hm
  | i :: l, hc, hm => by
    simp only[ZF]at hc
    split at hc
    · rename_i B hB
      cases h1:Vt i B rs<;>rw[h1]at hc<;>simp only[cond_true,cond_false]at hc
      · exact nomatch hc
      · simp only[mem]at hm
        cases hb:Nat.beq i k<;>rw[hb]at hm<;>simp only[cond_true,cond_false]at hm
        · exact Rr hc hm
        · have:=Nat.eq_of_beq_eq_true hb
          subst this
          exact⟨B,hB,Px h1⟩
    · exact nomatch hc
theorem Nx:∀{L T:List Nat},N3 L T=true→∀k,mem k L=true→mem k T=false
  |[],_,_,k,hk=>nomatch hk
  | i :: l, T, h, k, hk => by
    simp only[N3]at h
    cases hm:mem i T<;>rw[hm]at h
    · simp only[mem]at hk
      cases hb:Nat.beq i k<;>rw[hb]at hk
      · exact Nx h k hk
      · rw[←Nat.eq_of_beq_eq_true hb];exact hm
    · exact nomatch h
theorem Ny {L:List Nat}:∀{rs:List DR},P3 L rs=true→∀k,mem k L=true→∀r∈rs,mem k r.c.kil.1=false
  |[],_,_,_,_,hr=>nomatch hr
  | r :: l, h, k, hk, r', hr => by
    simp only[P3]at h
    cases hn:N3 L r.c.kil.1<;>rw[hn]at h
    · exact nomatch h
    · rcases List.mem_cons.1 hr with rfl|hr
      · exact Nx hn k hk
      · exact Ny h k hk r' hr
theorem Ov {cm:DR→Bool}:∀{rs:List DR},O8 cm rs=true→∀r∈rs,r.len=true→Ig cm r=true
  |[],_,_,hr,_=>nomatch hr
  | r :: l, h, r', hr, hl => by
    simp only[O8]at h
    cases hn:(!r.len||Ig cm r)<;>rw[hn]at h
    · exact nomatch h
    · rcases List.mem_cons.1 hr with rfl|hr
      · rw[hl]at hn;exact hn
      · exact Ov h r' hr hl
theorem Xq {T:Kil} {B:Blk} (h:B.Ve T=true):B.GW T=some B:=by
  cases B with
  |box cs=>simp only[Blk.GW,I9 cs h]
  | arr sh t xs =>
    cases sh with
    |none=>rfl
    |some d=>simp only[Blk.GW,not_false h,cond_false]
theorem JV {p:Nat→Bool} {k:Nat} {B:Blk}:∀(l:List DR) (j:Nat) (x X:SH),(∀r∈l,look r.c.upd k=none∧mem k r.c.kil.1=false∧B.Ve r.c.kil=true)→look x.2 k=some B→replay p j l x=some X→look X.2 k=some B
  |[],_,x,X,_,hx,h=>by cases h;exact hx
  | r :: l, j, x, X, hl, hx, h => by
    simp only[replay]at h
    have hl':=fun r' hr=>hl r' (List.mem_cons_of_mem _ hr)
    cases hp:p j<;>rw[hp]at h<;>simp only[cond_true,cond_false]at h
    · exact JV l (j+1) x X hl' hx h
    · rw[Option.bind_eq_some_iff]at h
      obtain⟨y,hy,h⟩:=h
      obtain⟨h1,hm,h2⟩:=hl r List.mem_cons_self
      refine JV l (j+1) y X hl' ?_ h
      rw[NM hy,hm,cond_false,Lg _ _ h1,hx,Option.bind_some,Xq h2];rfl
theorem JA {T:List Nat} {s:List (Nat× SV)} {l:List Nat} {t:Nat} {v:SV} (h:look (Kh T s l) t=some v):t∉T∧look s t=some v:=by
  induction l with
  |nil=>exact nomatch h
  | cons k l ih =>
    simp only[Kh]at h
    cases hm:mem k T<;>simp only[hm,cond_true,cond_false]at h
    · cases hl:look s k with
      |none=>rw[hl]at h;exact ih h
      | some u =>
        rw[hl]at h
        rw[GK]at h
        by_cases e:k=t
        · subst e;rw[if_pos rfl]at h;cases h
          exact⟨fun h=>by rw[memI.2 h]at hm;exact(nomatch hm),hl⟩
        · rw[if_neg e]at h;exact ih h
    · exact ih h
theorem Ow {E:Env} {masks:List Nat} {i:Nat}:∀{l:List Oper} {k:Nat},Nu E masks i k l=false→∀(j:Nat) (o:Oper),l[j]? =some o→JQ E o.op=true→Ze masks i (k+j)=true
  |[],_,_,j,o,h,_=>by simp at h
  | x :: l, k, h, j, o, ho, hw => by
    simp only[Nu]at h
    have hl:Nu E masks i (k+1) l=false∧(JQ E x.op=true→Ze masks i k=true):=by
      cases h1:JQ E x.op<;>simp only[h1,cond_true,cond_false]at h
      · exact⟨h,fun h=>nomatch h⟩
      · cases h2:Ze masks i k<;>simp only[h2,cond_true,cond_false]at h
        · exact nomatch h
        · exact⟨h,fun _=>rfl⟩
    cases j with
    |zero=>simp at ho;subst ho;exact hl.2 hw
    |succ j=>have:=Ow hl.1 j o (by simpa using ho) hw;rwa [show k+1+j=k+(j+1)from by omega]at this
end Go.Proofs.Ev
