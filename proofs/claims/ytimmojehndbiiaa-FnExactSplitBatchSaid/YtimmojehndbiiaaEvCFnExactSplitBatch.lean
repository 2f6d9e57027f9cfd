/- Text of this claim. -/
import Derived.Test.YtimmojehndbiiaaEvK7
import Derived.Test.YtimmojehndbiiaaProg
import Derived.Test.YtimmojehndbiiaaEvL1
set_option linter.unusedVariables false
set_option linter.unusedSimpArgs false
set_option linter.unusedSectionVars false
set_option maxRecDepth 100000
set_option maxHeartbeats 4000000
namespace Go.Proofs.Ev
noncomputable section
variable [Tok]
def tt:TT:=look [(2,(.int .i64)),(3,(.int .i64)),(4,.bool),(5,(.int .u8)),(6,(.int .u8)),(9,.str),(10,.str),(11,.str),(12,(.int .u64)),(21,(.int .i32)),(23,(.st .shape)),(24,(.sl (.int .i64))),(26,(.st .ax)),(28,(.sl (.st .ax))),(31,(.st .shape)),(33,(.st .ax)),(40,(.sl (.st .rO))),(42,(.sl (.sl (.int .i64)))),(45,(.sl (.st .rO))),(52,(.sl (.int .u8))),(73,(.st .rO)),(75,(.st .rO)),(105,(.int .u64)),(117,(.int .u32)),(118,(.int .u8)),(119,(.int .u8)),(122,(.int .i32)),(123,(.int .i32))]
def y8 (k:Nat):=ov tt [] .id Try.func35 [.one (.sl (.int .i64)),.one (.int .i64)] ((cdL (.int .i64)).p cdZ) ⟨.h 0,[]⟩ cdZ (.sc) (λa=>ja k a.1 a.2)
def y9 (k:Nat):=ov tt [⟨35,y8 k⟩] .id Try.func6 [.agg [(.int .i64),(.int .i64),(.int .i64),(.sl (.int .i64))],.one (.int .i64)] ((cdS .ax).p cdZ) ⟨.h 0,[]⟩ cdZ (.sc) (λa=>jT k a.1 a.2)
def ya (k:Nat):=ov tt [] .id Try.func38 [.agg [(.int .i64),(.int .i64),(.int .i64)]] (cdS .shape) ⟨.agg [.h 0,.h 1,.h 2],[]⟩ (cdS .shape) (.agg [.sc,.sc,.sc]) (lH k)
def yb (k:Nat):=xQ tt [] .id Try.func39 k [L1 0 false [0,3,4] [] (cdL (.int .i64)) (cdZ.p (cdL (.int .i64))) ⟨[.h 0,.own 0,.h 1],[.arr none (.int .i64) 2],[]⟩ ⟨2,[3],[],(cdL (.int .i64)),⟨[.own 0],[.arr none (.int .i64) 1],[]⟩⟩ (fu k)] [.one (.sl (.int .i64))] (cdL (.int .i64)) ⟨.own 0,[.arr none (.int .i64) 0]⟩ (cdL (.int .i64)) (.own (.int .i64)) (jb k)
def yc (k:Nat):=ov tt [⟨38,ya k⟩,⟨39,yb k⟩] .id Try.func8 [.agg [(.int .i64),(.int .i64),(.int .i64),(.sl (.int .i64))]] (cdS .ax) ⟨.agg [.h 0,.h 1,.h 2,.own 0],[.arr none (.int .i64) 3]⟩ (cdS .ax) (.agg [.sc,.sc,.sc,.own (.int .i64)]) (cR k)
def yd (k:Nat):=ov tt [] .id Try.func47 [.one (.int .i64),.one (.int .i64),.one (.int .i64)] (cdZ.p (cdZ.p cdZ)) ⟨.h 0,[]⟩ cdB (.sc) (λa=>ir k a.1 a.2.1 a.2.2)
def ye (k:Nat):=ov tt [⟨47,yd k⟩] .id Try.func67 [.agg [(.int .i64),(.int .i64),(.int .i64)]] (cdS .shape) ⟨.h 0,[]⟩ cdB (.sc) (gu k)
def yf (k:Nat):=ov tt [⟨67,ye k⟩] .id Try.func68 [.agg [(.int .i64),(.int .i64),(.int .i64)]] (cdS .shape) ⟨.h 0,[]⟩ cdZ (.sc) (ku k)
def yg (k:Nat):=ov tt [⟨47,yd k⟩] .id Try.func69 [.one (.int .i64)] cdZ ⟨.h 0,[]⟩ cdB (.sc) (lI k)
def yh (k:Nat):=xQ tt [⟨67,ye k⟩,⟨68,yf k⟩,⟨69,yg k⟩] .id Try.func36 k [L2 0 false [1,3] [] (cdZ.p (cdZ.p (cdZ.p (cdL (.int .i64))))) cdZ ⟨[.v (.ptr 0 0 0),.h 4],[.box (hs 0 4)],[]⟩ ⟨2,[],[],cdU,⟨[],[],[]⟩⟩ ⟨1,[2],[],cdB,⟨[.h 4],[],[]⟩⟩ (dk k)] [.agg [(.int .i64),(.int .i64),(.int .i64),(.sl (.int .i64))]] (cdS .ax) ⟨.h 0,[]⟩ cdB (.sc) (gI k)
def yi (k:Nat):=xQ tt [] .id Try.func37 k [L1 0 false [0,3,4] [] (cdL (.int .i64)) (cdZ.p (cdL (.int .i64))) ⟨[.h 0,.own 0,.h 1],[.arr none (.int .i64) 2],[]⟩ ⟨2,[3],[],(cdL (.int .i64)),⟨[.own 0],[.arr none (.int .i64) 1],[]⟩⟩ (db k)] [.one (.sl (.int .i64))] (cdL (.int .i64)) ⟨.own 0,[.arr none (.int .i64) 0]⟩ (cdL (.int .i64)) (.own (.int .i64)) (jc k)
def yj (k:Nat):=xQ tt [⟨36,yh k⟩,⟨37,yi k⟩] .id Try.func7 k [L1 0 false [1,4,5,6] [] (cdZ.p (cdZ.p (cdZ.p (cdZ.p (cdL (.int .i64)))))) (cdZ.p (cdL (.st .ax))) ⟨[.v (.ptr 0 0 0),.own 1,.h 0,.h 5],[.box (hs 1 4),.arr none (.st .ax) 6],[]⟩ ⟨2,[4],[],(cdL (.st .ax)),⟨[.own 0],[.arr none (.st .ax) 5],[]⟩⟩ (bN k)] [.agg [(.int .i64),(.int .i64),(.int .i64),(.sl (.int .i64))]] (cdS .ax) ⟨.tup [.own 0,.h 1],[.arr none (.st .ax) 0]⟩ ((cdL (.st .ax)).p cdB) (.tup [.own (.st .ax),.sc]) (ec k)
def ze (k:Nat):=ov tt [] .id Try.func51 [.one (.int .i64),.one (.int .i64),.one (.int .i64)] (cdZ.p (cdZ.p cdZ)) ⟨.h 0,[]⟩ cdB (.sc) (λa=>Ac k a.1 a.2.1 a.2.2)
def yk (k:Nat):=ov tt [⟨51,ze k⟩] .id Try.func70 [.agg [(.int .i64),(.int .i64),(.int .i64)]] (cdS .shape) ⟨.h 0,[]⟩ cdB (.sc) (gv k)
def yl (k:Nat):=ov tt [⟨70,yk k⟩] .id Try.func71 [.agg [(.int .i64),(.int .i64),(.int .i64)]] (cdS .shape) ⟨.h 0,[]⟩ cdZ (.sc) (kv k)
def ym (k:Nat):=ov tt [⟨51,ze k⟩] .id Try.func84 [.one (.int .i64)] cdZ ⟨.h 0,[]⟩ cdB (.sc) (fv k)
def yn (k:Nat):=xQ tt [⟨84,ym k⟩] .id Try.func88 k [L2 0 false [0,1,7,8] [] ((cdL (.int .i64)).p cdZ) cdZ ⟨[.h 0,.fn 84 [] [],.h 1,.h 2],[],[]⟩ ⟨2,[],[],cdU,⟨[],[],[]⟩⟩ ⟨1,[4],[],cdZ,⟨[.h 2],[],[]⟩⟩ (ao k)] [.one (.sl (.int .i64)),.fn] (cdL (.int .i64)) ⟨.h 0,[]⟩ cdZ (.sc) (aA k) [84]
def yo (k:Nat):=ov tt [⟨88,yn k⟩] .id Try.func83 [.one (.sl (.int .i64)),.fn] (cdL (.int .i64)) ⟨.h 0,[]⟩ cdB (.sc) (av k) [84]
def yp (k:Nat):=ov tt [⟨83,yo k⟩] .id Try.func72 [.one (.sl (.int .i64))] (cdL (.int .i64)) ⟨.h 0,[]⟩ cdB (.sc) (gJ k)
def yq (k:Nat):=ov tt [⟨70,yk k⟩,⟨71,yl k⟩,⟨72,yp k⟩] .id Try.func40 [.agg [(.int .i64),(.int .i64),(.int .i64),(.sl (.int .i64))]] (cdS .ax) ⟨.h 0,[]⟩ cdB (.sc) (eQ k)
def yr (k:Nat):=ov tt [] .id Try.func42 [.one (.sl (.int .i64))] (cdL (.int .i64)) ⟨.own 0,[.arr none (.int .i64) 0]⟩ (cdL (.int .i64)) (.own (.int .i64)) (aL k)
open Go Go.RowKit Go.Shelf
def yt:Code->Code
 |.seq a _=>a
 |c=>c
def yu:Code->Code
 |.seq _ b=>b
 |c=>c
def wR:Code->Code
 |.block _ c=>c
 |.rangeFunc _ _ _ c=>c
 |c=>c
def yv:Code->Array Oper
 |.region _ ops _=>ops
 |_=>#[]
noncomputable def spC:Code:=Try.f9.body.getD .skip
noncomputable def sp0:Code:=yt spC
noncomputable def sp1:Code:=yt (yu spC)
noncomputable def sp2:Code:=yt (yu (yu spC))
noncomputable def sp3:Code:=yt (yt (yu (yu (yu spC))))
noncomputable def spR:Code:=wR (yu (yt (yu (yu (yu spC)))))
noncomputable def spE:Code:=yu (yu (yu (yu spC)))
noncomputable def spO:Array Oper:=yv (wR (wR spR))
theorem yw:Try.f9.body=some (.seq sp0 (.seq sp1 (.seq sp2 (.seq (.seq sp3 (.block 0 spR)) spE)))):=by kernel_rfl
theorem Bm:spR=.rangeFunc (.tmp 21) #[22] (.region 5 #[{dst:=some 5,op:=.assign (.tmp 22),type:=24,pos:= "l13_batch.go:35",after:=#[],guard:=none}] false) (.block 1 (.region 6 spO true)):=by kernel_rfl
noncomputable def s9:RT:=.tup [.own (.st .ax),.sc]
noncomputable def uC (k:Nat):Env:=mU tt [⟨40,yq k⟩,⟨41,o_Chunk⟩,⟨42,yr k⟩]
theorem yx (k:Nat):ek (uC k):=im tt [⟨40,yq k⟩,⟨41,o_Chunk⟩,⟨42,yr k⟩] .id
noncomputable def aSp (x:aa):List Arg:=[.agg [.int .i64 x.sh.h,.int .i64 x.sh.w,.int .i64 x.sh.c,.sl (.int .i64) x.data]]
noncomputable def yy (x:aa):Blk:=.box [.i x.sh.h,.i x.sh.w,.i x.sh.c,.r [] (.sl (.int .i64) x.data)]
noncomputable def kd (x:aa):NF:=([.ptr 0 0 0,.ptr 1 0 0,.fn (.func 73) [] [.ptr 2 0 0,.ptr 3 0 0]],[yy x,.box [.own 4],.box [.r [] (.sl (.int .i64) x.data)],.box [.i x.sh.c],.arr none (.st .ax) []],[])
noncomputable def yz (x:aa) (acc:List aa):List Blk:=[yy x,.box [.own 2],.arr none (.st .ax) acc]
noncomputable def zf (x:aa) (acc:List aa):NF:=([.ptr 0 0 0,.ptr 1 0 0],yz x acc,[some 0,some 1])
noncomputable def wS (x:aa) (acc:List aa) (row:List Int):St:={aB:=[(1,.ptr 0 0 0),(4,.ptr 1 0 0),(5,.r [] (.sl (.int .i64) row))],heap:=newsH 0 (yz x acc),nid:=3,n:=34,gh:=[some 0,some 1]}
noncomputable def ta (x:aa) (acc:List aa):St:={aB:=[(1,.ptr 0 0 0),(4,.ptr 1 0 0)],heap:=newsH 0 (yz x acc),nid:=3,n:=34,gh:=[]}
noncomputable def ot:Ex->St->Option (NF⊕ Out)
 |.normal,st=>(norm [1,4,21] st).bind λnf=>some (.inl nf)
 |e,st=>fin Try.prog Try.f9 s9 (λo=>some (.inr o)) e st
noncomputable def oSp (l:List aa) (b:Bool):Out:=(.tup [.own 0,.r [] (.bool b)],[.arr none (.st .ax) l])
theorem Bo (k:Nat) (x:aa):ev (uC k) (ua (NF⊕ Out)) 0 (.seq sp0 (.seq sp1 (.seq sp2 sp3))) (st0 Try.f9 (aSp x)) ot=
  (eQ k x).bind λr=>cond (!r) (some (.inr (oSp [] false))) (cond (x.sh.w !=1) (some (.inr (oSp [] false))) (cond (decide (1<=x.sh.c)) (some (.inl (kd x))) none)):=by kernel_rfl
theorem y10 (k:Nat) (x:aa) (acc:List aa) (row:List Int):jl (uC k) spO.toList (wS x acc row) (λst=>norm [1,4] st)=
  (aL k row).bind λr=>cond (Nat.ble (acc.length+[(⟨⟨1,1,x.sh.c⟩,r⟩:aa)].length) dK) (some (zf x (acc++[⟨⟨1,1,x.sh.c⟩,r⟩]))) none:=by kernel_rfl
theorem Bp (k:Nat) (x:aa) (acc:List aa):ev (uC k) (ua Out) 0 spE (ta x acc) (fin Try.prog Try.f9 s9 some)=some (oSp acc true):=by kernel_rfl
theorem y11:Try.f9.ntmps=34:=by kernel_rfl
theorem y12:jQ spO.toList=true:=by kernel_rfl
theorem y13 {w:World} {H:Heap} {pl:Pl} {i:Nat} {u:Value} {cs:List SV} (hl:look H i=some (.box cs)) (h:SVRep w H pl (.ptr i 0 0) u):u=pl.hdr i:=by
 cases h with
 |ptrB _ _ _ b k _ hh=>rw[hh,DB]
 |gY _ _ _ sh t xs b k n cap hl'=>rw[hl]at hl';exact nomatch hl'
theorem y14 {w:World} {H:Heap} {pl:Pl} {i:Nat} {cs:List SV} (hr:aF H pl w) (hl:look H i=some (.box cs)):SVRep w H pl (.ptr i 0 0) (pl.hdr i):=by
 obtain⟨b,o,h1,_,_⟩:=hr.blk i _ hl;have:=SVRep.ptrB (w:=w) (H:=H) (pl:=pl) i 0 cs b o hl h1;rw[h1];exact this
def yG (x:aa) (bs:Cell->Prop) (W0:World) (ow:Cell->Prop) (h0 h1:Value) (acc:List aa) (W:World) (pl:Pl):Prop:=
 aF (newsH 0 (yz x acc)) pl W/\pl.base=bs/\pl.hdr 0=h0/\pl.hdr 1=h1/\aM W0 W/\
 ∀p u,W0.at? p=some u->¬ow p->(∀i B,look (newsH 0 (yz x acc)) i=some B->¬pl.fp i p)/\W.at? p=some u/\W.aU p=W0.aU p
theorem y15 (x:aa) (acc:List aa) {i:Nat} {B:Blk} (h:look (newsH 0 (yz x acc)) i=some B):i<3:=by
 rw[aq,if_pos (DC _),DD]at h;exact(Db.1 h).1
theorem y16 {k:Nat} {x:aa} {bs:Cell->Prop} {W0 W:World} {ow:Cell->Prop} {h0 h1:Value} {acc:List aa} {pl:Pl} {a:Act} {l n i:Nat} {Q:Exit->Act->World->Prop} (h:yG x bs W0 ow h0 h1 acc W pl)
  (e1:a.tmps.getD 1 undef=h0) (e4:a.tmps.getD 4 undef=h1) (e5:SVRep W (newsH 0 (yz x acc)) pl (.r [] (.sl (.int .i64) (rowAt x i))) (a.tmps.getD 5 undef)) (hsz:a.tmps.size=34) (hdf:a.defers=[])
  (hcl:aL k (rowAt x i)=some (rowAt x i)) (C8:acc.length+1<=dK) (hQ:∀a w,¬Q .outgrown a w)
  (hK:∀a' W' pl',yG x bs W0 ow h0 h1 (acc++[partAt x i]) W' pl'->aM W W'->(∀p u,W.at? p=some u->(∀i B,look (newsH 0 (yz x acc)) i=some B->¬pl.fp i p)->W'.at? p=some u)->Q .normal a' W'):
  (Code.block 1 (.region 6 spO true)).wpIn (Fence.wide.inRound l) n Try.prog Q a W:=by
 obtain⟨hr,hb,p0,p1,hg,hf⟩:=h;have l0:look (newsH 0 (yz x acc)) 0=some (yy x):=rfl;have l1:look (newsH 0 (yz x acc)) 1=some (.box [.own 2]):=rfl
 let g:G0:=⟨λp=>∃i B,look (newsH 0 (yz x acc)) i=some B/\pl.fp i p,pl.hdr,λi=>(yz x acc).getD i (.box []),[]⟩
 have hR:Rl W g bs 34 (wS x acc (rowAt x i)) a W:=by
  refine⟨pl,⟨hr,λt v hv=>?_,hsz,hdf,λj hj=>?_,aM.refl W,λp u hp hno=>⟨λj B hB hfp=>hno ⟨j,B,hB,hfp⟩,hp,rfl⟩,λj m hm=>?_⟩,hb,rfl⟩
  ·simp only[wS]at hv;rw[look_cons]at hv;by_cases c:1=t
   ·subst c;rw[if_pos rfl]at hv;cases hv;have:=y14 hr l0;rw[p0,<-e1]at this;exact this
   rw[if_neg c,look_cons]at hv;by_cases c:4=t
   ·subst c;rw[if_pos rfl]at hv;cases hv;have:=y14 hr l1;rw[p1,<-e4]at this;exact this
   rw[if_neg c,look_cons]at hv;by_cases c:5=t
   ·subst c;rw[if_pos rfl]at hv;cases hv;exact e5
   rw[if_neg c]at hv;exact nomatch hv
  ·cases hq:look (newsH 0 (yz x acc)) j with
   |none=>exact hq
   |some B=>have:=y15 x acc hq;have hj:3<=j:=hj;omega
  ·have hm:([some 0,some 1]:List (Option Nat))[j]? =some (some m):=hm
   match j,hm with
   |0,hm=>simp at hm;subst hm;exact⟨by show 0<3;omega,λB hB=>by cases hB;exact⟨rfl,Blk.aE _⟩⟩
   |1,hm=>simp at hm;subst hm;exact⟨by show 1<3;omega,λB hB=>by cases hB;exact⟨rfl,Blk.aE _⟩⟩
   |j+2,hm=>simp at hm
 refine wpIn_block (xR (E:=uC k) (yx k) (K:=λst=>norm [1,4] st) (out:=zf x (acc++[partAt x i])) y12 (λa w=>?_) hR ?_ λst' a' W' hn hR'=>?_)
 ·show¬Exit.inBlock 1 Q .outgrown a w;exact hQ a w
 ·rw[y10,hcl];simp only[Dn];rw[DT (by simpa using C8)];rfl
 ·show Q .normal a' W';obtain⟨pl',hr',hb',_⟩:=lr hR' hn;have q0:=(hr'.gk 0 0 rfl).2 (yy x) rfl;have q1:=(hr'.gk 1 1 rfl).2 (.box [.own 2]) rfl;refine hK a' W' pl' ⟨hr'.hr,hb',q0.1.trans p0,q1.1.trans p1,hg.trans hr'.gr,λp u hp hno=>?_⟩ hr'.gr λp u hp hno=>(hr'.fr p u hp λ⟨j,B,hB,hfp⟩=>hno j B hB hfp).2.1;obtain⟨f1,f2,f3⟩:=hf p u hp hno;obtain⟨f4,f5,f6⟩:=hr'.fr p u f2 λ⟨j,B,hB,hfp⟩=>f1 j B hB hfp;exact⟨f4,f5,f6.trans f3⟩
theorem y17 {x:aa} {bs:Cell->Prop} {W0:World} {ow:Cell->Prop} {h0 h1:Value} {β:Type} {acc:β->List aa}:OwnFrom W0.heap.size λpre W=>∃pl,yG x bs W0 ow h0 h1 (acc pre) W pl:=by
 rintro pre W W' row ⟨pl,hr,hb,p0,p1,hg,hf⟩ hgr o4
 have ha:=oa hgr λr e=>(o4 r e).2;refine⟨pl,mW hr ha,hb,p0,p1,pU hgr hg λr e=>(o4 r e).1,λp u hp hno=>?_⟩;obtain⟨f1,f2,f3⟩:=hf p u hp hno;obtain⟨g1,g2⟩:=ha p u f2;exact⟨f1,g1,g2.trans f3⟩
def y18 (x:aa) (m:Nat) (pre:List (Fin m)):List aa:=pre.map λf=>partAt x (f.val*x.sh.c.toNat)
theorem y19 (x:aa) (m:Nat):y18 x m (List.finRange m)=(List.range m).map λj=>partAt x (j*x.sh.c.toNat):=by
 unfold y18
 exact List.ext_getElem (by simp) λi h1 h2=>by simp
theorem y1a {k:Nat} {x:aa} (hs:fw k x=true) (hc1:1<=x.sh.c) {bs:Cell->Prop} {a:Act} {W0 w0:World} {g0:G0} (hR:Rl w0 g0 bs 34 (bW [1,4,21] 34 (kd x)) a W0) {Q:Exit->Act->World->Prop} (hQ:∀a w,¬Q .outgrown a w)
    (hK:∀W D pl,W0.heap.size<=D->W.heap[D]? =some (.deferred (some []))->aF (newsH 0 (yz x ((List.range x.sh.h.toNat).map λj=>partAt x (j*x.sh.c.toNat)))) pl W->pl.base=bs->pl.hdr 0=a.tmps.getD 1 undef->pl.hdr 1=a.tmps.getD 4 undef->aM w0 W->
      (∀p u,w0.at? p=some u->¬g0.fp p->(∀i B,look (newsH 0 (yz x ((List.range x.sh.h.toNat).map λj=>partAt x (j*x.sh.c.toNat)))) i=some B->¬pl.fp i p)/\W.at? p=some u/\W.aU p=w0.aU p)->
      Q .normal {a with defers:={target:=.collected D,args:=#[]}::a.defers} W):spR.wp Try.prog Q a W0:=by
  obtain⟨pl,hr,hb,hn⟩:=hR;have t1:=y13 rfl (hr.sl 1 (.ptr 0 0 0) rfl);have t4:=y13 rfl (hr.sl 4 (.ptr 1 0 0) rfl);have l2:look (newsH 0 (kd x).2.1) 2=some (.box [.r [] (.sl (.int .i64) x.data)]):=rfl;have l3:look (newsH 0 (kd x).2.1) 3=some (.box [.i x.sh.c]):=rfl
  have t21:a.tmps.getD 21 undef=.func (.func 73) #[] #[pl.hdr 2,pl.hdr 3]:=by
    have h:=hr.sl 21 (.fn (.func 73) [] [.ptr 2 0 0,.ptr 3 0 0]) rfl;generalize a.tmps.getD 21 undef=v at h
    cases h with
    | fn _ _ _ us vs hl h1 hl' h2 =>
      obtain⟨u,v,rfl⟩:=sp_two_us hl' rfl;have q0:u=pl.hdr 2:=y13 l2 (h2 0 _ u rfl rfl);have q1:v=pl.hdr 3:=y13 l3 (h2 1 _ v rfl rfl)
      have:us=#[]:=by apply Array.eq_empty_of_size_eq_zero;simpa using hl.symm
      rw[this,q0,q1]
  obtain⟨Bs,os,e2,fp2,c2⟩:=hr.hr.blk 2 _ l2;obtain⟨Bn,on,e3,fp3,c3⟩:=hr.hr.blk 3 _ l3;obtain⟨u2,a2,_,_,r2⟩:=c2 0 _ rfl;obtain⟨u3,a3,_,_,r3⟩:=c3 0 _ rfl
  obtain rfl:u3=.int .i64 x.sh.c:=by cases r3 with|r _ _ _ h=>cases h;rfl
  unfold fw at hs;simp only[De,decide_eq_true_eq]at hs;obtain⟨_,hlen,hl1,hl2,uB⟩:=hs;obtain⟨c,hc⟩:∃c:Nat,x.sh.c=(c:Int):=⟨x.sh.c.toNat,by omega⟩
  have hct:x.sh.c.toNat=c:=by omega
  obtain⟨m,hm⟩:∃m:Nat,x.sh.h.toNat=m:=⟨_,rfl⟩;rw[hm,hct]at hlen;rw[hm]at hK
  cases r2 with
  |r _ _ _ hrep=>
  obtain⟨b,off,cap,rfl,hcap⟩:∃b off cap,u2=.slice (some ⟨b,off,none⟩) x.data.length cap/\x.data.length<=cap:=by
    cases hrep with
    | sl _ _ a cap b o vs hcap ha _ _ =>
      rcases ha with ha|ha
      · have ha:x.data=[]:=ha;rw[ha]at hl1;exact absurd hl1 (by decide)
      · subst ha;exact⟨b,o,cap,rfl,hcap⟩
  have C9:aF (newsH 0 (yz x [])) (pl.out [0,1,4]) W0:=sK hr.hr (L:=[0,1,4]) rfl rfl
  let ow:Cell->Prop:=λp=>∃i B,look (newsH 0 (yz x [])) i=some B/\(pl.out [0,1,4]).fp i p
  have how:∀p,ow p->∃j B,(j=0\/j=1\/j=4)/\look (newsH 0 (kd x).2.1) j=some B/\pl.fp j p:=by
    rintro p ⟨i,B,hB,hf⟩
    have hi:=y15 x [] hB
    match i,hi with
    |0,_=>exact⟨0,_,.inl rfl,rfl,hf⟩
    |1,_=>exact⟨1,_,.inr (.inl rfl),rfl,hf⟩
    |2,_=>exact⟨4,_,.inr (.inr rfl),rfl,hf⟩
  have o2:¬ow (Bs,os):=λh=>by
    obtain⟨j,B,hj,hB,hf⟩:=how _ h;have:=hr.hr.dis j 2 _ _ _ hB l2 hf ((fp2 _).2 ⟨rfl,by simp,by simp⟩);omega
  have o3:¬ow (Bn,on):=λh=>by
    obtain⟨j,B,hj,hB,hf⟩:=how _ h;have:=hr.hr.dis j 3 _ _ _ hB l3 hf ((fp3 _).2 ⟨rfl,by simp,by simp⟩);omega
  have hcs:W0.cell? ⟨Bs,os,none⟩=some (.slice (some ⟨b,off,none⟩) (m*c) cap):=by rw[<-hlen];exact a2
  have hcn:W0.cell? ⟨Bn,on,none⟩=some (.int .i64 (c:Int)):=by rw[<-hc];exact a3
  have hfl:∀f:Fin m,f.val*c+c<=x.data.length:=λf=>by rw[hlen,<-DU];exact Dv c f.isLt
  refine(wpIn_wide (n:=10)).1 ?_;rw[Bm]
  refine wpIn_rangeFunc_ownF (n:=10) (F:=Fence.wide) rfl (by omega) (gf:=73) (lb:=#[.pointer (some ⟨Bs,os,none⟩),.pointer (some ⟨Bn,on,none⟩)]) (by show a.tmps.getD 21 undef=_;rw[t21,e2,e3]) trivial (enters_of Try.func73 (by kernel_rfl) (by kernel_rfl))
    (chunk_stops (10-1) Bs os Bn on b off m c cap (by omega) (by omega) (by omega) W0 hcs hcn) (λh g B o v hB hv=>g B o v hB (h B o v hB hv))
    (λW l ob ob' _ hl hcl _ B o v _ hv=>(oa (grownBy_putObj' W l ob') (λr e=>by cases e;exact⟨ob,hl,hcl⟩) (B,o) v hv).1) (Go.RowKit.Below.refl _ _) (λ_=>rfl)
    (λpre W=>∃plW,yG x bs W0 ow (a.tmps.getD 1 undef) (a.tmps.getD 4 undef) (y18 x m pre) W plW) (λ_ _ _=>False) y17 (λ_ _ _ _ _ h _ _=>h)
    ⟨pl.out [0,1,4],C9,hb,t1.symm,t4.symm,aM.refl W0,λp u hp hno=>⟨λi B hB hf=>hno ⟨i,B,hB,hf⟩,hp,rfl⟩⟩
    (λf=>{tmps:=(a.tmps.setIfInBounds 22 (.slice (some ⟨b,off+f.val*c,none⟩) c c)).setIfInBounds 5 (.slice (some ⟨b,off+f.val*c,none⟩) c c),defers:=[]}) ?assign ?body ?done ?stop
  case assign=>
    intro l f W K hK
    have e:∀v:Value,Array.foldl (λ(t:Array Value) (x:Nat× Value)=>match x with|(p,v)=>t.setIfInBounds p v) a.tmps (#[22].zip #[v])=a.tmps.setIfInBounds 22 v:=λv=>by simp
    rw[e];refine wpIn_region_lit (wpListIn_plain rfl λK' hK'=>wB rfl hK' (de (u:=.slice (some ⟨b,off+f.val*c,none⟩) c c) (w':=W) ?_ ?_))
    · have hz:22<a.tmps.size:=by rw[hr.sz,hn];omega
      have:(a.tmps.setIfInBounds 22 (.slice (some ⟨b,off+f.val*c,none⟩) c c)).getD 22 undef=.slice (some ⟨b,off+f.val*c,none⟩) c c:=by
        rw[Dj,DV hz];rfl
      rw[execOp];show Sem.run _ (pure (Next.value ((a.tmps.setIfInBounds 22 (.slice (some ⟨b,off+f.val*c,none⟩) c c)).getD 22 undef))) W=_;rw[this];rfl
    · exact hK
  case body=>
    rintro l pre f W ⟨plW,hI⟩ CD
    have hz:∀i,i<34->i<a.tmps.size:=λi hi=>by rw[hr.sz,hn];omega
    have ki:∀(i:Nat) (v w:Value),i≠22->i≠5->((a.tmps.setIfInBounds 22 v).setIfInBounds 5 w).getD i undef=a.tmps.getD i undef:=λi v w h1 h2=>by
      simp only[Dj];rw[D4 (Ne.symm h2),D4 (Ne.symm h1)]
    have hi:(f.val*c)+c<=x.data.length:=hfl f
    have o4:cr W0 (okd (newsH 0 (kd x).2.1) pl []) (.sl (.int .i64) (rowAt x (f.val*c))) (.slice (some ⟨b,off+f.val*c,none⟩) c c):=by
      have:=xS (i:=f.val*c) (c:=c) hrep hi;unfold rowAt;rw[hct];rw[show(Ty.int .i64).sz=1 from rfl,Nat.mul_one]at this;exact this
    refine y16 (k:=k) (i:=f.val*c) hI (ki 1 _ _ (by omega) (by omega)) (ki 4 _ _ (by omega) (by omega)) ?_ (by simp only[Array.size_setIfInBounds];exact hr.sz.trans hn) rfl ?_ ?_ (λa w h=>h) λa' W' pl' q1 q2 q3=>⟨ew q2,λB o v hB hv=>?_,pl',?_⟩
    · have:((a.tmps.setIfInBounds 22 (Value.slice (some ⟨b,off+f.val*c,none⟩) c c)).setIfInBounds 5 (.slice (some ⟨b,off+f.val*c,none⟩) c c)).getD 5 undef=.slice (some ⟨b,off+f.val*c,none⟩) c c:=by
        rw[Dj,DV (by rw[Array.size_setIfInBounds];exact hz 5 (by omega))];rfl
      rw[this];refine .r _ _ _ (o4.frame λp u hp hu=>?_)
      have hno:¬ow p:=λh=>by
        obtain⟨j,B,_,hB,hf⟩:=how p h;exact hp.2 j B hB (λe=>nomatch e) hf
      obtain⟨f1,f2,_⟩:=hI.2.2.2.2.2 p u hu hno;exact⟨⟨by rw[hI.2.1,<-hb];exact hp.1,λi B hB _=>f1 i B hB⟩,f2⟩
    · have:=Eu.1 uB (f.val*c) (List.mem_range.2 (by omega));exact eq_of_beq this
    · have hM:dK=274877906944:=rfl
      have:(y18 x m pre).length=pre.length:=by unfold y18;rw[List.length_map]
      have hmc:m<=m*c:=Nat.le_mul_of_pos_right m (by omega);omega
    · have hv:W.at? (B,o)=some v:=hv;refine q3 (B,o) v hv ?_
      have ho:¬ow (B,o)/\∃u,W0.at? (B,o)=some u:=by
        rcases hB with⟨rfl,rfl⟩|⟨rfl,rfl⟩
        · exact⟨o2,_,a2⟩
        · exact⟨o3,_,a3⟩
      obtain⟨ho,u,hu⟩:=ho;exact(hI.2.2.2.2.2 _ u hu ho).1
    · have:y18 x m (pre++[f])=y18 x m pre++[partAt x (f.val*c)]:=by unfold y18;rw[List.map_append,hct];rfl
      rw[this];exact q1
  case done=>
    rintro D xs W hD rfl ⟨plW,hrW,hbW,p0,p1,hg,hf⟩ hdf
    rw[y19]at hrW hf;refine hK W D plW hD hdf hrW hbW p0 p1 (hr.gr.trans hg) λp u hp hno=>?_;obtain⟨f1,f2,f3⟩:=hr.fr p u hp hno
    have ho:¬ow p:=λh=>by
      obtain⟨j,B,_,hB,hfp⟩:=how p h;exact f1 j B hB hfp
    obtain⟨f4,f5,f6⟩:=hf p u f2 ho;exact⟨f4,f5,f6.trans f3⟩
  case stop=>exactλD c' pre W _ _ h _=>h.elim
theorem y1b {k:Nat} {x:aa} {r:List aa× Bool} (h:bO k x=some r):dG Try.prog 9 (aSp x) (oSp r.1 r.2):=by
  refine⟨enters_of Try.func9 (by kernel_rfl) (by kernel_rfl),λw us ok hlen fD=>?_⟩;have hrel:=Be (fn:=Try.f9) (args:=aSp x) (by rw[y11];show 1<=34;omega) hlen fD
  obtain ⟨out, CD, jf⟩ : ∃ out, ev (uC k) (ua (NF ⊕ Out)) 0 (.seq sp0 (.seq sp1 (.seq sp2 sp3))) (st0 Try.f9 (aSp x)) ot = some out /\
      (out=.inr (oSp r.1 r.2)\/out=.inl (kd x)/\1<=x.sh.c/\fw k x=true/\r=((List.range x.sh.h.toNat).map (λj=>partAt x (j*x.sh.c.toNat)),true)):=by
    rw[Bo];unfold bO at h;rw[An]at h;obtain⟨t,ht,h⟩:=h;rw[ht,Dn]
    cases t with
    |false=>cases h;exact⟨_,rfl,.inl rfl⟩
    | true =>
      simp only[Bool.not_true,cond_false]at h⊢
      cases hw:x.sh.w !=1 with
      |true=>rw[hw]at h;cases h;exact⟨_,rfl,.inl rfl⟩
      | false =>
        rw[hw]at h;simp only[cond_false]at h⊢
        cases hs:fw k x with
        |false=>rw[hs]at h;exact nomatch h
        | true =>
          rw[hs]at h;cases h
          have hc:1<=x.sh.c:=by unfold fw at hs;simp only[De,decide_eq_true_eq]at hs;exact hs.1
          exact⟨_,by rw[decide_eq_true hc];rfl,.inr ⟨rfl,hc,rfl,rfl⟩⟩
  refine callsIn_wide.1 (callsIn_of_wp_marks (n:=10) Try.func9 yw trivial ((wpIn_wide (n:=10)).2 ?_) rfl)
  generalize hRR:(λ(e:Ending) (w':World)=>∃u pl,e=.returned u/\aF (newsH 0 (oSp r.1 r.2).2) pl w'/\SVRep w' (newsH 0 (oSp r.1 r.2).2) pl (oSp r.1 r.2).1 u/\pl.base=(λp=>ok p\/w.at? p=none)/\
      (∀p x,w.at? p=some x->w'.at? p=some x/\w'.aU p=w.aU p)/\(∀i B p,look (newsH 0 (oSp r.1 r.2).2) i=some B->pl.fp i p->w.at? p=none)/\aM w w')=RR
  generalize hQQ:bodyPostM Fence.wide 10 Try.prog Try.f9 RR=Q
  have hQo:∀a w,¬Q .outgrown a w:=λa w' hq=>by
    rw[<-hQQ]at hq;have hq:RR .outgrown w':=hq;rw[<-hRR]at hq;obtain⟨u,pl,e,_⟩:=hq;exact nomatch e
  have retA:∀e st a' w',e≠.normal->ot e st=some out->Rl w ⟨λ_=>False,λ_=>undef,λ_=>.box [],[]⟩ (λp=>ok p\/w.at? p=none) Try.f9.ntmps st a' w'->Q e.up a' w':=λe st a' w' hne hk hr=>by
    cases e with
    |normal=>exact absurd rfl hne
    |exit j=>exact nomatch hk
    | ret =>
      have hk:((vP Try.prog Try.f9 st).bind λv=>(canon s9 st.heap v).bind λo=>some (Sum.inr o))=some out:=hk;rw[An]at hk;obtain⟨v,hv,hk⟩:=hk;rw[An]at hk;obtain⟨o,ho,hk⟩:=hk
      obtain rfl:o=oSp r.1 r.2:=by
        rcases jf with rfl|⟨rfl,_⟩
        · cases hk;rfl
        · exact nomatch hk
      obtain⟨pl,hr,hb,_⟩:=hr;obtain⟨u,pl',q1,q2,q3,q4,q5⟩:=sW hr.hr hr.sl hv ho;rw[<-hQQ];show LeavesInM Fence.wide 10 Try.prog Try.f9 a'.tmps RR a'.defers .returning w';rw[hr.df];refine⟨u,q1,?_⟩;rw[<-hRR];refine⟨u,pl',rfl,q2,q3,q4.trans hb,λp x hp=>(hr.fr p x hp id).2,λi B p hB hf=>?_,hr.gr⟩;obtain⟨j,B',h1,h2⟩:=q5 i B p hB hf
      cases hq:w.at? p with
      |none=>rfl
      |some x=>exact((hr.fr p x hq id).1 j B' h1 h2).elim
  have h0:ev (uC k) (ua (NF⊕ Out)) 0 sp0 (st0 Try.f9 (aSp x)) (λe st=>match e with|.normal=>ev (uC k) (ua (NF⊕ Out)) 0 (.seq sp1 (.seq sp2 sp3)) st ot|e=>ot e st)=some out:=CD;refine wp_seq (bC (yx k) sp0 0 (bL (by kernel_rfl)) w _ _ _ _ _ w _ out _ hrel h0 λe st1 a1 w1 h1 hr1=>?_)
  cases e with
  |exit j=>exact retA (.exit j) st1 a1 w1 (λe=>nomatch e) h1 hr1
  |ret=>exact retA .ret st1 a1 w1 (λe=>nomatch e) h1 hr1
  |normal=>
  have h1:ev (uC k) (ua (NF⊕ Out)) 0 sp1 st1 (λe st=>match e with|.normal=>ev (uC k) (ua (NF⊕ Out)) 0 (.seq sp2 sp3) st ot|e=>ot e st)=some out:=h1;refine wp_seq (bC (yx k) sp1 0 (bL (by kernel_rfl)) w _ _ _ _ _ w1 _ out _ hr1 h1 λe st2 a2 w2 h2 hr2=>?_)
  cases e with
  |exit j=>exact retA (.exit j) st2 a2 w2 (λe=>nomatch e) h2 hr2
  |ret=>exact retA .ret st2 a2 w2 (λe=>nomatch e) h2 hr2
  |normal=>
  have h2:ev (uC k) (ua (NF⊕ Out)) 0 sp2 st2 (λe st=>match e with|.normal=>ev (uC k) (ua (NF⊕ Out)) 0 sp3 st ot|e=>ot e st)=some out:=h2;refine wp_seq (bC (yx k) sp2 0 (bL (by kernel_rfl)) w _ _ _ _ _ w2 _ out _ hr2 h2 λe st3 a3 w3 h3 hr3=>?_)
  cases e with
  |exit j=>exact retA (.exit j) st3 a3 w3 (λe=>nomatch e) h3 hr3
  |ret=>exact retA .ret st3 a3 w3 (λe=>nomatch e) h3 hr3
  |normal=>
  refine wp_seq (wp_seq (bC (yx k) sp3 0 (bL (by kernel_rfl)) w _ _ _ _ _ w3 _ out _ hr3 h3 λe st4 a4 w4 h4 hr4=>?_))
  cases e with
  |exit j=>exact retA (.exit j) st4 a4 w4 (λe=>nomatch e) h4 hr4
  |ret=>exact retA .ret st4 a4 w4 (λe=>nomatch e) h4 hr4
  |normal=>
  have h4:((norm [1,4,21] st4).bind λnf=>some (Sum.inl nf))=some out:=h4;rw[An]at h4;obtain⟨nf,hnf,h4⟩:=h4;cases h4
  obtain⟨e4,hc1,hs,rfl⟩:nf=kd x/\1<=x.sh.c/\fw k x=true/\r=((List.range x.sh.h.toNat).map (λj=>partAt x (j*x.sh.c.toNat)),true):=by
    rcases jf with e|⟨e,h⟩
    · exact nomatch e
    · cases e;exact⟨rfl,h⟩
  subst e4;have hr5:=lr hr4 hnf;rw[y11]at hr5
  have hgw:w.heap.size<=w4.heap.size:=by
    obtain⟨pl,hr,_,_⟩:=hr5;exact(ew hr.gr).size
  have hdf4:a4.defers=[]:=by
    obtain⟨pl,hr,_,_⟩:=hr5;exact hr.df
  have hz4:a4.tmps.size=34:=by
    obtain⟨pl,hr,_,_⟩:=hr5;exact hr.sz
  refine wp_block (y1a hs hc1 hr5 (λa w h=>hQo a w h) λW D pl hD hdf hr hb p0 p1 hg hf=>?_);rw[hdf4]
  let parts:=(List.range x.sh.h.toNat).map λj=>partAt x (j*x.sh.c.toNat)
  let g:G0:=⟨λp=>∃i B,look (newsH 0 (yz x parts)) i=some B/\pl.fp i p,pl.hdr,λi=>(yz x parts).getD i (.box []),[{target:=.collected D,args:=#[]}]⟩
  have l0:look (newsH 0 (yz x parts)) 0=some (yy x):=rfl;have l1:look (newsH 0 (yz x parts)) 1=some (.box [.own 2]):=rfl
  have hR:Rl W g (λp=>ok p\/w.at? p=none) 34 (ta x parts) {tmps:=a4.tmps,defers:=[{target:=.collected D,args:=#[]}]} W:=by
    refine⟨pl,⟨hr,λt v hv=>?_,hz4,rfl,λj hj=>?_,aM.refl W,λp u hp hno=>⟨λj B hB hfp=>hno ⟨j,B,hB,hfp⟩,hp,rfl⟩,λj m hm=>?_⟩,hb,rfl⟩
    · simp only[ta]at hv;rw[look_cons]at hv;by_cases c:1=t
      · subst c;rw[if_pos rfl]at hv;cases hv;have:=y14 hr l0;rw[p0]at this;exact this
      rw[if_neg c,look_cons]at hv;by_cases c:4=t
      · subst c;rw[if_pos rfl]at hv;cases hv;have:=y14 hr l1;rw[p1]at this;exact this
      rw[if_neg c]at hv;exact nomatch hv
    · cases hq:look (newsH 0 (yz x parts)) j with
      |none=>exact hq
      |some B=>have:=y15 x parts hq;have hj:3<=j:=hj;omega
    · have hm:([]:List (Option Nat))[j]? =some (some m):=hm;simp at hm
  refine bC (yx k) (LP:=ua Out) spE 0 (bL (by kernel_rfl)) W g _ 34 (ta x parts) _ W _ (oSp parts true) Q hR (Bp k x parts) λe st' a' w' hk hr'=>?_
  obtain⟨v,hv,hcn,he⟩:∃v,vP Try.prog Try.f9 st'=some v/\canon s9 st'.heap v=some (oSp parts true)/\(e=.normal\/e=.ret):=by
    cases e with
    |exit j=>exact nomatch hk
    | normal =>
      simp only[fin,An]at hk;obtain⟨v,hv,o,ho,hk⟩:=hk
      cases hk;exact⟨v,hv,ho,.inl rfl⟩
    | ret =>
      simp only[fin,An]at hk;obtain⟨v,hv,o,ho,hk⟩:=hk;cases hk;exact⟨v,hv,ho,.inr rfl⟩
  obtain⟨pl',hr',hb',_⟩:=hr';have hD':w'.heap[D]? =some (.deferred (some [])):=(ew hr'.gr).same D _ hdf rfl;have hgb:=grownBy_putObj' w' D (.deferred none)
  have hal:Alike w' (w'.putObj D (.deferred none)):=oa hgb λr e=>by cases e;exact⟨_,hD',rfl⟩
  obtain⟨u,pl2,q1,q2,q3,q4,q5⟩:=sW (mW hr'.hr hal) (λt v hv=>(hr'.sl t v hv).jn (lA hal)) hv hcn
  have key:Q .ret a' w':=by
    rw[<-hQQ];show LeavesInM Fence.wide 10 Try.prog Try.f9 a'.tmps RR a'.defers .returning w';rw[hr'.df];refine⟨(λe=>nomatch e),.inl ⟨D,w'.putObj D (.deferred none),rfl,run_takeDeferred hD',u,q1,?_⟩⟩;rw[<-hRR];refine⟨u,pl2,rfl,q2,q3,q4.trans hb',λp y hp=>?_,λi B p hB hfp=>?_,pU hgb (hg.trans hr'.gr) λr e=>by cases e;omega⟩
    · obtain⟨f1,f2,f3⟩:=hf p y hp id;obtain⟨f4,f5,f6⟩:=hr'.fr p y f2 λ⟨j,B,hB,hfp⟩=>f1 j B hB hfp;obtain⟨f7,f8⟩:=hal p y f5;exact⟨f7,f8.trans (f6.trans f3)⟩
    · obtain⟨j,B',h1,h2⟩:=q5 i B p hB hfp
      cases hq:w.at? p with
      |none=>rfl
      | some y =>
        obtain⟨f1,f2,f3⟩:=hf p y hq id;obtain⟨f4,f5,f6⟩:=hr'.fr p y f2 λ⟨j,B,hB,hfp⟩=>f1 j B hB hfp;exact(f4 j B' h1 h2).elim
  rcases he with rfl|rfl
  · rw[<-hQQ]at key⊢;exact key
  · exact key
def y1c (k:Nat):O Try.prog 9:=okH [.agg [(.int .i64),(.int .i64),(.int .i64),(.sl (.int .i64))]] [] (cdS .ax) ⟨.tup [.own 0,.h 1],[.arr none (.st .ax) 0]⟩ ((cdL (.st .ax)).p cdB) (bO k) λa b h=>y1b h
def y1d (k:Nat):=ov tt [] .id Try.func43 [.agg [(.int .i64),(.int .i64),(.int .i64)],.agg [(.int .i64),(.int .i64),(.int .i64)]] ((cdS .shape).p (cdS .shape)) ⟨.h 0,[]⟩ cdB (.sc) (λa=>lJ k a.1 a.2)
def y1e (k:Nat):=xQ tt [] .id Try.func44 k [L2 0 false [0,1,5] [] ((cdL (.int .i64)).p (cdL (.int .i64))) cdZ ⟨[.h 0,.h 1,.h 2],[],[]⟩ ⟨2,[],[],cdU,⟨[],[],[]⟩⟩ ⟨1,[4],[],cdB,⟨[.h 2],[],[]⟩⟩ (lK k)] [.one (.sl (.int .i64)),.one (.sl (.int .i64))] ((cdL (.int .i64)).p (cdL (.int .i64))) ⟨.h 0,[]⟩ cdB (.sc) (λa=>ky k a.1 a.2)
def y1f (k:Nat):=ov tt [⟨43,y1d k⟩,⟨44,y1e k⟩] .id Try.func11 [.agg [(.int .i64),(.int .i64),(.int .i64),(.sl (.int .i64))],.agg [(.int .i64),(.int .i64),(.int .i64),(.sl (.int .i64))]] ((cdS .ax).p (cdS .ax)) ⟨.h 0,[]⟩ cdB (.sc) (λa=>eR k a.1 a.2)
def y1g (k:Nat):=xQ tt [⟨11,y1f k⟩] .id Try.func10 k [L2 0 false [0,1,5] [] ((cdL (.st .ax)).p (cdL (.st .ax))) cdZ ⟨[.h 0,.h 1,.h 2],[],[]⟩ ⟨2,[],[],cdU,⟨[],[],[]⟩⟩ ⟨1,[4],[],cdB,⟨[.h 2],[],[]⟩⟩ (bZ k)] [.one (.sl (.st .ax)),.one (.sl (.st .ax))] ((cdL (.st .ax)).p (cdL (.st .ax))) ⟨.h 0,[]⟩ cdB (.sc) (λa=>dJ k a.1 a.2)
def y1h (k:Nat):=Cw tt [] .id Try.func45 k [L1 0 false [0,1,5] [] cdU (cdZ.p (cdZ.p (cdL (.int .i64)))) ⟨[.own 0,.h 0,.h 1],[.arr none (.int .i64) 2],[some 0]⟩ ⟨2,[1],[],(cdZ.p (cdL (.int .i64))),⟨[.h 0],[.arr none (.int .i64) 1],[some 0]⟩⟩ (bz k)] [.aY,.aY] ⟨[.own 0,.h 1],[.arr none (.int .i64) 0]⟩ ((cdL (.int .i64)).p cdZ) ⟨.h 2,[some (.arr none (.int .i64) 3)],[]⟩ (cdZ.p (cdL (.int .i64))) (.sc) [.arr] (λa=>dm k a.1 a.2)
def y1i (k:Nat):=C0 tt [⟨45,y1h k⟩] (.w [45]) Try.func12 [.aY,.aY] ⟨[.agg [.h 0,.h 1,.h 2,.own 0],.h 4],[.arr none (.int .i64) 3]⟩ ((cdS .ax).p cdZ) ⟨.h 5,[some (.arr none (.int .i64) 6)],[]⟩ (cdZ.p (cdL (.int .i64))) (.sc) [.arr] (λa=>cC k a.1 a.2)
def y1j (k:Nat):=Cw tt [⟨45,O.inn (y1h k)⟩] {f:=λE=>{E with wr:=λg=>mem g [45],wt:=true,inn:=true}} Try.func13 k [L1 0 false [0,1,5] [] cdU (cdZ.p (cdZ.p (cdL (.st .ax)))) ⟨[.own 0,.h 0,.h 1],[.arr none (.st .ax) 2],[some 0]⟩ ⟨2,[1],[],(cdZ.p (cdL (.st .ax))),⟨[.h 0],[.arr none (.st .ax) 1],[some 0]⟩⟩ (aW k)] [.aY,.aY] ⟨[.own 0,.h 1],[.arr none (.st .ax) 0]⟩ ((cdL (.st .ax)).p cdZ) ⟨.h 2,[some (.arr none (.st .ax) 3)],[]⟩ (cdZ.p (cdL (.st .ax))) (.sc) [.arr] (λa=>dh k a.1 a.2)
def y1k (k:Nat):=xQ tt [] .id Try.func46 k [L2 0 false [0,1,5] [] (cdL (.int .i64)) (cdZ.p cdZ) ⟨[.h 0,.h 1,.h 2],[],[]⟩ ⟨2,[1],[],cdZ,⟨[.h 1],[],[]⟩⟩ ⟨1,[4],[],cdZ,⟨[.h 1],[],[]⟩⟩ (cD k)] [.one (.sl (.int .i64)),.one (.int .i64)] ((cdL (.int .i64)).p cdZ) ⟨.h 0,[]⟩ cdZ (.sc) (λa=>gK k a.1 a.2)
def y1l (k:Nat):=xQ tt [⟨46,y1k k⟩] .id Try.func14 k [L2 0 false [0,1,5] [] (cdL (.st .ax)) (cdZ.p cdZ) ⟨[.h 0,.h 1,.h 2],[],[]⟩ ⟨2,[1],[],cdZ,⟨[.h 1],[],[]⟩⟩ ⟨1,[4],[],cdZ,⟨[.h 1],[],[]⟩⟩ (bA k)] [.one (.sl (.st .ax)),.one (.int .i64)] ((cdL (.st .ax)).p cdZ) ⟨.h 0,[]⟩ cdZ (.sc) (λa=>dn k a.1 a.2)
noncomputable def y1m (k:Nat):Env:={mU (P:=Try.prog) tt [⟨6,y9 k⟩,⟨7,yj k⟩,⟨8,yc k⟩,⟨9,y1c k⟩,⟨10,y1g k⟩,⟨11,y1f k⟩,⟨12,y1i k⟩,⟨13,y1j k⟩,⟨14,y1l k⟩]with wr:=λg=>mem g [12,13],wt:=true}
theorem y1n (k:Nat):ek (y1m k):=λg=>rq _ g
noncomputable def y1o:Code:=(Try.f3.body).getD .skip
def y1p (ρ:Type) (k:Nat):Nat->Ev ρ->Ev ρ:=λ_ _ _ _=>none
def y1q (a:aa):List Arg:=[.agg [.int .i64 a.sh.h,.int .i64 a.sh.w,.int .i64 a.sh.c,.sl (.int .i64) a.data]]
def y1r (l:List Arg):Option (aa):=match l with
 |[.agg [.int .i64 b0_0,.int .i64 b0_1,.int .i64 b0_2,.sl (.int .i64) b0_3]]=>some (⟨(⟨b0_0,b0_1,b0_2⟩:Shape),b0_3⟩:aa)
 |_=>none
def y1s (r:Bool):Out:=(.r [] (.bool r),[])
def y1t (o:Out):Option (Bool):=match o with
 |(.r [] (.bool z1),[])=>some z1
 |_=>none
def y1u (k:Nat):PG:=λ_ l K=>(y1r l).bind λa=>(aX k a).bind λr=>K (y1s r)
theorem y1v (k:Nat) (a:aa):ev (y1m k) (y1p (Bool) k) 0 y1o (st0 Try.f3 (y1q a)) (fin Try.prog Try.f3 (.sc) y1t)=aX k a:=by kernel_rfl
theorem y1w (k:Nat):sH Try.prog 3 (y1u k):=
 j5 (y1n k) Try.func3 (by kernel_rfl) (by kernel_rfl) y1q y1r
  (λl a h=>by unfold y1r at h;split at h<;>first|(cases h;rfl)|cases h) (λa=>rfl) (bL (by kernel_rfl))
  (λo r h=>by unfold y1t at h;split at h<;>first|(cases h;rfl)|cases h) (y1v k)
end
end Go.Proofs.Ev
