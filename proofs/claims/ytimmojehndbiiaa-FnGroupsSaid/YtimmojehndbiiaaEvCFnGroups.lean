/- Text of this claim. -/
import Derived.Test.YtimmojehndbiiaaEvK7
import Derived.Test.YtimmojehndbiiaaProg
import Derived.Test.YtimmojehndbiiaaEvL1
set_option linter.unusedVariables false
set_option linter.unusedSimpArgs false
set_option linter.unusedSectionVars false
set_option maxRecDepth 100000
set_option maxHeartbeats 4000000
namespace Go.Proofs.Ev
noncomputable section
variable [Tok]
def tt:TT:=look [(2,(.int .i64)),(3,(.int .i64)),(4,.bool),(5,(.int .u8)),(6,(.int .u8)),(9,.str),(10,.str),(11,.str),(12,(.int .u64)),(21,(.int .i32)),(23,(.st .shape)),(24,(.sl (.int .i64))),(26,(.st .iN)),(28,(.sl (.st .iN))),(31,(.st .shape)),(33,(.st .iN)),(40,(.sl (.st .wish))),(42,(.sl (.sl (.int .i64)))),(45,(.sl (.st .wish))),(52,(.sl (.int .u8))),(73,(.st .wish)),(75,(.st .wish)),(105,(.int .u64)),(117,(.int .u32)),(118,(.int .u8)),(119,(.int .u8)),(122,(.int .i32)),(123,(.int .i32))]
def y0 (k:Nat):=tY tt [] .id Try.func24 [.one (.sl (.int .u8))] (cdL (.int .u8)) ⟨.h 0,[]⟩ cdB (.sc) (Cy k)
def ya (k:Nat):=zV tt [] .id Try.func58 k [L1 0 false [0,3,4] [] (cdL (.int .u8)) (cdZ.p cdZ) ⟨[.h 0,.h 1,.h 2],[],[]⟩ ⟨2,[0,3],[],cdZ,⟨[.h 0,.h 1],[],[]⟩⟩ (iA k)] [.one (.sl (.int .u8))] ⟨[.h 0],[]⟩ (cdL (.int .u8)) ⟨.v (.ptr 0 0 0),[],[.box [.h 0,.h 1,.h 2]]⟩ (cdZ.p cdZ) (.ptr) [.box [.ro (.int .u8),.sc,.sc]] (gT k)
def yb (k:Nat):=tY tt [] .id Try.func78 [.one (.sl (.int .u8)),.one (.int .i64)] ((cdL (.int .u8)).p cdZ) ⟨.h 0,[]⟩ cdZ (.sc) (λa=>k9 k a.1 a.2)
def yc (k:Nat):=Cu tt [] .id Try.func80 [.bp] ⟨[.v (.ptr 0 0 0)],[.box [.h 0,.h 1,.h 2]]⟩ ((cdL (.int .u8)).p (cdZ.p cdZ)) ⟨.h 3,[some (.box [.h 0,.h 4,.h 5])],[]⟩ (cdZ.p (cdZ.p cdZ)) (.sc) [.box [.ro (.int .u8),.sc,.sc]] (λa=>dU k a.1 a.2.1 a.2.2)
def yd (k:Nat):=Cu tt [⟨80,yc k⟩] (.w [80]) Try.func63 [.bp,.one (.int .i64)] ⟨[.v (.ptr 0 0 0),.h 3],[.box [.h 0,.h 1,.h 2]]⟩ ((cdL (.int .u8)).p (cdZ.p (cdZ.p cdZ))) ⟨.h 4,[some (.box [.h 0,.h 5,.h 6])],[]⟩ (cdZ.p (cdZ.p cdZ)) (.sc) [.box [.ro (.int .u8),.sc,.sc]] (λa=>ba k a.1 a.2.1 a.2.2.1 a.2.2.2)
def ye (k:Nat):=Cu tt [⟨63,yd k⟩] (.w [63]) Try.func64 [.bp,.one (.int .i64)] ⟨[.v (.ptr 0 0 0),.h 3],[.box [.h 0,.h 1,.h 2]]⟩ ((cdL (.int .u8)).p (cdZ.p (cdZ.p cdZ))) ⟨.h 4,[some (.box [.h 0,.h 5,.h 6])],[]⟩ (cdB.p (cdZ.p cdZ)) (.sc) [.box [.ro (.int .u8),.sc,.sc]] (λa=>dr k a.1 a.2.1 a.2.2.1 a.2.2.2)
def yf (k:Nat):=Cu tt [⟨63,yd k⟩] (.w [63]) Try.func60 [.bp,.one (.sl (.int .i64))] ⟨[.v (.ptr 0 0 0),.h 3],[.box [.h 0,.h 1,.h 2]]⟩ ((cdL (.int .u8)).p (cdZ.p (cdZ.p (cdL (.int .i64))))) ⟨.h 4,[some (.box [.h 0,.h 5,.h 6])],[]⟩ (cdZ.p (cdZ.p cdZ)) (.sc) [.box [.ro (.int .u8),.sc,.sc]] (λa=>bB k a.1 a.2.1 a.2.2.1 a.2.2.2)
def yg (k:Nat):=zV tt [⟨60,yf k⟩,⟨63,yd k⟩,⟨64,ye k⟩,⟨78,yb k⟩] (.w [60,63,64]) Try.func59 k [L1 0 false [0,5,6,7] [] (cdZ.p (cdL (.int .u8))) (cdZ.p (cdZ.p (cdZ.p (cdL (.st .wish))))) ⟨[.v (.ptr 0 0 0),.own 1,.h 0,.h 2],[.box [.h 1,.h 3,.h 4],.arr none (.st .wish) 5],[some 0]⟩ ⟨2,[0,5,6],[],(cdZ.p (cdZ.p (cdL (.st .wish)))),⟨[.v (.ptr 0 0 0),.own 1,.h 0],[.box [.h 1,.h 2,.h 3],.arr none (.st .wish) 4],[some 0]⟩⟩ (cr k)] [.bp,.one (.sl (.int .u8))] ⟨[.v (.ptr 0 0 0),.h 3],[.box [.h 0,.h 1,.h 2]]⟩ ((cdL (.int .u8)).p (cdZ.p (cdZ.p (cdL (.int .u8))))) ⟨.own 1,[some (.box [.h 0,.h 5,.h 6])],[.arr none (.st .wish) 4]⟩ ((cdL (.st .wish)).p (cdZ.p cdZ)) (.own (.st .wish)) [.box [.ro (.int .u8),.sc,.sc]] (λa=>dF k a.1 a.2.1 a.2.2.1 a.2.2.2)
def yh (k:Nat):=tY tt [⟨58,ya k⟩,⟨59,yg k⟩,⟨60,yf k⟩] (.w [58,59,60]) Try.func25 [.one (.sl (.int .u8))] (cdL (.int .u8)) ⟨.tup [.own 0,.h 1],[.arr none (.st .wish) 0]⟩ ((cdL (.st .wish)).p cdZ) (.tup [.own (.st .wish),.sc]) (dG k)
def yi (k:Nat):=tY tt [] .id Try.func47 [.one (.int .i64),.one (.int .i64),.one (.int .i64)] (cdZ.p (cdZ.p cdZ)) ⟨.h 0,[]⟩ cdB (.sc) (λa=>nG k a.1 a.2.1 a.2.2)
def yj (k:Nat):=tY tt [⟨47,yi k⟩] .id Try.func74 [.one (.int .i64)] cdZ ⟨.h 0,[]⟩ cdB (.sc) (k8 k)
def yk (k:Nat):=tY tt [⟨74,yj k⟩] .id Try.func48 [.agg [(.int .i64),(.int .i64),(.int .i64)]] (cdS .wish) ⟨.h 0,[]⟩ cdB (.sc) (lb k)
def yl (k:Nat):=wz tt [] .id Try.func49 k [L1 2 false [0,3,4,5,6,7] [] ((cdL (.int .i64)).p (cdZ.p (cdL (.int .i64)))) (cdB.p (cdZ.p (cdL (.int .i64)))) ⟨[.h 0,.own 0,.h 1,.own 1,.h 3,.h 4],[.arr none (.int .i64) 2,.arr none (.int .i64) 5],[]⟩ ⟨4,[0,4,5,6],[],(cdB.p (cdL (.int .i64))),⟨[.h 0,.h 1,.own 0,.h 3],[.arr none (.int .i64) 4],[]⟩⟩ (fj k),
 L1 0 false [0,3,4] [] (cdL (.int .i64)) (cdZ.p (cdL (.int .i64))) ⟨[.h 0,.own 0,.h 1],[.arr none (.int .i64) 2],[]⟩ ⟨2,[3],[],(cdL (.int .i64)),⟨[.own 0],[.arr none (.int .i64) 1],[]⟩⟩ (iB k)] [.one (.sl (.int .i64))] (cdL (.int .i64)) ⟨.own 0,[.arr none (.int .i64) 0]⟩ (cdL (.int .i64)) (.own (.int .i64)) (fx k)
def ym (k:Nat):=wz tt [⟨47,yi k⟩,⟨48,yk k⟩,⟨49,yl k⟩] {f:=λE=>{E with tak:=true,tkt:=[118]}} Try.func16 k [L2 2 false [0,1,6,7,8] [] ((cdL (.st .wish)).p (cdZ.p (cdZ.p (cdL (.int .i64))))) cdZ ⟨[.h 0,.h 1,.own 0,.h 2,.h 4],[.arr none (.int .i64) 3],[]⟩ ⟨4,[0,1,6,7],[],cdU,⟨[.h 0,.h 1,.own 0,.h 2],[.arr none (.int .i64) 3],[]⟩⟩ ⟨1,[4,5],[],cdB,⟨[.v .cU,.h 4],[],[]⟩⟩ (cZ k),
 L2 0 false [0,1,6,7] [] ((cdL (.st .wish)).p cdZ) (cdZ.p (cdL (.int .i64))) ⟨[.h 0,.h 1,.own 0,.h 2],[.arr none (.int .i64) 3],[]⟩ ⟨2,[0,1,6],[],(cdL (.int .i64)),⟨[.h 0,.h 1,.own 0],[.arr none (.int .i64) 2],[]⟩⟩ ⟨1,[4,5],[],cdB,⟨[.v .cU,.h 2],[],[]⟩⟩ (cD k),
 L1 6 false [0,1,9,10,11,12,13,14] [] ((cdL (.st .wish)).p (cdZ.p (cdZ.p ((cdL (.int .i64)).p ((cdL (.sl (.int .i64))).p ((cdL (.int .i64)).p (cdZ.p (cdZ.p cdZ)))))))) cdZ ⟨[.h 0,.h 1,.own 0,.own 1,.own 2,.h 2,.v (.ptr 3 0 0),.h 9],[.arr none (.int .i64) 3,.arr none (.sl (.int .i64)) 4,.arr none (.int .i64) 5,.box [.h 6,.h 7,.h 8]],[]⟩ ⟨8,[0,1,9,10,11,12,13,14],[],cdZ,⟨[.h 0,.h 1,.own 0,.own 1,.own 2,.h 2,.v (.ptr 3 0 0),.h 9],[.arr none (.int .i64) 3,.arr none (.sl (.int .i64)) 4,.arr none (.int .i64) 5,.box [.h 6,.h 7,.h 8]],[]⟩⟩ (c6 k),
 L1 4 false [0,1,9,10,11,12] [] ((cdL (.st .wish)).p (cdZ.p (cdL (.int .i64)))) (cdZ.p ((cdL (.sl (.int .i64))).p (cdL (.int .i64)))) ⟨[.h 0,.h 1,.own 0,.own 1,.own 2,.h 3],[.arr none (.int .i64) 2,.arr none (.sl (.int .i64)) 4,.arr none (.int .i64) 5],[]⟩ ⟨6,[10],[],(cdL (.sl (.int .i64))),⟨[.own 0],[.arr none (.sl (.int .i64)) 3],[]⟩⟩ (cj k)] [.one (.sl (.st .wish)),.one (.int .i64)] ((cdL (.st .wish)).p cdZ) ⟨.tup [.own 0,.h 1],[.arr none (.sl (.int .i64)) 0]⟩ ((cdL (.sl (.int .i64))).p cdB) (.tup [.own (.sl (.int .i64)),.sc]) (λa=>fk k a.1 a.2)
def DP (k:Nat):=tY tt [] .id Try.func51 [.one (.int .i64),.one (.int .i64),.one (.int .i64)] (cdZ.p (cdZ.p cdZ)) ⟨.h 0,[]⟩ cdB (.sc) (λa=>D2 k a.1 a.2.1 a.2.2)
def yn (k:Nat):=tY tt [] .id Try.func53 [.one (.sl (.st .wish))] (cdL (.st .wish)) ⟨.own 0,[.arr none (.st .wish) 0]⟩ (cdL (.st .wish)) (.own (.st .wish)) (bO k)
def yo (k:Nat):=tY tt [] .id Try.func77 [.one (.int .i64)] cdZ ⟨.h 0,[]⟩ cdB (.sc) (fi k)
def yp (k:Nat):=tY tt [⟨77,yo k⟩] .id Try.func56 [.one (.int .i64),.one (.int .i64)] (cdZ.p cdZ) ⟨.h 0,[]⟩ cdZ (.sc) (λa=>ez k a.1 a.2)
def yq (k:Nat):=tY tt [⟨56,yp k⟩] .id Try.func55 [.agg [(.int .i64),(.int .i64),(.int .i64)],.agg [(.int .i64),(.int .i64),(.int .i64)]] ((cdS .wish).p (cdS .wish)) ⟨.h 0,[]⟩ cdZ (.sc) (λa=>bV k a.1 a.2)
def yr (k:Nat):=zV tt [⟨55,yq k⟩] {f:=λE=>{E with swp:=true}} Try.func85 k [L1 2 false [0,1,2,3,8,9] [] (cdZ.p (cdZ.p cdZ)) (cdZ.p (cdL (.st .wish))) ⟨[.own 0,.h 0,.h 1,.fn 55 [] [],.h 2,.h 3],[.arr none (.st .wish) 4],[some 0]⟩ ⟨4,[0,1,2,3,8],[],(cdL (.st .wish)),⟨[.own 0,.h 0,.h 1,.fn 55 [] [],.h 2],[.arr none (.st .wish) 3],[some 0]⟩⟩ (bn k),
 L1 0 false [0,1,2,3,8] [] (cdZ.p cdZ) (cdZ.p (cdL (.st .wish))) ⟨[.own 0,.h 0,.h 1,.fn 55 [] [],.h 2],[.arr none (.st .wish) 3],[some 0]⟩ ⟨2,[],[],(cdL (.st .wish)),⟨[],[.arr none (.st .wish) 2],[some 0]⟩⟩ (bo k)] [.bp,.bp,.bp,.bp] ⟨[.own 0,.h 1,.h 2,.fn 55 [] []],[.arr none (.st .wish) 0]⟩ ((cdL (.st .wish)).p (cdZ.p cdZ)) ⟨.tup [],[some (.arr none (.st .wish) 3)],[]⟩ (cdL (.st .wish)) (.tup []) [.arr] (λa=>bc k a.1 a.2.1 a.2.2)
def yt (k:Nat):=zV tt [] {f:=λE=>{E with swp:=true}} Try.func92 k [L1 0 false [0,1,2,3,10] [] (cdZ.p (cdZ.p cdZ)) (cdZ.p (cdL (.st .wish))) ⟨([.own 0]++hs 0 4),[.arr none (.st .wish) 4],[some 0]⟩ ⟨2,[],[],(cdL (.st .wish)),⟨[],[.arr none (.st .wish) 3],[some 0]⟩⟩ (bD k)] [.bp,.bp,.bp,.bp,.bp] ⟨[.own 0,.h 1,.h 2,.h 3,.fn 55 [] []],[.arr none (.st .wish) 0]⟩ ((cdL (.st .wish)).p (cdZ.p (cdZ.p cdZ))) ⟨.tup [],[some (.arr none (.st .wish) 4)],[]⟩ (cdL (.st .wish)) (.tup []) [.arr] (λa=>aX k a.1 a.2.1 a.2.2.1 a.2.2.2)
def yu (k:Nat):=zV tt [⟨92,yt k⟩] (.w [92]) Try.func89 k [L1 0 false [0,2,4,10,11] [] cdZ (cdZ.p (cdZ.p (cdL (.st .wish)))) ⟨[.own 0,.h 0,.fn 55 [] [],.h 1,.h 2],[.arr none (.st .wish) 3],[some 0]⟩ ⟨2,[0,2,4,10],[],(cdZ.p (cdL (.st .wish))),⟨[.own 0,.h 0,.fn 55 [] [],.h 1],[.arr none (.st .wish) 2],[some 0]⟩⟩ (bP k)] [.bp,.bp,.bp,.bp,.bp] ⟨[.own 0,.h 1,.h 2,.h 3,.fn 55 [] []],[.arr none (.st .wish) 0]⟩ ((cdL (.st .wish)).p (cdZ.p (cdZ.p cdZ))) ⟨.tup [],[some (.arr none (.st .wish) 4)],[]⟩ (cdL (.st .wish)) (.tup []) [.arr] (λa=>cd k a.1 a.2.1 a.2.2.1 a.2.2.2)
noncomputable def yv (k:Nat) (self:O Try.prog 86):Env:={oc (P:=Try.prog) tt [⟨55,yq k⟩,⟨89,yu k⟩,⟨86,self⟩]with wr:=λg=>mem g [89],wt:=true,swp:=true}
theorem yw (k:Nat) (self:O Try.prog 86):gv (yv k self):=λg=>nB _ g
noncomputable def yx:Code:=(Try.f86.body).getD .skip
noncomputable def yy:Code:=((bL 0 yx).getD 0 (0,.skip)).2
noncomputable def yz:Code:=((bL 0 yx).getD 1 (0,.skip)).2
noncomputable def y12:Code:=((bL 0 yx).getD 2 (0,.skip)).2
noncomputable def y13:Code:=((bL 0 yx).getD 3 (0,.skip)).2
noncomputable def y17:Code:=((bL 0 yx).getD 4 (0,.skip)).2
def y1a:List Nat:=[0,1,4,10,11]
def y1b:List (bY× Co):=[]
def y1c:Ex->List Nat
 |.exit j=>cond (Nat.beq j 0) [0,1,10] []
 |.ret=>[]
 |.normal=>[]
def y1d:Ex->List (bY× Co)
 |.exit j=>cond (Nat.beq j 0) [] []
 |.ret=>[]
 |.normal=>[]
def y1e (pv:(Int× List Wish)× (Int× Int)):St:={aS:=[(0,.own 0),(1,.r [] (.int .i64 pv.1.1)),(4,.fn (.func 55) [] []),(10,.r [] (.int .i64 pv.2.1)),(11,.r [] (.int .i64 pv.2.2))],heap:=[(0,.arr none (.st .wish) pv.1.2)],nid:=1,n:=220,gh:=[some 0]}
def y1f (nf:NF):Option ((Int× List Wish)× (Int× Int)):=match nf with
 |([.own 0,.r [] (.int .i64 w0),.fn (.func 55) [] [],.r [] (.int .i64 w1),.r [] (.int .i64 w2)],[.arr none (.st .wish) w3],[some 0])=>some ((w0,w3),(w1,w2))
 |_=>none
theorem y1g (nf:NF) (v:(Int× List Wish)× (Int× Int)) (h:y1f nf=some v):aY y1a 220 nf=y1e v:=by
 unfold y1f at h;split at h
 ·cases h;rfl
 ·cases h
def y1h (p:Int× List Wish) (x:Int):St:={aS:=[(0,.own 0),(1,.r [] (.int .i64 p.1)),(10,.r [] (.int .i64 x))],heap:=[(0,.arr none (.st .wish) p.2)],nid:=1,n:=220,gh:=[some 0]}
def y1i:List Nat:=[0,10,13]
def y1j:List (bY× Co):=[]
def y1k:Ex->List Nat
 |.exit j=>cond (Nat.beq j 2) [] []
 |.ret=>[]
 |.normal=>[]
def y1l:Ex->List (bY× Co)
 |.exit j=>cond (Nat.beq j 2) [] []
 |.ret=>[]
 |.normal=>[]
def y1m (pv:(Int)× (Int× List Wish)):St:={aS:=[(0,.own 0),(10,.r [] (.int .i64 pv.1)),(13,.r [] (.int .i64 pv.2.1))],heap:=[(0,.arr none (.st .wish) pv.2.2)],nid:=1,n:=220,gh:=[some 0]}
def y1n (nf:NF):Option ((Int)× (Int× List Wish)):=match nf with
 |([.own 0,.r [] (.int .i64 w0),.r [] (.int .i64 w1)],[.arr none (.st .wish) w2],[some 0])=>some (w0,(w1,w2))
 |_=>none
theorem y1o (nf:NF) (v:(Int)× (Int× List Wish)) (h:y1n nf=some v):aY y1i 220 nf=y1m v:=by
 unfold y1n at h;split at h
 ·cases h;rfl
 ·cases h
def y1p (p:Int) (x:List Wish):St:={aS:=[],heap:=[(0,.arr none (.st .wish) x)],nid:=1,n:=220,gh:=[some 0]}
def y1q:List Nat:=[0,2,4,14,15]
def y1r:List (bY× Co):=[]
def y1s:Ex->List Nat
 |.exit j=>cond (Nat.beq j 4) [0,2,14] []
 |.ret=>[]
 |.normal=>[]
def y1t:Ex->List (bY× Co)
 |.exit j=>cond (Nat.beq j 4) [] []
 |.ret=>[]
 |.normal=>[]
def y1u (pv:(Int× List Wish)× (Int× Int)):St:={aS:=[(0,.own 0),(2,.r [] (.int .i64 pv.1.1)),(4,.fn (.func 55) [] []),(14,.r [] (.int .i64 pv.2.1)),(15,.r [] (.int .i64 pv.2.2))],heap:=[(0,.arr none (.st .wish) pv.1.2)],nid:=1,n:=220,gh:=[some 0]}
def y1v (nf:NF):Option ((Int× List Wish)× (Int× Int)):=match nf with
 |([.own 0,.r [] (.int .i64 w0),.fn (.func 55) [] [],.r [] (.int .i64 w1),.r [] (.int .i64 w2)],[.arr none (.st .wish) w3],[some 0])=>some ((w0,w3),(w1,w2))
 |_=>none
theorem y1w (nf:NF) (v:(Int× List Wish)× (Int× Int)) (h:y1v nf=some v):aY y1q 220 nf=y1u v:=by
 unfold y1v at h;split at h
 ·cases h;rfl
 ·cases h
def y1x (p:Int× List Wish) (x:Int):St:={aS:=[(0,.own 0),(2,.r [] (.int .i64 p.1)),(14,.r [] (.int .i64 x))],heap:=[(0,.arr none (.st .wish) p.2)],nid:=1,n:=220,gh:=[some 0]}
def y1y:List Nat:=[0,14,17]
def y1z:List (bY× Co):=[]
def y20:Ex->List Nat
 |.exit j=>cond (Nat.beq j 6) [] []
 |.ret=>[]
 |.normal=>[]
def y21:Ex->List (bY× Co)
 |.exit j=>cond (Nat.beq j 6) [] []
 |.ret=>[]
 |.normal=>[]
def y23 (pv:(Int)× (Int× List Wish)):St:={aS:=[(0,.own 0),(14,.r [] (.int .i64 pv.1)),(17,.r [] (.int .i64 pv.2.1))],heap:=[(0,.arr none (.st .wish) pv.2.2)],nid:=1,n:=220,gh:=[some 0]}
def y25 (nf:NF):Option ((Int)× (Int× List Wish)):=match nf with
 |([.own 0,.r [] (.int .i64 w0),.r [] (.int .i64 w1)],[.arr none (.st .wish) w2],[some 0])=>some (w0,(w1,w2))
 |_=>none
theorem y27 (nf:NF) (v:(Int)× (Int× List Wish)) (h:y25 nf=some v):aY y1y 220 nf=y23 v:=by
 unfold y25 at h;split at h
 ·cases h;rfl
 ·cases h
def y28 (p:Int) (x:List Wish):St:={aS:=[],heap:=[(0,.arr none (.st .wish) x)],nid:=1,n:=220,gh:=[some 0]}
def y29:List Nat:=[0,1,2,3,4,18,19,20,21,22]
def y2a:List (bY× Co):=[]
def y2b:Ex->List Nat
 |.exit j=>cond (Nat.beq j 8) [0,1,2,3,4,18,19,20] []
 |.ret=>[]
 |.normal=>[]
def y2c:Ex->List (bY× Co)
 |.exit j=>cond (Nat.beq j 8) [] []
 |.ret=>[]
 |.normal=>[]
def y2d (pv:(Int× Int× Int× Int× Int× Int× List Wish)× (Int× Int)):St:={aS:=[(0,.own 0),(1,.r [] (.int .i64 pv.1.1)),(2,.r [] (.int .i64 pv.1.2.1)),(3,.r [] (.int .i64 pv.1.2.2.1)),(4,.fn (.func 55) [] []),(18,.r [] (.int .i64 pv.1.2.2.2.1)),(19,.r [] (.int .i64 pv.1.2.2.2.2.1)),(20,.r [] (.int .i64 pv.2.1)),(21,.r [] (.int .i64 pv.2.2)),(22,.r [] (.int .i64 pv.1.2.2.2.2.2.1))],heap:=[(0,.arr none (.st .wish) pv.1.2.2.2.2.2.2)],nid:=1,n:=220,gh:=[some 0]}
def y2e (nf:NF):Option ((Int× Int× Int× Int× Int× Int× List Wish)× (Int× Int)):=match nf with
 |([.own 0,.r [] (.int .i64 w0),.r [] (.int .i64 w1),.r [] (.int .i64 w2),.fn (.func 55) [] [],.r [] (.int .i64 w3),.r [] (.int .i64 w4),.r [] (.int .i64 w5),.r [] (.int .i64 w6),.r [] (.int .i64 w7)],[.arr none (.st .wish) w8],[some 0])=>some ((w0,w1,w2,w3,w4,w7,w8),(w5,w6))
 |_=>none
theorem y2f (nf:NF) (v:(Int× Int× Int× Int× Int× Int× List Wish)× (Int× Int)) (h:y2e nf=some v):aY y29 220 nf=y2d v:=by
 unfold y2e at h;split at h
 ·cases h;rfl
 ·cases h
def y2g (p:Int× Int× Int× Int× Int× Int× List Wish) (x:Int):St:={aS:=[(0,.own 0),(1,.r [] (.int .i64 p.1)),(2,.r [] (.int .i64 p.2.1)),(3,.r [] (.int .i64 p.2.2.1)),(4,.fn (.func 55) [] []),(18,.r [] (.int .i64 p.2.2.2.1)),(19,.r [] (.int .i64 p.2.2.2.2.1)),(20,.r [] (.int .i64 x))],heap:=[(0,.arr none (.st .wish) p.2.2.2.2.2.2)],nid:=1,n:=220,gh:=[some 0]}
def y2h (ρ:Type) (k:Nat):Nat->Ev ρ->Ev ρ:=λid f=>cond (Nat.beq id 8) (dc y29 y2a (λn nf=>cond (Nat.beq n 220) (y2e nf) none) λpv K=>iter (λv next=>aQ k pv.1 v next (λx=>K (.exit 8) (y2g pv.1 x))) k pv.2) ((λid f=>cond (Nat.beq id 6) (dc y1y y1z (λn nf=>cond (Nat.beq n 220) (y25 nf) none) λpv K=>iter (λv next=>aP k pv.1 v next (λx=>K (.exit 6) (y28 pv.1 x))) k pv.2) ((λid f=>cond (Nat.beq id 4) (dc y1q y1r (λn nf=>cond (Nat.beq n 220) (y1v nf) none) λpv K=>iter (λv next=>aO k pv.1 v next (λx=>K (.exit 4) (y1x pv.1 x))) k pv.2) ((λid f=>cond (Nat.beq id 2) (dc y1i y1j (λn nf=>cond (Nat.beq n 220) (y1n nf) none) λpv K=>iter (λv next=>aN k pv.1 v next (λx=>K (.exit 2) (y1p pv.1 x))) k pv.2) ((λid f=>cond (Nat.beq id 0) (dc y1a y1b (λn nf=>cond (Nat.beq n 220) (y1f nf) none) λpv K=>iter (λv next=>aM k pv.1 v next (λx=>K (.exit 0) (y1h pv.1 x))) k pv.2) ((λ_ _ _ _=>none) id f)) id f)) id f)) id f)) id f)
theorem y2i {ρ:Type} (k:Nat) (self:O Try.prog 86) (p:Int× List Wish) (v:Int× Int) (K K1:Ex->St->Option ρ):ev (yv k self) (y2h ρ k) 0 yy (y1e (p,v)) (λe st'=>match e with
  |.normal=>(db y1a y1b st').bind λnf=>K1 .normal (aY y1a st'.n nf)
  |e=>(db (y1c e) (y1d e) st').bind λnf=>K e (aY (y1c e) st'.n nf))=aM k p v (λv'=>K1 .normal (y1e (p,v'))) (λx=>K (.exit 0) (y1h p x)):=by kernel_rfl
theorem y2j {ρ:Type} (k:Nat) (self:O Try.prog 86):Sound Try.prog (.loop yy) (y2h ρ k 0 λst K=>ev (yv k self) (y2h ρ k) 0 yy st K):=
 eM (b8 (yw k self) yy 0 (bM (by kernel_rfl))) y1c y1d k (g:=λp v next K=>aM k p v next (λx=>K (.exit 0) (y1h p x))) (gQ y1g) (λp v K K1=>y2i k self p v K K1)
theorem y2k {ρ:Type} (k:Nat) (self:O Try.prog 86) (p:Int) (v:Int× List Wish) (K K1:Ex->St->Option ρ):ev (yv k self) (y2h ρ k) 2 yz (y1m (p,v)) (λe st'=>match e with
  |.normal=>(db y1i y1j st').bind λnf=>K1 .normal (aY y1i st'.n nf)
  |e=>(db (y1k e) (y1l e) st').bind λnf=>K e (aY (y1k e) st'.n nf))=aN k p v (λv'=>K1 .normal (y1m (p,v'))) (λx=>K (.exit 2) (y1p p x)):=by kernel_rfl
theorem y2l {ρ:Type} (k:Nat) (self:O Try.prog 86):Sound Try.prog (.loop yz) (y2h ρ k 2 λst K=>ev (yv k self) (y2h ρ k) 2 yz st K):=
 eM (b8 (yw k self) yz 2 (bM (by kernel_rfl))) y1k y1l k (g:=λp v next K=>aN k p v next (λx=>K (.exit 2) (y1p p x))) (gQ y1o) (λp v K K1=>y2k k self p v K K1)
theorem y2m {ρ:Type} (k:Nat) (self:O Try.prog 86) (p:Int× List Wish) (v:Int× Int) (K K1:Ex->St->Option ρ):ev (yv k self) (y2h ρ k) 4 y12 (y1u (p,v)) (λe st'=>match e with
  |.normal=>(db y1q y1r st').bind λnf=>K1 .normal (aY y1q st'.n nf)
  |e=>(db (y1s e) (y1t e) st').bind λnf=>K e (aY (y1s e) st'.n nf))=aO k p v (λv'=>K1 .normal (y1u (p,v'))) (λx=>K (.exit 4) (y1x p x)):=by kernel_rfl
theorem y2n {ρ:Type} (k:Nat) (self:O Try.prog 86):Sound Try.prog (.loop y12) (y2h ρ k 4 λst K=>ev (yv k self) (y2h ρ k) 4 y12 st K):=
 eM (b8 (yw k self) y12 4 (bM (by kernel_rfl))) y1s y1t k (g:=λp v next K=>aO k p v next (λx=>K (.exit 4) (y1x p x))) (gQ y1w) (λp v K K1=>y2m k self p v K K1)
theorem y2o {ρ:Type} (k:Nat) (self:O Try.prog 86) (p:Int) (v:Int× List Wish) (K K1:Ex->St->Option ρ):ev (yv k self) (y2h ρ k) 6 y13 (y23 (p,v)) (λe st'=>match e with
  |.normal=>(db y1y y1z st').bind λnf=>K1 .normal (aY y1y st'.n nf)
  |e=>(db (y20 e) (y21 e) st').bind λnf=>K e (aY (y20 e) st'.n nf))=aP k p v (λv'=>K1 .normal (y23 (p,v'))) (λx=>K (.exit 6) (y28 p x)):=by kernel_rfl
theorem y2p {ρ:Type} (k:Nat) (self:O Try.prog 86):Sound Try.prog (.loop y13) (y2h ρ k 6 λst K=>ev (yv k self) (y2h ρ k) 6 y13 st K):=
 eM (b8 (yw k self) y13 6 (bM (by kernel_rfl))) y20 y21 k (g:=λp v next K=>aP k p v next (λx=>K (.exit 6) (y28 p x))) (gQ y27) (λp v K K1=>y2o k self p v K K1)
theorem y2q {ρ:Type} (k:Nat) (self:O Try.prog 86) (p:Int× Int× Int× Int× Int× Int× List Wish) (v:Int× Int) (K K1:Ex->St->Option ρ):ev (yv k self) (y2h ρ k) 8 y17 (y2d (p,v)) (λe st'=>match e with
  |.normal=>(db y29 y2a st').bind λnf=>K1 .normal (aY y29 st'.n nf)
  |e=>(db (y2b e) (y2c e) st').bind λnf=>K e (aY (y2b e) st'.n nf))=aQ k p v (λv'=>K1 .normal (y2d (p,v'))) (λx=>K (.exit 8) (y2g p x)):=by kernel_rfl
theorem y2r {ρ:Type} (k:Nat) (self:O Try.prog 86):Sound Try.prog (.loop y17) (y2h ρ k 8 λst K=>ev (yv k self) (y2h ρ k) 8 y17 st K):=
 eM (b8 (yw k self) y17 8 (bM (by kernel_rfl))) y2b y2c k (g:=λp v next K=>aQ k p v next (λx=>K (.exit 8) (y2g p x))) (gQ y2f) (λp v K K1=>y2q k self p v K K1)
def y2s (f:List Wish× Int× Int× Int->Option (List Wish)):Orc:=oM [.bp,.bp,.bp,.bp,.bp] ⟨[.own 0,.h 1,.h 2,.h 3,.fn 55 [] []],[.arr none (.st .wish) 0]⟩ ((cdL (.st .wish)).p (cdZ.p (cdZ.p cdZ))) ⟨.tup [],[some (.arr none (.st .wish) 4)],[]⟩ (cdL (.st .wish)) f
theorem y2t:∀k,jP Try.prog 86 (y2s (λa=>aL k a.1 a.2.1 a.2.2.1 a.2.2.2))
 |0=>zh
 |k+1=>okM (LP:=y2h _ k) (yw k ⟨_,y2t k⟩) Try.func86 (by kernel_rfl) (by kernel_rfl) (by kernel_rfl) (by kernel_rfl) (kY (l:=[(0,yy),(2,yz),(4,y12),(6,y13),(8,y17)]) (by kernel_rfl) ⟨y2j k ⟨_,y2t k⟩,⟨y2l k ⟨_,y2t k⟩,⟨y2n k ⟨_,y2t k⟩,⟨y2p k ⟨_,y2t k⟩,⟨y2r k ⟨_,y2t k⟩,trivial⟩⟩⟩⟩⟩) (.tup []) [.arr] λa=>by kernel_rfl
def y2u (k:Nat):O Try.prog 86:=⟨y2s (λa=>aL k a.1 a.2.1 a.2.2.1 a.2.2.2),y2t k⟩
def y2v (k:Nat):=zV tt [⟨85,yr k⟩,⟨86,y2u k⟩] (.w [85,86]) Try.func76 k [L1 0 false [0,1,2,6,7,8] [] (cdZ.p cdZ) (cdZ.p (cdZ.p (cdL (.st .wish)))) ⟨[.own 0,.h 0,.fn 55 [] [],.h 1,.h 2,.h 3],[.arr none (.st .wish) 4],[some 0]⟩ ⟨2,[0,1,2,6,7],[],(cdZ.p (cdL (.st .wish))),⟨[.own 0,.h 0,.fn 55 [] [],.h 1,.h 2],[.arr none (.st .wish) 3],[some 0]⟩⟩ (bQ k),
 L1 4 false [0,1,2,6,7,8] [] (cdZ.p cdZ) (cdZ.p (cdZ.p (cdL (.st .wish)))) ⟨[.own 0,.h 0,.fn 55 [] [],.h 1,.h 2,.h 3],[.arr none (.st .wish) 4],[some 0]⟩ ⟨6,[0,1,2,6,7],[],(cdZ.p (cdL (.st .wish))),⟨[.own 0,.h 0,.fn 55 [] [],.h 1,.h 2],[.arr none (.st .wish) 3],[some 0]⟩⟩ (bR k),
 L1 2 false [0,1,2,6] [] cdZ (cdZ.p (cdL (.st .wish))) ⟨[.own 0,.h 0,.fn 55 [] [],.h 1],[.arr none (.st .wish) 2],[some 0]⟩ ⟨4,[],[],(cdL (.st .wish)),⟨[],[.arr none (.st .wish) 1],[some 0]⟩⟩ (bS k)] [.bp,.bp,.bp] ⟨[.own 0,.h 1,.fn 55 [] []],[.arr none (.st .wish) 0]⟩ ((cdL (.st .wish)).p cdZ) ⟨.tup [],[some (.arr none (.st .wish) 2)],[]⟩ (cdL (.st .wish)) (.tup []) [.arr] (λa=>cf k a.1 a.2)
def y2w (k:Nat):=Cu tt [⟨76,y2v k⟩] (.w [76]) Try.func54 [.bp,.bp] ⟨[.own 0,.fn 55 [] []],[.arr none (.st .wish) 0]⟩ (cdL (.st .wish)) ⟨.tup [],[some (.arr none (.st .wish) 1)],[]⟩ (cdL (.st .wish)) (.tup []) [.arr] (aJ k)
def y2x (k:Nat):=wz tt [⟨51,DP k⟩,⟨52,o_I_areWishes k⟩,⟨53,yn k⟩,⟨54,y2w k⟩] {f:=λE=>{E with wr:=λg=>mem g [54],wt:=true,tak:=true,tkt:=[72]}} Try.func18 k [L1 2 false [1,7,8,10,11,28,29,30,34,35,36] [] (cdZ.p (cdZ.p (cdZ.p (cdZ.p (cdZ.p ((cdL (.sl (.int .i64))).p ((cdL (.int .i64)).p (cdZ.p (cdZ.p (cdZ.p (cdL (.st .wish)))))))))))) cdZ ⟨[.h 0,.own 0,.own 1,.v (.ptr 2 0 0),.h 1,.own 3,.h 2,.h 3,.own 1,.h 4,.h 11],[.arr none (.sl (.int .i64)) 5,.arr none (.int .i64) 6,.box [.h 7,.h 8,.h 9],.arr none (.st .wish) 10],[]⟩ ⟨4,[1,7,8,10,11,28,29,30],[],cdZ,⟨[.h 0,.own 0,.own 1,.v (.ptr 2 0 0),.h 11,.own 3,.h 2,.h 3],[.arr none (.sl (.int .i64)) 5,.arr none (.int .i64) 6,.box [.h 7,.h 8,.h 9],.arr none (.st .wish) 10],[]⟩⟩ (c7 k),
 L1 0 false [1,7,8,28,29,30] [] (cdZ.p (cdZ.p (cdL (.st .wish)))) (cdZ.p ((cdL (.sl (.int .i64))).p (cdL (.int .i64)))) ⟨[.h 0,.own 0,.own 1,.own 2,.h 1,.h 3],[.arr none (.sl (.int .i64)) 4,.arr none (.int .i64) 5,.arr none (.st .wish) 2],[]⟩ ⟨2,[7],[],(cdL (.sl (.int .i64))),⟨[.own 0],[.arr none (.sl (.int .i64)) 3],[]⟩⟩ (cl k)] [.one (.sl (.st .wish)),.one (.int .i64)] ((cdL (.st .wish)).p cdZ) ⟨.tup [.own 0,.h 1],[.arr none (.sl (.int .i64)) 0]⟩ ((cdL (.sl (.int .i64))).p cdB) (.tup [.own (.sl (.int .i64)),.sc]) (λa=>fl k a.1 a.2)
def y2y (k:Nat):=wz tt [] .id Try.func26 k [L2 0 false [0,1,5] [] ((cdL (.int .i64)).p (cdL (.int .i64))) cdZ ⟨[.h 0,.h 1,.h 2],[],[]⟩ ⟨2,[],[],cdU,⟨[],[],[]⟩⟩ ⟨1,[4],[],cdB,⟨[.h 2],[],[]⟩⟩ (la k)] [.one (.sl (.int .i64)),.one (.sl (.int .i64))] ((cdL (.int .i64)).p (cdL (.int .i64))) ⟨.h 0,[]⟩ cdB (.sc) (λa=>ml k a.1 a.2)
def y2z (k:Nat):=wz tt [] .id Try.func79 k [L2 0 false [0,1,7,8] [] ((cdL (.int .i64)).p (cdZ.p cdZ)) cdZ ⟨(hs 0 4),[],[]⟩ ⟨2,[],[],cdU,⟨[],[],[]⟩⟩ ⟨1,[4],[],cdZ,⟨[.h 3],[],[]⟩⟩ (cg k)] [.one (.sl (.int .i64)),.one (.int .i64)] ((cdL (.int .i64)).p cdZ) ⟨.h 0,[]⟩ cdZ (.sc) (λa=>dv k a.1 a.2)
def y30 (k:Nat):=tY tt [⟨79,y2z k⟩] .id Try.func61 [.one (.sl (.int .i64)),.one (.int .i64)] ((cdL (.int .i64)).p cdZ) ⟨.h 0,[]⟩ cdB (.sc) (λa=>ch k a.1 a.2)
def y31 (k:Nat):=wz tt [⟨61,y30 k⟩] .id Try.func27 k [L1 2 false [0,5,7,8,9,13,14,15,19,20,21] [] ((cdL (.st .wish)).p ((cdL (.int .i64)).p ((cdL (.sl (.int .i64))).p (cdZ.p (cdZ.p ((cdL (.st .wish)).p (cdZ.p (cdL (.int .i64))))))))) (cdZ.p (cdB.p cdZ)) ⟨([.h 0,.own 0,.h 1,.h 8,.h 9]++hs 2 5++[.h 10]),[.arr none (.int .i64) 7],[]⟩ ⟨4,[0,5,8,13,14,15],[],cdZ,⟨[.h 0,.own 0,.h 8,.h 2,.h 3,.h 4],[.arr none (.int .i64) 7],[]⟩⟩ (c9 k),
 L1 0 false [0,5,13,14,15] [] ((cdL (.st .wish)).p ((cdL (.sl (.int .i64))).p cdZ)) (cdZ.p (cdL (.int .i64))) ⟨[.h 0,.own 0,.h 1,.h 2,.h 3],[.arr none (.int .i64) 4],[]⟩ ⟨2,[5],[],(cdL (.int .i64)),⟨[.own 0],[.arr none (.int .i64) 3],[]⟩⟩ (dK k)] [.one (.sl (.st .wish)),.one (.sl (.sl (.int .i64)))] ((cdL (.st .wish)).p (cdL (.sl (.int .i64)))) ⟨.own 0,[.arr none (.int .i64) 0]⟩ (cdL (.int .i64)) (.own (.int .i64)) (λa=>iC k a.1 a.2)
def y32 (k:Nat):=wz tt [] .id Try.func62 k [L2 0 false [0,1,5] [] ((cdL (.int .i64)).p cdZ) cdZ ⟨[.h 0,.h 1,.h 2],[],[]⟩ ⟨2,[],[],cdU,⟨[],[],[]⟩⟩ ⟨1,[4],[],cdB,⟨[.h 2],[],[]⟩⟩ (iD k)] [.one (.sl (.int .i64)),.one (.int .i64)] ((cdL (.int .i64)).p cdZ) ⟨.h 0,[]⟩ cdB (.sc) (λa=>mF k a.1 a.2)
def y33 (k:Nat):=wz tt [⟨62,y32 k⟩] .id Try.func28 k [L1 2 false [0,1,5,6,7,8,9] [] ((cdL (.st .wish)).p ((cdL (.sl (.int .i64))).p (cdZ.p (cdL (.int .i64))))) (cdZ.p (cdB.p cdZ)) ⟨[.h 0,.h 1,.own 0,.h 2,.h 4,.h 5,.h 6],[.arr none (.int .i64) 3],[]⟩ ⟨4,[0,1,5,6,7],[],cdZ,⟨[.h 0,.h 1,.own 0,.h 2,.h 4],[.arr none (.int .i64) 3],[]⟩⟩ (da k),
 L1 0 false [0,1,5,6] [] ((cdL (.st .wish)).p (cdL (.sl (.int .i64)))) (cdZ.p (cdL (.int .i64))) ⟨[.h 0,.h 1,.own 0,.h 2],[.arr none (.int .i64) 3],[]⟩ ⟨2,[5],[],(cdL (.int .i64)),⟨[.own 0],[.arr none (.int .i64) 2],[]⟩⟩ (dL k)] [.one (.sl (.st .wish)),.one (.sl (.sl (.int .i64)))] ((cdL (.st .wish)).p (cdL (.sl (.int .i64)))) ⟨.own 0,[.arr none (.int .i64) 0]⟩ (cdL (.int .i64)) (.own (.int .i64)) (λa=>iE k a.1 a.2)
def y34 (k:Nat):=wz tt [] .id Try.func30 k [L1 0 false [0,5,6] [] (cdL (.int .u8)) (cdZ.p (cdL (.int .u8))) ⟨[.h 0,.own 0,.h 1],[.arr none (.int .u8) 2],[]⟩ ⟨2,[5],[],(cdL (.int .u8)),⟨[.own 0],[.arr none (.int .u8) 1],[]⟩⟩ (qu k)] [.one (.sl (.int .u8)),.one (.int .i64)] ((cdL (.int .u8)).p cdZ) ⟨.own 0,[.arr none (.int .u8) 0]⟩ (cdL (.int .u8)) (.own (.int .u8)) (λa=>wF k a.1 a.2)
def y35 (k:Nat):=wz tt [⟨58,ya k⟩,⟨60,yf k⟩,⟨63,yd k⟩,⟨64,ye k⟩] (.w [58,60,63,64]) Try.func29 k [L1 0 false [5,6,7,8,9,10] [] (cdZ.p (cdL (.int .u8))) (cdZ.p (cdZ.p (cdZ.p (cdZ.p ((cdL (.int .i64)).p (cdL (.int .i64))))))) ⟨[.v (.ptr 0 0 0),.own 1,.own 2,.h 2,.h 0,.h 3],[.box [.h 1,.h 4,.h 5],.arr none (.int .i64) 6,.arr none (.int .i64) 7],[]⟩ ⟨2,[5,6,7,9],[],(cdZ.p (cdZ.p ((cdL (.int .i64)).p (cdL (.int .i64))))),⟨[.v (.ptr 0 0 0),.own 1,.own 2,.h 0],[.box [.h 1,.h 2,.h 3],.arr none (.int .i64) 4,.arr none (.int .i64) 5],[]⟩⟩ (eA k)] [.one (.sl (.int .u8))] (cdL (.int .u8)) ⟨.tup [.own 0,.own 1,.h 2],[.arr none (.int .i64) 0,.arr none (.int .i64) 1]⟩ ((cdL (.int .i64)).p ((cdL (.int .i64)).p cdZ)) (.tup [.own (.int .i64),.own (.int .i64),.sc]) (cT k)
def y36 (k:Nat):=wz tt [] .id Try.func31 k [L2 0 false [1,2,14,15,16] [] ((cdL (.int .i64)).p ((cdL (.int .i64)).p cdZ)) (cdZ.p cdZ) ⟨[.h 0,.h 3,.h 1,.h 2,.h 4],[],[]⟩ ⟨2,[],[],cdU,⟨[],[],[]⟩⟩ ⟨1,[6],[],cdB,⟨[.h 3],[],[]⟩⟩ (dM k)] [.one (.sl (.int .i64)),.one (.sl (.int .i64)),.one (.int .i64)] ((cdL (.int .i64)).p ((cdL (.int .i64)).p cdZ)) ⟨.h 0,[]⟩ cdB (.sc) (λa=>cu k a.1 a.2.1 a.2.2)
def y37 (k:Nat):=tY tt [] .id Try.func66 [.one (.int .i64)] cdZ ⟨.h 0,[]⟩ cdZ (.sc) (dt k)
def y38 (k:Nat):=Cu tt [⟨56,yp k⟩,⟨66,y37 k⟩] .id Try.func82 [.one (.int .i64),.one (.int .i64),.bp,.bp] ⟨[.h 0,.h 1,.v (.ptr 0 0 0),.v (.ptr 1 0 0)],[.box [.fn 66 [] []],.box [.h 2]]⟩ (cdZ.p (cdZ.p (cdL (.int .i64)))) ⟨.h 3,[some (.box [.fn 66 [] []]),some (.box [.h 2])],[]⟩ cdZ (.sc) [.box [.fn [] []],.box [.ro (.int .i64)]] (λa=>bC k a.1 a.2.1 a.2.2)
def y39 (k:Nat):=zV tt [⟨82,y38 k⟩] {f:=λE=>{E with wr:=λg=>mem g [82],wt:=true,swp:=true}} Try.func90 k [L1 2 false [0,1,2,3,8,9] [] (cdZ.p (cdZ.p (cdZ.p (cdL (.int .i64))))) (cdZ.p (cdL (.int .i64))) ⟨[.own 0,.h 0,.h 1,.fn 82 [] [.v (.ptr 1 0 0),.v (.ptr 2 0 0)],.h 2,.h 4],[.arr none (.int .i64) 5,.box [.fn 66 [] []],.box [.h 3]],[some 0,some 1,some 2]⟩ ⟨4,[0,1,2,3,8],[],(cdL (.int .i64)),⟨[.own 0,.h 0,.h 1,.fn 82 [] [.v (.ptr 1 0 0),.v (.ptr 2 0 0)],.h 2],[.arr none (.int .i64) 4,.box [.fn 66 [] []],.box [.h 3]],[some 0,some 1,some 2]⟩⟩ (aD k),
 L1 0 false [0,1,2,3,8] [] (cdZ.p (cdZ.p (cdL (.int .i64)))) (cdZ.p (cdL (.int .i64))) ⟨[.own 0,.h 0,.h 1,.fn 82 [] [.v (.ptr 1 0 0),.v (.ptr 2 0 0)],.h 3],[.arr none (.int .i64) 4,.box [.fn 66 [] []],.box [.h 2]],[some 0,some 1,some 2]⟩ ⟨2,[],[],(cdL (.int .i64)),⟨[],[.arr none (.int .i64) 3,.box [.fn 66 [] []],.box [.h 2]],[some 0,some 1,some 2]⟩⟩ (ai k)] [.bp,.bp,.bp,.bp] ⟨[.own 0,.h 1,.h 2,.fn 82 [] [.v (.ptr 1 0 0),.v (.ptr 2 0 0)]],[.arr none (.int .i64) 0,.box [.fn 66 [] []],.box [.h 3]]⟩ ((cdL (.int .i64)).p (cdZ.p (cdZ.p (cdL (.int .i64))))) ⟨.tup [],[some (.arr none (.int .i64) 4),some (.box [.fn 66 [] []]),some (.box [.h 3])],[]⟩ (cdL (.int .i64)) (.tup []) [.arr,.box [.fn [] []],.box [.ro (.int .i64)]] (λa=>aI k a.1 a.2.1 a.2.2.1 a.2.2.2)
def y3a (k:Nat):=zV tt [] {f:=λE=>{E with swp:=true}} Try.func94 k [L1 0 false [0,1,2,3,10] [] (cdZ.p (cdZ.p (cdZ.p (cdL (.int .i64))))) (cdZ.p (cdL (.int .i64))) ⟨[.own 0,.h 0,.h 1,.h 2,.h 4],[.arr none (.int .i64) 5,.box [.fn 66 [] []],.box [.h 3]],[some 0,some 1,some 2]⟩ ⟨2,[],[],(cdL (.int .i64)),⟨[],[.arr none (.int .i64) 4,.box [.fn 66 [] []],.box [.h 3]],[some 0,some 1,some 2]⟩⟩ (aK k)] [.bp,.bp,.bp,.bp,.bp] ⟨[.own 0,.h 1,.h 2,.h 3,.fn 82 [] [.v (.ptr 1 0 0),.v (.ptr 2 0 0)]],[.arr none (.int .i64) 0,.box [.fn 66 [] []],.box [.h 4]]⟩ ((cdL (.int .i64)).p (cdZ.p (cdZ.p (cdZ.p (cdL (.int .i64)))))) ⟨.tup [],[some (.arr none (.int .i64) 5),some (.box [.fn 66 [] []]),some (.box [.h 4])],[]⟩ (cdL (.int .i64)) (.tup []) [.arr,.box [.fn [] []],.box [.ro (.int .i64)]] (λa=>aB k a.1 a.2.1 a.2.2.1 a.2.2.2.1 a.2.2.2.2)
def y3b (k:Nat):=zV tt [⟨94,y3a k⟩] (.w [94]) Try.func93 k [L1 0 false [0,2,4,10,11] [] (cdZ.p (cdL (.int .i64))) (cdZ.p (cdZ.p (cdL (.int .i64)))) ⟨[.own 0,.h 0,.fn 82 [] [.v (.ptr 1 0 0),.v (.ptr 2 0 0)],.h 2,.h 3],[.arr none (.int .i64) 4,.box [.fn 66 [] []],.box [.h 1]],[some 0,some 1,some 2]⟩ ⟨2,[0,2,4,10],[],(cdZ.p (cdL (.int .i64))),⟨[.own 0,.h 0,.fn 82 [] [.v (.ptr 1 0 0),.v (.ptr 2 0 0)],.h 2],[.arr none (.int .i64) 3,.box [.fn 66 [] []],.box [.h 1]],[some 0,some 1,some 2]⟩⟩ (ay k)] [.bp,.bp,.bp,.bp,.bp] ⟨[.own 0,.h 1,.h 2,.h 3,.fn 82 [] [.v (.ptr 1 0 0),.v (.ptr 2 0 0)]],[.arr none (.int .i64) 0,.box [.fn 66 [] []],.box [.h 4]]⟩ ((cdL (.int .i64)).p (cdZ.p (cdZ.p (cdZ.p (cdL (.int .i64)))))) ⟨.tup [],[some (.arr none (.int .i64) 5),some (.box [.fn 66 [] []]),some (.box [.h 4])],[]⟩ (cdL (.int .i64)) (.tup []) [.arr,.box [.fn [] []],.box [.ro (.int .i64)]] (λa=>bd k a.1 a.2.1 a.2.2.1 a.2.2.2.1 a.2.2.2.2)
noncomputable def y3c (k:Nat) (self:O Try.prog 91):Env:={oc (P:=Try.prog) tt [⟨82,y38 k⟩,⟨93,y3b k⟩,⟨91,self⟩]with wr:=λg=>mem g [82,93],wt:=true,swp:=true}
theorem y3d (k:Nat) (self:O Try.prog 91):gv (y3c k self):=λg=>nB _ g
noncomputable def y3e:Code:=(Try.f91.body).getD .skip
noncomputable def y3f:Code:=((bL 0 y3e).getD 0 (0,.skip)).2
noncomputable def y3g:Code:=((bL 0 y3e).getD 1 (0,.skip)).2
noncomputable def y3h:Code:=((bL 0 y3e).getD 2 (0,.skip)).2
noncomputable def y3i:Code:=((bL 0 y3e).getD 3 (0,.skip)).2
noncomputable def y3j:Code:=((bL 0 y3e).getD 4 (0,.skip)).2
def y3k:List Nat:=[0,1,4,10,11]
def y3l:List (bY× Co):=[]
def y3m:Ex->List Nat
 |.exit j=>cond (Nat.beq j 0) [0,1,10] []
 |.ret=>[]
 |.normal=>[]
def y3n:Ex->List (bY× Co)
 |.exit j=>cond (Nat.beq j 0) [] []
 |.ret=>[]
 |.normal=>[]
def y3o (pv:(Int× List Int× List Int)× (Int× Int)):St:={aS:=[(0,.own 0),(1,.r [] (.int .i64 pv.1.1)),(4,.fn (.func 82) [] [.ptr 1 0 0,.ptr 2 0 0]),(10,.r [] (.int .i64 pv.2.1)),(11,.r [] (.int .i64 pv.2.2))],heap:=[(0,.arr none (.int .i64) pv.1.2.1),(1,.box [.fn (.func 66) [] []]),(2,.box [.r [] (.sl (.int .i64) pv.1.2.2)])],nid:=3,n:=220,gh:=[some 0,some 1,some 2]}
def y3p (nf:NF):Option ((Int× List Int× List Int)× (Int× Int)):=match nf with
 |([.own 0,.r [] (.int .i64 w0),.fn (.func 82) [] [.ptr 1 0 0,.ptr 2 0 0],.r [] (.int .i64 w1),.r [] (.int .i64 w2)],[.arr none (.int .i64) w3,.box [.fn (.func 66) [] []],.box [.r [] (.sl (.int .i64) w4)]],[some 0,some 1,some 2])=>some ((w0,w3,w4),(w1,w2))
 |_=>none
theorem y3q (nf:NF) (v:(Int× List Int× List Int)× (Int× Int)) (h:y3p nf=some v):aY y3k 220 nf=y3o v:=by
 unfold y3p at h;split at h
 ·cases h;rfl
 ·cases h
def y3r (p:Int× List Int× List Int) (x:Int):St:={aS:=[(0,.own 0),(1,.r [] (.int .i64 p.1)),(10,.r [] (.int .i64 x))],heap:=[(0,.arr none (.int .i64) p.2.1),(1,.box [.fn (.func 66) [] []]),(2,.box [.r [] (.sl (.int .i64) p.2.2)])],nid:=3,n:=220,gh:=[some 0,some 1,some 2]}
def y3s:List Nat:=[0,10,13]
def y3t:List (bY× Co):=[]
def y3u:Ex->List Nat
 |.exit j=>cond (Nat.beq j 2) [] []
 |.ret=>[]
 |.normal=>[]
def y3v:Ex->List (bY× Co)
 |.exit j=>cond (Nat.beq j 2) [] []
 |.ret=>[]
 |.normal=>[]
def y3w (pv:(Int× List Int)× (Int× List Int)):St:={aS:=[(0,.own 0),(10,.r [] (.int .i64 pv.1.1)),(13,.r [] (.int .i64 pv.2.1))],heap:=[(0,.arr none (.int .i64) pv.2.2),(1,.box [.fn (.func 66) [] []]),(2,.box [.r [] (.sl (.int .i64) pv.1.2)])],nid:=3,n:=220,gh:=[some 0,some 1,some 2]}
def y3x (nf:NF):Option ((Int× List Int)× (Int× List Int)):=match nf with
 |([.own 0,.r [] (.int .i64 w0),.r [] (.int .i64 w1)],[.arr none (.int .i64) w2,.box [.fn (.func 66) [] []],.box [.r [] (.sl (.int .i64) w3)]],[some 0,some 1,some 2])=>some ((w0,w3),(w1,w2))
 |_=>none
theorem y3y (nf:NF) (v:(Int× List Int)× (Int× List Int)) (h:y3x nf=some v):aY y3s 220 nf=y3w v:=by
 unfold y3x at h;split at h
 ·cases h;rfl
 ·cases h
def y3z (p:Int× List Int) (x:List Int):St:={aS:=[],heap:=[(0,.arr none (.int .i64) x),(1,.box [.fn (.func 66) [] []]),(2,.box [.r [] (.sl (.int .i64) p.2)])],nid:=3,n:=220,gh:=[some 0,some 1,some 2]}
def y41:List Nat:=[0,2,4,14,15]
def y42:List (bY× Co):=[]
def y44:Ex->List Nat
 |.exit j=>cond (Nat.beq j 4) [0,2,14] []
 |.ret=>[]
 |.normal=>[]
def y45:Ex->List (bY× Co)
 |.exit j=>cond (Nat.beq j 4) [] []
 |.ret=>[]
 |.normal=>[]
def y46 (pv:(Int× List Int× List Int)× (Int× Int)):St:={aS:=[(0,.own 0),(2,.r [] (.int .i64 pv.1.1)),(4,.fn (.func 82) [] [.ptr 1 0 0,.ptr 2 0 0]),(14,.r [] (.int .i64 pv.2.1)),(15,.r [] (.int .i64 pv.2.2))],heap:=[(0,.arr none (.int .i64) pv.1.2.1),(1,.box [.fn (.func 66) [] []]),(2,.box [.r [] (.sl (.int .i64) pv.1.2.2)])],nid:=3,n:=220,gh:=[some 0,some 1,some 2]}
def y47 (nf:NF):Option ((Int× List Int× List Int)× (Int× Int)):=match nf with
 |([.own 0,.r [] (.int .i64 w0),.fn (.func 82) [] [.ptr 1 0 0,.ptr 2 0 0],.r [] (.int .i64 w1),.r [] (.int .i64 w2)],[.arr none (.int .i64) w3,.box [.fn (.func 66) [] []],.box [.r [] (.sl (.int .i64) w4)]],[some 0,some 1,some 2])=>some ((w0,w3,w4),(w1,w2))
 |_=>none
theorem y48 (nf:NF) (v:(Int× List Int× List Int)× (Int× Int)) (h:y47 nf=some v):aY y41 220 nf=y46 v:=by
 unfold y47 at h;split at h
 ·cases h;rfl
 ·cases h
def y49 (p:Int× List Int× List Int) (x:Int):St:={aS:=[(0,.own 0),(2,.r [] (.int .i64 p.1)),(14,.r [] (.int .i64 x))],heap:=[(0,.arr none (.int .i64) p.2.1),(1,.box [.fn (.func 66) [] []]),(2,.box [.r [] (.sl (.int .i64) p.2.2)])],nid:=3,n:=220,gh:=[some 0,some 1,some 2]}
def y4a:List Nat:=[0,14,17]
def y4b:List (bY× Co):=[]
def y4c:Ex->List Nat
 |.exit j=>cond (Nat.beq j 6) [] []
 |.ret=>[]
 |.normal=>[]
def y4d:Ex->List (bY× Co)
 |.exit j=>cond (Nat.beq j 6) [] []
 |.ret=>[]
 |.normal=>[]
def y4e (pv:(Int× List Int)× (Int× List Int)):St:={aS:=[(0,.own 0),(14,.r [] (.int .i64 pv.1.1)),(17,.r [] (.int .i64 pv.2.1))],heap:=[(0,.arr none (.int .i64) pv.2.2),(1,.box [.fn (.func 66) [] []]),(2,.box [.r [] (.sl (.int .i64) pv.1.2)])],nid:=3,n:=220,gh:=[some 0,some 1,some 2]}
def y4f (nf:NF):Option ((Int× List Int)× (Int× List Int)):=match nf with
 |([.own 0,.r [] (.int .i64 w0),.r [] (.int .i64 w1)],[.arr none (.int .i64) w2,.box [.fn (.func 66) [] []],.box [.r [] (.sl (.int .i64) w3)]],[some 0,some 1,some 2])=>some ((w0,w3),(w1,w2))
 |_=>none
theorem y4g (nf:NF) (v:(Int× List Int)× (Int× List Int)) (h:y4f nf=some v):aY y4a 220 nf=y4e v:=by
 unfold y4f at h;split at h
 ·cases h;rfl
 ·cases h
def y4h (p:Int× List Int) (x:List Int):St:={aS:=[],heap:=[(0,.arr none (.int .i64) x),(1,.box [.fn (.func 66) [] []]),(2,.box [.r [] (.sl (.int .i64) p.2)])],nid:=3,n:=220,gh:=[some 0,some 1,some 2]}
def y4i:List Nat:=[0,1,2,3,4,18,19,20,21,22]
def y4j:List (bY× Co):=[]
def y4k:Ex->List Nat
 |.exit j=>cond (Nat.beq j 8) [0,1,2,3,4,18,19,20] []
 |.ret=>[]
 |.normal=>[]
def y4l:Ex->List (bY× Co)
 |.exit j=>cond (Nat.beq j 8) [] []
 |.ret=>[]
 |.normal=>[]
def y4m (pv:(Int× Int× Int× Int× Int× Int× List Int× List Int)× (Int× Int)):St:={aS:=[(0,.own 0),(1,.r [] (.int .i64 pv.1.1)),(2,.r [] (.int .i64 pv.1.2.1)),(3,.r [] (.int .i64 pv.1.2.2.1)),(4,.fn (.func 82) [] [.ptr 1 0 0,.ptr 2 0 0]),(18,.r [] (.int .i64 pv.1.2.2.2.1)),(19,.r [] (.int .i64 pv.1.2.2.2.2.1)),(20,.r [] (.int .i64 pv.2.1)),(21,.r [] (.int .i64 pv.2.2)),(22,.r [] (.int .i64 pv.1.2.2.2.2.2.1))],heap:=[(0,.arr none (.int .i64) pv.1.2.2.2.2.2.2.1),(1,.box [.fn (.func 66) [] []]),(2,.box [.r [] (.sl (.int .i64) pv.1.2.2.2.2.2.2.2)])],nid:=3,n:=220,gh:=[some 0,some 1,some 2]}
def y4n (nf:NF):Option ((Int× Int× Int× Int× Int× Int× List Int× List Int)× (Int× Int)):=match nf with
 |([.own 0,.r [] (.int .i64 w0),.r [] (.int .i64 w1),.r [] (.int .i64 w2),.fn (.func 82) [] [.ptr 1 0 0,.ptr 2 0 0],.r [] (.int .i64 w3),.r [] (.int .i64 w4),.r [] (.int .i64 w5),.r [] (.int .i64 w6),.r [] (.int .i64 w7)],[.arr none (.int .i64) w8,.box [.fn (.func 66) [] []],.box [.r [] (.sl (.int .i64) w9)]],[some 0,some 1,some 2])=>some ((w0,w1,w2,w3,w4,w7,w8,w9),(w5,w6))
 |_=>none
theorem y4o (nf:NF) (v:(Int× Int× Int× Int× Int× Int× List Int× List Int)× (Int× Int)) (h:y4n nf=some v):aY y4i 220 nf=y4m v:=by
 unfold y4n at h;split at h
 ·cases h;rfl
 ·cases h
def y4p (p:Int× Int× Int× Int× Int× Int× List Int× List Int) (x:Int):St:={aS:=[(0,.own 0),(1,.r [] (.int .i64 p.1)),(2,.r [] (.int .i64 p.2.1)),(3,.r [] (.int .i64 p.2.2.1)),(4,.fn (.func 82) [] [.ptr 1 0 0,.ptr 2 0 0]),(18,.r [] (.int .i64 p.2.2.2.1)),(19,.r [] (.int .i64 p.2.2.2.2.1)),(20,.r [] (.int .i64 x))],heap:=[(0,.arr none (.int .i64) p.2.2.2.2.2.2.1),(1,.box [.fn (.func 66) [] []]),(2,.box [.r [] (.sl (.int .i64) p.2.2.2.2.2.2.2)])],nid:=3,n:=220,gh:=[some 0,some 1,some 2]}
def y4q (ρ:Type) (k:Nat):Nat->Ev ρ->Ev ρ:=λid f=>cond (Nat.beq id 8) (dc y4i y4j (λn nf=>cond (Nat.beq n 220) (y4n nf) none) λpv K=>iter (λv next=>ar k pv.1 v next (λx=>K (.exit 8) (y4p pv.1 x))) k pv.2) ((λid f=>cond (Nat.beq id 6) (dc y4a y4b (λn nf=>cond (Nat.beq n 220) (y4f nf) none) λpv K=>iter (λv next=>ag k pv.1 v next (λx=>K (.exit 6) (y4h pv.1 x))) k pv.2) ((λid f=>cond (Nat.beq id 4) (dc y41 y42 (λn nf=>cond (Nat.beq n 220) (y47 nf) none) λpv K=>iter (λv next=>aq k pv.1 v next (λx=>K (.exit 4) (y49 pv.1 x))) k pv.2) ((λid f=>cond (Nat.beq id 2) (dc y3s y3t (λn nf=>cond (Nat.beq n 220) (y3x nf) none) λpv K=>iter (λv next=>ae k pv.1 v next (λx=>K (.exit 2) (y3z pv.1 x))) k pv.2) ((λid f=>cond (Nat.beq id 0) (dc y3k y3l (λn nf=>cond (Nat.beq n 220) (y3p nf) none) λpv K=>iter (λv next=>ao k pv.1 v next (λx=>K (.exit 0) (y3r pv.1 x))) k pv.2) ((λ_ _ _ _=>none) id f)) id f)) id f)) id f)) id f)
theorem y4r {ρ:Type} (k:Nat) (self:O Try.prog 91) (p:Int× List Int× List Int) (v:Int× Int) (K K1:Ex->St->Option ρ):ev (y3c k self) (y4q ρ k) 0 y3f (y3o (p,v)) (λe st'=>match e with
  |.normal=>(db y3k y3l st').bind λnf=>K1 .normal (aY y3k st'.n nf)
  |e=>(db (y3m e) (y3n e) st').bind λnf=>K e (aY (y3m e) st'.n nf))=ao k p v (λv'=>K1 .normal (y3o (p,v'))) (λx=>K (.exit 0) (y3r p x)):=by kernel_rfl
theorem y4s {ρ:Type} (k:Nat) (self:O Try.prog 91):Sound Try.prog (.loop y3f) (y4q ρ k 0 λst K=>ev (y3c k self) (y4q ρ k) 0 y3f st K):=
 eM (b8 (y3d k self) y3f 0 (bM (by kernel_rfl))) y3m y3n k (g:=λp v next K=>ao k p v next (λx=>K (.exit 0) (y3r p x))) (gQ y3q) (λp v K K1=>y4r k self p v K K1)
theorem y4t {ρ:Type} (k:Nat) (self:O Try.prog 91) (p:Int× List Int) (v:Int× List Int) (K K1:Ex->St->Option ρ):ev (y3c k self) (y4q ρ k) 2 y3g (y3w (p,v)) (λe st'=>match e with
  |.normal=>(db y3s y3t st').bind λnf=>K1 .normal (aY y3s st'.n nf)
  |e=>(db (y3u e) (y3v e) st').bind λnf=>K e (aY (y3u e) st'.n nf))=ae k p v (λv'=>K1 .normal (y3w (p,v'))) (λx=>K (.exit 2) (y3z p x)):=by kernel_rfl
theorem y4u {ρ:Type} (k:Nat) (self:O Try.prog 91):Sound Try.prog (.loop y3g) (y4q ρ k 2 λst K=>ev (y3c k self) (y4q ρ k) 2 y3g st K):=
 eM (b8 (y3d k self) y3g 2 (bM (by kernel_rfl))) y3u y3v k (g:=λp v next K=>ae k p v next (λx=>K (.exit 2) (y3z p x))) (gQ y3y) (λp v K K1=>y4t k self p v K K1)
theorem y4v {ρ:Type} (k:Nat) (self:O Try.prog 91) (p:Int× List Int× List Int) (v:Int× Int) (K K1:Ex->St->Option ρ):ev (y3c k self) (y4q ρ k) 4 y3h (y46 (p,v)) (λe st'=>match e with
  |.normal=>(db y41 y42 st').bind λnf=>K1 .normal (aY y41 st'.n nf)
  |e=>(db (y44 e) (y45 e) st').bind λnf=>K e (aY (y44 e) st'.n nf))=aq k p v (λv'=>K1 .normal (y46 (p,v'))) (λx=>K (.exit 4) (y49 p x)):=by kernel_rfl
theorem y4w {ρ:Type} (k:Nat) (self:O Try.prog 91):Sound Try.prog (.loop y3h) (y4q ρ k 4 λst K=>ev (y3c k self) (y4q ρ k) 4 y3h st K):=
 eM (b8 (y3d k self) y3h 4 (bM (by kernel_rfl))) y44 y45 k (g:=λp v next K=>aq k p v next (λx=>K (.exit 4) (y49 p x))) (gQ y48) (λp v K K1=>y4v k self p v K K1)
theorem y4x {ρ:Type} (k:Nat) (self:O Try.prog 91) (p:Int× List Int) (v:Int× List Int) (K K1:Ex->St->Option ρ):ev (y3c k self) (y4q ρ k) 6 y3i (y4e (p,v)) (λe st'=>match e with
  |.normal=>(db y4a y4b st').bind λnf=>K1 .normal (aY y4a st'.n nf)
  |e=>(db (y4c e) (y4d e) st').bind λnf=>K e (aY (y4c e) st'.n nf))=ag k p v (λv'=>K1 .normal (y4e (p,v'))) (λx=>K (.exit 6) (y4h p x)):=by kernel_rfl
theorem y4y {ρ:Type} (k:Nat) (self:O Try.prog 91):Sound Try.prog (.loop y3i) (y4q ρ k 6 λst K=>ev (y3c k self) (y4q ρ k) 6 y3i st K):=
 eM (b8 (y3d k self) y3i 6 (bM (by kernel_rfl))) y4c y4d k (g:=λp v next K=>ag k p v next (λx=>K (.exit 6) (y4h p x))) (gQ y4g) (λp v K K1=>y4x k self p v K K1)
theorem y4z {ρ:Type} (k:Nat) (self:O Try.prog 91) (p:Int× Int× Int× Int× Int× Int× List Int× List Int) (v:Int× Int) (K K1:Ex->St->Option ρ):ev (y3c k self) (y4q ρ k) 8 y3j (y4m (p,v)) (λe st'=>match e with
  |.normal=>(db y4i y4j st').bind λnf=>K1 .normal (aY y4i st'.n nf)
  |e=>(db (y4k e) (y4l e) st').bind λnf=>K e (aY (y4k e) st'.n nf))=ar k p v (λv'=>K1 .normal (y4m (p,v'))) (λx=>K (.exit 8) (y4p p x)):=by kernel_rfl
theorem y50 {ρ:Type} (k:Nat) (self:O Try.prog 91):Sound Try.prog (.loop y3j) (y4q ρ k 8 λst K=>ev (y3c k self) (y4q ρ k) 8 y3j st K):=
 eM (b8 (y3d k self) y3j 8 (bM (by kernel_rfl))) y4k y4l k (g:=λp v next K=>ar k p v next (λx=>K (.exit 8) (y4p p x))) (gQ y4o) (λp v K K1=>y4z k self p v K K1)
def y51 (f:List Int× Int× Int× Int× List Int->Option (List Int)):Orc:=oM [.bp,.bp,.bp,.bp,.bp] ⟨[.own 0,.h 1,.h 2,.h 3,.fn 82 [] [.v (.ptr 1 0 0),.v (.ptr 2 0 0)]],[.arr none (.int .i64) 0,.box [.fn 66 [] []],.box [.h 4]]⟩ ((cdL (.int .i64)).p (cdZ.p (cdZ.p (cdZ.p (cdL (.int .i64)))))) ⟨.tup [],[some (.arr none (.int .i64) 5),some (.box [.fn 66 [] []]),some (.box [.h 4])],[]⟩ (cdL (.int .i64)) f
theorem y52:∀k,jP Try.prog 91 (y51 (λa=>aE k a.1 a.2.1 a.2.2.1 a.2.2.2.1 a.2.2.2.2))
 |0=>zh
 |k+1=>okM (LP:=y4q _ k) (y3d k ⟨_,y52 k⟩) Try.func91 (by kernel_rfl) (by kernel_rfl) (by kernel_rfl) (by kernel_rfl) (kY (l:=[(0,y3f),(2,y3g),(4,y3h),(6,y3i),(8,y3j)]) (by kernel_rfl) ⟨y4s k ⟨_,y52 k⟩,⟨y4u k ⟨_,y52 k⟩,⟨y4w k ⟨_,y52 k⟩,⟨y4y k ⟨_,y52 k⟩,⟨y50 k ⟨_,y52 k⟩,trivial⟩⟩⟩⟩⟩) (.tup []) [.arr,.box [.fn [] []],.box [.ro (.int .i64)]] λa=>by kernel_rfl
def y53 (k:Nat):O Try.prog 91:=⟨y51 (λa=>aE k a.1 a.2.1 a.2.2.1 a.2.2.2.1 a.2.2.2.2),y52 k⟩
def y54 (k:Nat):=zV tt [⟨90,y39 k⟩,⟨91,y53 k⟩] (.w [90,91]) Try.func87 k [L1 0 false [0,1,2,6,7,8] [] (cdZ.p (cdZ.p (cdL (.int .i64)))) (cdZ.p (cdZ.p (cdL (.int .i64)))) ⟨[.own 0,.h 0,.fn 82 [] [.v (.ptr 1 0 0),.v (.ptr 2 0 0)],.h 1,.h 3,.h 4],[.arr none (.int .i64) 5,.box [.fn 66 [] []],.box [.h 2]],[some 0,some 1,some 2]⟩ ⟨2,[0,1,2,6,7],[],(cdZ.p (cdL (.int .i64))),⟨[.own 0,.h 0,.fn 82 [] [.v (.ptr 1 0 0),.v (.ptr 2 0 0)],.h 1,.h 3],[.arr none (.int .i64) 4,.box [.fn 66 [] []],.box [.h 2]],[some 0,some 1,some 2]⟩⟩ (bg k),
 L1 4 false [0,1,2,6,7,8] [] (cdZ.p (cdZ.p (cdL (.int .i64)))) (cdZ.p (cdZ.p (cdL (.int .i64)))) ⟨[.own 0,.h 0,.fn 82 [] [.v (.ptr 1 0 0),.v (.ptr 2 0 0)],.h 1,.h 3,.h 4],[.arr none (.int .i64) 5,.box [.fn 66 [] []],.box [.h 2]],[some 0,some 1,some 2]⟩ ⟨6,[0,1,2,6,7],[],(cdZ.p (cdL (.int .i64))),⟨[.own 0,.h 0,.fn 82 [] [.v (.ptr 1 0 0),.v (.ptr 2 0 0)],.h 1,.h 3],[.arr none (.int .i64) 4,.box [.fn 66 [] []],.box [.h 2]],[some 0,some 1,some 2]⟩⟩ (bh k),
 L1 2 false [0,1,2,6] [] (cdZ.p (cdL (.int .i64))) (cdZ.p (cdL (.int .i64))) ⟨[.own 0,.h 0,.fn 82 [] [.v (.ptr 1 0 0),.v (.ptr 2 0 0)],.h 2],[.arr none (.int .i64) 3,.box [.fn 66 [] []],.box [.h 1]],[some 0,some 1,some 2]⟩ ⟨4,[],[],(cdL (.int .i64)),⟨[],[.arr none (.int .i64) 2,.box [.fn 66 [] []],.box [.h 1]],[some 0,some 1,some 2]⟩⟩ (bA k)] [.bp,.bp,.bp] ⟨[.own 0,.h 1,.fn 82 [] [.v (.ptr 1 0 0),.v (.ptr 2 0 0)]],[.arr none (.int .i64) 0,.box [.fn 66 [] []],.box [.h 2]]⟩ ((cdL (.int .i64)).p (cdZ.p (cdL (.int .i64)))) ⟨.tup [],[some (.arr none (.int .i64) 3),some (.box [.fn 66 [] []]),some (.box [.h 2])],[]⟩ (cdL (.int .i64)) (.tup []) [.arr,.box [.fn [] []],.box [.ro (.int .i64)]] (λa=>br k a.1 a.2.1 a.2.2)
def y55 (k:Nat):=Cu tt [⟨87,y54 k⟩] (.w [87]) Try.func81 [.bp,.bp] ⟨[.own 0,.fn 82 [] [.v (.ptr 1 0 0),.v (.ptr 2 0 0)]],[.arr none (.int .i64) 0,.box [.fn 66 [] []],.box [.h 1]]⟩ ((cdL (.int .i64)).p (cdL (.int .i64))) ⟨.tup [],[some (.arr none (.int .i64) 2),some (.box [.fn 66 [] []]),some (.box [.h 1])],[]⟩ (cdL (.int .i64)) (.tup []) [.arr,.box [.fn [] []],.box [.ro (.int .i64)]] (λa=>aC k a.1 a.2)
def y56 (k:Nat):=wz tt [⟨81,y55 k⟩] (.w [81]) Try.func65 k [L1 0 false [2,3,5,9,10] [] (cdZ.p (cdL (.int .i64))) (cdZ.p (cdL (.int .i64))) ⟨[.v (.ptr 0 0 0),.v (.ptr 1 0 0),.own 2,.h 0,.h 2],[.box [.h 1],.box [.fn 66 [] []],.arr none (.int .i64) 3],[]⟩ ⟨2,[2,3,5],[],(cdL (.int .i64)),⟨[.v (.ptr 0 0 0),.v (.ptr 1 0 0),.own 2],[.box [.h 1],.box [.fn 66 [] []],.arr none (.int .i64) 2],[]⟩⟩ (cc k)] [.one (.sl (.int .i64)),.fn] (cdL (.int .i64)) ⟨.own 0,[.arr none (.int .i64) 0]⟩ (cdL (.int .i64)) (.own (.int .i64)) (bN k) [66]
def y57 (k:Nat):=tY tt [⟨65,y56 k⟩] .id Try.func32 [.one (.sl (.int .i64))] (cdL (.int .i64)) ⟨.own 0,[.arr none (.int .i64) 0]⟩ (cdL (.int .i64)) (.own (.int .i64)) (du k)
def y58 (k:Nat):=wz tt [] .id Try.func33 k [L2 0 false [0,1,2,7] [] ((cdL (.int .i64)).p (cdL (.int .i64))) (cdZ.p cdZ) ⟨(hs 0 4),[],[]⟩ ⟨2,[],[],cdU,⟨[],[],[]⟩⟩ ⟨1,[6],[],cdB,⟨[.h 2],[],[]⟩⟩ (dN k)] [.one (.sl (.int .i64)),.one (.sl (.int .i64)),.one (.int .i64)] ((cdL (.int .i64)).p ((cdL (.int .i64)).p cdZ)) ⟨.h 0,[]⟩ cdB (.sc) (λa=>dw k a.1 a.2.1 a.2.2)
def y59 (k:Nat):=tY tt [⟨49,yl k⟩] .id Try.func34 [.one (.sl (.int .i64))] (cdL (.int .i64)) ⟨.own 0,[.arr none (.int .i64) 0]⟩ (cdL (.int .i64)) (.own (.int .i64)) (dZ k)
noncomputable def y5a (k:Nat):Env:=oc (P:=Try.prog) tt [⟨16,ym k⟩,⟨18,y2x k⟩,⟨24,y0 k⟩,⟨25,yh k⟩,⟨26,y2y k⟩,⟨27,y31 k⟩,⟨28,y33 k⟩,⟨29,y35 k⟩,⟨30,y34 k⟩,⟨31,y36 k⟩,⟨32,y57 k⟩,⟨33,y58 k⟩,⟨34,y59 k⟩]
theorem y5b (k:Nat):gv (y5a k):=λg=>nB _ g
noncomputable def y5c:Code:=(Try.f5.body).getD .skip
noncomputable def y5d:Code:=((bL 0 y5c).getD 0 (0,.skip)).2
noncomputable def y5e:Code:=((bL 0 y5c).getD 1 (0,.skip)).2
def y5f:List Nat:=[0,3,4,5,6,7,9,10]
def y5g:List (bY× Co):=[]
def y5h:Ex->List Nat
 |.exit j=>cond (Nat.beq j 0) [0,3,5,6,7,9] []
 |.ret=>[2]
 |.normal=>[]
def y5i:Ex->List (bY× Co)
 |.exit j=>cond (Nat.beq j 0) [] []
 |.ret=>[]
 |.normal=>[]
def y5j (pv:(List Int× Int× Bool× List Wish× List (List Int)× List (List Int))× (Int× Int)):St:={aS:=[(0,.r [] (.sl (.int .u8) pv.1.1)),(3,.own 0),(4,.r [] (.int .i64 pv.1.2.1)),(5,.own 1),(6,.r [] (.bool pv.1.2.2.1)),(7,.own 2),(9,.r [] (.int .i64 pv.2.1)),(10,.r [] (.int .i64 pv.2.2))],heap:=[(0,.arr none (.st .wish) pv.1.2.2.2.1),(1,.arr none (.sl (.int .i64)) pv.1.2.2.2.2.1),(2,.arr none (.sl (.int .i64)) pv.1.2.2.2.2.2)],nid:=3,n:=174,gh:=[]}
def y5k (nf:NF):Option ((List Int× Int× Bool× List Wish× List (List Int)× List (List Int))× (Int× Int)):=match nf with
 |([.r [] (.sl (.int .u8) w0),.own 0,.r [] (.int .i64 w1),.own 1,.r [] (.bool w2),.own 2,.r [] (.int .i64 w3),.r [] (.int .i64 w4)],[.arr none (.st .wish) w5,.arr none (.sl (.int .i64)) w6,.arr none (.sl (.int .i64)) w7],[])=>some ((w0,w1,w2,w5,w6,w7),(w3,w4))
 |_=>none
theorem y5l (nf:NF) (v:(List Int× Int× Bool× List Wish× List (List Int)× List (List Int))× (Int× Int)) (h:y5k nf=some v):aY y5f 174 nf=y5j v:=by
 unfold y5k at h;split at h
 ·cases h;rfl
 ·cases h
def y5m (p:List Int× Int× Bool× List Wish× List (List Int)× List (List Int)) (x:Int):St:={aS:=[(0,.r [] (.sl (.int .u8) p.1)),(3,.own 0),(5,.own 1),(6,.r [] (.bool p.2.2.1)),(7,.own 2),(9,.r [] (.int .i64 x))],heap:=[(0,.arr none (.st .wish) p.2.2.2.1),(1,.arr none (.sl (.int .i64)) p.2.2.2.2.1),(2,.arr none (.sl (.int .i64)) p.2.2.2.2.2)],nid:=3,n:=174,gh:=[]}
def y5n (p:List Int× Int× Bool× List Wish× List (List Int)× List (List Int)) (x:Bool):St:={aS:=[(2,.r [] (.bool x))],heap:=[],nid:=0,n:=174,gh:=[]}
def y5o:List Nat:=[11,12,13,14,15,16,17,18]
def y5p:List (bY× Co):=[]
def y5q:Ex->List Nat
 |.exit j=>cond (Nat.beq j 2) [13,14,16,17] []
 |.ret=>[]
 |.normal=>[]
def y5r:Ex->List (bY× Co)
 |.exit j=>cond (Nat.beq j 2) [] []
 |.ret=>[]
 |.normal=>[]
def y5s (pv:(Int× Bool× List Int× List Int× List Int)× (Int× List Int× List Int)):St:={aS:=[(11,.own 0),(12,.own 1),(13,.r [] (.int .i64 pv.1.1)),(14,.r [] (.bool pv.1.2.1)),(15,.own 2),(16,.own 3),(17,.own 4),(18,.r [] (.int .i64 pv.2.1))],heap:=[(0,.arr none (.int .i64) pv.1.2.2.1),(1,.arr none (.int .i64) pv.1.2.2.2.1),(2,.arr none (.int .i64) pv.1.2.2.2.2),(3,.arr none (.int .i64) pv.2.2.1),(4,.arr none (.int .i64) pv.2.2.2)],nid:=5,n:=174,gh:=[]}
def y5t (nf:NF):Option ((Int× Bool× List Int× List Int× List Int)× (Int× List Int× List Int)):=match nf with
 |([.own 0,.own 1,.r [] (.int .i64 w0),.r [] (.bool w1),.own 2,.own 3,.own 4,.r [] (.int .i64 w2)],[.arr none (.int .i64) w3,.arr none (.int .i64) w4,.arr none (.int .i64) w5,.arr none (.int .i64) w6,.arr none (.int .i64) w7],[])=>some ((w0,w1,w3,w4,w5),(w2,w6,w7))
 |_=>none
theorem y5u (nf:NF) (v:(Int× Bool× List Int× List Int× List Int)× (Int× List Int× List Int)) (h:y5t nf=some v):aY y5o 174 nf=y5s v:=by
 unfold y5t at h;split at h
 ·cases h;rfl
 ·cases h
def y5v (p:Int× Bool× List Int× List Int× List Int) (x:List Int× List Int):St:={aS:=[(13,.r [] (.int .i64 p.1)),(14,.r [] (.bool p.2.1)),(16,.own 0),(17,.own 1)],heap:=[(0,.arr none (.int .i64) x.1),(1,.arr none (.int .i64) x.2)],nid:=2,n:=174,gh:=[]}
def y5w (ρ:Type) (k:Nat):Nat->Ev ρ->Ev ρ:=λid f=>cond (Nat.beq id 2) (dc y5o y5p (λn nf=>cond (Nat.beq n 174) (y5t nf) none) λpv K=>iter (λv next=>ca k pv.1 v next (λx=>K (.exit 2) (y5v pv.1 x))) k pv.2) ((λid f=>cond (Nat.beq id 0) (dc y5f y5g (λn nf=>cond (Nat.beq n 174) (y5k nf) none) λpv K=>iter (λv next=>cJ k pv.1 v next (λx=>K (.exit 0) (y5m pv.1 x)) (λx=>K .ret (y5n pv.1 x))) k pv.2) ((λ_ _ _ _=>none) id f)) id f)
theorem y5x {ρ:Type} (k:Nat) (p:List Int× Int× Bool× List Wish× List (List Int)× List (List Int)) (v:Int× Int) (K K1:Ex->St->Option ρ):ev (y5a k) (y5w ρ k) 0 y5d (y5j (p,v)) (λe st'=>match e with
  |.normal=>(db y5f y5g st').bind λnf=>K1 .normal (aY y5f st'.n nf)
  |e=>(db (y5h e) (y5i e) st').bind λnf=>K e (aY (y5h e) st'.n nf))=cJ k p v (λv'=>K1 .normal (y5j (p,v'))) (λx=>K (.exit 0) (y5m p x)) (λx=>K .ret (y5n p x)):=by kernel_rfl
theorem y5y {ρ:Type} (k:Nat):Sound Try.prog (.loop y5d) (y5w ρ k 0 λst K=>ev (y5a k) (y5w ρ k) 0 y5d st K):=
 eM (b8 (y5b k) y5d 0 (bM (by kernel_rfl))) y5h y5i k (g:=λp v next K=>cJ k p v next (λx=>K (.exit 0) (y5m p x)) (λx=>K .ret (y5n p x))) (gQ y5l) (λp v K K1=>y5x k p v K K1)
theorem y5z {ρ:Type} (k:Nat) (p:Int× Bool× List Int× List Int× List Int) (v:Int× List Int× List Int) (K K1:Ex->St->Option ρ):ev (y5a k) (y5w ρ k) 2 y5e (y5s (p,v)) (λe st'=>match e with
  |.normal=>(db y5o y5p st').bind λnf=>K1 .normal (aY y5o st'.n nf)
  |e=>(db (y5q e) (y5r e) st').bind λnf=>K e (aY (y5q e) st'.n nf))=ca k p v (λv'=>K1 .normal (y5s (p,v'))) (λx=>K (.exit 2) (y5v p x)):=by kernel_rfl
theorem y60 {ρ:Type} (k:Nat):Sound Try.prog (.loop y5e) (y5w ρ k 2 λst K=>ev (y5a k) (y5w ρ k) 2 y5e st K):=
 eM (b8 (y5b k) y5e 2 (bM (by kernel_rfl))) y5q y5r k (g:=λp v next K=>ca k p v next (λx=>K (.exit 2) (y5v p x))) (gQ y5u) (λp v K K1=>y5z k p v K K1)
def y61 (a:List Int):List Arg:=[.one (.sl (.int .u8) a)]
def y62 (l:List Arg):Option (List Int):=match l with
 |[.one (.sl (.int .u8) b0)]=>some b0
 |_=>none
def y63 (r:Bool):Out:=(.r [] (.bool r),[])
def y64 (o:Out):Option (Bool):=match o with
 |(.r [] (.bool z1),[])=>some z1
 |_=>none
def y65 (k:Nat):PG:=λ_ l K=>(y62 l).bind λa=>(gU k a).bind λr=>K (y63 r)
theorem y66 (k:Nat) (a:List Int):ev (y5a k) (y5w (Bool) k) 0 y5c (st0 Try.f5 (y61 a)) (fin Try.prog Try.f5 (.sc) y64)=gU k a:=by kernel_rfl
theorem y67 (k:Nat):vb Try.prog 5 (y65 k):=
 mg (y5b k) Try.func5 (by kernel_rfl) (by kernel_rfl) y61 y62
  (λl a h=>by unfold y62 at h;split at h<;>first|(cases h;rfl)|cases h) (λa=>rfl) (kY (l:=[(0,y5d),(2,y5e)]) (by kernel_rfl) ⟨y5y k,⟨y60 k,trivial⟩⟩)
  (λo r h=>by unfold y64 at h;split at h<;>first|(cases h;rfl)|cases h) (y66 k)
end
end Go.Proofs.Ev
