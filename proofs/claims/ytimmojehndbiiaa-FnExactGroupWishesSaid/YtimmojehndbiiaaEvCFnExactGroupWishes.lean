/- Text of this claim. -/
import Derived.Test.YtimmojehndbiiaaEvK7
import Derived.Test.YtimmojehndbiiaaProg
import Derived.Test.YtimmojehndbiiaaEvL1
set_option linter.unusedVariables false
set_option linter.unusedSimpArgs false
set_option linter.unusedSectionVars false
set_option maxRecDepth 100000
set_option maxHeartbeats 4000000
namespace Go.Proofs.Ev
noncomputable section
variable [Tok]
def tt:TT:=look [(2,(.int .i64)),(3,(.int .i64)),(4,.bool),(5,(.int .u8)),(6,(.int .u8)),(9,.str),(10,.str),(11,.str),(12,(.int .u64)),(21,(.int .i32)),(23,(.st .shape)),(24,(.sl (.int .i64))),(26,(.st .gW)),(28,(.sl (.st .gW))),(31,(.st .shape)),(33,(.st .gW)),(40,(.sl (.st .wish))),(42,(.sl (.sl (.int .i64)))),(45,(.sl (.st .wish))),(52,(.sl (.int .u8))),(73,(.st .wish)),(75,(.st .wish)),(105,(.int .u64)),(117,(.int .u32)),(118,(.int .u8)),(119,(.int .u8)),(122,(.int .i32)),(123,(.int .i32))]
def ya (k:Nat):=xS tt [] .id Try.func15 [.one (.sl (.st .wish)),.one (.int .i64)] ((cdL (.st .wish)).p cdZ) ⟨.h 0,[]⟩ cdZ (.sc) (λa=>kt k a.1 a.2)
def yb (k:Nat):=xS tt [] .id Try.func50 [.agg [(.int .i64),(.int .i64),(.int .i64)]] (cdS .wish) ⟨.agg [.h 0,.h 1,.h 2],[]⟩ (cdS .wish) (.agg [.sc,.sc,.sc]) (l4 k)
def yc (k:Nat):=zZ tt [⟨50,yb k⟩] .id Try.func17 k [L1 0 false [0,3,4] [] (cdL (.st .wish)) (cdZ.p (cdL (.st .wish))) ⟨[.h 0,.own 0,.h 1],[.arr none (.st .wish) 2],[]⟩ ⟨2,[3],[],(cdL (.st .wish)),⟨[.own 0],[.arr none (.st .wish) 1],[]⟩⟩ (et k)] [.one (.sl (.st .wish))] (cdL (.st .wish)) ⟨.own 0,[.arr none (.st .wish) 0]⟩ (cdL (.st .wish)) (.own (.st .wish)) (fb k)
def yd (k:Nat):=xS tt [] .id Try.func47 [.one (.int .i64),.one (.int .i64),.one (.int .i64)] (cdZ.p (cdZ.p cdZ)) ⟨.h 0,[]⟩ cdB (.sc) (λa=>mY k a.1 a.2.1 a.2.2)
def ye (k:Nat):=xS tt [⟨47,yd k⟩] .id Try.func74 [.one (.int .i64)] cdZ ⟨.h 0,[]⟩ cdB (.sc) (kr k)
def yf (k:Nat):=xS tt [⟨74,ye k⟩] .id Try.func48 [.agg [(.int .i64),(.int .i64),(.int .i64)]] (cdS .wish) ⟨.h 0,[]⟩ cdB (.sc) (ku k)
def yg (k:Nat):=zZ tt [] .id Try.func49 k [L1 2 false [0,3,4,5,6,7] [] ((cdL (.int .i64)).p (cdZ.p (cdL (.int .i64)))) (cdB.p (cdZ.p (cdL (.int .i64)))) ⟨[.h 0,.own 0,.h 1,.own 1,.h 3,.h 4],[.arr none (.int .i64) 2,.arr none (.int .i64) 5],[]⟩ ⟨4,[0,4,5,6],[],(cdB.p (cdL (.int .i64))),⟨[.h 0,.h 1,.own 0,.h 3],[.arr none (.int .i64) 4],[]⟩⟩ (eE k),
 L1 0 false [0,3,4] [] (cdL (.int .i64)) (cdZ.p (cdL (.int .i64))) ⟨[.h 0,.own 0,.h 1],[.arr none (.int .i64) 2],[]⟩ ⟨2,[3],[],(cdL (.int .i64)),⟨[.own 0],[.arr none (.int .i64) 1],[]⟩⟩ (gL k)] [.one (.sl (.int .i64))] (cdL (.int .i64)) ⟨.own 0,[.arr none (.int .i64) 0]⟩ (cdL (.int .i64)) (.own (.int .i64)) (gf k)
def yh (k:Nat):=zZ tt [⟨47,yd k⟩,⟨48,yf k⟩,⟨49,yg k⟩] {f:=λE=>{E with tak:=true,tkt:=[118]}} Try.func16 k [L2 2 false [0,1,6,7,8] [] ((cdL (.st .wish)).p (cdZ.p (cdZ.p (cdL (.int .i64))))) cdZ ⟨[.h 0,.h 1,.own 0,.h 2,.h 4],[.arr none (.int .i64) 3],[]⟩ ⟨4,[0,1,6,7],[],cdU,⟨[.h 0,.h 1,.own 0,.h 2],[.arr none (.int .i64) 3],[]⟩⟩ ⟨1,[4,5],[],cdB,⟨[.v .cG,.h 4],[],[]⟩⟩ (cL k),
 L2 0 false [0,1,6,7] [] ((cdL (.st .wish)).p cdZ) (cdZ.p (cdL (.int .i64))) ⟨[.h 0,.h 1,.own 0,.h 2],[.arr none (.int .i64) 3],[]⟩ ⟨2,[0,1,6],[],(cdL (.int .i64)),⟨[.h 0,.h 1,.own 0],[.arr none (.int .i64) 2],[]⟩⟩ ⟨1,[4,5],[],cdB,⟨[.v .cG,.h 2],[],[]⟩⟩ (ch k),
 L1 6 false [0,1,9,10,11,12,13,14] [] ((cdL (.st .wish)).p (cdZ.p (cdZ.p ((cdL (.int .i64)).p ((cdL (.sl (.int .i64))).p ((cdL (.int .i64)).p (cdZ.p (cdZ.p cdZ)))))))) cdZ ⟨[.h 0,.h 1,.own 0,.own 1,.own 2,.h 2,.v (.ptr 3 0 0),.h 9],[.arr none (.int .i64) 3,.arr none (.sl (.int .i64)) 4,.arr none (.int .i64) 5,.box [.h 6,.h 7,.h 8]],[]⟩ ⟨8,[0,1,9,10,11,12,13,14],[],cdZ,⟨[.h 0,.h 1,.own 0,.own 1,.own 2,.h 2,.v (.ptr 3 0 0),.h 9],[.arr none (.int .i64) 3,.arr none (.sl (.int .i64)) 4,.arr none (.int .i64) 5,.box [.h 6,.h 7,.h 8]],[]⟩⟩ (cM k),
 L1 4 false [0,1,9,10,11,12] [] ((cdL (.st .wish)).p (cdZ.p (cdL (.int .i64)))) (cdZ.p ((cdL (.sl (.int .i64))).p (cdL (.int .i64)))) ⟨[.h 0,.h 1,.own 0,.own 1,.own 2,.h 3],[.arr none (.int .i64) 2,.arr none (.sl (.int .i64)) 4,.arr none (.int .i64) 5],[]⟩ ⟨6,[10],[],(cdL (.sl (.int .i64))),⟨[.own 0],[.arr none (.sl (.int .i64)) 3],[]⟩⟩ (bZ k)] [.one (.sl (.st .wish)),.one (.int .i64)] ((cdL (.st .wish)).p cdZ) ⟨.tup [.own 0,.h 1],[.arr none (.sl (.int .i64)) 0]⟩ ((cdL (.sl (.int .i64))).p cdB) (.tup [.own (.sl (.int .i64)),.sc]) (λa=>eF k a.1 a.2)
def C0 (k:Nat):=xS tt [] .id Try.func51 [.one (.int .i64),.one (.int .i64),.one (.int .i64)] (cdZ.p (cdZ.p cdZ)) ⟨.h 0,[]⟩ cdB (.sc) (λa=>Df k a.1 a.2.1 a.2.2)
def yi (k:Nat):=xS tt [] .id Try.func53 [.one (.sl (.st .wish))] (cdL (.st .wish)) ⟨.own 0,[.arr none (.st .wish) 0]⟩ (cdL (.st .wish)) (.own (.st .wish)) (bH k)
def yj (k:Nat):=xS tt [] .id Try.func77 [.one (.int .i64)] cdZ ⟨.h 0,[]⟩ cdB (.sc) (eD k)
def yk (k:Nat):=xS tt [⟨77,yj k⟩] .id Try.func56 [.one (.int .i64),.one (.int .i64)] (cdZ.p cdZ) ⟨.h 0,[]⟩ cdZ (.sc) (λa=>dJ k a.1 a.2)
def yl (k:Nat):=xS tt [⟨56,yk k⟩] .id Try.func55 [.agg [(.int .i64),(.int .i64),(.int .i64)],.agg [(.int .i64),(.int .i64),(.int .i64)]] ((cdS .wish).p (cdS .wish)) ⟨.h 0,[]⟩ cdZ (.sc) (λa=>bP k a.1 a.2)
def ym (k:Nat):=Bw tt [⟨55,yl k⟩] {f:=λE=>{E with swp:=true}} Try.func85 k [L1 2 false [0,1,2,3,8,9] [] (cdZ.p (cdZ.p cdZ)) (cdZ.p (cdL (.st .wish))) ⟨[.own 0,.h 0,.h 1,.fn 55 [] [],.h 2,.h 3],[.arr none (.st .wish) 4],[some 0]⟩ ⟨4,[0,1,2,3,8],[],(cdL (.st .wish)),⟨[.own 0,.h 0,.h 1,.fn 55 [] [],.h 2],[.arr none (.st .wish) 3],[some 0]⟩⟩ (bd k),
 L1 0 false [0,1,2,3,8] [] (cdZ.p cdZ) (cdZ.p (cdL (.st .wish))) ⟨[.own 0,.h 0,.h 1,.fn 55 [] [],.h 2],[.arr none (.st .wish) 3],[some 0]⟩ ⟨2,[],[],(cdL (.st .wish)),⟨[],[.arr none (.st .wish) 2],[some 0]⟩⟩ (bf k)] [.bM,.bM,.bM,.bM] ⟨[.own 0,.h 1,.h 2,.fn 55 [] []],[.arr none (.st .wish) 0]⟩ ((cdL (.st .wish)).p (cdZ.p cdZ)) ⟨.tup [],[some (.arr none (.st .wish) 3)],[]⟩ (cdL (.st .wish)) (.tup []) [.arr] (λa=>aT k a.1 a.2.1 a.2.2)
def yn (k:Nat):=Bw tt [] {f:=λE=>{E with swp:=true}} Try.func92 k [L1 0 false [0,1,2,3,10] [] (cdZ.p (cdZ.p cdZ)) (cdZ.p (cdL (.st .wish))) ⟨([.own 0]++hs 0 4),[.arr none (.st .wish) 4],[some 0]⟩ ⟨2,[],[],(cdL (.st .wish)),⟨[],[.arr none (.st .wish) 3],[some 0]⟩⟩ (bq k)] [.bM,.bM,.bM,.bM,.bM] ⟨[.own 0,.h 1,.h 2,.h 3,.fn 55 [] []],[.arr none (.st .wish) 0]⟩ ((cdL (.st .wish)).p (cdZ.p (cdZ.p cdZ))) ⟨.tup [],[some (.arr none (.st .wish) 4)],[]⟩ (cdL (.st .wish)) (.tup []) [.arr] (λa=>aR k a.1 a.2.1 a.2.2.1 a.2.2.2)
def yo (k:Nat):=Bw tt [⟨92,yn k⟩] (.w [92]) Try.func89 k [L1 0 false [0,2,4,10,11] [] cdZ (cdZ.p (cdZ.p (cdL (.st .wish)))) ⟨[.own 0,.h 0,.fn 55 [] [],.h 1,.h 2],[.arr none (.st .wish) 3],[some 0]⟩ ⟨2,[0,2,4,10],[],(cdZ.p (cdL (.st .wish))),⟨[.own 0,.h 0,.fn 55 [] [],.h 1],[.arr none (.st .wish) 2],[some 0]⟩⟩ (bI k)] [.bM,.bM,.bM,.bM,.bM] ⟨[.own 0,.h 1,.h 2,.h 3,.fn 55 [] []],[.arr none (.st .wish) 0]⟩ ((cdL (.st .wish)).p (cdZ.p (cdZ.p cdZ))) ⟨.tup [],[some (.arr none (.st .wish) 4)],[]⟩ (cdL (.st .wish)) (.tup []) [.arr] (λa=>bW k a.1 a.2.1 a.2.2.1 a.2.2.2)
noncomputable def yp (k:Nat) (self:O Try.prog 86):Env:={oA (P:=Try.prog) tt [⟨55,yl k⟩,⟨89,yo k⟩,⟨86,self⟩]with wr:=λg=>mem g [89],wt:=true,swp:=true}
theorem yq (k:Nat) (self:O Try.prog 86):fS (yp k self):=λg=>pM _ g
noncomputable def yr:Code:=(Try.f86.body).getD .skip
noncomputable def yt:Code:=((cd 0 yr).getD 0 (0,.skip)).2
noncomputable def yu:Code:=((cd 0 yr).getD 1 (0,.skip)).2
noncomputable def yv:Code:=((cd 0 yr).getD 2 (0,.skip)).2
noncomputable def yw:Code:=((cd 0 yr).getD 3 (0,.skip)).2
noncomputable def yx:Code:=((cd 0 yr).getD 4 (0,.skip)).2
def yy:List Nat:=[0,1,4,10,11]
def yz:List (cu× Co):=[]
def y12:Ex->List Nat
 |.exit j=>cond (Nat.beq j 0) [0,1,10] []
 |.ret=>[]
 |.normal=>[]
def y13:Ex->List (cu× Co)
 |.exit j=>cond (Nat.beq j 0) [] []
 |.ret=>[]
 |.normal=>[]
def y17 (pv:(Int× List Wish)× (Int× Int)):St:={aZ:=[(0,.own 0),(1,.r [] (.int .i64 pv.1.1)),(4,.fn (.func 55) [] []),(10,.r [] (.int .i64 pv.2.1)),(11,.r [] (.int .i64 pv.2.2))],heap:=[(0,.arr none (.st .wish) pv.1.2)],nid:=1,n:=220,gh:=[some 0]}
def y19 (nf:NF):Option ((Int× List Wish)× (Int× Int)):=match nf with
 |([.own 0,.r [] (.int .i64 w0),.fn (.func 55) [] [],.r [] (.int .i64 w1),.r [] (.int .i64 w2)],[.arr none (.st .wish) w3],[some 0])=>some ((w0,w3),(w1,w2))
 |_=>none
theorem y1a (nf:NF) (v:(Int× List Wish)× (Int× Int)) (h:y19 nf=some v):bS yy 220 nf=y17 v:=by
 unfold y19 at h;split at h
 ·cases h;rfl
 ·cases h
def y1b (p:Int× List Wish) (x:Int):St:={aZ:=[(0,.own 0),(1,.r [] (.int .i64 p.1)),(10,.r [] (.int .i64 x))],heap:=[(0,.arr none (.st .wish) p.2)],nid:=1,n:=220,gh:=[some 0]}
def y1c:List Nat:=[0,10,13]
def y1d:List (cu× Co):=[]
def y1e:Ex->List Nat
 |.exit j=>cond (Nat.beq j 2) [] []
 |.ret=>[]
 |.normal=>[]
def y1f:Ex->List (cu× Co)
 |.exit j=>cond (Nat.beq j 2) [] []
 |.ret=>[]
 |.normal=>[]
def y1g (pv:(Int)× (Int× List Wish)):St:={aZ:=[(0,.own 0),(10,.r [] (.int .i64 pv.1)),(13,.r [] (.int .i64 pv.2.1))],heap:=[(0,.arr none (.st .wish) pv.2.2)],nid:=1,n:=220,gh:=[some 0]}
def y1h (nf:NF):Option ((Int)× (Int× List Wish)):=match nf with
 |([.own 0,.r [] (.int .i64 w0),.r [] (.int .i64 w1)],[.arr none (.st .wish) w2],[some 0])=>some (w0,(w1,w2))
 |_=>none
theorem y1i (nf:NF) (v:(Int)× (Int× List Wish)) (h:y1h nf=some v):bS y1c 220 nf=y1g v:=by
 unfold y1h at h;split at h
 ·cases h;rfl
 ·cases h
def y1j (p:Int) (x:List Wish):St:={aZ:=[],heap:=[(0,.arr none (.st .wish) x)],nid:=1,n:=220,gh:=[some 0]}
def y1k:List Nat:=[0,2,4,14,15]
def y1l:List (cu× Co):=[]
def y1m:Ex->List Nat
 |.exit j=>cond (Nat.beq j 4) [0,2,14] []
 |.ret=>[]
 |.normal=>[]
def y1n:Ex->List (cu× Co)
 |.exit j=>cond (Nat.beq j 4) [] []
 |.ret=>[]
 |.normal=>[]
def y1o (pv:(Int× List Wish)× (Int× Int)):St:={aZ:=[(0,.own 0),(2,.r [] (.int .i64 pv.1.1)),(4,.fn (.func 55) [] []),(14,.r [] (.int .i64 pv.2.1)),(15,.r [] (.int .i64 pv.2.2))],heap:=[(0,.arr none (.st .wish) pv.1.2)],nid:=1,n:=220,gh:=[some 0]}
def y1p (nf:NF):Option ((Int× List Wish)× (Int× Int)):=match nf with
 |([.own 0,.r [] (.int .i64 w0),.fn (.func 55) [] [],.r [] (.int .i64 w1),.r [] (.int .i64 w2)],[.arr none (.st .wish) w3],[some 0])=>some ((w0,w3),(w1,w2))
 |_=>none
theorem y1q (nf:NF) (v:(Int× List Wish)× (Int× Int)) (h:y1p nf=some v):bS y1k 220 nf=y1o v:=by
 unfold y1p at h;split at h
 ·cases h;rfl
 ·cases h
def y1r (p:Int× List Wish) (x:Int):St:={aZ:=[(0,.own 0),(2,.r [] (.int .i64 p.1)),(14,.r [] (.int .i64 x))],heap:=[(0,.arr none (.st .wish) p.2)],nid:=1,n:=220,gh:=[some 0]}
def y1s:List Nat:=[0,14,17]
def y1t:List (cu× Co):=[]
def y1u:Ex->List Nat
 |.exit j=>cond (Nat.beq j 6) [] []
 |.ret=>[]
 |.normal=>[]
def y1v:Ex->List (cu× Co)
 |.exit j=>cond (Nat.beq j 6) [] []
 |.ret=>[]
 |.normal=>[]
def y1w (pv:(Int)× (Int× List Wish)):St:={aZ:=[(0,.own 0),(14,.r [] (.int .i64 pv.1)),(17,.r [] (.int .i64 pv.2.1))],heap:=[(0,.arr none (.st .wish) pv.2.2)],nid:=1,n:=220,gh:=[some 0]}
def y1x (nf:NF):Option ((Int)× (Int× List Wish)):=match nf with
 |([.own 0,.r [] (.int .i64 w0),.r [] (.int .i64 w1)],[.arr none (.st .wish) w2],[some 0])=>some (w0,(w1,w2))
 |_=>none
theorem y1y (nf:NF) (v:(Int)× (Int× List Wish)) (h:y1x nf=some v):bS y1s 220 nf=y1w v:=by
 unfold y1x at h;split at h
 ·cases h;rfl
 ·cases h
def y1z (p:Int) (x:List Wish):St:={aZ:=[],heap:=[(0,.arr none (.st .wish) x)],nid:=1,n:=220,gh:=[some 0]}
def y20:List Nat:=[0,1,2,3,4,18,19,20,21,22]
def y21:List (cu× Co):=[]
def y23:Ex->List Nat
 |.exit j=>cond (Nat.beq j 8) [0,1,2,3,4,18,19,20] []
 |.ret=>[]
 |.normal=>[]
def y25:Ex->List (cu× Co)
 |.exit j=>cond (Nat.beq j 8) [] []
 |.ret=>[]
 |.normal=>[]
def y27 (pv:(Int× Int× Int× Int× Int× Int× List Wish)× (Int× Int)):St:={aZ:=[(0,.own 0),(1,.r [] (.int .i64 pv.1.1)),(2,.r [] (.int .i64 pv.1.2.1)),(3,.r [] (.int .i64 pv.1.2.2.1)),(4,.fn (.func 55) [] []),(18,.r [] (.int .i64 pv.1.2.2.2.1)),(19,.r [] (.int .i64 pv.1.2.2.2.2.1)),(20,.r [] (.int .i64 pv.2.1)),(21,.r [] (.int .i64 pv.2.2)),(22,.r [] (.int .i64 pv.1.2.2.2.2.2.1))],heap:=[(0,.arr none (.st .wish) pv.1.2.2.2.2.2.2)],nid:=1,n:=220,gh:=[some 0]}
def y28 (nf:NF):Option ((Int× Int× Int× Int× Int× Int× List Wish)× (Int× Int)):=match nf with
 |([.own 0,.r [] (.int .i64 w0),.r [] (.int .i64 w1),.r [] (.int .i64 w2),.fn (.func 55) [] [],.r [] (.int .i64 w3),.r [] (.int .i64 w4),.r [] (.int .i64 w5),.r [] (.int .i64 w6),.r [] (.int .i64 w7)],[.arr none (.st .wish) w8],[some 0])=>some ((w0,w1,w2,w3,w4,w7,w8),(w5,w6))
 |_=>none
theorem y29 (nf:NF) (v:(Int× Int× Int× Int× Int× Int× List Wish)× (Int× Int)) (h:y28 nf=some v):bS y20 220 nf=y27 v:=by
 unfold y28 at h;split at h
 ·cases h;rfl
 ·cases h
def y2a (p:Int× Int× Int× Int× Int× Int× List Wish) (x:Int):St:={aZ:=[(0,.own 0),(1,.r [] (.int .i64 p.1)),(2,.r [] (.int .i64 p.2.1)),(3,.r [] (.int .i64 p.2.2.1)),(4,.fn (.func 55) [] []),(18,.r [] (.int .i64 p.2.2.2.1)),(19,.r [] (.int .i64 p.2.2.2.2.1)),(20,.r [] (.int .i64 x))],heap:=[(0,.arr none (.st .wish) p.2.2.2.2.2.2)],nid:=1,n:=220,gh:=[some 0]}
def y2b (ρ:Type) (k:Nat):Nat->Ev ρ->Ev ρ:=λid f=>cond (Nat.beq id 8) (e8 y20 y21 (λn nf=>cond (Nat.beq n 220) (y28 nf) none) λpv K=>iter (λv next=>aL k pv.1 v next (λx=>K (.exit 8) (y2a pv.1 x))) k pv.2) ((λid f=>cond (Nat.beq id 6) (e8 y1s y1t (λn nf=>cond (Nat.beq n 220) (y1x nf) none) λpv K=>iter (λv next=>aK k pv.1 v next (λx=>K (.exit 6) (y1z pv.1 x))) k pv.2) ((λid f=>cond (Nat.beq id 4) (e8 y1k y1l (λn nf=>cond (Nat.beq n 220) (y1p nf) none) λpv K=>iter (λv next=>aJ k pv.1 v next (λx=>K (.exit 4) (y1r pv.1 x))) k pv.2) ((λid f=>cond (Nat.beq id 2) (e8 y1c y1d (λn nf=>cond (Nat.beq n 220) (y1h nf) none) λpv K=>iter (λv next=>aI k pv.1 v next (λx=>K (.exit 2) (y1j pv.1 x))) k pv.2) ((λid f=>cond (Nat.beq id 0) (e8 yy yz (λn nf=>cond (Nat.beq n 220) (y19 nf) none) λpv K=>iter (λv next=>aH k pv.1 v next (λx=>K (.exit 0) (y1b pv.1 x))) k pv.2) ((λ_ _ _ _=>none) id f)) id f)) id f)) id f)) id f)
theorem y2c {ρ:Type} (k:Nat) (self:O Try.prog 86) (p:Int× List Wish) (v:Int× Int) (K K1:Ex->St->Option ρ):ev (yp k self) (y2b ρ k) 0 yt (y17 (p,v)) (λe st'=>match e with
  |.normal=>(eZ yy yz st').bind λnf=>K1 .normal (bS yy st'.n nf)
  |e=>(eZ (y12 e) (y13 e) st').bind λnf=>K e (bS (y12 e) st'.n nf))=aH k p v (λv'=>K1 .normal (y17 (p,v'))) (λx=>K (.exit 0) (y1b p x)):=by kernel_rfl
theorem y2d {ρ:Type} (k:Nat) (self:O Try.prog 86):Sound Try.prog (.loop yt) (y2b ρ k 0 λst K=>ev (yp k self) (y2b ρ k) 0 yt st K):=
 lf (cQ (yq k self) yt 0 (cY (by kernel_rfl))) y12 y13 k (g:=λp v next K=>aH k p v next (λx=>K (.exit 0) (y1b p x))) (ov y1a) (λp v K K1=>y2c k self p v K K1)
theorem y2e {ρ:Type} (k:Nat) (self:O Try.prog 86) (p:Int) (v:Int× List Wish) (K K1:Ex->St->Option ρ):ev (yp k self) (y2b ρ k) 2 yu (y1g (p,v)) (λe st'=>match e with
  |.normal=>(eZ y1c y1d st').bind λnf=>K1 .normal (bS y1c st'.n nf)
  |e=>(eZ (y1e e) (y1f e) st').bind λnf=>K e (bS (y1e e) st'.n nf))=aI k p v (λv'=>K1 .normal (y1g (p,v'))) (λx=>K (.exit 2) (y1j p x)):=by kernel_rfl
theorem y2f {ρ:Type} (k:Nat) (self:O Try.prog 86):Sound Try.prog (.loop yu) (y2b ρ k 2 λst K=>ev (yp k self) (y2b ρ k) 2 yu st K):=
 lf (cQ (yq k self) yu 2 (cY (by kernel_rfl))) y1e y1f k (g:=λp v next K=>aI k p v next (λx=>K (.exit 2) (y1j p x))) (ov y1i) (λp v K K1=>y2e k self p v K K1)
theorem y2g {ρ:Type} (k:Nat) (self:O Try.prog 86) (p:Int× List Wish) (v:Int× Int) (K K1:Ex->St->Option ρ):ev (yp k self) (y2b ρ k) 4 yv (y1o (p,v)) (λe st'=>match e with
  |.normal=>(eZ y1k y1l st').bind λnf=>K1 .normal (bS y1k st'.n nf)
  |e=>(eZ (y1m e) (y1n e) st').bind λnf=>K e (bS (y1m e) st'.n nf))=aJ k p v (λv'=>K1 .normal (y1o (p,v'))) (λx=>K (.exit 4) (y1r p x)):=by kernel_rfl
theorem y2h {ρ:Type} (k:Nat) (self:O Try.prog 86):Sound Try.prog (.loop yv) (y2b ρ k 4 λst K=>ev (yp k self) (y2b ρ k) 4 yv st K):=
 lf (cQ (yq k self) yv 4 (cY (by kernel_rfl))) y1m y1n k (g:=λp v next K=>aJ k p v next (λx=>K (.exit 4) (y1r p x))) (ov y1q) (λp v K K1=>y2g k self p v K K1)
theorem y2i {ρ:Type} (k:Nat) (self:O Try.prog 86) (p:Int) (v:Int× List Wish) (K K1:Ex->St->Option ρ):ev (yp k self) (y2b ρ k) 6 yw (y1w (p,v)) (λe st'=>match e with
  |.normal=>(eZ y1s y1t st').bind λnf=>K1 .normal (bS y1s st'.n nf)
  |e=>(eZ (y1u e) (y1v e) st').bind λnf=>K e (bS (y1u e) st'.n nf))=aK k p v (λv'=>K1 .normal (y1w (p,v'))) (λx=>K (.exit 6) (y1z p x)):=by kernel_rfl
theorem y2j {ρ:Type} (k:Nat) (self:O Try.prog 86):Sound Try.prog (.loop yw) (y2b ρ k 6 λst K=>ev (yp k self) (y2b ρ k) 6 yw st K):=
 lf (cQ (yq k self) yw 6 (cY (by kernel_rfl))) y1u y1v k (g:=λp v next K=>aK k p v next (λx=>K (.exit 6) (y1z p x))) (ov y1y) (λp v K K1=>y2i k self p v K K1)
theorem y2k {ρ:Type} (k:Nat) (self:O Try.prog 86) (p:Int× Int× Int× Int× Int× Int× List Wish) (v:Int× Int) (K K1:Ex->St->Option ρ):ev (yp k self) (y2b ρ k) 8 yx (y27 (p,v)) (λe st'=>match e with
  |.normal=>(eZ y20 y21 st').bind λnf=>K1 .normal (bS y20 st'.n nf)
  |e=>(eZ (y23 e) (y25 e) st').bind λnf=>K e (bS (y23 e) st'.n nf))=aL k p v (λv'=>K1 .normal (y27 (p,v'))) (λx=>K (.exit 8) (y2a p x)):=by kernel_rfl
theorem y2l {ρ:Type} (k:Nat) (self:O Try.prog 86):Sound Try.prog (.loop yx) (y2b ρ k 8 λst K=>ev (yp k self) (y2b ρ k) 8 yx st K):=
 lf (cQ (yq k self) yx 8 (cY (by kernel_rfl))) y23 y25 k (g:=λp v next K=>aL k p v next (λx=>K (.exit 8) (y2a p x))) (ov y29) (λp v K K1=>y2k k self p v K K1)
def y2m (f:List Wish× Int× Int× Int->Option (List Wish)):Orc:=oM [.bM,.bM,.bM,.bM,.bM] ⟨[.own 0,.h 1,.h 2,.h 3,.fn 55 [] []],[.arr none (.st .wish) 0]⟩ ((cdL (.st .wish)).p (cdZ.p (cdZ.p cdZ))) ⟨.tup [],[some (.arr none (.st .wish) 4)],[]⟩ (cdL (.st .wish)) f
theorem y2n:∀k,jy Try.prog 86 (y2m (λa=>aG k a.1 a.2.1 a.2.2.1 a.2.2.2))
 |0=>Bv
 |k+1=>okM (LP:=y2b _ k) (yq k ⟨_,y2n k⟩) Try.func86 (by kernel_rfl) (by kernel_rfl) (by kernel_rfl) (by kernel_rfl) (rb (l:=[(0,yt),(2,yu),(4,yv),(6,yw),(8,yx)]) (by kernel_rfl) ⟨y2d k ⟨_,y2n k⟩,⟨y2f k ⟨_,y2n k⟩,⟨y2h k ⟨_,y2n k⟩,⟨y2j k ⟨_,y2n k⟩,⟨y2l k ⟨_,y2n k⟩,trivial⟩⟩⟩⟩⟩) (.tup []) [.arr] λa=>by kernel_rfl
def y2o (k:Nat):O Try.prog 86:=⟨y2m (λa=>aG k a.1 a.2.1 a.2.2.1 a.2.2.2),y2n k⟩
def y2p (k:Nat):=Bw tt [⟨85,ym k⟩,⟨86,y2o k⟩] (.w [85,86]) Try.func76 k [L1 0 false [0,1,2,6,7,8] [] (cdZ.p cdZ) (cdZ.p (cdZ.p (cdL (.st .wish)))) ⟨[.own 0,.h 0,.fn 55 [] [],.h 1,.h 2,.h 3],[.arr none (.st .wish) 4],[some 0]⟩ ⟨2,[0,1,2,6,7],[],(cdZ.p (cdL (.st .wish))),⟨[.own 0,.h 0,.fn 55 [] [],.h 1,.h 2],[.arr none (.st .wish) 3],[some 0]⟩⟩ (bJ k),
 L1 4 false [0,1,2,6,7,8] [] (cdZ.p cdZ) (cdZ.p (cdZ.p (cdL (.st .wish)))) ⟨[.own 0,.h 0,.fn 55 [] [],.h 1,.h 2,.h 3],[.arr none (.st .wish) 4],[some 0]⟩ ⟨6,[0,1,2,6,7],[],(cdZ.p (cdL (.st .wish))),⟨[.own 0,.h 0,.fn 55 [] [],.h 1,.h 2],[.arr none (.st .wish) 3],[some 0]⟩⟩ (bK k),
 L1 2 false [0,1,2,6] [] cdZ (cdZ.p (cdL (.st .wish))) ⟨[.own 0,.h 0,.fn 55 [] [],.h 1],[.arr none (.st .wish) 2],[some 0]⟩ ⟨4,[],[],(cdL (.st .wish)),⟨[],[.arr none (.st .wish) 1],[some 0]⟩⟩ (bL k)] [.bM,.bM,.bM] ⟨[.own 0,.h 1,.fn 55 [] []],[.arr none (.st .wish) 0]⟩ ((cdL (.st .wish)).p cdZ) ⟨.tup [],[some (.arr none (.st .wish) 2)],[]⟩ (cdL (.st .wish)) (.tup []) [.arr] (λa=>bX k a.1 a.2)
def y2q (k:Nat):=Et tt [⟨76,y2p k⟩] (.w [76]) Try.func54 [.bM,.bM] ⟨[.own 0,.fn 55 [] []],[.arr none (.st .wish) 0]⟩ (cdL (.st .wish)) ⟨.tup [],[some (.arr none (.st .wish) 1)],[]⟩ (cdL (.st .wish)) (.tup []) [.arr] (aE k)
def y2r (k:Nat):=zZ tt [⟨51,C0 k⟩,⟨52,o_I_areWishes k⟩,⟨53,yi k⟩,⟨54,y2q k⟩] {f:=λE=>{E with wr:=λg=>mem g [54],wt:=true,tak:=true,tkt:=[72]}} Try.func18 k [L1 2 false [1,7,8,10,11,28,29,30,34,35,36] [] (cdZ.p (cdZ.p (cdZ.p (cdZ.p (cdZ.p ((cdL (.sl (.int .i64))).p ((cdL (.int .i64)).p (cdZ.p (cdZ.p (cdZ.p (cdL (.st .wish)))))))))))) cdZ ⟨[.h 0,.own 0,.own 1,.v (.ptr 2 0 0),.h 1,.own 3,.h 2,.h 3,.own 1,.h 4,.h 11],[.arr none (.sl (.int .i64)) 5,.arr none (.int .i64) 6,.box [.h 7,.h 8,.h 9],.arr none (.st .wish) 10],[]⟩ ⟨4,[1,7,8,10,11,28,29,30],[],cdZ,⟨[.h 0,.own 0,.own 1,.v (.ptr 2 0 0),.h 11,.own 3,.h 2,.h 3],[.arr none (.sl (.int .i64)) 5,.arr none (.int .i64) 6,.box [.h 7,.h 8,.h 9],.arr none (.st .wish) 10],[]⟩⟩ (cN k),
 L1 0 false [1,7,8,28,29,30] [] (cdZ.p (cdZ.p (cdL (.st .wish)))) (cdZ.p ((cdL (.sl (.int .i64))).p (cdL (.int .i64)))) ⟨[.h 0,.own 0,.own 1,.own 2,.h 1,.h 3],[.arr none (.sl (.int .i64)) 4,.arr none (.int .i64) 5,.arr none (.st .wish) 2],[]⟩ ⟨2,[7],[],(cdL (.sl (.int .i64))),⟨[.own 0],[.arr none (.sl (.int .i64)) 3],[]⟩⟩ (b6 k)] [.one (.sl (.st .wish)),.one (.int .i64)] ((cdL (.st .wish)).p cdZ) ⟨.tup [.own 0,.h 1],[.arr none (.sl (.int .i64)) 0]⟩ ((cdL (.sl (.int .i64))).p cdB) (.tup [.own (.sl (.int .i64)),.sc]) (λa=>dL k a.1 a.2)
def y2s (k:Nat):=zZ tt [] .id Try.func44 k [L2 0 false [0,1,5] [] ((cdL (.int .i64)).p (cdL (.int .i64))) cdZ ⟨[.h 0,.h 1,.h 2],[],[]⟩ ⟨2,[],[],cdU,⟨[],[],[]⟩⟩ ⟨1,[4],[],cdB,⟨[.h 2],[],[]⟩⟩ (mZ k)] [.one (.sl (.int .i64)),.one (.sl (.int .i64))] ((cdL (.int .i64)).p (cdL (.int .i64))) ⟨.h 0,[]⟩ cdB (.sc) (λa=>kq k a.1 a.2)
def y2t (k:Nat):=zZ tt [⟨44,y2s k⟩] .id Try.func19 k [L2 0 false [0,1,5] [] ((cdL (.sl (.int .i64))).p (cdL (.sl (.int .i64)))) cdZ ⟨[.h 0,.h 1,.h 2],[],[]⟩ ⟨2,[],[],cdU,⟨[],[],[]⟩⟩ ⟨1,[4],[],cdB,⟨[.h 2],[],[]⟩⟩ (er k)] [.one (.sl (.sl (.int .i64))),.one (.sl (.sl (.int .i64)))] ((cdL (.sl (.int .i64))).p (cdL (.sl (.int .i64)))) ⟨.h 0,[]⟩ cdB (.sc) (λa=>gd k a.1 a.2)
def y2u (k:Nat):=xS tt [] .id Try.func57 [.agg [(.int .i64),(.int .i64),(.int .i64)],.agg [(.int .i64),(.int .i64),(.int .i64)]] ((cdS .wish).p (cdS .wish)) ⟨.h 0,[]⟩ cdB (.sc) (λa=>l5 k a.1 a.2)
def y2v (k:Nat):=zZ tt [⟨57,y2u k⟩] .id Try.func20 k [L2 0 false [0,1,5] [] ((cdL (.st .wish)).p (cdL (.st .wish))) cdZ ⟨[.h 0,.h 1,.h 2],[],[]⟩ ⟨2,[],[],cdU,⟨[],[],[]⟩⟩ ⟨1,[4],[],cdB,⟨[.h 2],[],[]⟩⟩ (eu k)] [.one (.sl (.st .wish)),.one (.sl (.st .wish))] ((cdL (.st .wish)).p (cdL (.st .wish))) ⟨.h 0,[]⟩ cdB (.sc) (λa=>kv k a.1 a.2)
def y2w (k:Nat):=Bw tt [] .id Try.func21 k [L1 0 false [0,1,5] [] cdU (cdZ.p (cdZ.p (cdL (.st .wish)))) ⟨[.own 0,.h 0,.h 1],[.arr none (.st .wish) 2],[some 0]⟩ ⟨2,[1],[],(cdZ.p (cdL (.st .wish))),⟨[.h 0],[.arr none (.st .wish) 1],[some 0]⟩⟩ (cF k)] [.bM,.bM] ⟨[.own 0,.h 1],[.arr none (.st .wish) 0]⟩ ((cdL (.st .wish)).p cdZ) ⟨.h 2,[some (.arr none (.st .wish) 3)],[]⟩ (cdZ.p (cdL (.st .wish))) (.sc) [.arr] (λa=>fK k a.1 a.2)
def y2x (k:Nat):=Bw tt [] .id Try.func45 k [L1 0 false [0,1,5] [] cdU (cdZ.p (cdZ.p (cdL (.int .i64)))) ⟨[.own 0,.h 0,.h 1],[.arr none (.int .i64) 2],[some 0]⟩ ⟨2,[1],[],(cdZ.p (cdL (.int .i64))),⟨[.h 0],[.arr none (.int .i64) 1],[some 0]⟩⟩ (cK k)] [.bM,.bM] ⟨[.own 0,.h 1],[.arr none (.int .i64) 0]⟩ ((cdL (.int .i64)).p cdZ) ⟨.h 2,[some (.arr none (.int .i64) 3)],[]⟩ (cdZ.p (cdL (.int .i64))) (.sc) [.arr] (λa=>gK k a.1 a.2)
def y2y (k:Nat):=Bw tt [⟨45,O.inn (y2x k)⟩] {f:=λE=>{E with wr:=λg=>mem g [45],wt:=true,inn:=true}} Try.func22 k [L1 0 false [0,1,5] [] cdU (cdZ.p (cdZ.p (cdL (.sl (.int .i64))))) ⟨[.own 0,.h 0,.h 1],[.arr none (.sl (.int .i64)) 2],[some 0]⟩ ⟨2,[1],[],(cdZ.p (cdL (.sl (.int .i64)))),⟨[.h 0],[.arr none (.sl (.int .i64)) 1],[some 0]⟩⟩ (cE k)] [.bM,.bM] ⟨[.own 0,.h 1],[.arr none (.sl (.int .i64)) 0]⟩ ((cdL (.sl (.int .i64))).p cdZ) ⟨.h 2,[some (.arr none (.sl (.int .i64)) 3)],[]⟩ (cdZ.p (cdL (.sl (.int .i64)))) (.sc) [.arr] (λa=>fJ k a.1 a.2)
def y2z (k:Nat):=zZ tt [] .id Try.func46 k [L2 0 false [0,1,5] [] (cdL (.int .i64)) (cdZ.p cdZ) ⟨[.h 0,.h 1,.h 2],[],[]⟩ ⟨2,[1],[],cdZ,⟨[.h 1],[],[]⟩⟩ ⟨1,[4],[],cdZ,⟨[.h 1],[],[]⟩⟩ (dI k)] [.one (.sl (.int .i64)),.one (.int .i64)] ((cdL (.int .i64)).p cdZ) ⟨.h 0,[]⟩ cdZ (.sc) (λa=>ln k a.1 a.2)
def y30 (k:Nat):=zZ tt [⟨46,y2z k⟩] .id Try.func23 k [L2 0 false [0,1,5] [] (cdL (.sl (.int .i64))) (cdZ.p cdZ) ⟨[.h 0,.h 1,.h 2],[],[]⟩ ⟨2,[1],[],cdZ,⟨[.h 1],[],[]⟩⟩ ⟨1,[4],[],cdZ,⟨[.h 1],[],[]⟩⟩ (di k)] [.one (.sl (.sl (.int .i64))),.one (.int .i64)] ((cdL (.sl (.int .i64))).p cdZ) ⟨.h 0,[]⟩ cdZ (.sc) (λa=>gN k a.1 a.2)
noncomputable def y31 (k:Nat):Env:={oA (P:=Try.prog) tt [⟨15,ya k⟩,⟨16,yh k⟩,⟨17,yc k⟩,⟨18,y2r k⟩,⟨19,y2t k⟩,⟨20,y2v k⟩,⟨21,y2w k⟩,⟨22,y2y k⟩,⟨23,y30 k⟩]with wr:=λg=>mem g [21,22],wt:=true}
theorem y32 (k:Nat):fS (y31 k):=λg=>pM _ g
noncomputable def y33:Code:=(Try.f4.body).getD .skip
def y34 (ρ:Type) (k:Nat):Nat->Ev ρ->Ev ρ:=λ_ _ _ _=>none
def y35 (a:List Wish× Int):List Arg:=[.one (.sl (.st .wish) a.1),.one (.int .i64 a.2)]
def y36 (l:List Arg):Option (List Wish× Int):=match l with
 |[.one (.sl (.st .wish) b0),.one (.int .i64 b1)]=>some (b0,b1)
 |_=>none
def y37 (r:Bool):Out:=(.r [] (.bool r),[])
def y38 (o:Out):Option (Bool):=match o with
 |(.r [] (.bool z1),[])=>some z1
 |_=>none
def y39 (k:Nat):PG:=λ_ l K=>(y36 l).bind λa=>(ca k a.1 a.2).bind λr=>K (y37 r)
theorem y3a (k:Nat) (a:List Wish× Int):ev (y31 k) (y34 (Bool) k) 0 y33 (st0 Try.f4 (y35 a)) (fin Try.prog Try.f4 (.sc) y38)=ca k a.1 a.2:=by kernel_rfl
theorem y3b (k:Nat):uk Try.prog 4 (y39 k):=
 lD (y32 k) Try.func4 (by kernel_rfl) (by kernel_rfl) y35 y36
  (λl a h=>by unfold y36 at h;split at h<;>first|(cases h;rfl)|cases h) (λa=>rfl) (cY (by kernel_rfl))
  (λo r h=>by unfold y38 at h;split at h<;>first|(cases h;rfl)|cases h) (y3a k)
end
end Go.Proofs.Ev
