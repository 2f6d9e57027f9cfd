/- Text of this claim. -/
import Derived.Test.YtjcmkefhdkccbaaEvK7
import Derived.Test.YtjcmkefhdkccbaaProg
import Derived.Test.YtjcmkefhdkccbaaEvL1
set_option linter.unusedVariables false
set_option linter.unusedSimpArgs false
set_option linter.unusedVariables false
set_option linter.unusedSimpArgs false
set_option maxRecDepth 100000
set_option maxHeartbeats 4000000
namespace Go.Proofs.Ev
noncomputable section
variable [Tok]
set_option linter.unusedSectionVars false
def tt:TT:=look [(2,(.int .i64)),(3,(.int .i64)),(4,.bool),(5,(.int .u8)),(6,(.int .u8)),(9,.str),(10,.str),(11,.str),(12,(.int .u64)),(21,(.int .i32)),(22,(.sl (.int .i64))),(28,(.st .shape)),(30,(.st .KZ)),(32,(.sl (.st .KZ))),(35,(.st .shape)),(37,(.st .KZ)),(44,(.sl (.st .Tj))),(46,(.sl (.sl (.int .i64)))),(49,(.sl (.st .Tj))),(56,(.sl (.int .u8))),(65,(.sl (.st .Kg))),(67,(.st .model)),(74,(.sl (.st .shape))),(93,(.st .Tj)),(95,(.st .Tj)),(115,(.st .Kg)),(141,(.sl (.sl (.st .Kg)))),(148,(.int .u64)),(172,(.int .u32)),(173,(.int .u8)),(174,(.int .u8)),(177,(.int .i32)),(178,(.int .i32))]
noncomputable def y0 (k:Nat):Env:=QI (P:=Try.prog) tt []
theorem ya (k:Nat):I8 (y0 k):=fun g=>IU _ g
noncomputable def yb:Code:=(Try.f9.body).getD .skip
noncomputable def yc:Code:=((Hg 0 yb).getD 0 (0,.skip)).2
def yd:List Nat:=[0,3,4]
def ye:List (Ht× Co):=[]
def yf:Ex→List Nat
  |.exit j=>cond (Nat.beq j 0) [3] []
  |.ret=>[]
  |.normal=>[]
def yg:Ex→List (Ht× Co)
  |.exit j=>cond (Nat.beq j 0) [] []
  |.ret=>[]
  |.normal=>[]
def yh (pv:(List Int)× (Int× List Int)):St:={G2:=[(0,.r [] (.sl (.int .i64) pv.1)),(3,.own 0),(4,.r [] (.int .i64 pv.2.1))],heap:=[(0,.arr none (.int .i64) pv.2.2)],nid:=1,n:=22,gh:=[]}
def yi (nf:NF):Option ((List Int)× (Int× List Int)):=match nf with
  |([.r [] (.sl (.int .i64) w0),.own 0,.r [] (.int .i64 w1)],[.arr none (.int .i64) w2],[])=>some (w0,(w1,w2))
  |_=>none
theorem yj (nf:NF) (v:(List Int)× (Int× List Int)) (h:yi nf=some v):G5 yd 22 nf=yh v:=by
  unfold yi at h
  split at h
  · cases h;rfl
  · cases h
def yk (p:List Int) (x:List Int):St:={G2:=[(3,.own 0)],heap:=[(0,.arr none (.int .i64) x)],nid:=1,n:=22,gh:=[]}
def yl (ρ:Type) (k:Nat):Nat→Ev ρ→Ev ρ:=fun id f=>cond (Nat.beq id 0) (HM yd ye (fun n nf=>cond (Nat.beq n 22) (yi nf) none) fun pv K=>iter (fun v next=>Jc k pv.1 v next (fun x=>K (.exit 0) (yk pv.1 x))) k pv.2) ((fun _ _ _ _=>none) id f)
theorem ym {ρ:Type} (k:Nat) (p:List Int) (v:Int× List Int) (K K1:Ex→St→Option ρ):ev (y0 k) (yl ρ k) 0 yc (yh (p,v)) (fun e st'=>match e with
    |.normal=>(HH yd ye st').bind fun nf=>K1 .normal (G5 yd st'.n nf)
    |e=>(HH (yf e) (yg e) st').bind fun nf=>K e (G5 (yf e) st'.n nf))=Jc k p v (fun v'=>K1 .normal (yh (p,v'))) (fun x=>K (.exit 0) (yk p x)):=by kernel_rfl
theorem yn {ρ:Type} (k:Nat):Sound Try.prog (.loop yc) (yl ρ k 0 fun st K=>ev (y0 k) (yl ρ k) 0 yc st K):=
  H7 (Hk (ya k) yc 0 (Hf (by kernel_rfl))) yf yg k (g:=fun p v next K=>Jc k p v next (fun x=>K (.exit 0) (yk p x))) (IQ yj) (fun p v K K1=>ym k p v K K1)
def yo (k:Nat):O Try.prog 9:=⟨oP [.one (.sl (.int .i64))] (cdL (.int .i64)) ⟨.own 0,[.arr none (.int .i64) 0]⟩ (cdL (.int .i64)) fun a=>KQ k a,okP (LP:=yl _ k) (ya k) Try.func9 (by kernel_rfl) (by kernel_rfl) (by kernel_rfl) (HI (l:=[(0,yc)]) (by kernel_rfl) ⟨yn k,trivial⟩) (.own (.int .i64)) fun a=>by kernel_rfl⟩
noncomputable def yp (k:Nat):Env:=QI (P:=Try.prog) tt []
theorem yq (k:Nat):I8 (yp k):=fun g=>IU _ g
noncomputable def yr:Code:=(Try.f55.body).getD .skip
noncomputable def yt:Code:=((Hg 0 yr).getD 0 (0,.skip)).2
noncomputable def yu:Code:=((Hg 0 yt).getD 0 (0,.skip)).2
def yv:List Nat:=[0,3,4,5,6,7]
def yw:List (Ht× Co):=[]
def yx:Ex→List Nat
  |.exit j=>cond (Nat.beq j 2) [0,4,5,6] []
  |.ret=>[]
  |.normal=>[]
def yy:Ex→List (Ht× Co)
  |.exit j=>cond (Nat.beq j 2) [] []
  |.ret=>[]
  |.normal=>[]
def yz (pv:(List Int× Int× List Int)× (Bool× Int× List Int)):St:={G2:=[(0,.r [] (.sl (.int .i64) pv.1.1)),(3,.own 0),(4,.r [] (.int .i64 pv.1.2.1)),(5,.own 1),(6,.r [] (.bool pv.2.1)),(7,.r [] (.int .i64 pv.2.2.1))],heap:=[(0,.arr none (.int .i64) pv.1.2.2),(1,.arr none (.int .i64) pv.2.2.2)],nid:=2,n:=57,gh:=[]}
def y10 (nf:NF):Option ((List Int× Int× List Int)× (Bool× Int× List Int)):=match nf with
  |([.r [] (.sl (.int .i64) w0),.own 0,.r [] (.int .i64 w1),.own 1,.r [] (.bool w2),.r [] (.int .i64 w3)],[.arr none (.int .i64) w4,.arr none (.int .i64) w5],[])=>some ((w0,w1,w4),(w2,w3,w5))
  |_=>none
theorem y11 (nf:NF) (v:(List Int× Int× List Int)× (Bool× Int× List Int)) (h:y10 nf=some v):G5 yv 57 nf=yz v:=by
  unfold y10 at h
  split at h
  · cases h;rfl
  · cases h
def y12 (p:List Int× Int× List Int) (x:Bool× List Int):St:={G2:=[(0,.r [] (.sl (.int .i64) p.1)),(4,.r [] (.int .i64 p.2.1)),(5,.own 0),(6,.r [] (.bool x.1))],heap:=[(0,.arr none (.int .i64) x.2)],nid:=1,n:=57,gh:=[]}
def y13:List Nat:=[0,3,4]
def y14:List (Ht× Co):=[]
def y16:Ex→List Nat
  |.exit j=>cond (Nat.beq j 0) [3] []
  |.ret=>[]
  |.normal=>[]
def y17:Ex→List (Ht× Co)
  |.exit j=>cond (Nat.beq j 0) [] []
  |.ret=>[]
  |.normal=>[]
def y19 (pv:(List Int)× (Int× List Int)):St:={G2:=[(0,.r [] (.sl (.int .i64) pv.1)),(3,.own 0),(4,.r [] (.int .i64 pv.2.1))],heap:=[(0,.arr none (.int .i64) pv.2.2)],nid:=1,n:=57,gh:=[]}
def y1a (nf:NF):Option ((List Int)× (Int× List Int)):=match nf with
  |([.r [] (.sl (.int .i64) w0),.own 0,.r [] (.int .i64 w1)],[.arr none (.int .i64) w2],[])=>some (w0,(w1,w2))
  |_=>none
theorem y1b (nf:NF) (v:(List Int)× (Int× List Int)) (h:y1a nf=some v):G5 y13 57 nf=y19 v:=by
  unfold y1a at h
  split at h
  · cases h;rfl
  · cases h
def y1c (p:List Int) (x:List Int):St:={G2:=[(3,.own 0)],heap:=[(0,.arr none (.int .i64) x)],nid:=1,n:=57,gh:=[]}
def y1d (ρ:Type) (k:Nat):Nat→Ev ρ→Ev ρ:=fun id f=>cond (Nat.beq id 0) (HM y13 y14 (fun n nf=>cond (Nat.beq n 57) (y1a nf) none) fun pv K=>iter (fun v next=>IW k pv.1 v next (fun x=>K (.exit 0) (y1c pv.1 x))) k pv.2) ((fun id f=>cond (Nat.beq id 2) (HM yv yw (fun n nf=>cond (Nat.beq n 57) (y10 nf) none) fun pv K=>iter (fun v next=>Iq k pv.1 v next (fun x=>K (.exit 2) (y12 pv.1 x))) k pv.2) ((fun _ _ _ _=>none) id f)) id f)
theorem y1e {ρ:Type} (k:Nat) (p:List Int× Int× List Int) (v:Bool× Int× List Int) (K K1:Ex→St→Option ρ):ev (yp k) (y1d ρ k) 2 yu (yz (p,v)) (fun e st'=>match e with
    |.normal=>(HH yv yw st').bind fun nf=>K1 .normal (G5 yv st'.n nf)
    |e=>(HH (yx e) (yy e) st').bind fun nf=>K e (G5 (yx e) st'.n nf))=Iq k p v (fun v'=>K1 .normal (yz (p,v'))) (fun x=>K (.exit 2) (y12 p x)):=by kernel_rfl
theorem y1f {ρ:Type} (k:Nat):Sound Try.prog (.loop yu) (y1d ρ k 2 fun st K=>ev (yp k) (y1d ρ k) 2 yu st K):=
  H7 (Hk (yq k) yu 2 (Hf (by kernel_rfl))) yx yy k (g:=fun p v next K=>Iq k p v next (fun x=>K (.exit 2) (y12 p x))) (IQ y11) (fun p v K K1=>y1e k p v K K1)
theorem y1g {ρ:Type} (k:Nat) (p:List Int) (v:Int× List Int) (K K1:Ex→St→Option ρ):ev (yp k) (y1d ρ k) 0 yt (y19 (p,v)) (fun e st'=>match e with
    |.normal=>(HH y13 y14 st').bind fun nf=>K1 .normal (G5 y13 st'.n nf)
    |e=>(HH (y16 e) (y17 e) st').bind fun nf=>K e (G5 (y16 e) st'.n nf))=IW k p v (fun v'=>K1 .normal (y19 (p,v'))) (fun x=>K (.exit 0) (y1c p x)):=by kernel_rfl
theorem y1h {ρ:Type} (k:Nat):Sound Try.prog (.loop yt) (y1d ρ k 0 fun st K=>ev (yp k) (y1d ρ k) 0 yt st K):=
  H7 (Hk (yq k) yt 0 (HI (l:=[(2,yu)]) (by kernel_rfl) ⟨y1f k,trivial⟩)) y16 y17 k (g:=fun p v next K=>IW k p v next (fun x=>K (.exit 0) (y1c p x))) (IQ y1b) (fun p v K K1=>y1g k p v K K1)
def y1i (k:Nat):O Try.prog 55:=⟨oP [.one (.sl (.int .i64))] (cdL (.int .i64)) ⟨.own 0,[.arr none (.int .i64) 0]⟩ (cdL (.int .i64)) fun a=>LN k a,okP (LP:=y1d _ k) (yq k) Try.func55 (by kernel_rfl) (by kernel_rfl) (by kernel_rfl) (HI (l:=[(0,yt)]) (by kernel_rfl) ⟨y1h k,trivial⟩) (.own (.int .i64)) fun a=>by kernel_rfl⟩
def y1j (k:Nat):O Try.prog 8:=ZA (tt:=tt) [⟨55,y1i k⟩] .id Try.func8 [.one (.sl (.int .i64))] (cdL (.int .i64)) ⟨.own 0,[.arr none (.int .i64) 0]⟩ (cdL (.int .i64)) (.own (.int .i64)) (fun a=>J3 k a) (by kernel_rfl) fun a=>by kernel_rfl
def y1k (k:Nat):O Try.prog 57:=ZA (tt:=tt) [] .id Try.func57 [.one (.int .i64)] cdZ ⟨.h 0,[]⟩ cdZ (.sc) (fun a=>IX k a) (by kernel_rfl) fun a=>by kernel_rfl
def y1l (k:Nat):O Try.prog 109:=ZA (tt:=tt) [] .id Try.func109 [.one (.int .i64)] cdZ ⟨.h 0,[]⟩ cdB (.sc) (fun a=>Ju k a) (by kernel_rfl) fun a=>by kernel_rfl
def y1m (k:Nat):O Try.prog 74:=ZA (tt:=tt) [⟨109,y1l k⟩] .id Try.func74 [.one (.int .i64),.one (.int .i64)] (cdZ.p cdZ) ⟨.h 0,[]⟩ cdZ (.sc) (fun a=>JM k a.1 a.2) (by kernel_rfl) fun a=>by kernel_rfl
def y1n (k:Nat):O Try.prog 100:=Z7 (tt:=tt) [⟨57,y1k k⟩,⟨74,y1m k⟩] .id Try.func100 [.one (.int .i64),.one (.int .i64),.HL,.HL] ⟨[.h 0,.h 1,.v (.ptr 0 0 0),.v (.ptr 1 0 0)],[.box [.fn 57 [] []],.box [.h 2]]⟩ (cdZ.p (cdZ.p (cdL (.int .i64)))) ⟨.h 3,[some (.box [.fn 57 [] []]),some (.box [.h 2])],[]⟩ cdZ (.sc) [.box [.fn [] []],.box [.ro (.int .i64)]] (fun a=>HJ k a.1 a.2.1 a.2.2) (by kernel_rfl) fun a=>by kernel_rfl
noncomputable def y1o (k:Nat):Env:={QI (P:=Try.prog) tt [⟨100,y1n k⟩]with wr:=fun g=>mem g [100],wt:=true,swp:=true}
theorem y1p (k:Nat):I8 (y1o k):=fun g=>IU _ g
noncomputable def y1q:Code:=(Try.f148.body).getD .skip
noncomputable def y1r:Code:=((Hg 0 y1q).getD 0 (0,.skip)).2
noncomputable def y1s:Code:=((Hg 0 y1r).getD 0 (0,.skip)).2
def y1t:List Nat:=[0,1,2,3,8,9]
def y1u:List (Ht× Co):=[]
def y1v:Ex→List Nat
  |.exit j=>cond (Nat.beq j 2) [0,1,2,3,8] []
  |.ret=>[]
  |.normal=>[]
def y1w:Ex→List (Ht× Co)
  |.exit j=>cond (Nat.beq j 2) [] []
  |.ret=>[]
  |.normal=>[]
def y1x (pv:(Int× Int× Int× List Int)× (Int× List Int)):St:={G2:=[(0,.own 0),(1,.r [] (.int .i64 pv.1.1)),(2,.r [] (.int .i64 pv.1.2.1)),(3,.fn (.func 100) [] [.ptr 1 0 0,.ptr 2 0 0]),(8,.r [] (.int .i64 pv.1.2.2.1)),(9,.r [] (.int .i64 pv.2.1))],heap:=[(0,.arr none (.int .i64) pv.2.2),(1,.box [.fn (.func 57) [] []]),(2,.box [.r [] (.sl (.int .i64) pv.1.2.2.2)])],nid:=3,n:=53,gh:=[some 0,some 1,some 2]}
def y1y (nf:NF):Option ((Int× Int× Int× List Int)× (Int× List Int)):=match nf with
  |([.own 0,.r [] (.int .i64 w0),.r [] (.int .i64 w1),.fn (.func 100) [] [.ptr 1 0 0,.ptr 2 0 0],.r [] (.int .i64 w2),.r [] (.int .i64 w3)],[.arr none (.int .i64) w4,.box [.fn (.func 57) [] []],.box [.r [] (.sl (.int .i64) w5)]],[some 0,some 1,some 2])=>some ((w0,w1,w2,w5),(w3,w4))
  |_=>none
theorem y1z (nf:NF) (v:(Int× Int× Int× List Int)× (Int× List Int)) (h:y1y nf=some v):G5 y1t 53 nf=y1x v:=by
  unfold y1y at h
  split at h
  · cases h;rfl
  · cases h
def y20 (p:Int× Int× Int× List Int) (x:List Int):St:={G2:=[(0,.own 0),(1,.r [] (.int .i64 p.1)),(2,.r [] (.int .i64 p.2.1)),(3,.fn (.func 100) [] [.ptr 1 0 0,.ptr 2 0 0]),(8,.r [] (.int .i64 p.2.2.1))],heap:=[(0,.arr none (.int .i64) x),(1,.box [.fn (.func 57) [] []]),(2,.box [.r [] (.sl (.int .i64) p.2.2.2)])],nid:=3,n:=53,gh:=[some 0,some 1,some 2]}
def y21:List Nat:=[0,1,2,3,8]
def y22:List (Ht× Co):=[]
def y23:Ex→List Nat
  |.exit j=>cond (Nat.beq j 0) [] []
  |.ret=>[]
  |.normal=>[]
def y24:Ex→List (Ht× Co)
  |.exit j=>cond (Nat.beq j 0) [] []
  |.ret=>[]
  |.normal=>[]
def y25 (pv:(Int× Int× List Int)× (Int× List Int)):St:={G2:=[(0,.own 0),(1,.r [] (.int .i64 pv.1.1)),(2,.r [] (.int .i64 pv.1.2.1)),(3,.fn (.func 100) [] [.ptr 1 0 0,.ptr 2 0 0]),(8,.r [] (.int .i64 pv.2.1))],heap:=[(0,.arr none (.int .i64) pv.2.2),(1,.box [.fn (.func 57) [] []]),(2,.box [.r [] (.sl (.int .i64) pv.1.2.2)])],nid:=3,n:=53,gh:=[some 0,some 1,some 2]}
def y27 (nf:NF):Option ((Int× Int× List Int)× (Int× List Int)):=match nf with
  |([.own 0,.r [] (.int .i64 w0),.r [] (.int .i64 w1),.fn (.func 100) [] [.ptr 1 0 0,.ptr 2 0 0],.r [] (.int .i64 w2)],[.arr none (.int .i64) w3,.box [.fn (.func 57) [] []],.box [.r [] (.sl (.int .i64) w4)]],[some 0,some 1,some 2])=>some ((w0,w1,w4),(w2,w3))
  |_=>none
theorem y28 (nf:NF) (v:(Int× Int× List Int)× (Int× List Int)) (h:y27 nf=some v):G5 y21 53 nf=y25 v:=by
  unfold y27 at h
  split at h
  · cases h;rfl
  · cases h
def y29 (p:Int× Int× List Int) (x:List Int):St:={G2:=[],heap:=[(0,.arr none (.int .i64) x),(1,.box [.fn (.func 57) [] []]),(2,.box [.r [] (.sl (.int .i64) p.2.2)])],nid:=3,n:=53,gh:=[some 0,some 1,some 2]}
def y2a (ρ:Type) (k:Nat):Nat→Ev ρ→Ev ρ:=fun id f=>cond (Nat.beq id 0) (HM y21 y22 (fun n nf=>cond (Nat.beq n 53) (y27 nf) none) fun pv K=>iter (fun v next=>GH k pv.1 v next (fun x=>K (.exit 0) (y29 pv.1 x))) k pv.2) ((fun id f=>cond (Nat.beq id 2) (HM y1t y1u (fun n nf=>cond (Nat.beq n 53) (y1y nf) none) fun pv K=>iter (fun v next=>GU k pv.1 v next (fun x=>K (.exit 2) (y20 pv.1 x))) k pv.2) ((fun _ _ _ _=>none) id f)) id f)
theorem y2b {ρ:Type} (k:Nat) (p:Int× Int× Int× List Int) (v:Int× List Int) (K K1:Ex→St→Option ρ):ev (y1o k) (y2a ρ k) 2 y1s (y1x (p,v)) (fun e st'=>match e with
    |.normal=>(HH y1t y1u st').bind fun nf=>K1 .normal (G5 y1t st'.n nf)
    |e=>(HH (y1v e) (y1w e) st').bind fun nf=>K e (G5 (y1v e) st'.n nf))=GU k p v (fun v'=>K1 .normal (y1x (p,v'))) (fun x=>K (.exit 2) (y20 p x)):=by kernel_rfl
theorem y2c {ρ:Type} (k:Nat):Sound Try.prog (.loop y1s) (y2a ρ k 2 fun st K=>ev (y1o k) (y2a ρ k) 2 y1s st K):=
  H7 (Hk (y1p k) y1s 2 (Hf (by kernel_rfl))) y1v y1w k (g:=fun p v next K=>GU k p v next (fun x=>K (.exit 2) (y20 p x))) (IQ y1z) (fun p v K K1=>y2b k p v K K1)
theorem y2d {ρ:Type} (k:Nat) (p:Int× Int× List Int) (v:Int× List Int) (K K1:Ex→St→Option ρ):ev (y1o k) (y2a ρ k) 0 y1r (y25 (p,v)) (fun e st'=>match e with
    |.normal=>(HH y21 y22 st').bind fun nf=>K1 .normal (G5 y21 st'.n nf)
    |e=>(HH (y23 e) (y24 e) st').bind fun nf=>K e (G5 (y23 e) st'.n nf))=GH k p v (fun v'=>K1 .normal (y25 (p,v'))) (fun x=>K (.exit 0) (y29 p x)):=by kernel_rfl
theorem y2e {ρ:Type} (k:Nat):Sound Try.prog (.loop y1r) (y2a ρ k 0 fun st K=>ev (y1o k) (y2a ρ k) 0 y1r st K):=
  H7 (Hk (y1p k) y1r 0 (HI (l:=[(2,y1s)]) (by kernel_rfl) ⟨y2c k,trivial⟩)) y23 y24 k (g:=fun p v next K=>GH k p v next (fun x=>K (.exit 0) (y29 p x))) (IQ y28) (fun p v K K1=>y2d k p v K K1)
def y2f (k:Nat):O Try.prog 148:=⟨oM [.HL,.HL,.HL,.HL] ⟨[.own 0,.h 1,.h 2,.fn 100 [] [.v (.ptr 1 0 0),.v (.ptr 2 0 0)]],[.arr none (.int .i64) 0,.box [.fn 57 [] []],.box [.h 3]]⟩ ((cdL (.int .i64)).p (cdZ.p (cdZ.p (cdL (.int .i64))))) ⟨.tup [],[some (.arr none (.int .i64) 4),some (.box [.fn 57 [] []]),some (.box [.h 3])],[]⟩ (cdL (.int .i64)) fun a=>G9 k a.1 a.2.1 a.2.2.1 a.2.2.2,okM (LP:=y2a _ k) (y1p k) Try.func148 (by kernel_rfl) (by kernel_rfl) (by kernel_rfl) (by kernel_rfl) (HI (l:=[(0,y1r)]) (by kernel_rfl) ⟨y2e k,trivial⟩) (.tup []) [.arr,.box [.fn [] []],.box [.ro (.int .i64)]] fun a=>by kernel_rfl⟩
noncomputable def y2g (k:Nat):Env:={QI (P:=Try.prog) tt []with swp:=true}
theorem y2h (k:Nat):I8 (y2g k):=fun g=>IU _ g
noncomputable def y2i:Code:=(Try.f170.body).getD .skip
noncomputable def y2j:Code:=((Hg 0 y2i).getD 0 (0,.skip)).2
def y2k:List Nat:=[0,1,2,3,10]
def y2l:List (Ht× Co):=[]
def y2m:Ex→List Nat
  |.exit j=>cond (Nat.beq j 0) [] []
  |.ret=>[]
  |.normal=>[]
def y2n:Ex→List (Ht× Co)
  |.exit j=>cond (Nat.beq j 0) [] []
  |.ret=>[]
  |.normal=>[]
def y2o (pv:(Int× Int× Int× List Int)× (Int× List Int)):St:={G2:=[(0,.own 0),(1,.r [] (.int .i64 pv.1.1)),(2,.r [] (.int .i64 pv.1.2.1)),(3,.r [] (.int .i64 pv.1.2.2.1)),(10,.r [] (.int .i64 pv.2.1))],heap:=[(0,.arr none (.int .i64) pv.2.2),(1,.box [.fn (.func 57) [] []]),(2,.box [.r [] (.sl (.int .i64) pv.1.2.2.2)])],nid:=3,n:=38,gh:=[some 0,some 1,some 2]}
def y2p (nf:NF):Option ((Int× Int× Int× List Int)× (Int× List Int)):=match nf with
  |([.own 0,.r [] (.int .i64 w0),.r [] (.int .i64 w1),.r [] (.int .i64 w2),.r [] (.int .i64 w3)],[.arr none (.int .i64) w4,.box [.fn (.func 57) [] []],.box [.r [] (.sl (.int .i64) w5)]],[some 0,some 1,some 2])=>some ((w0,w1,w2,w5),(w3,w4))
  |_=>none
theorem y2q (nf:NF) (v:(Int× Int× Int× List Int)× (Int× List Int)) (h:y2p nf=some v):G5 y2k 38 nf=y2o v:=by
  unfold y2p at h
  split at h
  · cases h;rfl
  · cases h
def y2r (p:Int× Int× Int× List Int) (x:List Int):St:={G2:=[],heap:=[(0,.arr none (.int .i64) x),(1,.box [.fn (.func 57) [] []]),(2,.box [.r [] (.sl (.int .i64) p.2.2.2)])],nid:=3,n:=38,gh:=[some 0,some 1,some 2]}
def y2s (ρ:Type) (k:Nat):Nat→Ev ρ→Ev ρ:=fun id f=>cond (Nat.beq id 0) (HM y2k y2l (fun n nf=>cond (Nat.beq n 38) (y2p nf) none) fun pv K=>iter (fun v next=>GX k pv.1 v next (fun x=>K (.exit 0) (y2r pv.1 x))) k pv.2) ((fun _ _ _ _=>none) id f)
theorem y2t {ρ:Type} (k:Nat) (p:Int× Int× Int× List Int) (v:Int× List Int) (K K1:Ex→St→Option ρ):ev (y2g k) (y2s ρ k) 0 y2j (y2o (p,v)) (fun e st'=>match e with
    |.normal=>(HH y2k y2l st').bind fun nf=>K1 .normal (G5 y2k st'.n nf)
    |e=>(HH (y2m e) (y2n e) st').bind fun nf=>K e (G5 (y2m e) st'.n nf))=GX k p v (fun v'=>K1 .normal (y2o (p,v'))) (fun x=>K (.exit 0) (y2r p x)):=by kernel_rfl
theorem y2u {ρ:Type} (k:Nat):Sound Try.prog (.loop y2j) (y2s ρ k 0 fun st K=>ev (y2g k) (y2s ρ k) 0 y2j st K):=
  H7 (Hk (y2h k) y2j 0 (Hf (by kernel_rfl))) y2m y2n k (g:=fun p v next K=>GX k p v next (fun x=>K (.exit 0) (y2r p x))) (IQ y2q) (fun p v K K1=>y2t k p v K K1)
def y2v (k:Nat):O Try.prog 170:=⟨oM [.HL,.HL,.HL,.HL,.HL] ⟨[.own 0,.h 1,.h 2,.h 3,.fn 100 [] [.v (.ptr 1 0 0),.v (.ptr 2 0 0)]],[.arr none (.int .i64) 0,.box [.fn 57 [] []],.box [.h 4]]⟩ ((cdL (.int .i64)).p (cdZ.p (cdZ.p (cdZ.p (cdL (.int .i64)))))) ⟨.tup [],[some (.arr none (.int .i64) 5),some (.box [.fn 57 [] []]),some (.box [.h 4])],[]⟩ (cdL (.int .i64)) fun a=>G3 k a.1 a.2.1 a.2.2.1 a.2.2.2.1 a.2.2.2.2,okM (LP:=y2s _ k) (y2h k) Try.func170 (by kernel_rfl) (by kernel_rfl) (by kernel_rfl) (by kernel_rfl) (HI (l:=[(0,y2j)]) (by kernel_rfl) ⟨y2u k,trivial⟩) (.tup []) [.arr,.box [.fn [] []],.box [.ro (.int .i64)]] fun a=>by kernel_rfl⟩
noncomputable def y2w (k:Nat):Env:={QI (P:=Try.prog) tt [⟨170,y2v k⟩]with wr:=fun g=>mem g [170],wt:=true}
theorem y2x (k:Nat):I8 (y2w k):=fun g=>IU _ g
noncomputable def y2y:Code:=(Try.f162.body).getD .skip
noncomputable def y2z:Code:=((Hg 0 y2y).getD 0 (0,.skip)).2
def y30:List Nat:=[0,2,4,10,11]
def y31:List (Ht× Co):=[]
def y32:Ex→List Nat
  |.exit j=>cond (Nat.beq j 0) [0,2,4,10] []
  |.ret=>[]
  |.normal=>[]
def y33:Ex→List (Ht× Co)
  |.exit j=>cond (Nat.beq j 0) [] []
  |.ret=>[]
  |.normal=>[]
def y34 (pv:(Int× List Int)× (Int× Int× List Int)):St:={G2:=[(0,.own 0),(2,.r [] (.int .i64 pv.1.1)),(4,.fn (.func 100) [] [.ptr 1 0 0,.ptr 2 0 0]),(10,.r [] (.int .i64 pv.2.1)),(11,.r [] (.int .i64 pv.2.2.1))],heap:=[(0,.arr none (.int .i64) pv.2.2.2),(1,.box [.fn (.func 57) [] []]),(2,.box [.r [] (.sl (.int .i64) pv.1.2)])],nid:=3,n:=58,gh:=[some 0,some 1,some 2]}
def y35 (nf:NF):Option ((Int× List Int)× (Int× Int× List Int)):=match nf with
  |([.own 0,.r [] (.int .i64 w0),.fn (.func 100) [] [.ptr 1 0 0,.ptr 2 0 0],.r [] (.int .i64 w1),.r [] (.int .i64 w2)],[.arr none (.int .i64) w3,.box [.fn (.func 57) [] []],.box [.r [] (.sl (.int .i64) w4)]],[some 0,some 1,some 2])=>some ((w0,w4),(w1,w2,w3))
  |_=>none
theorem y36 (nf:NF) (v:(Int× List Int)× (Int× Int× List Int)) (h:y35 nf=some v):G5 y30 58 nf=y34 v:=by
  unfold y35 at h
  split at h
  · cases h;rfl
  · cases h
def y37 (p:Int× List Int) (x:Int× List Int):St:={G2:=[(0,.own 0),(2,.r [] (.int .i64 p.1)),(4,.fn (.func 100) [] [.ptr 1 0 0,.ptr 2 0 0]),(10,.r [] (.int .i64 x.1))],heap:=[(0,.arr none (.int .i64) x.2),(1,.box [.fn (.func 57) [] []]),(2,.box [.r [] (.sl (.int .i64) p.2)])],nid:=3,n:=58,gh:=[some 0,some 1,some 2]}
def y38 (ρ:Type) (k:Nat):Nat→Ev ρ→Ev ρ:=fun id f=>cond (Nat.beq id 0) (HM y30 y31 (fun n nf=>cond (Nat.beq n 58) (y35 nf) none) fun pv K=>iter (fun v next=>GN k pv.1 v next (fun x=>K (.exit 0) (y37 pv.1 x))) k pv.2) ((fun _ _ _ _=>none) id f)
theorem y39 {ρ:Type} (k:Nat) (p:Int× List Int) (v:Int× Int× List Int) (K K1:Ex→St→Option ρ):ev (y2w k) (y38 ρ k) 0 y2z (y34 (p,v)) (fun e st'=>match e with
    |.normal=>(HH y30 y31 st').bind fun nf=>K1 .normal (G5 y30 st'.n nf)
    |e=>(HH (y32 e) (y33 e) st').bind fun nf=>K e (G5 (y32 e) st'.n nf))=GN k p v (fun v'=>K1 .normal (y34 (p,v'))) (fun x=>K (.exit 0) (y37 p x)):=by kernel_rfl
theorem y3a {ρ:Type} (k:Nat):Sound Try.prog (.loop y2z) (y38 ρ k 0 fun st K=>ev (y2w k) (y38 ρ k) 0 y2z st K):=
  H7 (Hk (y2x k) y2z 0 (Hf (by kernel_rfl))) y32 y33 k (g:=fun p v next K=>GN k p v next (fun x=>K (.exit 0) (y37 p x))) (IQ y36) (fun p v K K1=>y39 k p v K K1)
def y3b (k:Nat):O Try.prog 162:=⟨oM [.HL,.HL,.HL,.HL,.HL] ⟨[.own 0,.h 1,.h 2,.h 3,.fn 100 [] [.v (.ptr 1 0 0),.v (.ptr 2 0 0)]],[.arr none (.int .i64) 0,.box [.fn 57 [] []],.box [.h 4]]⟩ ((cdL (.int .i64)).p (cdZ.p (cdZ.p (cdZ.p (cdL (.int .i64)))))) ⟨.tup [],[some (.arr none (.int .i64) 5),some (.box [.fn 57 [] []]),some (.box [.h 4])],[]⟩ (cdL (.int .i64)) fun a=>Hi k a.1 a.2.1 a.2.2.1 a.2.2.2.1 a.2.2.2.2,okM (LP:=y38 _ k) (y2x k) Try.func162 (by kernel_rfl) (by kernel_rfl) (by kernel_rfl) (by kernel_rfl) (HI (l:=[(0,y2z)]) (by kernel_rfl) ⟨y3a k,trivial⟩) (.tup []) [.arr,.box [.fn [] []],.box [.ro (.int .i64)]] fun a=>by kernel_rfl⟩
noncomputable def y3c (k:Nat) (self:O Try.prog 149):Env:={QI (P:=Try.prog) tt [⟨100,y1n k⟩,⟨162,y3b k⟩,⟨149,self⟩]with wr:=fun g=>mem g [100,162],wt:=true,swp:=true}
theorem y3d (k:Nat) (self:O Try.prog 149):I8 (y3c k self):=fun g=>IU _ g
noncomputable def y3e:Code:=(Try.f149.body).getD .skip
noncomputable def y3f:Code:=((Hg 0 y3e).getD 0 (0,.skip)).2
noncomputable def y3g:Code:=((Hg 0 y3e).getD 1 (0,.skip)).2
noncomputable def y3h:Code:=((Hg 0 y3e).getD 2 (0,.skip)).2
noncomputable def y3i:Code:=((Hg 0 y3e).getD 3 (0,.skip)).2
noncomputable def y3j:Code:=((Hg 0 y3e).getD 4 (0,.skip)).2
def y3k:List Nat:=[0,1,4,10,11]
def y3l:List (Ht× Co):=[]
def y3m:Ex→List Nat
  |.exit j=>cond (Nat.beq j 0) [0,1,10] []
  |.ret=>[]
  |.normal=>[]
def y3n:Ex→List (Ht× Co)
  |.exit j=>cond (Nat.beq j 0) [] []
  |.ret=>[]
  |.normal=>[]
def y3o (pv:(Int× List Int× List Int)× (Int× Int)):St:={G2:=[(0,.own 0),(1,.r [] (.int .i64 pv.1.1)),(4,.fn (.func 100) [] [.ptr 1 0 0,.ptr 2 0 0]),(10,.r [] (.int .i64 pv.2.1)),(11,.r [] (.int .i64 pv.2.2))],heap:=[(0,.arr none (.int .i64) pv.1.2.1),(1,.box [.fn (.func 57) [] []]),(2,.box [.r [] (.sl (.int .i64) pv.1.2.2)])],nid:=3,n:=220,gh:=[some 0,some 1,some 2]}
def y3p (nf:NF):Option ((Int× List Int× List Int)× (Int× Int)):=match nf with
  |([.own 0,.r [] (.int .i64 w0),.fn (.func 100) [] [.ptr 1 0 0,.ptr 2 0 0],.r [] (.int .i64 w1),.r [] (.int .i64 w2)],[.arr none (.int .i64) w3,.box [.fn (.func 57) [] []],.box [.r [] (.sl (.int .i64) w4)]],[some 0,some 1,some 2])=>some ((w0,w3,w4),(w1,w2))
  |_=>none
theorem y3q (nf:NF) (v:(Int× List Int× List Int)× (Int× Int)) (h:y3p nf=some v):G5 y3k 220 nf=y3o v:=by
  unfold y3p at h
  split at h
  · cases h;rfl
  · cases h
def y3r (p:Int× List Int× List Int) (x:Int):St:={G2:=[(0,.own 0),(1,.r [] (.int .i64 p.1)),(10,.r [] (.int .i64 x))],heap:=[(0,.arr none (.int .i64) p.2.1),(1,.box [.fn (.func 57) [] []]),(2,.box [.r [] (.sl (.int .i64) p.2.2)])],nid:=3,n:=220,gh:=[some 0,some 1,some 2]}
def y3s:List Nat:=[0,10,13]
def y3t:List (Ht× Co):=[]
def y3u:Ex→List Nat
  |.exit j=>cond (Nat.beq j 2) [] []
  |.ret=>[]
  |.normal=>[]
def y3v:Ex→List (Ht× Co)
  |.exit j=>cond (Nat.beq j 2) [] []
  |.ret=>[]
  |.normal=>[]
def y3w (pv:(Int× List Int)× (Int× List Int)):St:={G2:=[(0,.own 0),(10,.r [] (.int .i64 pv.1.1)),(13,.r [] (.int .i64 pv.2.1))],heap:=[(0,.arr none (.int .i64) pv.2.2),(1,.box [.fn (.func 57) [] []]),(2,.box [.r [] (.sl (.int .i64) pv.1.2)])],nid:=3,n:=220,gh:=[some 0,some 1,some 2]}
def y3x (nf:NF):Option ((Int× List Int)× (Int× List Int)):=match nf with
  |([.own 0,.r [] (.int .i64 w0),.r [] (.int .i64 w1)],[.arr none (.int .i64) w2,.box [.fn (.func 57) [] []],.box [.r [] (.sl (.int .i64) w3)]],[some 0,some 1,some 2])=>some ((w0,w3),(w1,w2))
  |_=>none
theorem y3y (nf:NF) (v:(Int× List Int)× (Int× List Int)) (h:y3x nf=some v):G5 y3s 220 nf=y3w v:=by
  unfold y3x at h
  split at h
  · cases h;rfl
  · cases h
def y3z (p:Int× List Int) (x:List Int):St:={G2:=[],heap:=[(0,.arr none (.int .i64) x),(1,.box [.fn (.func 57) [] []]),(2,.box [.r [] (.sl (.int .i64) p.2)])],nid:=3,n:=220,gh:=[some 0,some 1,some 2]}
def y40:List Nat:=[0,2,4,14,15]
def y41:List (Ht× Co):=[]
def y42:Ex→List Nat
  |.exit j=>cond (Nat.beq j 4) [0,2,14] []
  |.ret=>[]
  |.normal=>[]
def y43:Ex→List (Ht× Co)
  |.exit j=>cond (Nat.beq j 4) [] []
  |.ret=>[]
  |.normal=>[]
def y44 (pv:(Int× List Int× List Int)× (Int× Int)):St:={G2:=[(0,.own 0),(2,.r [] (.int .i64 pv.1.1)),(4,.fn (.func 100) [] [.ptr 1 0 0,.ptr 2 0 0]),(14,.r [] (.int .i64 pv.2.1)),(15,.r [] (.int .i64 pv.2.2))],heap:=[(0,.arr none (.int .i64) pv.1.2.1),(1,.box [.fn (.func 57) [] []]),(2,.box [.r [] (.sl (.int .i64) pv.1.2.2)])],nid:=3,n:=220,gh:=[some 0,some 1,some 2]}
def y45 (nf:NF):Option ((Int× List Int× List Int)× (Int× Int)):=match nf with
  |([.own 0,.r [] (.int .i64 w0),.fn (.func 100) [] [.ptr 1 0 0,.ptr 2 0 0],.r [] (.int .i64 w1),.r [] (.int .i64 w2)],[.arr none (.int .i64) w3,.box [.fn (.func 57) [] []],.box [.r [] (.sl (.int .i64) w4)]],[some 0,some 1,some 2])=>some ((w0,w3,w4),(w1,w2))
  |_=>none
theorem y46 (nf:NF) (v:(Int× List Int× List Int)× (Int× Int)) (h:y45 nf=some v):G5 y40 220 nf=y44 v:=by
  unfold y45 at h
  split at h
  · cases h;rfl
  · cases h
def y47 (p:Int× List Int× List Int) (x:Int):St:={G2:=[(0,.own 0),(2,.r [] (.int .i64 p.1)),(14,.r [] (.int .i64 x))],heap:=[(0,.arr none (.int .i64) p.2.1),(1,.box [.fn (.func 57) [] []]),(2,.box [.r [] (.sl (.int .i64) p.2.2)])],nid:=3,n:=220,gh:=[some 0,some 1,some 2]}
def y48:List Nat:=[0,14,17]
def y49:List (Ht× Co):=[]
def y4a:Ex→List Nat
  |.exit j=>cond (Nat.beq j 6) [] []
  |.ret=>[]
  |.normal=>[]
def y4b:Ex→List (Ht× Co)
  |.exit j=>cond (Nat.beq j 6) [] []
  |.ret=>[]
  |.normal=>[]
def y4c (pv:(Int× List Int)× (Int× List Int)):St:={G2:=[(0,.own 0),(14,.r [] (.int .i64 pv.1.1)),(17,.r [] (.int .i64 pv.2.1))],heap:=[(0,.arr none (.int .i64) pv.2.2),(1,.box [.fn (.func 57) [] []]),(2,.box [.r [] (.sl (.int .i64) pv.1.2)])],nid:=3,n:=220,gh:=[some 0,some 1,some 2]}
def y4d (nf:NF):Option ((Int× List Int)× (Int× List Int)):=match nf with
  |([.own 0,.r [] (.int .i64 w0),.r [] (.int .i64 w1)],[.arr none (.int .i64) w2,.box [.fn (.func 57) [] []],.box [.r [] (.sl (.int .i64) w3)]],[some 0,some 1,some 2])=>some ((w0,w3),(w1,w2))
  |_=>none
theorem y4e (nf:NF) (v:(Int× List Int)× (Int× List Int)) (h:y4d nf=some v):G5 y48 220 nf=y4c v:=by
  unfold y4d at h
  split at h
  · cases h;rfl
  · cases h
def y4f (p:Int× List Int) (x:List Int):St:={G2:=[],heap:=[(0,.arr none (.int .i64) x),(1,.box [.fn (.func 57) [] []]),(2,.box [.r [] (.sl (.int .i64) p.2)])],nid:=3,n:=220,gh:=[some 0,some 1,some 2]}
def y4g:List Nat:=[0,1,2,3,4,18,19,20,21,22]
def y4h:List (Ht× Co):=[]
def y4i:Ex→List Nat
  |.exit j=>cond (Nat.beq j 8) [0,1,2,3,4,18,19,20] []
  |.ret=>[]
  |.normal=>[]
def y4j:Ex→List (Ht× Co)
  |.exit j=>cond (Nat.beq j 8) [] []
  |.ret=>[]
  |.normal=>[]
def y4k (pv:(Int× Int× Int× Int× Int× Int× List Int× List Int)× (Int× Int)):St:={G2:=[(0,.own 0),(1,.r [] (.int .i64 pv.1.1)),(2,.r [] (.int .i64 pv.1.2.1)),(3,.r [] (.int .i64 pv.1.2.2.1)),(4,.fn (.func 100) [] [.ptr 1 0 0,.ptr 2 0 0]),(18,.r [] (.int .i64 pv.1.2.2.2.1)),(19,.r [] (.int .i64 pv.1.2.2.2.2.1)),(20,.r [] (.int .i64 pv.2.1)),(21,.r [] (.int .i64 pv.2.2)),(22,.r [] (.int .i64 pv.1.2.2.2.2.2.1))],heap:=[(0,.arr none (.int .i64) pv.1.2.2.2.2.2.2.1),(1,.box [.fn (.func 57) [] []]),(2,.box [.r [] (.sl (.int .i64) pv.1.2.2.2.2.2.2.2)])],nid:=3,n:=220,gh:=[some 0,some 1,some 2]}
def y4l (nf:NF):Option ((Int× Int× Int× Int× Int× Int× List Int× List Int)× (Int× Int)):=match nf with
  |([.own 0,.r [] (.int .i64 w0),.r [] (.int .i64 w1),.r [] (.int .i64 w2),.fn (.func 100) [] [.ptr 1 0 0,.ptr 2 0 0],.r [] (.int .i64 w3),.r [] (.int .i64 w4),.r [] (.int .i64 w5),.r [] (.int .i64 w6),.r [] (.int .i64 w7)],[.arr none (.int .i64) w8,.box [.fn (.func 57) [] []],.box [.r [] (.sl (.int .i64) w9)]],[some 0,some 1,some 2])=>some ((w0,w1,w2,w3,w4,w7,w8,w9),(w5,w6))
  |_=>none
theorem y4m (nf:NF) (v:(Int× Int× Int× Int× Int× Int× List Int× List Int)× (Int× Int)) (h:y4l nf=some v):G5 y4g 220 nf=y4k v:=by
  unfold y4l at h
  split at h
  · cases h;rfl
  · cases h
def y4n (p:Int× Int× Int× Int× Int× Int× List Int× List Int) (x:Int):St:={G2:=[(0,.own 0),(1,.r [] (.int .i64 p.1)),(2,.r [] (.int .i64 p.2.1)),(3,.r [] (.int .i64 p.2.2.1)),(4,.fn (.func 100) [] [.ptr 1 0 0,.ptr 2 0 0]),(18,.r [] (.int .i64 p.2.2.2.1)),(19,.r [] (.int .i64 p.2.2.2.2.1)),(20,.r [] (.int .i64 x))],heap:=[(0,.arr none (.int .i64) p.2.2.2.2.2.2.1),(1,.box [.fn (.func 57) [] []]),(2,.box [.r [] (.sl (.int .i64) p.2.2.2.2.2.2.2)])],nid:=3,n:=220,gh:=[some 0,some 1,some 2]}
def y4o (ρ:Type) (k:Nat):Nat→Ev ρ→Ev ρ:=fun id f=>cond (Nat.beq id 8) (HM y4g y4h (fun n nf=>cond (Nat.beq n 220) (y4l nf) none) fun pv K=>iter (fun v next=>GQ k pv.1 v next (fun x=>K (.exit 8) (y4n pv.1 x))) k pv.2) ((fun id f=>cond (Nat.beq id 6) (HM y48 y49 (fun n nf=>cond (Nat.beq n 220) (y4d nf) none) fun pv K=>iter (fun v next=>GJ k pv.1 v next (fun x=>K (.exit 6) (y4f pv.1 x))) k pv.2) ((fun id f=>cond (Nat.beq id 4) (HM y40 y41 (fun n nf=>cond (Nat.beq n 220) (y45 nf) none) fun pv K=>iter (fun v next=>GP k pv.1 v next (fun x=>K (.exit 4) (y47 pv.1 x))) k pv.2) ((fun id f=>cond (Nat.beq id 2) (HM y3s y3t (fun n nf=>cond (Nat.beq n 220) (y3x nf) none) fun pv K=>iter (fun v next=>GI k pv.1 v next (fun x=>K (.exit 2) (y3z pv.1 x))) k pv.2) ((fun id f=>cond (Nat.beq id 0) (HM y3k y3l (fun n nf=>cond (Nat.beq n 220) (y3p nf) none) fun pv K=>iter (fun v next=>GO k pv.1 v next (fun x=>K (.exit 0) (y3r pv.1 x))) k pv.2) ((fun _ _ _ _=>none) id f)) id f)) id f)) id f)) id f)
theorem y4p {ρ:Type} (k:Nat) (self:O Try.prog 149) (p:Int× List Int× List Int) (v:Int× Int) (K K1:Ex→St→Option ρ):ev (y3c k self) (y4o ρ k) 0 y3f (y3o (p,v)) (fun e st'=>match e with
    |.normal=>(HH y3k y3l st').bind fun nf=>K1 .normal (G5 y3k st'.n nf)
    |e=>(HH (y3m e) (y3n e) st').bind fun nf=>K e (G5 (y3m e) st'.n nf))=GO k p v (fun v'=>K1 .normal (y3o (p,v'))) (fun x=>K (.exit 0) (y3r p x)):=by kernel_rfl
theorem y4q {ρ:Type} (k:Nat) (self:O Try.prog 149):Sound Try.prog (.loop y3f) (y4o ρ k 0 fun st K=>ev (y3c k self) (y4o ρ k) 0 y3f st K):=
  H7 (Hk (y3d k self) y3f 0 (Hf (by kernel_rfl))) y3m y3n k (g:=fun p v next K=>GO k p v next (fun x=>K (.exit 0) (y3r p x))) (IQ y3q) (fun p v K K1=>y4p k self p v K K1)
theorem y4r {ρ:Type} (k:Nat) (self:O Try.prog 149) (p:Int× List Int) (v:Int× List Int) (K K1:Ex→St→Option ρ):ev (y3c k self) (y4o ρ k) 2 y3g (y3w (p,v)) (fun e st'=>match e with
    |.normal=>(HH y3s y3t st').bind fun nf=>K1 .normal (G5 y3s st'.n nf)
    |e=>(HH (y3u e) (y3v e) st').bind fun nf=>K e (G5 (y3u e) st'.n nf))=GI k p v (fun v'=>K1 .normal (y3w (p,v'))) (fun x=>K (.exit 2) (y3z p x)):=by kernel_rfl
theorem y4s {ρ:Type} (k:Nat) (self:O Try.prog 149):Sound Try.prog (.loop y3g) (y4o ρ k 2 fun st K=>ev (y3c k self) (y4o ρ k) 2 y3g st K):=
  H7 (Hk (y3d k self) y3g 2 (Hf (by kernel_rfl))) y3u y3v k (g:=fun p v next K=>GI k p v next (fun x=>K (.exit 2) (y3z p x))) (IQ y3y) (fun p v K K1=>y4r k self p v K K1)
theorem y4t {ρ:Type} (k:Nat) (self:O Try.prog 149) (p:Int× List Int× List Int) (v:Int× Int) (K K1:Ex→St→Option ρ):ev (y3c k self) (y4o ρ k) 4 y3h (y44 (p,v)) (fun e st'=>match e with
    |.normal=>(HH y40 y41 st').bind fun nf=>K1 .normal (G5 y40 st'.n nf)
    |e=>(HH (y42 e) (y43 e) st').bind fun nf=>K e (G5 (y42 e) st'.n nf))=GP k p v (fun v'=>K1 .normal (y44 (p,v'))) (fun x=>K (.exit 4) (y47 p x)):=by kernel_rfl
theorem y4u {ρ:Type} (k:Nat) (self:O Try.prog 149):Sound Try.prog (.loop y3h) (y4o ρ k 4 fun st K=>ev (y3c k self) (y4o ρ k) 4 y3h st K):=
  H7 (Hk (y3d k self) y3h 4 (Hf (by kernel_rfl))) y42 y43 k (g:=fun p v next K=>GP k p v next (fun x=>K (.exit 4) (y47 p x))) (IQ y46) (fun p v K K1=>y4t k self p v K K1)
theorem y4v {ρ:Type} (k:Nat) (self:O Try.prog 149) (p:Int× List Int) (v:Int× List Int) (K K1:Ex→St→Option ρ):ev (y3c k self) (y4o ρ k) 6 y3i (y4c (p,v)) (fun e st'=>match e with
    |.normal=>(HH y48 y49 st').bind fun nf=>K1 .normal (G5 y48 st'.n nf)
    |e=>(HH (y4a e) (y4b e) st').bind fun nf=>K e (G5 (y4a e) st'.n nf))=GJ k p v (fun v'=>K1 .normal (y4c (p,v'))) (fun x=>K (.exit 6) (y4f p x)):=by kernel_rfl
theorem y4w {ρ:Type} (k:Nat) (self:O Try.prog 149):Sound Try.prog (.loop y3i) (y4o ρ k 6 fun st K=>ev (y3c k self) (y4o ρ k) 6 y3i st K):=
  H7 (Hk (y3d k self) y3i 6 (Hf (by kernel_rfl))) y4a y4b k (g:=fun p v next K=>GJ k p v next (fun x=>K (.exit 6) (y4f p x))) (IQ y4e) (fun p v K K1=>y4v k self p v K K1)
theorem y4x {ρ:Type} (k:Nat) (self:O Try.prog 149) (p:Int× Int× Int× Int× Int× Int× List Int× List Int) (v:Int× Int) (K K1:Ex→St→Option ρ):ev (y3c k self) (y4o ρ k) 8 y3j (y4k (p,v)) (fun e st'=>match e with
    |.normal=>(HH y4g y4h st').bind fun nf=>K1 .normal (G5 y4g st'.n nf)
    |e=>(HH (y4i e) (y4j e) st').bind fun nf=>K e (G5 (y4i e) st'.n nf))=GQ k p v (fun v'=>K1 .normal (y4k (p,v'))) (fun x=>K (.exit 8) (y4n p x)):=by kernel_rfl
theorem y4y {ρ:Type} (k:Nat) (self:O Try.prog 149):Sound Try.prog (.loop y3j) (y4o ρ k 8 fun st K=>ev (y3c k self) (y4o ρ k) 8 y3j st K):=
  H7 (Hk (y3d k self) y3j 8 (Hf (by kernel_rfl))) y4i y4j k (g:=fun p v next K=>GQ k p v next (fun x=>K (.exit 8) (y4n p x))) (IQ y4m) (fun p v K K1=>y4x k self p v K K1)
def y4z (f:List Int× Int× Int× Int× List Int→Option (List Int)):Orc:=oM [.HL,.HL,.HL,.HL,.HL] ⟨[.own 0,.h 1,.h 2,.h 3,.fn 100 [] [.v (.ptr 1 0 0),.v (.ptr 2 0 0)]],[.arr none (.int .i64) 0,.box [.fn 57 [] []],.box [.h 4]]⟩ ((cdL (.int .i64)).p (cdZ.p (cdZ.p (cdZ.p (cdL (.int .i64)))))) ⟨.tup [],[some (.arr none (.int .i64) 5),some (.box [.fn 57 [] []]),some (.box [.h 4])],[]⟩ (cdL (.int .i64)) f
theorem y50:∀k,L9 Try.prog 149 (y4z (fun a=>G6 k a.1 a.2.1 a.2.2.1 a.2.2.2.1 a.2.2.2.2))
  |0=>YN
  |k+1=>okM (LP:=y4o _ k) (y3d k ⟨_,y50 k⟩) Try.func149 (by kernel_rfl) (by kernel_rfl) (by kernel_rfl) (by kernel_rfl) (HI (l:=[(0,y3f),(2,y3g),(4,y3h),(6,y3i),(8,y3j)]) (by kernel_rfl) ⟨y4q k ⟨_,y50 k⟩,⟨y4s k ⟨_,y50 k⟩,⟨y4u k ⟨_,y50 k⟩,⟨y4w k ⟨_,y50 k⟩,⟨y4y k ⟨_,y50 k⟩,trivial⟩⟩⟩⟩⟩) (.tup []) [.arr,.box [.fn [] []],.box [.ro (.int .i64)]] fun a=>by kernel_rfl
def y51 (k:Nat):O Try.prog 149:=⟨y4z (fun a=>G6 k a.1 a.2.1 a.2.2.1 a.2.2.2.1 a.2.2.2.2),y50 k⟩
noncomputable def y52 (k:Nat):Env:={QI (P:=Try.prog) tt [⟨148,y2f k⟩,⟨149,y51 k⟩]with wr:=fun g=>mem g [148,149],wt:=true}
theorem y53 (k:Nat):I8 (y52 k):=fun g=>IU _ g
noncomputable def y54:Code:=(Try.f126.body).getD .skip
noncomputable def y55:Code:=((Hg 0 y54).getD 0 (0,.skip)).2
noncomputable def y56:Code:=((Hg 0 y54).getD 1 (0,.skip)).2
noncomputable def y57:Code:=((Hg 2 y56).getD 0 (0,.skip)).2
def y58:List Nat:=[0,1,2,6,7,8]
def y59:List (Ht× Co):=[]
def y5a:Ex→List Nat
  |.exit j=>cond (Nat.beq j 0) [0,1,2,6,7] []
  |.ret=>[]
  |.normal=>[]
def y5b:Ex→List (Ht× Co)
  |.exit j=>cond (Nat.beq j 0) [] []
  |.ret=>[]
  |.normal=>[]
def y5c (pv:(Int× Int× List Int)× (Int× Int× List Int)):St:={G2:=[(0,.own 0),(1,.r [] (.int .i64 pv.1.1)),(2,.fn (.func 100) [] [.ptr 1 0 0,.ptr 2 0 0]),(6,.r [] (.int .i64 pv.1.2.1)),(7,.r [] (.int .i64 pv.2.1)),(8,.r [] (.int .i64 pv.2.2.1))],heap:=[(0,.arr none (.int .i64) pv.2.2.2),(1,.box [.fn (.func 57) [] []]),(2,.box [.r [] (.sl (.int .i64) pv.1.2.2)])],nid:=3,n:=63,gh:=[some 0,some 1,some 2]}
def y5d (nf:NF):Option ((Int× Int× List Int)× (Int× Int× List Int)):=match nf with
  |([.own 0,.r [] (.int .i64 w0),.fn (.func 100) [] [.ptr 1 0 0,.ptr 2 0 0],.r [] (.int .i64 w1),.r [] (.int .i64 w2),.r [] (.int .i64 w3)],[.arr none (.int .i64) w4,.box [.fn (.func 57) [] []],.box [.r [] (.sl (.int .i64) w5)]],[some 0,some 1,some 2])=>some ((w0,w1,w5),(w2,w3,w4))
  |_=>none
theorem y5e (nf:NF) (v:(Int× Int× List Int)× (Int× Int× List Int)) (h:y5d nf=some v):G5 y58 63 nf=y5c v:=by
  unfold y5d at h
  split at h
  · cases h;rfl
  · cases h
def y5f (p:Int× Int× List Int) (x:Int× List Int):St:={G2:=[(0,.own 0),(1,.r [] (.int .i64 p.1)),(2,.fn (.func 100) [] [.ptr 1 0 0,.ptr 2 0 0]),(6,.r [] (.int .i64 p.2.1)),(7,.r [] (.int .i64 x.1))],heap:=[(0,.arr none (.int .i64) x.2),(1,.box [.fn (.func 57) [] []]),(2,.box [.r [] (.sl (.int .i64) p.2.2)])],nid:=3,n:=63,gh:=[some 0,some 1,some 2]}
def y5g:List Nat:=[0,1,2,6,7,8]
def y5h:List (Ht× Co):=[]
def y5i:Ex→List Nat
  |.exit j=>cond (Nat.beq j 4) [0,1,2,6,7] []
  |.ret=>[]
  |.normal=>[]
def y5j:Ex→List (Ht× Co)
  |.exit j=>cond (Nat.beq j 4) [] []
  |.ret=>[]
  |.normal=>[]
def y5k (pv:(Int× Int× List Int)× (Int× Int× List Int)):St:={G2:=[(0,.own 0),(1,.r [] (.int .i64 pv.1.1)),(2,.fn (.func 100) [] [.ptr 1 0 0,.ptr 2 0 0]),(6,.r [] (.int .i64 pv.1.2.1)),(7,.r [] (.int .i64 pv.2.1)),(8,.r [] (.int .i64 pv.2.2.1))],heap:=[(0,.arr none (.int .i64) pv.2.2.2),(1,.box [.fn (.func 57) [] []]),(2,.box [.r [] (.sl (.int .i64) pv.1.2.2)])],nid:=3,n:=63,gh:=[some 0,some 1,some 2]}
def y5l (nf:NF):Option ((Int× Int× List Int)× (Int× Int× List Int)):=match nf with
  |([.own 0,.r [] (.int .i64 w0),.fn (.func 100) [] [.ptr 1 0 0,.ptr 2 0 0],.r [] (.int .i64 w1),.r [] (.int .i64 w2),.r [] (.int .i64 w3)],[.arr none (.int .i64) w4,.box [.fn (.func 57) [] []],.box [.r [] (.sl (.int .i64) w5)]],[some 0,some 1,some 2])=>some ((w0,w1,w5),(w2,w3,w4))
  |_=>none
theorem y5m (nf:NF) (v:(Int× Int× List Int)× (Int× Int× List Int)) (h:y5l nf=some v):G5 y5g 63 nf=y5k v:=by
  unfold y5l at h
  split at h
  · cases h;rfl
  · cases h
def y5n (p:Int× Int× List Int) (x:Int× List Int):St:={G2:=[(0,.own 0),(1,.r [] (.int .i64 p.1)),(2,.fn (.func 100) [] [.ptr 1 0 0,.ptr 2 0 0]),(6,.r [] (.int .i64 p.2.1)),(7,.r [] (.int .i64 x.1))],heap:=[(0,.arr none (.int .i64) x.2),(1,.box [.fn (.func 57) [] []]),(2,.box [.r [] (.sl (.int .i64) p.2.2)])],nid:=3,n:=63,gh:=[some 0,some 1,some 2]}
def y5o:List Nat:=[0,1,2,6]
def y5p:List (Ht× Co):=[]
def y5q:Ex→List Nat
  |.exit j=>cond (Nat.beq j 2) [] []
  |.ret=>[]
  |.normal=>[]
def y5r:Ex→List (Ht× Co)
  |.exit j=>cond (Nat.beq j 2) [] []
  |.ret=>[]
  |.normal=>[]
def y5s (pv:(Int× List Int)× (Int× List Int)):St:={G2:=[(0,.own 0),(1,.r [] (.int .i64 pv.1.1)),(2,.fn (.func 100) [] [.ptr 1 0 0,.ptr 2 0 0]),(6,.r [] (.int .i64 pv.2.1))],heap:=[(0,.arr none (.int .i64) pv.2.2),(1,.box [.fn (.func 57) [] []]),(2,.box [.r [] (.sl (.int .i64) pv.1.2)])],nid:=3,n:=63,gh:=[some 0,some 1,some 2]}
def y5t (nf:NF):Option ((Int× List Int)× (Int× List Int)):=match nf with
  |([.own 0,.r [] (.int .i64 w0),.fn (.func 100) [] [.ptr 1 0 0,.ptr 2 0 0],.r [] (.int .i64 w1)],[.arr none (.int .i64) w2,.box [.fn (.func 57) [] []],.box [.r [] (.sl (.int .i64) w3)]],[some 0,some 1,some 2])=>some ((w0,w3),(w1,w2))
  |_=>none
theorem y5u (nf:NF) (v:(Int× List Int)× (Int× List Int)) (h:y5t nf=some v):G5 y5o 63 nf=y5s v:=by
  unfold y5t at h
  split at h
  · cases h;rfl
  · cases h
def y5v (p:Int× List Int) (x:List Int):St:={G2:=[],heap:=[(0,.arr none (.int .i64) x),(1,.box [.fn (.func 57) [] []]),(2,.box [.r [] (.sl (.int .i64) p.2)])],nid:=3,n:=63,gh:=[some 0,some 1,some 2]}
def y5w (ρ:Type) (k:Nat):Nat→Ev ρ→Ev ρ:=fun id f=>cond (Nat.beq id 2) (HM y5o y5p (fun n nf=>cond (Nat.beq n 63) (y5t nf) none) fun pv K=>iter (fun v next=>Hc k pv.1 v next (fun x=>K (.exit 2) (y5v pv.1 x))) k pv.2) ((fun id f=>cond (Nat.beq id 4) (HM y5g y5h (fun n nf=>cond (Nat.beq n 63) (y5l nf) none) fun pv K=>iter (fun v next=>G8 k pv.1 v next (fun x=>K (.exit 4) (y5n pv.1 x))) k pv.2) ((fun id f=>cond (Nat.beq id 0) (HM y58 y59 (fun n nf=>cond (Nat.beq n 63) (y5d nf) none) fun pv K=>iter (fun v next=>G7 k pv.1 v next (fun x=>K (.exit 0) (y5f pv.1 x))) k pv.2) ((fun _ _ _ _=>none) id f)) id f)) id f)
theorem y5x {ρ:Type} (k:Nat) (p:Int× Int× List Int) (v:Int× Int× List Int) (K K1:Ex→St→Option ρ):ev (y52 k) (y5w ρ k) 0 y55 (y5c (p,v)) (fun e st'=>match e with
    |.normal=>(HH y58 y59 st').bind fun nf=>K1 .normal (G5 y58 st'.n nf)
    |e=>(HH (y5a e) (y5b e) st').bind fun nf=>K e (G5 (y5a e) st'.n nf))=G7 k p v (fun v'=>K1 .normal (y5c (p,v'))) (fun x=>K (.exit 0) (y5f p x)):=by kernel_rfl
theorem y5y {ρ:Type} (k:Nat):Sound Try.prog (.loop y55) (y5w ρ k 0 fun st K=>ev (y52 k) (y5w ρ k) 0 y55 st K):=
  H7 (Hk (y53 k) y55 0 (Hf (by kernel_rfl))) y5a y5b k (g:=fun p v next K=>G7 k p v next (fun x=>K (.exit 0) (y5f p x))) (IQ y5e) (fun p v K K1=>y5x k p v K K1)
theorem y5z {ρ:Type} (k:Nat) (p:Int× Int× List Int) (v:Int× Int× List Int) (K K1:Ex→St→Option ρ):ev (y52 k) (y5w ρ k) 4 y57 (y5k (p,v)) (fun e st'=>match e with
    |.normal=>(HH y5g y5h st').bind fun nf=>K1 .normal (G5 y5g st'.n nf)
    |e=>(HH (y5i e) (y5j e) st').bind fun nf=>K e (G5 (y5i e) st'.n nf))=G8 k p v (fun v'=>K1 .normal (y5k (p,v'))) (fun x=>K (.exit 4) (y5n p x)):=by kernel_rfl
theorem y60 {ρ:Type} (k:Nat):Sound Try.prog (.loop y57) (y5w ρ k 4 fun st K=>ev (y52 k) (y5w ρ k) 4 y57 st K):=
  H7 (Hk (y53 k) y57 4 (Hf (by kernel_rfl))) y5i y5j k (g:=fun p v next K=>G8 k p v next (fun x=>K (.exit 4) (y5n p x))) (IQ y5m) (fun p v K K1=>y5z k p v K K1)
theorem y61 {ρ:Type} (k:Nat) (p:Int× List Int) (v:Int× List Int) (K K1:Ex→St→Option ρ):ev (y52 k) (y5w ρ k) 2 y56 (y5s (p,v)) (fun e st'=>match e with
    |.normal=>(HH y5o y5p st').bind fun nf=>K1 .normal (G5 y5o st'.n nf)
    |e=>(HH (y5q e) (y5r e) st').bind fun nf=>K e (G5 (y5q e) st'.n nf))=Hc k p v (fun v'=>K1 .normal (y5s (p,v'))) (fun x=>K (.exit 2) (y5v p x)):=by kernel_rfl
theorem y62 {ρ:Type} (k:Nat):Sound Try.prog (.loop y56) (y5w ρ k 2 fun st K=>ev (y52 k) (y5w ρ k) 2 y56 st K):=
  H7 (Hk (y53 k) y56 2 (HI (l:=[(4,y57)]) (by kernel_rfl) ⟨y60 k,trivial⟩)) y5q y5r k (g:=fun p v next K=>Hc k p v next (fun x=>K (.exit 2) (y5v p x))) (IQ y5u) (fun p v K K1=>y61 k p v K K1)
def y63 (k:Nat):O Try.prog 126:=⟨oM [.HL,.HL,.HL] ⟨[.own 0,.h 1,.fn 100 [] [.v (.ptr 1 0 0),.v (.ptr 2 0 0)]],[.arr none (.int .i64) 0,.box [.fn 57 [] []],.box [.h 2]]⟩ ((cdL (.int .i64)).p (cdZ.p (cdL (.int .i64)))) ⟨.tup [],[some (.arr none (.int .i64) 3),some (.box [.fn 57 [] []]),some (.box [.h 2])],[]⟩ (cdL (.int .i64)) fun a=>Hr k a.1 a.2.1 a.2.2,okM (LP:=y5w _ k) (y53 k) Try.func126 (by kernel_rfl) (by kernel_rfl) (by kernel_rfl) (by kernel_rfl) (HI (l:=[(0,y55),(2,y56)]) (by kernel_rfl) ⟨y5y k,⟨y62 k,trivial⟩⟩) (.tup []) [.arr,.box [.fn [] []],.box [.ro (.int .i64)]] fun a=>by kernel_rfl⟩
def y64 (k:Nat):O Try.prog 99:=Z7 (tt:=tt) [⟨126,y63 k⟩] {f:=fun E=>{E with wr:=fun g=>mem g [126],wt:=true}} Try.func99 [.HL,.HL] ⟨[.own 0,.fn 100 [] [.v (.ptr 1 0 0),.v (.ptr 2 0 0)]],[.arr none (.int .i64) 0,.box [.fn 57 [] []],.box [.h 1]]⟩ ((cdL (.int .i64)).p (cdL (.int .i64))) ⟨.tup [],[some (.arr none (.int .i64) 2),some (.box [.fn 57 [] []]),some (.box [.h 1])],[]⟩ (cdL (.int .i64)) (.tup []) [.arr,.box [.fn [] []],.box [.ro (.int .i64)]] (fun a=>Hs k a.1 a.2) (by kernel_rfl) fun a=>by kernel_rfl
noncomputable def y65 (k:Nat):Env:={QI (P:=Try.prog) tt [⟨99,y64 k⟩]with wr:=fun g=>mem g [99],wt:=true}
theorem y66 (k:Nat):I8 (y65 k):=fun g=>IU _ g
noncomputable def y67:Code:=(Try.f56.body).getD .skip
noncomputable def y68:Code:=((Hg 0 y67).getD 0 (0,.skip)).2
def y69:List Nat:=[2,3,5,9,10]
def y6a:List (Ht× Co):=[]
def y6b:Ex→List Nat
  |.exit j=>cond (Nat.beq j 0) [2,3,5] []
  |.ret=>[]
  |.normal=>[]
def y6c:Ex→List (Ht× Co)
  |.exit j=>cond (Nat.beq j 0) [] []
  |.ret=>[]
  |.normal=>[]
def y6d (pv:(Int× List Int)× (Int× List Int)):St:={G2:=[(2,.ptr 0 0 0),(3,.ptr 1 0 0),(5,.own 2),(9,.r [] (.int .i64 pv.1.1)),(10,.r [] (.int .i64 pv.2.1))],heap:=[(0,.box [.r [] (.sl (.int .i64) pv.1.2)]),(1,.box [.fn (.func 57) [] []]),(2,.arr none (.int .i64) pv.2.2)],nid:=3,n:=22,gh:=[]}
def y6e (nf:NF):Option ((Int× List Int)× (Int× List Int)):=match nf with
  |([.ptr 0 0 0,.ptr 1 0 0,.own 2,.r [] (.int .i64 w0),.r [] (.int .i64 w1)],[.box [.r [] (.sl (.int .i64) w2)],.box [.fn (.func 57) [] []],.arr none (.int .i64) w3],[])=>some ((w0,w2),(w1,w3))
  |_=>none
theorem y6f (nf:NF) (v:(Int× List Int)× (Int× List Int)) (h:y6e nf=some v):G5 y69 22 nf=y6d v:=by
  unfold y6e at h
  split at h
  · cases h;rfl
  · cases h
def y6g (p:Int× List Int) (x:List Int):St:={G2:=[(2,.ptr 0 0 0),(3,.ptr 1 0 0),(5,.own 2)],heap:=[(0,.box [.r [] (.sl (.int .i64) p.2)]),(1,.box [.fn (.func 57) [] []]),(2,.arr none (.int .i64) x)],nid:=3,n:=22,gh:=[]}
def y6h (ρ:Type) (k:Nat):Nat→Ev ρ→Ev ρ:=fun id f=>cond (Nat.beq id 0) (HM y69 y6a (fun n nf=>cond (Nat.beq n 22) (y6e nf) none) fun pv K=>iter (fun v next=>Hd k pv.1 v next (fun x=>K (.exit 0) (y6g pv.1 x))) k pv.2) ((fun _ _ _ _=>none) id f)
theorem y6i {ρ:Type} (k:Nat) (p:Int× List Int) (v:Int× List Int) (K K1:Ex→St→Option ρ):ev (y65 k) (y6h ρ k) 0 y68 (y6d (p,v)) (fun e st'=>match e with
    |.normal=>(HH y69 y6a st').bind fun nf=>K1 .normal (G5 y69 st'.n nf)
    |e=>(HH (y6b e) (y6c e) st').bind fun nf=>K e (G5 (y6b e) st'.n nf))=Hd k p v (fun v'=>K1 .normal (y6d (p,v'))) (fun x=>K (.exit 0) (y6g p x)):=by kernel_rfl
theorem y6j {ρ:Type} (k:Nat):Sound Try.prog (.loop y68) (y6h ρ k 0 fun st K=>ev (y65 k) (y6h ρ k) 0 y68 st K):=
  H7 (Hk (y66 k) y68 0 (Hf (by kernel_rfl))) y6b y6c k (g:=fun p v next K=>Hd k p v next (fun x=>K (.exit 0) (y6g p x))) (IQ y6f) (fun p v K K1=>y6i k p v K K1)
def y6k (a:List Int):List Arg:=[.one (.sl (.int .i64) a),.fn (.func 57) [] []]
def y6l (l:List Arg):Option (List Int):=match l with
  |[.one (.sl (.int .i64) b0),.fn (.func 57) [] []]=>some b0
  |_=>none
def y6m (r:List Int):Out:=(.own 0,[.arr none (.int .i64) r])
def y6n (o:Out):Option (List Int):=match o with
  |(.own 0,[.arr none (.int .i64) z1])=>some z1
  |_=>none
def y6o (k:Nat):PG:=fun _ l K=>(y6l l).bind fun a=>(Hj k a).bind fun r=>K (y6m r)
theorem y6p (k:Nat) (a:List Int):ev (y65 k) (y6h (List Int) k) 0 y67 (st0 Try.f56 (y6k a)) (fin Try.prog Try.f56 (.own (.int .i64)) y6n)=Hj k a:=by kernel_rfl
theorem y6q (k:Nat):Ry Try.prog 56 (y6o k):=
  Lq (y66 k) Try.func56 (by kernel_rfl) (by kernel_rfl) y6k y6l
    (fun l a h=>by unfold y6l at h;split at h<;>first|(cases h;rfl)|cases h) (fun a=>rfl) (HI (l:=[(0,y68)]) (by kernel_rfl) ⟨y6j k,trivial⟩)
    (fun o r h=>by unfold y6n at h;split at h<;>first|(cases h;rfl)|cases h) (y6p k)
def y6r (k:Nat):O Try.prog 56:=⟨Qy [.one (.sl (.int .i64)),.fn] (y6o k),PF (y6q k)⟩
def y6s (k:Nat):O Try.prog 10:=ZA (tt:=tt) [⟨56,y6r k⟩] .id Try.func10 [.one (.sl (.int .i64))] (cdL (.int .i64)) ⟨.own 0,[.arr none (.int .i64) 0]⟩ (cdL (.int .i64)) (.own (.int .i64)) (fun a=>IC k a) (by kernel_rfl) fun a=>by kernel_rfl
noncomputable def y6t (k:Nat):Env:=QI (P:=Try.prog) tt []
theorem y6u (k:Nat):I8 (y6t k):=fun g=>IU _ g
noncomputable def y6v:Code:=(Try.f11.body).getD .skip
noncomputable def y6w:Code:=((Hg 0 y6v).getD 0 (0,.skip)).2
def y6x:List Nat:=[0,1,5]
def y6y:List (Ht× Co):=[]
def y6z:Ex→List Nat
  |.exit j=>cond (Nat.beq j 0) [] []
  |.ret=>[4]
  |.normal=>[]
def y70:Ex→List (Ht× Co)
  |.exit j=>cond (Nat.beq j 0) [] []
  |.ret=>[]
  |.normal=>[]
def y71 (pv:(List Int× List Int)× (Int)):St:={G2:=[(0,.r [] (.sl (.int .i64) pv.1.1)),(1,.r [] (.sl (.int .i64) pv.1.2)),(5,.r [] (.int .i64 pv.2))],heap:=[],nid:=0,n:=26,gh:=[]}
def y72 (nf:NF):Option ((List Int× List Int)× (Int)):=match nf with
  |([.r [] (.sl (.int .i64) w0),.r [] (.sl (.int .i64) w1),.r [] (.int .i64 w2)],[],[])=>some ((w0,w1),w2)
  |_=>none
theorem y73 (nf:NF) (v:(List Int× List Int)× (Int)) (h:y72 nf=some v):G5 y6x 26 nf=y71 v:=by
  unfold y72 at h
  split at h
  · cases h;rfl
  · cases h
def y74 (p:List Int× List Int) (x:Unit):St:={G2:=[],heap:=[],nid:=0,n:=26,gh:=[]}
def y75 (p:List Int× List Int) (x:Bool):St:={G2:=[(4,.r [] (.bool x))],heap:=[],nid:=0,n:=26,gh:=[]}
def y76 (ρ:Type) (k:Nat):Nat→Ev ρ→Ev ρ:=fun id f=>cond (Nat.beq id 0) (HM y6x y6y (fun n nf=>cond (Nat.beq n 26) (y72 nf) none) fun pv K=>iter (fun v next=>KR k pv.1 v next (fun x=>K (.exit 0) (y74 pv.1 x)) (fun x=>K .ret (y75 pv.1 x))) k pv.2) ((fun _ _ _ _=>none) id f)
theorem y77 {ρ:Type} (k:Nat) (p:List Int× List Int) (v:Int) (K K1:Ex→St→Option ρ):ev (y6t k) (y76 ρ k) 0 y6w (y71 (p,v)) (fun e st'=>match e with
    |.normal=>(HH y6x y6y st').bind fun nf=>K1 .normal (G5 y6x st'.n nf)
    |e=>(HH (y6z e) (y70 e) st').bind fun nf=>K e (G5 (y6z e) st'.n nf))=KR k p v (fun v'=>K1 .normal (y71 (p,v'))) (fun x=>K (.exit 0) (y74 p x)) (fun x=>K .ret (y75 p x)):=by kernel_rfl
theorem y78 {ρ:Type} (k:Nat):Sound Try.prog (.loop y6w) (y76 ρ k 0 fun st K=>ev (y6t k) (y76 ρ k) 0 y6w st K):=
  H7 (Hk (y6u k) y6w 0 (Hf (by kernel_rfl))) y6z y70 k (g:=fun p v next K=>KR k p v next (fun x=>K (.exit 0) (y74 p x)) (fun x=>K .ret (y75 p x))) (IQ y73) (fun p v K K1=>y77 k p v K K1)
def y79 (k:Nat):O Try.prog 11:=⟨oP [.one (.sl (.int .i64)),.one (.sl (.int .i64))] ((cdL (.int .i64)).p (cdL (.int .i64))) ⟨.h 0,[]⟩ cdB fun a=>LM k a.1 a.2,okP (LP:=y76 _ k) (y6u k) Try.func11 (by kernel_rfl) (by kernel_rfl) (by kernel_rfl) (HI (l:=[(0,y6w)]) (by kernel_rfl) ⟨y78 k,trivial⟩) (.sc) fun a=>by kernel_rfl⟩
noncomputable def y7a (k:Nat):Env:=QI (P:=Try.prog) tt []
theorem y7b (k:Nat):I8 (y7a k):=fun g=>IU _ g
noncomputable def y7c:Code:=(Try.f12.body).getD .skip
noncomputable def y7d:Code:=((Hg 0 y7c).getD 0 (0,.skip)).2
def y7e:List Nat:=[0,1,5]
def y7f:List (Ht× Co):=[]
def y7g:Ex→List Nat
  |.exit j=>cond (Nat.beq j 0) [1] []
  |.ret=>[]
  |.normal=>[]
def y7h:Ex→List (Ht× Co)
  |.exit j=>cond (Nat.beq j 0) [] []
  |.ret=>[]
  |.normal=>[]
def y7i (pv:(Unit)× (Int× Int× List Int)):St:={G2:=[(0,.own 0),(1,.r [] (.int .i64 pv.2.1)),(5,.r [] (.int .i64 pv.2.2.1))],heap:=[(0,.arr none (.int .i64) pv.2.2.2)],nid:=1,n:=19,gh:=[some 0]}
def y7j (nf:NF):Option ((Unit)× (Int× Int× List Int)):=match nf with
  |([.own 0,.r [] (.int .i64 w0),.r [] (.int .i64 w1)],[.arr none (.int .i64) w2],[some 0])=>some ((),(w0,w1,w2))
  |_=>none
theorem y7k (nf:NF) (v:(Unit)× (Int× Int× List Int)) (h:y7j nf=some v):G5 y7e 19 nf=y7i v:=by
  unfold y7j at h
  split at h
  · cases h;rfl
  · cases h
def y7l (p:Unit) (x:Int× List Int):St:={G2:=[(1,.r [] (.int .i64 x.1))],heap:=[(0,.arr none (.int .i64) x.2)],nid:=1,n:=19,gh:=[some 0]}
def y7m (ρ:Type) (k:Nat):Nat→Ev ρ→Ev ρ:=fun id f=>cond (Nat.beq id 0) (HM y7e y7f (fun n nf=>cond (Nat.beq n 19) (y7j nf) none) fun pv K=>iter (fun v next=>HB k pv.1 v next (fun x=>K (.exit 0) (y7l pv.1 x))) k pv.2) ((fun _ _ _ _=>none) id f)
theorem y7n {ρ:Type} (k:Nat) (p:Unit) (v:Int× Int× List Int) (K K1:Ex→St→Option ρ):ev (y7a k) (y7m ρ k) 0 y7d (y7i (p,v)) (fun e st'=>match e with
    |.normal=>(HH y7e y7f st').bind fun nf=>K1 .normal (G5 y7e st'.n nf)
    |e=>(HH (y7g e) (y7h e) st').bind fun nf=>K e (G5 (y7g e) st'.n nf))=HB k p v (fun v'=>K1 .normal (y7i (p,v'))) (fun x=>K (.exit 0) (y7l p x)):=by kernel_rfl
theorem y7o {ρ:Type} (k:Nat):Sound Try.prog (.loop y7d) (y7m ρ k 0 fun st K=>ev (y7a k) (y7m ρ k) 0 y7d st K):=
  H7 (Hk (y7b k) y7d 0 (Hf (by kernel_rfl))) y7g y7h k (g:=fun p v next K=>HB k p v next (fun x=>K (.exit 0) (y7l p x))) (IQ y7k) (fun p v K K1=>y7n k p v K K1)
def y7p (k:Nat):O Try.prog 12:=⟨oM [.HL,.HL] ⟨[.own 0,.h 1],[.arr none (.int .i64) 0]⟩ ((cdL (.int .i64)).p cdZ) ⟨.h 2,[some (.arr none (.int .i64) 3)],[]⟩ (cdZ.p (cdL (.int .i64))) fun a=>IV k a.1 a.2,okM (LP:=y7m _ k) (y7b k) Try.func12 (by kernel_rfl) (by kernel_rfl) (by kernel_rfl) (by kernel_rfl) (HI (l:=[(0,y7d)]) (by kernel_rfl) ⟨y7o k,trivial⟩) (.sc) [.arr] fun a=>by kernel_rfl⟩
noncomputable def y7q (k:Nat):Env:=QI (P:=Try.prog) tt []
theorem y7r (k:Nat):I8 (y7q k):=fun g=>IU _ g
noncomputable def y7s:Code:=(Try.f13.body).getD .skip
noncomputable def y7t:Code:=((Hg 0 y7s).getD 0 (0,.skip)).2
def y7u:List Nat:=[0,1,5]
def y7v:List (Ht× Co):=[]
def y7w:Ex→List Nat
  |.exit j=>cond (Nat.beq j 0) [1] []
  |.ret=>[4]
  |.normal=>[]
def y7x:Ex→List (Ht× Co)
  |.exit j=>cond (Nat.beq j 0) [] []
  |.ret=>[]
  |.normal=>[]
def y7y (pv:(List Int)× (Int× Int)):St:={G2:=[(0,.r [] (.sl (.int .i64) pv.1)),(1,.r [] (.int .i64 pv.2.1)),(5,.r [] (.int .i64 pv.2.2))],heap:=[],nid:=0,n:=21,gh:=[]}
def y7z (nf:NF):Option ((List Int)× (Int× Int)):=match nf with
  |([.r [] (.sl (.int .i64) w0),.r [] (.int .i64 w1),.r [] (.int .i64 w2)],[],[])=>some (w0,(w1,w2))
  |_=>none
theorem y80 (nf:NF) (v:(List Int)× (Int× Int)) (h:y7z nf=some v):G5 y7u 21 nf=y7y v:=by
  unfold y7z at h
  split at h
  · cases h;rfl
  · cases h
def y81 (p:List Int) (x:Int):St:={G2:=[(1,.r [] (.int .i64 x))],heap:=[],nid:=0,n:=21,gh:=[]}
def y82 (p:List Int) (x:Int):St:={G2:=[(4,.r [] (.int .i64 x))],heap:=[],nid:=0,n:=21,gh:=[]}
def y83 (ρ:Type) (k:Nat):Nat→Ev ρ→Ev ρ:=fun id f=>cond (Nat.beq id 0) (HM y7u y7v (fun n nf=>cond (Nat.beq n 21) (y7z nf) none) fun pv K=>iter (fun v next=>H8 k pv.1 v next (fun x=>K (.exit 0) (y81 pv.1 x)) (fun x=>K .ret (y82 pv.1 x))) k pv.2) ((fun _ _ _ _=>none) id f)
theorem y84 {ρ:Type} (k:Nat) (p:List Int) (v:Int× Int) (K K1:Ex→St→Option ρ):ev (y7q k) (y83 ρ k) 0 y7t (y7y (p,v)) (fun e st'=>match e with
    |.normal=>(HH y7u y7v st').bind fun nf=>K1 .normal (G5 y7u st'.n nf)
    |e=>(HH (y7w e) (y7x e) st').bind fun nf=>K e (G5 (y7w e) st'.n nf))=H8 k p v (fun v'=>K1 .normal (y7y (p,v'))) (fun x=>K (.exit 0) (y81 p x)) (fun x=>K .ret (y82 p x)):=by kernel_rfl
theorem y85 {ρ:Type} (k:Nat):Sound Try.prog (.loop y7t) (y83 ρ k 0 fun st K=>ev (y7q k) (y83 ρ k) 0 y7t st K):=
  H7 (Hk (y7r k) y7t 0 (Hf (by kernel_rfl))) y7w y7x k (g:=fun p v next K=>H8 k p v next (fun x=>K (.exit 0) (y81 p x)) (fun x=>K .ret (y82 p x))) (IQ y80) (fun p v K K1=>y84 k p v K K1)
def y86 (k:Nat):O Try.prog 13:=⟨oP [.one (.sl (.int .i64)),.one (.int .i64)] ((cdL (.int .i64)).p cdZ) ⟨.h 0,[]⟩ cdZ fun a=>Kt k a.1 a.2,okP (LP:=y83 _ k) (y7r k) Try.func13 (by kernel_rfl) (by kernel_rfl) (by kernel_rfl) (HI (l:=[(0,y7t)]) (by kernel_rfl) ⟨y85 k,trivial⟩) (.sc) fun a=>by kernel_rfl⟩
noncomputable def y87 (k:Nat):Env:={QI (P:=Try.prog) tt [⟨8,y1j k⟩,⟨9,yo k⟩,⟨10,y6s k⟩,⟨11,y79 k⟩,⟨12,y7p k⟩,⟨13,y86 k⟩]with wr:=fun g=>mem g [12],wt:=true}
theorem y88 (k:Nat):I8 (y87 k):=fun g=>IU _ g
noncomputable def y89:Code:=(Try.f3.body).getD .skip
def y8a (ρ:Type) (k:Nat):Nat→Ev ρ→Ev ρ:=fun _ _ _ _=>none
def y8b (a:List Int):List Arg:=[.one (.sl (.int .i64) a)]
def y8c (l:List Arg):Option (List Int):=match l with
  |[.one (.sl (.int .i64) b0)]=>some b0
  |_=>none
def y8d (r:Bool):Out:=(.r [] (.bool r),[])
def y8e (o:Out):Option (Bool):=match o with
  |(.r [] (.bool z1),[])=>some z1
  |_=>none
def y8f (k:Nat):PG:=fun _ l K=>(y8c l).bind fun a=>(HK k a).bind fun r=>K (y8d r)
theorem y8g (k:Nat) (a:List Int):ev (y87 k) (y8a (Bool) k) 0 y89 (st0 Try.f3 (y8b a)) (fin Try.prog Try.f3 (.sc) y8e)=HK k a:=by kernel_rfl
theorem y8h (k:Nat):Ry Try.prog 3 (y8f k):=
  Lq (y88 k) Try.func3 (by kernel_rfl) (by kernel_rfl) y8b y8c
    (fun l a h=>by unfold y8c at h;split at h<;>first|(cases h;rfl)|cases h) (fun a=>rfl) (Hf (by kernel_rfl))
    (fun o r h=>by unfold y8e at h;split at h<;>first|(cases h;rfl)|cases h) (y8g k)
end
end Go.Proofs.Ev
