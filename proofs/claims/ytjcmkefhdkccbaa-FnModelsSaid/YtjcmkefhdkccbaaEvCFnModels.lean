/- Text of this claim. -/
import Derived.Test.YtjcmkefhdkccbaaEvK7
import Derived.Test.YtjcmkefhdkccbaaProg
import Derived.Test.YtjcmkefhdkccbaaEvL1
set_option linter.unusedVariables false
set_option linter.unusedSimpArgs false
set_option linter.unusedVariables false
set_option linter.unusedSimpArgs false
set_option maxRecDepth 100000
set_option maxHeartbeats 4000000
namespace Go.Proofs.Ev
noncomputable section
variable [Tok]
set_option linter.unusedSectionVars false
def tt:TT:=look [(2,(.int .i64)),(3,(.int .i64)),(4,.bool),(5,(.int .u8)),(6,(.int .u8)),(9,.str),(10,.str),(11,.str),(12,(.int .u64)),(21,(.int .i32)),(22,(.sl (.int .i64))),(28,(.st .shape)),(30,(.st .bW)),(32,(.sl (.st .bW))),(35,(.st .shape)),(37,(.st .bW)),(44,(.sl (.st .wY))),(46,(.sl (.sl (.int .i64)))),(49,(.sl (.st .wY))),(56,(.sl (.int .u8))),(65,(.sl (.st .aJ))),(67,(.st .model)),(74,(.sl (.st .shape))),(93,(.st .wY)),(95,(.st .wY)),(115,(.st .aJ)),(141,(.sl (.sl (.st .aJ)))),(148,(.int .u64)),(172,(.int .u32)),(173,(.int .u8)),(174,(.int .u8)),(177,(.int .i32)),(178,(.int .i32))]
def y0 (k:Nat):O Try.prog 32:=fc (tt:=tt) [] .id Try.func32 [.one (.sl (.int .u8))] (cdL (.int .u8)) ⟨.h 0,[]⟩ cdB (.sc) (fun a=>Ee k a) (by kernel_rfl) fun a=>by kernel_rfl
noncomputable def y1 (k:Nat):Env:=jl (P:=Try.prog) tt []
theorem ya (k:Nat):cd (y1 k):=fun g=>bm _ g
noncomputable def yb:Code:=(Try.f76.body).getD .skip
noncomputable def yc:Code:=((aK 0 yb).getD 0 (0,.skip)).2
def yd:List Nat:=[0,3,4]
def ye:List (aQ× Co):=[]
def yf:Ex→List Nat
  |.exit j=>cond (Nat.beq j 0) [0,3] []
  |.ret=>[]
  |.normal=>[]
def yg:Ex→List (aQ× Co)
  |.exit j=>cond (Nat.beq j 0) [] []
  |.ret=>[]
  |.normal=>[]
def yh (pv:(List Int)× (Int× Int)):St:={ax:=[(0,.r [] (.sl (.int .u8) pv.1)),(3,.r [] (.int .i64 pv.2.1)),(4,.r [] (.int .i64 pv.2.2))],heap:=[],nid:=0,n:=32,gh:=[]}
def yi (nf:NF):Option ((List Int)× (Int× Int)):=match nf with
  |([.r [] (.sl (.int .u8) w0),.r [] (.int .i64 w1),.r [] (.int .i64 w2)],[],[])=>some (w0,(w1,w2))
  |_=>none
theorem yj (nf:NF) (v:(List Int)× (Int× Int)) (h:yi nf=some v):al yd 32 nf=yh v:=by
  unfold yi at h
  split at h
  · cases h;rfl
  · cases h
def yk (p:List Int) (x:Int):St:={ax:=[(0,.r [] (.sl (.int .u8) p)),(3,.r [] (.int .i64 x))],heap:=[],nid:=0,n:=32,gh:=[]}
def yl (ρ:Type) (k:Nat):Nat→Ev ρ→Ev ρ:=fun id f=>cond (Nat.beq id 0) (aX yd ye (fun n nf=>cond (Nat.beq n 32) (yi nf) none) fun pv K=>iter (fun v next=>eT k pv.1 v next (fun x=>K (.exit 0) (yk pv.1 x))) k pv.2) ((fun _ _ _ _=>none) id f)
theorem ym {ρ:Type} (k:Nat) (p:List Int) (v:Int× Int) (K K1:Ex→St→Option ρ):ev (y1 k) (yl ρ k) 0 yc (yh (p,v)) (fun e st'=>match e with
    |.normal=>(aW yd ye st').bind fun nf=>K1 .normal (al yd st'.n nf)
    |e=>(aW (yf e) (yg e) st').bind fun nf=>K e (al (yf e) st'.n nf))=eT k p v (fun v'=>K1 .normal (yh (p,v'))) (fun x=>K (.exit 0) (yk p x)):=by kernel_rfl
theorem yn {ρ:Type} (k:Nat):Sound Try.prog (.loop yc) (yl ρ k 0 fun st K=>ev (y1 k) (yl ρ k) 0 yc st K):=
  bg (aG (ya k) yc 0 (av (by kernel_rfl))) yf yg k (g:=fun p v next K=>eT k p v next (fun x=>K (.exit 0) (yk p x))) (bz yj) (fun p v K K1=>ym k p v K K1)
def yo (k:Nat):O Try.prog 76:=⟨oM [.one (.sl (.int .u8))] ⟨[.h 0],[]⟩ (cdL (.int .u8)) ⟨.v (.ptr 0 0 0),[],[.box [.h 0,.h 1,.h 2]]⟩ (cdZ.p cdZ) fun a=>lh k a,okM (LP:=yl _ k) (ya k) Try.func76 (by kernel_rfl) (by kernel_rfl) (by kernel_rfl) (by kernel_rfl) (aI (l:=[(0,yc)]) (by kernel_rfl) ⟨yn k,trivial⟩) (.ptr) [.box [.ro (.int .u8),.sc,.sc]] fun a=>by kernel_rfl⟩
def yp (k:Nat):O Try.prog 112:=B5 (tt:=tt) [] .id Try.func112 [.cl] ⟨[.v (.ptr 0 0 0)],[.box [.h 0,.h 1,.h 2]]⟩ ((cdL (.int .u8)).p (cdZ.p cdZ)) ⟨.h 3,[some (.box [.h 0,.h 4,.h 5])],[]⟩ (cdZ.p (cdZ.p cdZ)) (.sc) [.box [.ro (.int .u8),.sc,.sc]] (fun a=>dZ k a.1 a.2.1 a.2.2) (by kernel_rfl) fun a=>by kernel_rfl
def yq (k:Nat):O Try.prog 81:=B5 (tt:=tt) [⟨112,yp k⟩] {f:=fun E=>{E with wr:=fun g=>mem g [112],wt:=true}} Try.func81 [.cl,.one (.int .i64)] ⟨[.v (.ptr 0 0 0),.h 3],[.box [.h 0,.h 1,.h 2]]⟩ ((cdL (.int .u8)).p (cdZ.p (cdZ.p cdZ))) ⟨.h 4,[some (.box [.h 0,.h 5,.h 6])],[]⟩ (cdZ.p (cdZ.p cdZ)) (.sc) [.box [.ro (.int .u8),.sc,.sc]] (fun a=>ae k a.1 a.2.1 a.2.2.1 a.2.2.2) (by kernel_rfl) fun a=>by kernel_rfl
def yr (k:Nat):O Try.prog 116:=B5 (tt:=tt) [⟨81,yq k⟩] {f:=fun E=>{E with wr:=fun g=>mem g [81],wt:=true}} Try.func116 [.cl,.one (.int .i64)] ⟨[.v (.ptr 0 0 0),.h 3],[.box [.h 0,.h 1,.h 2]]⟩ ((cdL (.int .u8)).p (cdZ.p (cdZ.p cdZ))) ⟨.agg [.h 4,.h 5,.h 6],[some (.box [.h 0,.h 7,.h 8])],[]⟩ ((cdS .shape).p (cdZ.p cdZ)) (.agg [.sc,.sc,.sc]) [.box [.ro (.int .u8),.sc,.sc]] (fun a=>c7 k a.1 a.2.1 a.2.2.1 a.2.2.2) (by kernel_rfl) fun a=>by kernel_rfl
def yt (k:Nat):O Try.prog 78:=B5 (tt:=tt) [⟨81,yq k⟩] {f:=fun E=>{E with wr:=fun g=>mem g [81],wt:=true}} Try.func78 [.cl,.one (.sl (.int .i64))] ⟨[.v (.ptr 0 0 0),.h 3],[.box [.h 0,.h 1,.h 2]]⟩ ((cdL (.int .u8)).p (cdZ.p (cdZ.p (cdL (.int .i64))))) ⟨.h 4,[some (.box [.h 0,.h 5,.h 6])],[]⟩ (cdZ.p (cdZ.p cdZ)) (.sc) [.box [.ro (.int .u8),.sc,.sc]] (fun a=>aV k a.1 a.2.1 a.2.2.1 a.2.2.2) (by kernel_rfl) fun a=>by kernel_rfl
def yu (k:Nat):O Try.prog 66:=fc (tt:=tt) [] .id Try.func66 [.one (.int .i64),.one (.int .i64),.one (.int .i64)] (cdZ.p (cdZ.p cdZ)) ⟨.h 0,[]⟩ cdB (.sc) (fun a=>bQ k a.1 a.2.1 a.2.2) (by kernel_rfl) fun a=>by kernel_rfl
def yv (k:Nat):O Try.prog 101:=fc (tt:=tt) [⟨66,yu k⟩] .id Try.func101 [.agg [(.int .i64),(.int .i64),(.int .i64)]] (cdS .shape) ⟨.h 0,[]⟩ cdB (.sc) (fun a=>fS k a) (by kernel_rfl) fun a=>by kernel_rfl
def yw (k:Nat):O Try.prog 102:=fc (tt:=tt) [⟨101,yv k⟩] .id Try.func102 [.agg [(.int .i64),(.int .i64),(.int .i64)]] (cdS .shape) ⟨.h 0,[]⟩ cdZ (.sc) (fun a=>bK k a) (by kernel_rfl) fun a=>by kernel_rfl
def yx (k:Nat):O Try.prog 115:=B5 (tt:=tt) [⟨78,yt k⟩,⟨81,yq k⟩] {f:=fun E=>{E with wr:=fun g=>mem g [78,81],wt:=true}} Try.func115 [.cl] ⟨[.v (.ptr 0 0 0)],[.box [.h 0,.h 1,.h 2]]⟩ ((cdL (.int .u8)).p (cdZ.p cdZ)) ⟨.h 3,[some (.box [.h 0,.h 4,.h 5])],[]⟩ (cdZ.p (cdZ.p cdZ)) (.sc) [.box [.ro (.int .u8),.sc,.sc]] (fun a=>dn k a.1 a.2.1 a.2.2) (by kernel_rfl) fun a=>by kernel_rfl
noncomputable def yy (k:Nat):Env:={jl (P:=Try.prog) tt [⟨66,yu k⟩,⟨78,yt k⟩,⟨81,yq k⟩,⟨102,yw k⟩,⟨115,yx k⟩]with wr:=fun g=>mem g [78,81,115],wt:=true}
theorem yz (k:Nat):cd (yy k):=fun g=>bm _ g
noncomputable def y14:Code:=(Try.f152.body).getD .skip
noncomputable def y17:Code:=((aK 0 y14).getD 0 (0,.skip)).2
noncomputable def y18:Code:=((aK 0 y14).getD 1 (0,.skip)).2
def y19:List Nat:=[0,4,5,7,8]
def y1a:List (aQ× Co):=[((.Di 5 7),(.ml false (.int .i64)))]
def y1b:Ex→List Nat
  |.exit j=>cond (Nat.beq j 0) [0,4,5] []
  |.ret=>[]
  |.normal=>[]
def y1c:Ex→List (aQ× Co)
  |.exit j=>cond (Nat.beq j 0) [] []
  |.ret=>[]
  |.normal=>[]
def y1d (pv:(Int× List Int× Int× Int× Int× Int× Int× Int× Int× Int× Int× Int× Int× Int× Int× Int)× (Int× Int× Int× List Int)):St:={ax:=[(0,.ptr 0 0 0),(4,.ptr 1 0 0),(5,.ptr 2 0 0),(7,.r [] (.int .i64 pv.1.1)),(8,.r [] (.int .i64 pv.2.1))],heap:=[(0,.box [.r [] (.sl (.int .u8) pv.1.2.1),.r [] (.int .i64 pv.2.2.1),.r [] (.int .i64 pv.2.2.2.1)]),(1,.box [.r [] (.int .i64 pv.1.2.2.1),.r [] (.int .i64 pv.1.2.2.2.1),.r [] (.int .i64 pv.1.2.2.2.2.1),.r [] (.int .i64 pv.1.2.2.2.2.2.1),.r [] (.int .i64 pv.1.2.2.2.2.2.2.1),.r [] (.int .i64 pv.1.2.2.2.2.2.2.2.1),.r [] (.int .i64 pv.1.2.2.2.2.2.2.2.2.1),.bw,.bw]),(2,.box [.r [] (.int .i64 pv.1.2.2.2.2.2.2.2.2.2.1),.r [] (.int .i64 pv.1.2.2.2.2.2.2.2.2.2.2.1),.r [] (.int .i64 pv.1.2.2.2.2.2.2.2.2.2.2.2.1),.r [] (.int .i64 pv.1.2.2.2.2.2.2.2.2.2.2.2.2.1),.r [] (.int .i64 pv.1.2.2.2.2.2.2.2.2.2.2.2.2.2.1),.r [] (.int .i64 pv.1.2.2.2.2.2.2.2.2.2.2.2.2.2.2.1),.r [] (.int .i64 pv.1.2.2.2.2.2.2.2.2.2.2.2.2.2.2.2),.own 3,.bw]),(3,.arr none (.int .i64) pv.2.2.2.2)],nid:=4,n:=129,gh:=[some 0]}
def y1e (nf:NF):Option ((Int× List Int× Int× Int× Int× Int× Int× Int× Int× Int× Int× Int× Int× Int× Int× Int)× (Int× Int× Int× List Int)):=match nf with
  |([.ptr 0 0 0,.ptr 1 0 0,.ptr 2 0 0,.r [] (.int .i64 w0),.r [] (.int .i64 w1)],[.box [.r [] (.sl (.int .u8) w2),.r [] (.int .i64 w3),.r [] (.int .i64 w4)],.box [.r [] (.int .i64 w5),.r [] (.int .i64 w6),.r [] (.int .i64 w7),.r [] (.int .i64 w8),.r [] (.int .i64 w9),.r [] (.int .i64 w10),.r [] (.int .i64 w11),.bw,.bw],.box [.r [] (.int .i64 w12),.r [] (.int .i64 w13),.r [] (.int .i64 w14),.r [] (.int .i64 w15),.r [] (.int .i64 w16),.r [] (.int .i64 w17),.r [] (.int .i64 w18),.own 3,.bw],.arr none (.int .i64) w19],[some 0])=>some ((w0,w2,w5,w6,w7,w8,w9,w10,w11,w12,w13,w14,w15,w16,w17,w18),(w1,w3,w4,w19))
  |_=>none
theorem y1f (nf:NF) (v:(Int× List Int× Int× Int× Int× Int× Int× Int× Int× Int× Int× Int× Int× Int× Int× Int)× (Int× Int× Int× List Int)) (h:y1e nf=some v):al y19 129 nf=y1d v:=by
  unfold y1e at h
  split at h
  · cases h;rfl
  · cases h
def y1g (p:Int× List Int× Int× Int× Int× Int× Int× Int× Int× Int× Int× Int× Int× Int× Int× Int) (x:Int× Int× List Int):St:={ax:=[(0,.ptr 0 0 0),(4,.ptr 1 0 0),(5,.ptr 2 0 0)],heap:=[(0,.box [.r [] (.sl (.int .u8) p.2.1),.r [] (.int .i64 x.1),.r [] (.int .i64 x.2.1)]),(1,.box [.r [] (.int .i64 p.2.2.1),.r [] (.int .i64 p.2.2.2.1),.r [] (.int .i64 p.2.2.2.2.1),.r [] (.int .i64 p.2.2.2.2.2.1),.r [] (.int .i64 p.2.2.2.2.2.2.1),.r [] (.int .i64 p.2.2.2.2.2.2.2.1),.r [] (.int .i64 p.2.2.2.2.2.2.2.2.1),.bw,.bw]),(2,.box [.r [] (.int .i64 p.2.2.2.2.2.2.2.2.2.1),.r [] (.int .i64 p.2.2.2.2.2.2.2.2.2.2.1),.r [] (.int .i64 p.2.2.2.2.2.2.2.2.2.2.2.1),.r [] (.int .i64 p.2.2.2.2.2.2.2.2.2.2.2.2.1),.r [] (.int .i64 p.2.2.2.2.2.2.2.2.2.2.2.2.2.1),.r [] (.int .i64 p.2.2.2.2.2.2.2.2.2.2.2.2.2.2.1),.r [] (.int .i64 p.2.2.2.2.2.2.2.2.2.2.2.2.2.2.2),.own 3,.bw]),(3,.arr none (.int .i64) x.2.2)],nid:=4,n:=129,gh:=[some 0]}
def y1h:List Nat:=[0,4,5,9]
def y1i:List (aQ× Co):=[((.Di 5 8),(.ml false (.int .i64)))]
def y1j:Ex→List Nat
  |.exit j=>cond (Nat.beq j 2) [0,4,5] []
  |.ret=>[]
  |.normal=>[]
def y1k:Ex→List (aQ× Co)
  |.exit j=>cond (Nat.beq j 2) [] []
  |.ret=>[]
  |.normal=>[]
def y1l (pv:(List Int× Int× Int× Int× Int× Int× Int× Int× Int× Int× Int× Int× Int× Int× Int× List Int)× (Int× Int× Int× List Int)):St:={ax:=[(0,.ptr 0 0 0),(4,.ptr 1 0 0),(5,.ptr 2 0 0),(9,.r [] (.int .i64 pv.2.1))],heap:=[(0,.box [.r [] (.sl (.int .u8) pv.1.1),.r [] (.int .i64 pv.2.2.1),.r [] (.int .i64 pv.2.2.2.1)]),(1,.box [.r [] (.int .i64 pv.1.2.1),.r [] (.int .i64 pv.1.2.2.1),.r [] (.int .i64 pv.1.2.2.2.1),.r [] (.int .i64 pv.1.2.2.2.2.1),.r [] (.int .i64 pv.1.2.2.2.2.2.1),.r [] (.int .i64 pv.1.2.2.2.2.2.2.1),.r [] (.int .i64 pv.1.2.2.2.2.2.2.2.1),.bw,.bw]),(2,.box [.r [] (.int .i64 pv.1.2.2.2.2.2.2.2.2.1),.r [] (.int .i64 pv.1.2.2.2.2.2.2.2.2.2.1),.r [] (.int .i64 pv.1.2.2.2.2.2.2.2.2.2.2.1),.r [] (.int .i64 pv.1.2.2.2.2.2.2.2.2.2.2.2.1),.r [] (.int .i64 pv.1.2.2.2.2.2.2.2.2.2.2.2.2.1),.r [] (.int .i64 pv.1.2.2.2.2.2.2.2.2.2.2.2.2.2.1),.r [] (.int .i64 pv.1.2.2.2.2.2.2.2.2.2.2.2.2.2.2.1),.own 3,.own 4]),(3,.arr none (.int .i64) pv.1.2.2.2.2.2.2.2.2.2.2.2.2.2.2.2),(4,.arr none (.int .i64) pv.2.2.2.2)],nid:=5,n:=129,gh:=[some 0]}
def y1m (nf:NF):Option ((List Int× Int× Int× Int× Int× Int× Int× Int× Int× Int× Int× Int× Int× Int× Int× List Int)× (Int× Int× Int× List Int)):=match nf with
  |([.ptr 0 0 0,.ptr 1 0 0,.ptr 2 0 0,.r [] (.int .i64 w0)],[.box [.r [] (.sl (.int .u8) w1),.r [] (.int .i64 w2),.r [] (.int .i64 w3)],.box [.r [] (.int .i64 w4),.r [] (.int .i64 w5),.r [] (.int .i64 w6),.r [] (.int .i64 w7),.r [] (.int .i64 w8),.r [] (.int .i64 w9),.r [] (.int .i64 w10),.bw,.bw],.box [.r [] (.int .i64 w11),.r [] (.int .i64 w12),.r [] (.int .i64 w13),.r [] (.int .i64 w14),.r [] (.int .i64 w15),.r [] (.int .i64 w16),.r [] (.int .i64 w17),.own 3,.own 4],.arr none (.int .i64) w18,.arr none (.int .i64) w19],[some 0])=>some ((w1,w4,w5,w6,w7,w8,w9,w10,w11,w12,w13,w14,w15,w16,w17,w18),(w0,w2,w3,w19))
  |_=>none
theorem y1n (nf:NF) (v:(List Int× Int× Int× Int× Int× Int× Int× Int× Int× Int× Int× Int× Int× Int× Int× List Int)× (Int× Int× Int× List Int)) (h:y1m nf=some v):al y1h 129 nf=y1l v:=by
  unfold y1m at h
  split at h
  · cases h;rfl
  · cases h
def y1o (p:List Int× Int× Int× Int× Int× Int× Int× Int× Int× Int× Int× Int× Int× Int× Int× List Int) (x:Int× Int× List Int):St:={ax:=[(0,.ptr 0 0 0),(4,.ptr 1 0 0),(5,.ptr 2 0 0)],heap:=[(0,.box [.r [] (.sl (.int .u8) p.1),.r [] (.int .i64 x.1),.r [] (.int .i64 x.2.1)]),(1,.box [.r [] (.int .i64 p.2.1),.r [] (.int .i64 p.2.2.1),.r [] (.int .i64 p.2.2.2.1),.r [] (.int .i64 p.2.2.2.2.1),.r [] (.int .i64 p.2.2.2.2.2.1),.r [] (.int .i64 p.2.2.2.2.2.2.1),.r [] (.int .i64 p.2.2.2.2.2.2.2.1),.bw,.bw]),(2,.box [.r [] (.int .i64 p.2.2.2.2.2.2.2.2.1),.r [] (.int .i64 p.2.2.2.2.2.2.2.2.2.1),.r [] (.int .i64 p.2.2.2.2.2.2.2.2.2.2.1),.r [] (.int .i64 p.2.2.2.2.2.2.2.2.2.2.2.1),.r [] (.int .i64 p.2.2.2.2.2.2.2.2.2.2.2.2.1),.r [] (.int .i64 p.2.2.2.2.2.2.2.2.2.2.2.2.2.1),.r [] (.int .i64 p.2.2.2.2.2.2.2.2.2.2.2.2.2.2.1),.own 3,.own 4]),(3,.arr none (.int .i64) p.2.2.2.2.2.2.2.2.2.2.2.2.2.2.2),(4,.arr none (.int .i64) x.2.2)],nid:=5,n:=129,gh:=[some 0]}
def y1p (ρ:Type) (k:Nat):Nat→Ev ρ→Ev ρ:=fun id f=>cond (Nat.beq id 2) (aX y1h y1i (fun n nf=>cond (Nat.beq n 129) (y1m nf) none) fun pv K=>iter (fun v next=>bd k pv.1 v next (fun x=>K (.exit 2) (y1o pv.1 x))) k pv.2) ((fun id f=>cond (Nat.beq id 0) (aX y19 y1a (fun n nf=>cond (Nat.beq n 129) (y1e nf) none) fun pv K=>iter (fun v next=>bc k pv.1 v next (fun x=>K (.exit 0) (y1g pv.1 x))) k pv.2) ((fun _ _ _ _=>none) id f)) id f)
theorem y1q {ρ:Type} (k:Nat) (p:Int× List Int× Int× Int× Int× Int× Int× Int× Int× Int× Int× Int× Int× Int× Int× Int) (v:Int× Int× Int× List Int) (K K1:Ex→St→Option ρ):ev (yy k) (y1p ρ k) 0 y17 (y1d (p,v)) (fun e st'=>match e with
    |.normal=>(aW y19 y1a st').bind fun nf=>K1 .normal (al y19 st'.n nf)
    |e=>(aW (y1b e) (y1c e) st').bind fun nf=>K e (al (y1b e) st'.n nf))=bc k p v (fun v'=>K1 .normal (y1d (p,v'))) (fun x=>K (.exit 0) (y1g p x)):=by kernel_rfl
theorem y1r {ρ:Type} (k:Nat):Sound Try.prog (.loop y17) (y1p ρ k 0 fun st K=>ev (yy k) (y1p ρ k) 0 y17 st K):=
  bg (aG (yz k) y17 0 (av (by kernel_rfl))) y1b y1c k (g:=fun p v next K=>bc k p v next (fun x=>K (.exit 0) (y1g p x))) (bz y1f) (fun p v K K1=>y1q k p v K K1)
theorem y1s {ρ:Type} (k:Nat) (p:List Int× Int× Int× Int× Int× Int× Int× Int× Int× Int× Int× Int× Int× Int× Int× List Int) (v:Int× Int× Int× List Int) (K K1:Ex→St→Option ρ):ev (yy k) (y1p ρ k) 2 y18 (y1l (p,v)) (fun e st'=>match e with
    |.normal=>(aW y1h y1i st').bind fun nf=>K1 .normal (al y1h st'.n nf)
    |e=>(aW (y1j e) (y1k e) st').bind fun nf=>K e (al (y1j e) st'.n nf))=bd k p v (fun v'=>K1 .normal (y1l (p,v'))) (fun x=>K (.exit 2) (y1o p x)):=by kernel_rfl
theorem y1t {ρ:Type} (k:Nat):Sound Try.prog (.loop y18) (y1p ρ k 2 fun st K=>ev (yy k) (y1p ρ k) 2 y18 st K):=
  bg (aG (yz k) y18 2 (av (by kernel_rfl))) y1j y1k k (g:=fun p v next K=>bd k p v next (fun x=>K (.exit 2) (y1o p x))) (bz y1n) (fun p v K K1=>y1s k p v K K1)
def y1u (k:Nat):O Try.prog 152:=⟨oM [.cl,.agg [(.int .i64),(.int .i64),(.int .i64)]] ⟨[.v (.ptr 0 0 0),.agg [.h 3,.h 4,.h 5]],[.box [.h 0,.h 1,.h 2]]⟩ ((cdL (.int .u8)).p (cdZ.p (cdZ.p (cdS .shape)))) ⟨.agg (hs 6 7++[.own 1,.own 2]),[some (.box [.h 0,.h 15,.h 16])],[.arr none (.int .i64) 13,.arr none (.int .i64) 14]⟩ ((cdS .aJ).p (cdZ.p cdZ)) fun a=>dQ k a.1 a.2.1 a.2.2.1 a.2.2.2,okM (LP:=y1p _ k) (yz k) Try.func152 (by kernel_rfl) (by kernel_rfl) (by kernel_rfl) (by kernel_rfl) (aI (l:=[(0,y17),(2,y18)]) (by kernel_rfl) ⟨y1r k,⟨y1t k,trivial⟩⟩) (.agg [.sc,.sc,.sc,.sc,.sc,.sc,.sc,.own (.int .i64),.own (.int .i64)]) [.box [.ro (.int .u8),.sc,.sc]] fun a=>by kernel_rfl⟩
def y1v (k:Nat):O Try.prog 103:=fc (tt:=tt) [⟨66,yu k⟩] .id Try.func103 [.one (.int .i64)] cdZ ⟨.h 0,[]⟩ cdB (.sc) (fun a=>dN k a) (by kernel_rfl) fun a=>by kernel_rfl
noncomputable def y1w (k:Nat):Env:=jl (P:=Try.prog) tt [⟨66,yu k⟩,⟨103,y1v k⟩]
theorem y1x (k:Nat):cd (y1w k):=fun g=>bm _ g
noncomputable def y1y:Code:=(Try.f132.body).getD .skip
noncomputable def y1z:Code:=((aK 0 y1y).getD 0 (0,.skip)).2
noncomputable def y20:Code:=((aK 0 y1y).getD 1 (0,.skip)).2
def y21:List Nat:=[3,7]
def y23:List (aQ× Co):=[]
def y25:Ex→List Nat
  |.exit j=>cond (Nat.beq j 0) [3] []
  |.ret=>[6]
  |.normal=>[]
def y29:Ex→List (aQ× Co)
  |.exit j=>cond (Nat.beq j 0) [] []
  |.ret=>[]
  |.normal=>[]
def y2a (pv:(Int× Int× Int× Int× Int× Int× Int× List Int× List Int)× (Int)):St:={ax:=[(3,.ptr 0 0 0),(7,.r [] (.int .i64 pv.2))],heap:=[(0,.box [.r [] (.int .i64 pv.1.1),.r [] (.int .i64 pv.1.2.1),.r [] (.int .i64 pv.1.2.2.1),.r [] (.int .i64 pv.1.2.2.2.1),.r [] (.int .i64 pv.1.2.2.2.2.1),.r [] (.int .i64 pv.1.2.2.2.2.2.1),.r [] (.int .i64 pv.1.2.2.2.2.2.2.1),.r [] (.sl (.int .i64) pv.1.2.2.2.2.2.2.2.1),.r [] (.sl (.int .i64) pv.1.2.2.2.2.2.2.2.2)])],nid:=1,n:=121,gh:=[]}
def y2b (nf:NF):Option ((Int× Int× Int× Int× Int× Int× Int× List Int× List Int)× (Int)):=match nf with
  |([.ptr 0 0 0,.r [] (.int .i64 w0)],[.box [.r [] (.int .i64 w1),.r [] (.int .i64 w2),.r [] (.int .i64 w3),.r [] (.int .i64 w4),.r [] (.int .i64 w5),.r [] (.int .i64 w6),.r [] (.int .i64 w7),.r [] (.sl (.int .i64) w8),.r [] (.sl (.int .i64) w9)]],[])=>some ((w1,w2,w3,w4,w5,w6,w7,w8,w9),w0)
  |_=>none
theorem y2c (nf:NF) (v:(Int× Int× Int× Int× Int× Int× Int× List Int× List Int)× (Int)) (h:y2b nf=some v):al y21 121 nf=y2a v:=by
  unfold y2b at h
  split at h
  · cases h;rfl
  · cases h
def y2d (p:Int× Int× Int× Int× Int× Int× Int× List Int× List Int) (x:Unit):St:={ax:=[(3,.ptr 0 0 0)],heap:=[(0,.box [.r [] (.int .i64 p.1),.r [] (.int .i64 p.2.1),.r [] (.int .i64 p.2.2.1),.r [] (.int .i64 p.2.2.2.1),.r [] (.int .i64 p.2.2.2.2.1),.r [] (.int .i64 p.2.2.2.2.2.1),.r [] (.int .i64 p.2.2.2.2.2.2.1),.r [] (.sl (.int .i64) p.2.2.2.2.2.2.2.1),.r [] (.sl (.int .i64) p.2.2.2.2.2.2.2.2)])],nid:=1,n:=121,gh:=[]}
def y2e (p:Int× Int× Int× Int× Int× Int× Int× List Int× List Int) (x:Bool):St:={ax:=[(6,.r [] (.bool x))],heap:=[],nid:=0,n:=121,gh:=[]}
def y2f:List Nat:=[3,8]
def y2g:List (aQ× Co):=[]
def y2h:Ex→List Nat
  |.exit j=>cond (Nat.beq j 2) [] []
  |.ret=>[6]
  |.normal=>[]
def y2i:Ex→List (aQ× Co)
  |.exit j=>cond (Nat.beq j 2) [] []
  |.ret=>[]
  |.normal=>[]
def y2j (pv:(Int× Int× Int× Int× Int× Int× Int× List Int× List Int)× (Int)):St:={ax:=[(3,.ptr 0 0 0),(8,.r [] (.int .i64 pv.2))],heap:=[(0,.box [.r [] (.int .i64 pv.1.1),.r [] (.int .i64 pv.1.2.1),.r [] (.int .i64 pv.1.2.2.1),.r [] (.int .i64 pv.1.2.2.2.1),.r [] (.int .i64 pv.1.2.2.2.2.1),.r [] (.int .i64 pv.1.2.2.2.2.2.1),.r [] (.int .i64 pv.1.2.2.2.2.2.2.1),.r [] (.sl (.int .i64) pv.1.2.2.2.2.2.2.2.1),.r [] (.sl (.int .i64) pv.1.2.2.2.2.2.2.2.2)])],nid:=1,n:=121,gh:=[]}
def y2k (nf:NF):Option ((Int× Int× Int× Int× Int× Int× Int× List Int× List Int)× (Int)):=match nf with
  |([.ptr 0 0 0,.r [] (.int .i64 w0)],[.box [.r [] (.int .i64 w1),.r [] (.int .i64 w2),.r [] (.int .i64 w3),.r [] (.int .i64 w4),.r [] (.int .i64 w5),.r [] (.int .i64 w6),.r [] (.int .i64 w7),.r [] (.sl (.int .i64) w8),.r [] (.sl (.int .i64) w9)]],[])=>some ((w1,w2,w3,w4,w5,w6,w7,w8,w9),w0)
  |_=>none
theorem y2l (nf:NF) (v:(Int× Int× Int× Int× Int× Int× Int× List Int× List Int)× (Int)) (h:y2k nf=some v):al y2f 121 nf=y2j v:=by
  unfold y2k at h
  split at h
  · cases h;rfl
  · cases h
def y2m (p:Int× Int× Int× Int× Int× Int× Int× List Int× List Int) (x:Unit):St:={ax:=[],heap:=[],nid:=0,n:=121,gh:=[]}
def y2n (p:Int× Int× Int× Int× Int× Int× Int× List Int× List Int) (x:Bool):St:={ax:=[(6,.r [] (.bool x))],heap:=[],nid:=0,n:=121,gh:=[]}
def y2o (ρ:Type) (k:Nat):Nat→Ev ρ→Ev ρ:=fun id f=>cond (Nat.beq id 2) (aX y2f y2g (fun n nf=>cond (Nat.beq n 121) (y2k nf) none) fun pv K=>iter (fun v next=>cw k pv.1 v next (fun x=>K (.exit 2) (y2m pv.1 x)) (fun x=>K .ret (y2n pv.1 x))) k pv.2) ((fun id f=>cond (Nat.beq id 0) (aX y21 y23 (fun n nf=>cond (Nat.beq n 121) (y2b nf) none) fun pv K=>iter (fun v next=>cu k pv.1 v next (fun x=>K (.exit 0) (y2d pv.1 x)) (fun x=>K .ret (y2e pv.1 x))) k pv.2) ((fun _ _ _ _=>none) id f)) id f)
theorem y2p {ρ:Type} (k:Nat) (p:Int× Int× Int× Int× Int× Int× Int× List Int× List Int) (v:Int) (K K1:Ex→St→Option ρ):ev (y1w k) (y2o ρ k) 0 y1z (y2a (p,v)) (fun e st'=>match e with
    |.normal=>(aW y21 y23 st').bind fun nf=>K1 .normal (al y21 st'.n nf)
    |e=>(aW (y25 e) (y29 e) st').bind fun nf=>K e (al (y25 e) st'.n nf))=cu k p v (fun v'=>K1 .normal (y2a (p,v'))) (fun x=>K (.exit 0) (y2d p x)) (fun x=>K .ret (y2e p x)):=by kernel_rfl
theorem y2q {ρ:Type} (k:Nat):Sound Try.prog (.loop y1z) (y2o ρ k 0 fun st K=>ev (y1w k) (y2o ρ k) 0 y1z st K):=
  bg (aG (y1x k) y1z 0 (av (by kernel_rfl))) y25 y29 k (g:=fun p v next K=>cu k p v next (fun x=>K (.exit 0) (y2d p x)) (fun x=>K .ret (y2e p x))) (bz y2c) (fun p v K K1=>y2p k p v K K1)
theorem y2r {ρ:Type} (k:Nat) (p:Int× Int× Int× Int× Int× Int× Int× List Int× List Int) (v:Int) (K K1:Ex→St→Option ρ):ev (y1w k) (y2o ρ k) 2 y20 (y2j (p,v)) (fun e st'=>match e with
    |.normal=>(aW y2f y2g st').bind fun nf=>K1 .normal (al y2f st'.n nf)
    |e=>(aW (y2h e) (y2i e) st').bind fun nf=>K e (al (y2h e) st'.n nf))=cw k p v (fun v'=>K1 .normal (y2j (p,v'))) (fun x=>K (.exit 2) (y2m p x)) (fun x=>K .ret (y2n p x)):=by kernel_rfl
theorem y2s {ρ:Type} (k:Nat):Sound Try.prog (.loop y20) (y2o ρ k 2 fun st K=>ev (y1w k) (y2o ρ k) 2 y20 st K):=
  bg (aG (y1x k) y20 2 (av (by kernel_rfl))) y2h y2i k (g:=fun p v next K=>cw k p v next (fun x=>K (.exit 2) (y2m p x)) (fun x=>K .ret (y2n p x))) (bz y2l) (fun p v K K1=>y2r k p v K K1)
def y2t (k:Nat):O Try.prog 132:=⟨oP [.agg [(.int .i64),(.int .i64),(.int .i64),(.int .i64),(.int .i64),(.int .i64),(.int .i64),(.sl (.int .i64)),(.sl (.int .i64))],.one .bool,.one .bool] ((cdS .aJ).p (cdB.p cdB)) ⟨.h 0,[]⟩ cdB fun a=>lf k a.1 a.2.1 a.2.2,okP (LP:=y2o _ k) (y1x k) Try.func132 (by kernel_rfl) (by kernel_rfl) (by kernel_rfl) (aI (l:=[(0,y1z),(2,y20)]) (by kernel_rfl) ⟨y2q k,⟨y2s k,trivial⟩⟩) (.sc) fun a=>by kernel_rfl⟩
def y2u (k:Nat):O Try.prog 117:=fc (tt:=tt) [⟨66,yu k⟩,⟨101,yv k⟩,⟨102,yw k⟩,⟨132,y2t k⟩] .id Try.func117 [.agg [(.int .i64),(.int .i64),(.int .i64)],.agg [(.int .i64),(.int .i64),(.int .i64),(.int .i64),(.int .i64),(.int .i64),(.int .i64),(.sl (.int .i64)),(.sl (.int .i64))]] ((cdS .shape).p (cdS .aJ)) ⟨.tup [.agg [.h 0,.h 1,.h 2],.h 3],[]⟩ ((cdS .shape).p cdB) (.tup [.agg [.sc,.sc,.sc],.sc]) (fun a=>gz k a.1 a.2) (by kernel_rfl) fun a=>by kernel_rfl
noncomputable def y2v (k:Nat):Env:={jl (P:=Try.prog) tt [⟨117,y2u k⟩,⟨152,y1u k⟩]with wr:=fun g=>mem g [152],wt:=true}
theorem y2w (k:Nat):cd (y2v k):=fun g=>bm _ g
noncomputable def y2x:Code:=(Try.f131.body).getD .skip
noncomputable def y2y:Code:=((aK 0 y2x).getD 0 (0,.skip)).2
def y2z:List Nat:=[0,2,4,6,7,8]
def y31:List (aQ× Co):=[((.Di 7 3),(.ml false (.st .aJ)))]
def y32:Ex→List Nat
  |.exit j=>cond (Nat.beq j 0) [6,7] []
  |.ret=>[]
  |.normal=>[]
def y34:Ex→List (aQ× Co)
  |.exit j=>cond (Nat.beq j 0) [] []
  |.ret=>[]
  |.normal=>[]
def y37 (pv:(Int× List Int× Int× Int× Int× Int× Int× Int)× (Int× Int× Int× Int× Int× Int× List ai)):St:={ax:=[(0,.ptr 0 0 0),(2,.r [] (.int .i64 pv.1.1)),(4,.ptr 1 0 0),(6,.ptr 2 0 0),(7,.ptr 3 0 0),(8,.r [] (.int .i64 pv.2.1))],heap:=[(0,.box [.r [] (.sl (.int .u8) pv.1.2.1),.r [] (.int .i64 pv.2.2.1),.r [] (.int .i64 pv.2.2.2.1)]),(1,.box [.r [] (.int .i64 pv.2.2.2.2.1),.r [] (.int .i64 pv.2.2.2.2.2.1),.r [] (.int .i64 pv.2.2.2.2.2.2.1)]),(2,.box [.r [] (.int .i64 pv.1.2.2.1),.r [] (.int .i64 pv.1.2.2.2.1),.r [] (.int .i64 pv.1.2.2.2.2.1),.bw]),(3,.box [.r [] (.int .i64 pv.1.2.2.2.2.2.1),.r [] (.int .i64 pv.1.2.2.2.2.2.2.1),.r [] (.int .i64 pv.1.2.2.2.2.2.2.2),.own 4]),(4,.arr none (.st .aJ) pv.2.2.2.2.2.2.2)],nid:=5,n:=38,gh:=[some 0]}
def y38 (nf:NF):Option ((Int× List Int× Int× Int× Int× Int× Int× Int)× (Int× Int× Int× Int× Int× Int× List ai)):=match nf with
  |([.ptr 0 0 0,.r [] (.int .i64 w0),.ptr 1 0 0,.ptr 2 0 0,.ptr 3 0 0,.r [] (.int .i64 w1)],[.box [.r [] (.sl (.int .u8) w2),.r [] (.int .i64 w3),.r [] (.int .i64 w4)],.box [.r [] (.int .i64 w5),.r [] (.int .i64 w6),.r [] (.int .i64 w7)],.box [.r [] (.int .i64 w8),.r [] (.int .i64 w9),.r [] (.int .i64 w10),.bw],.box [.r [] (.int .i64 w11),.r [] (.int .i64 w12),.r [] (.int .i64 w13),.own 4],.arr none (.st .aJ) w14],[some 0])=>some ((w0,w2,w8,w9,w10,w11,w12,w13),(w1,w3,w4,w5,w6,w7,w14))
  |_=>none
theorem y39 (nf:NF) (v:(Int× List Int× Int× Int× Int× Int× Int× Int)× (Int× Int× Int× Int× Int× Int× List ai)) (h:y38 nf=some v):al y2z 38 nf=y37 v:=by
  unfold y38 at h
  split at h
  · cases h;rfl
  · cases h
def y3a (p:Int× List Int× Int× Int× Int× Int× Int× Int) (x:Int× Int× List ai):St:={ax:=[(6,.ptr 0 0 0),(7,.ptr 1 0 0)],heap:=[(0,.box [.r [] (.int .i64 p.2.2.1),.r [] (.int .i64 p.2.2.2.1),.r [] (.int .i64 p.2.2.2.2.1),.bw]),(1,.box [.r [] (.int .i64 p.2.2.2.2.2.1),.r [] (.int .i64 p.2.2.2.2.2.2.1),.r [] (.int .i64 p.2.2.2.2.2.2.2),.own 3]),(2,.box [.r [] (.sl (.int .u8) p.2.1),.r [] (.int .i64 x.1),.r [] (.int .i64 x.2.1)]),(3,.arr none (.st .aJ) x.2.2)],nid:=4,n:=38,gh:=[some 2]}
def y3b (ρ:Type) (k:Nat):Nat→Ev ρ→Ev ρ:=fun id f=>cond (Nat.beq id 0) (aX y2z y31 (fun n nf=>cond (Nat.beq n 38) (y38 nf) none) fun pv K=>iter (fun v next=>cy k pv.1 v next (fun x=>K (.exit 0) (y3a pv.1 x))) k pv.2) ((fun _ _ _ _=>none) id f)
theorem y3c {ρ:Type} (k:Nat) (p:Int× List Int× Int× Int× Int× Int× Int× Int) (v:Int× Int× Int× Int× Int× Int× List ai) (K K1:Ex→St→Option ρ):ev (y2v k) (y3b ρ k) 0 y2y (y37 (p,v)) (fun e st'=>match e with
    |.normal=>(aW y2z y31 st').bind fun nf=>K1 .normal (al y2z st'.n nf)
    |e=>(aW (y32 e) (y34 e) st').bind fun nf=>K e (al (y32 e) st'.n nf))=cy k p v (fun v'=>K1 .normal (y37 (p,v'))) (fun x=>K (.exit 0) (y3a p x)):=by kernel_rfl
theorem y3d {ρ:Type} (k:Nat):Sound Try.prog (.loop y2y) (y3b ρ k 0 fun st K=>ev (y2v k) (y3b ρ k) 0 y2y st K):=
  bg (aG (y2w k) y2y 0 (av (by kernel_rfl))) y32 y34 k (g:=fun p v next K=>cy k p v next (fun x=>K (.exit 0) (y3a p x))) (bz y39) (fun p v K K1=>y3c k p v K K1)
def y3e (k:Nat):O Try.prog 131:=⟨oM [.cl,.agg [(.int .i64),(.int .i64),(.int .i64)],.one (.int .i64)] ⟨[.v (.ptr 0 0 0),.agg [.h 3,.h 4,.h 5],.h 6],[.box [.h 0,.h 1,.h 2]]⟩ ((cdL (.int .u8)).p (cdZ.p (cdZ.p ((cdS .shape).p cdZ)))) ⟨.agg [.h 7,.h 8,.h 9,.own 1],[some (.box [.h 0,.h 11,.h 12])],[.arr none (.st .aJ) 10]⟩ ((cdS .model).p (cdZ.p cdZ)) fun a=>eU k a.1 a.2.1 a.2.2.1 a.2.2.2.1 a.2.2.2.2,okM (LP:=y3b _ k) (y2w k) Try.func131 (by kernel_rfl) (by kernel_rfl) (by kernel_rfl) (by kernel_rfl) (aI (l:=[(0,y2y)]) (by kernel_rfl) ⟨y3d k,trivial⟩) (.agg [.sc,.sc,.sc,.own (.st .aJ)]) [.box [.ro (.int .u8),.sc,.sc]] fun a=>by kernel_rfl⟩
def y3f (k:Nat):O Try.prog 113:=B5 (tt:=tt) [⟨81,yq k⟩,⟨116,yr k⟩,⟨131,y3e k⟩] {f:=fun E=>{E with wr:=fun g=>mem g [81,116,131],wt:=true}} Try.func113 [.cl] ⟨[.v (.ptr 0 0 0)],[.box [.h 0,.h 1,.h 2]]⟩ ((cdL (.int .u8)).p (cdZ.p cdZ)) ⟨.agg [.h 3,.h 4,.h 5,.own 1],[some (.box [.h 0,.h 7,.h 8])],[.arr none (.st .aJ) 6]⟩ ((cdS .model).p (cdZ.p cdZ)) (.agg [.sc,.sc,.sc,.own (.st .aJ)]) [.box [.ro (.int .u8),.sc,.sc]] (fun a=>dR k a.1 a.2.1 a.2.2) (by kernel_rfl) fun a=>by kernel_rfl
def y3g (k:Nat):O Try.prog 82:=B5 (tt:=tt) [⟨81,yq k⟩] {f:=fun E=>{E with wr:=fun g=>mem g [81],wt:=true}} Try.func82 [.cl,.one (.int .i64)] ⟨[.v (.ptr 0 0 0),.h 3],[.box [.h 0,.h 1,.h 2]]⟩ ((cdL (.int .u8)).p (cdZ.p (cdZ.p cdZ))) ⟨.h 4,[some (.box [.h 0,.h 5,.h 6])],[]⟩ (cdB.p (cdZ.p cdZ)) (.sc) [.box [.ro (.int .u8),.sc,.sc]] (fun a=>fw k a.1 a.2.1 a.2.2.1 a.2.2.2) (by kernel_rfl) fun a=>by kernel_rfl
def y3h (k:Nat):O Try.prog 114:=B5 (tt:=tt) [⟨78,yt k⟩,⟨81,yq k⟩] {f:=fun E=>{E with wr:=fun g=>mem g [78,81],wt:=true}} Try.func114 [.cl,.cl] ⟨[.v (.ptr 0 0 0),.agg (hs 3 7++[.own 1,.own 2])],[.box [.h 0,.h 1,.h 2],.arr none (.int .i64) 10,.arr none (.int .i64) 11]⟩ ((cdL (.int .u8)).p (cdZ.p (cdZ.p (cdS .aJ)))) ⟨.agg (hs 12 7++[.own 3,.own 4]),[some (.box [.h 0,.h 21,.h 22]),none,none],[.arr none (.int .i64) 19,.arr none (.int .i64) 20]⟩ ((cdS .aJ).p (cdZ.p cdZ)) (.agg [.sc,.sc,.sc,.sc,.sc,.sc,.sc,.own (.int .i64),.own (.int .i64)]) [.box [.ro (.int .u8),.sc,.sc],.gone,.gone] (fun a=>im k a.1 a.2.1 a.2.2.1 a.2.2.2) (by kernel_rfl) fun a=>by kernel_rfl
noncomputable def y3i (k:Nat):Env:={jl (P:=Try.prog) tt [⟨78,yt k⟩,⟨81,yq k⟩,⟨82,y3g k⟩,⟨113,y3f k⟩,⟨114,y3h k⟩]with wr:=fun g=>mem g [78,81,82,113,114],wt:=true,tak:=true}
theorem y3j (k:Nat):cd (y3i k):=fun g=>bm _ g
noncomputable def y3k:Code:=(Try.f83.body).getD .skip
noncomputable def y3l:Code:=((aK 0 y3k).getD 0 (0,.skip)).2
def y3m:List Nat:=[0,2,3]
def y3n:List (aQ× Co):=[]
def y3o:Ex→List Nat
  |.exit j=>cond (Nat.beq j 1) [2,3] []
  |.ret=>[]
  |.normal=>[]
def y3p:Ex→List (aQ× Co)
  |.exit j=>cond (Nat.beq j 1) [] []
  |.ret=>[]
  |.normal=>[]
def y3q (pv:(List Int× Int× Int× Int× Int× Int× Int)× (Int× Int× List ai)):St:={ax:=[(0,.ptr 0 0 0),(2,.ptr 1 0 0),(3,.ptr 2 0 0)],heap:=[(0,.box [.r [] (.sl (.int .u8) pv.1.1),.r [] (.int .i64 pv.2.1),.r [] (.int .i64 pv.2.2.1)]),(1,.box [.r [] (.int .i64 pv.1.2.1),.r [] (.int .i64 pv.1.2.2.1),.r [] (.int .i64 pv.1.2.2.2.1),.bw]),(2,.box [.r [] (.int .i64 pv.1.2.2.2.2.1),.r [] (.int .i64 pv.1.2.2.2.2.2.1),.r [] (.int .i64 pv.1.2.2.2.2.2.2),.own 3]),(3,.arr none (.st .aJ) pv.2.2.2)],nid:=4,n:=65,gh:=[some 0]}
def y3r (nf:NF):Option ((List Int× Int× Int× Int× Int× Int× Int)× (Int× Int× List ai)):=match nf with
  |([.ptr 0 0 0,.ptr 1 0 0,.ptr 2 0 0],[.box [.r [] (.sl (.int .u8) w0),.r [] (.int .i64 w1),.r [] (.int .i64 w2)],.box [.r [] (.int .i64 w3),.r [] (.int .i64 w4),.r [] (.int .i64 w5),.bw],.box [.r [] (.int .i64 w6),.r [] (.int .i64 w7),.r [] (.int .i64 w8),.own 3],.arr none (.st .aJ) w9],[some 0])=>some ((w0,w3,w4,w5,w6,w7,w8),(w1,w2,w9))
  |_=>none
theorem y3s (nf:NF) (v:(List Int× Int× Int× Int× Int× Int× Int)× (Int× Int× List ai)) (h:y3r nf=some v):al y3m 65 nf=y3q v:=by
  unfold y3r at h
  split at h
  · cases h;rfl
  · cases h
def y3t (p:List Int× Int× Int× Int× Int× Int× Int) (x:Int× Int× List ai):St:={ax:=[(2,.ptr 0 0 0),(3,.ptr 1 0 0)],heap:=[(0,.box [.r [] (.int .i64 p.2.1),.r [] (.int .i64 p.2.2.1),.r [] (.int .i64 p.2.2.2.1),.bw]),(1,.box [.r [] (.int .i64 p.2.2.2.2.1),.r [] (.int .i64 p.2.2.2.2.2.1),.r [] (.int .i64 p.2.2.2.2.2.2),.own 3]),(2,.box [.r [] (.sl (.int .u8) p.1),.r [] (.int .i64 x.1),.r [] (.int .i64 x.2.1)]),(3,.arr none (.st .aJ) x.2.2)],nid:=4,n:=65,gh:=[some 2]}
def y3u (ρ:Type) (k:Nat):Nat→Ev ρ→Ev ρ:=fun id f=>cond (Nat.beq id 1) (aX y3m y3n (fun n nf=>cond (Nat.beq n 65) (y3r nf) none) fun pv K=>iter (fun v next=>cj k pv.1 v next (fun x=>K (.exit 1) (y3t pv.1 x))) k pv.2) ((fun _ _ _ _=>none) id f)
theorem y3v {ρ:Type} (k:Nat) (p:List Int× Int× Int× Int× Int× Int× Int) (v:Int× Int× List ai) (K K1:Ex→St→Option ρ):ev (y3i k) (y3u ρ k) 1 y3l (y3q (p,v)) (fun e st'=>match e with
    |.normal=>(aW y3m y3n st').bind fun nf=>K1 .normal (al y3m st'.n nf)
    |e=>(aW (y3o e) (y3p e) st').bind fun nf=>K e (al (y3o e) st'.n nf))=cj k p v (fun v'=>K1 .normal (y3q (p,v'))) (fun x=>K (.exit 1) (y3t p x)):=by kernel_rfl
theorem y3w {ρ:Type} (k:Nat):Sound Try.prog (.loop y3l) (y3u ρ k 1 fun st K=>ev (y3i k) (y3u ρ k) 1 y3l st K):=
  bg (aG (y3j k) y3l 1 (av (by kernel_rfl))) y3o y3p k (g:=fun p v next K=>cj k p v next (fun x=>K (.exit 1) (y3t p x))) (bz y3s) (fun p v K K1=>y3v k p v K K1)
def y3x (k:Nat):O Try.prog 83:=⟨oM [.cl] ⟨[.v (.ptr 0 0 0)],[.box [.h 0,.h 1,.h 2]]⟩ ((cdL (.int .u8)).p (cdZ.p cdZ)) ⟨.agg [.h 3,.h 4,.h 5,.own 1],[some (.box [.h 0,.h 7,.h 8])],[.arr none (.st .aJ) 6]⟩ ((cdS .model).p (cdZ.p cdZ)) fun a=>dS k a.1 a.2.1 a.2.2,okM (LP:=y3u _ k) (y3j k) Try.func83 (by kernel_rfl) (by kernel_rfl) (by kernel_rfl) (by kernel_rfl) (aI (l:=[(1,y3l)]) (by kernel_rfl) ⟨y3w k,trivial⟩) (.agg [.sc,.sc,.sc,.own (.st .aJ)]) [.box [.ro (.int .u8),.sc,.sc]] fun a=>by kernel_rfl⟩
noncomputable def y3y (k:Nat):Env:={jl (P:=Try.prog) tt [⟨102,yw k⟩,⟨115,yx k⟩]with wr:=fun g=>mem g [115],wt:=true}
theorem y3z (k:Nat):cd (y3y k):=fun g=>bm _ g
noncomputable def y40:Code:=(Try.f84.body).getD .skip
noncomputable def y41:Code:=((aK 0 y40).getD 0 (0,.skip)).2
def y42:List Nat:=[0,3,4,5,6]
def y43:List (aQ× Co):=[((.Di 5 3),(.ml false (.int .i64)))]
def y44:Ex→List Nat
  |.exit j=>cond (Nat.beq j 0) [4,5] []
  |.ret=>[]
  |.normal=>[]
def y45:Ex→List (aQ× Co)
  |.exit j=>cond (Nat.beq j 0) [] []
  |.ret=>[]
  |.normal=>[]
def y46 (pv:(List Int× Int× Int× Int× Int× Int× Int× Int× Int× Int)× (Int× Int× Int× List Int)):St:={ax:=[(0,.ptr 0 0 0),(3,.ptr 1 0 0),(4,.ptr 2 0 0),(5,.ptr 3 0 0),(6,.r [] (.int .i64 pv.2.1))],heap:=[(0,.box [.r [] (.sl (.int .u8) pv.1.1),.r [] (.int .i64 pv.2.2.1),.r [] (.int .i64 pv.2.2.2.1)]),(1,.box [.r [] (.int .i64 pv.1.2.1),.r [] (.int .i64 pv.1.2.2.1),.r [] (.int .i64 pv.1.2.2.2.1)]),(2,.box [.r [] (.int .i64 pv.1.2.2.2.2.1),.r [] (.int .i64 pv.1.2.2.2.2.2.1),.r [] (.int .i64 pv.1.2.2.2.2.2.2.1),.bw]),(3,.box [.r [] (.int .i64 pv.1.2.2.2.2.2.2.2.1),.r [] (.int .i64 pv.1.2.2.2.2.2.2.2.2.1),.r [] (.int .i64 pv.1.2.2.2.2.2.2.2.2.2),.own 4]),(4,.arr none (.int .i64) pv.2.2.2.2)],nid:=5,n:=23,gh:=[some 0]}
def y47 (nf:NF):Option ((List Int× Int× Int× Int× Int× Int× Int× Int× Int× Int)× (Int× Int× Int× List Int)):=match nf with
  |([.ptr 0 0 0,.ptr 1 0 0,.ptr 2 0 0,.ptr 3 0 0,.r [] (.int .i64 w0)],[.box [.r [] (.sl (.int .u8) w1),.r [] (.int .i64 w2),.r [] (.int .i64 w3)],.box [.r [] (.int .i64 w4),.r [] (.int .i64 w5),.r [] (.int .i64 w6)],.box [.r [] (.int .i64 w7),.r [] (.int .i64 w8),.r [] (.int .i64 w9),.bw],.box [.r [] (.int .i64 w10),.r [] (.int .i64 w11),.r [] (.int .i64 w12),.own 4],.arr none (.int .i64) w13],[some 0])=>some ((w1,w4,w5,w6,w7,w8,w9,w10,w11,w12),(w0,w2,w3,w13))
  |_=>none
theorem y49 (nf:NF) (v:(List Int× Int× Int× Int× Int× Int× Int× Int× Int× Int)× (Int× Int× Int× List Int)) (h:y47 nf=some v):al y42 23 nf=y46 v:=by
  unfold y47 at h
  split at h
  · cases h;rfl
  · cases h
def y4a (p:List Int× Int× Int× Int× Int× Int× Int× Int× Int× Int) (x:Int× Int× List Int):St:={ax:=[(4,.ptr 0 0 0),(5,.ptr 1 0 0)],heap:=[(0,.box [.r [] (.int .i64 p.2.2.2.2.1),.r [] (.int .i64 p.2.2.2.2.2.1),.r [] (.int .i64 p.2.2.2.2.2.2.1),.bw]),(1,.box [.r [] (.int .i64 p.2.2.2.2.2.2.2.1),.r [] (.int .i64 p.2.2.2.2.2.2.2.2.1),.r [] (.int .i64 p.2.2.2.2.2.2.2.2.2),.own 3]),(2,.box [.r [] (.sl (.int .u8) p.1),.r [] (.int .i64 x.1),.r [] (.int .i64 x.2.1)]),(3,.arr none (.int .i64) x.2.2)],nid:=4,n:=23,gh:=[some 2]}
def y4b (ρ:Type) (k:Nat):Nat→Ev ρ→Ev ρ:=fun id f=>cond (Nat.beq id 0) (aX y42 y43 (fun n nf=>cond (Nat.beq n 23) (y47 nf) none) fun pv K=>iter (fun v next=>cc k pv.1 v next (fun x=>K (.exit 0) (y4a pv.1 x))) k pv.2) ((fun _ _ _ _=>none) id f)
theorem y4c {ρ:Type} (k:Nat) (p:List Int× Int× Int× Int× Int× Int× Int× Int× Int× Int) (v:Int× Int× Int× List Int) (K K1:Ex→St→Option ρ):ev (y3y k) (y4b ρ k) 0 y41 (y46 (p,v)) (fun e st'=>match e with
    |.normal=>(aW y42 y43 st').bind fun nf=>K1 .normal (al y42 st'.n nf)
    |e=>(aW (y44 e) (y45 e) st').bind fun nf=>K e (al (y44 e) st'.n nf))=cc k p v (fun v'=>K1 .normal (y46 (p,v'))) (fun x=>K (.exit 0) (y4a p x)):=by kernel_rfl
theorem y4d {ρ:Type} (k:Nat):Sound Try.prog (.loop y41) (y4b ρ k 0 fun st K=>ev (y3y k) (y4b ρ k) 0 y41 st K):=
  bg (aG (y3z k) y41 0 (av (by kernel_rfl))) y44 y45 k (g:=fun p v next K=>cc k p v next (fun x=>K (.exit 0) (y4a p x))) (bz y49) (fun p v K K1=>y4c k p v K K1)
def y4e (k:Nat):O Try.prog 84:=⟨oM [.cl,.agg [(.int .i64),(.int .i64),(.int .i64)]] ⟨[.v (.ptr 0 0 0),.agg [.h 3,.h 4,.h 5]],[.box [.h 0,.h 1,.h 2]]⟩ ((cdL (.int .u8)).p (cdZ.p (cdZ.p (cdS .shape)))) ⟨.agg [.h 6,.h 7,.h 8,.own 1],[some (.box [.h 0,.h 10,.h 11])],[.arr none (.int .i64) 9]⟩ ((cdS .bW).p (cdZ.p cdZ)) fun a=>cf k a.1 a.2.1 a.2.2.1 a.2.2.2,okM (LP:=y4b _ k) (y3z k) Try.func84 (by kernel_rfl) (by kernel_rfl) (by kernel_rfl) (by kernel_rfl) (aI (l:=[(0,y41)]) (by kernel_rfl) ⟨y4d k,trivial⟩) (.agg [.sc,.sc,.sc,.own (.int .i64)]) [.box [.ro (.int .u8),.sc,.sc]] fun a=>by kernel_rfl⟩
def y4f (k:Nat):O Try.prog 85:=B5 (tt:=tt) [⟨78,yt k⟩,⟨81,yq k⟩,⟨82,y3g k⟩,⟨84,y4e k⟩,⟨116,yr k⟩] {f:=fun E=>{E with wr:=fun g=>mem g [78,81,82,84,116],wt:=true}} Try.func85 [.cl] ⟨[.v (.ptr 0 0 0)],[.box [.h 0,.h 1,.h 2]]⟩ ((cdL (.int .u8)).p (cdZ.p cdZ)) ⟨.agg [.h 3,.h 4,.h 5,.own 1],[some (.box [.h 0,.h 7,.h 8])],[.arr none (.int .i64) 6]⟩ ((cdS .bW).p (cdZ.p cdZ)) (.agg [.sc,.sc,.sc,.own (.int .i64)]) [.box [.ro (.int .u8),.sc,.sc]] (fun a=>dT k a.1 a.2.1 a.2.2) (by kernel_rfl) fun a=>by kernel_rfl
def y4g (k:Nat):O Try.prog 41:=fc (tt:=tt) [⟨76,yo k⟩,⟨82,y3g k⟩,⟨83,y3x k⟩,⟨84,y4e k⟩,⟨85,y4f k⟩] {f:=fun E=>{E with wr:=fun g=>mem g [76,82,83,84,85],wt:=true}} Try.func41 [.one (.sl (.int .u8))] (cdL (.int .u8)) ⟨.tup [.agg [.h 0,.h 1,.h 2,.own 0],.agg [.h 4,.h 5,.h 6,.own 1]],[.arr none (.st .aJ) 3,.arr none (.int .i64) 7]⟩ ((cdS .model).p (cdS .bW)) (.tup [.agg [.sc,.sc,.sc,.own (.st .aJ)],.agg [.sc,.sc,.sc,.own (.int .i64)]]) (fun a=>eV k a) (by kernel_rfl) fun a=>by kernel_rfl
noncomputable def y4h (k:Nat):Env:=jl (P:=Try.prog) tt [⟨66,yu k⟩,⟨101,yv k⟩,⟨117,y2u k⟩]
theorem y4i (k:Nat):cd (y4h k):=fun g=>bm _ g
noncomputable def y4j:Code:=(Try.f90.body).getD .skip
noncomputable def y4k:Code:=((aK 0 y4j).getD 0 (0,.skip)).2
def y4l:List Nat:=[1,4,5]
def y4m:List (aQ× Co):=[]
def y4n:Ex→List Nat
  |.exit j=>cond (Nat.beq j 0) [4] []
  |.ret=>[2,3]
  |.normal=>[]
def y4o:Ex→List (aQ× Co)
  |.exit j=>cond (Nat.beq j 0) [] []
  |.ret=>[]
  |.normal=>[]
def y4p (pv:(Int× Int× Int× List ai)× (Int× List Shape)):St:={ax:=[(1,.ptr 0 0 0),(4,.own 1),(5,.r [] (.int .i64 pv.2.1))],heap:=[(0,.box [.r [] (.int .i64 pv.1.1),.r [] (.int .i64 pv.1.2.1),.r [] (.int .i64 pv.1.2.2.1),.r [] (.sl (.st .aJ) pv.1.2.2.2)]),(1,.arr none (.st .shape) pv.2.2)],nid:=2,n:=49,gh:=[]}
def y4q (nf:NF):Option ((Int× Int× Int× List ai)× (Int× List Shape)):=match nf with
  |([.ptr 0 0 0,.own 1,.r [] (.int .i64 w0)],[.box [.r [] (.int .i64 w1),.r [] (.int .i64 w2),.r [] (.int .i64 w3),.r [] (.sl (.st .aJ) w4)],.arr none (.st .shape) w5],[])=>some ((w1,w2,w3,w4),(w0,w5))
  |_=>none
theorem y4r (nf:NF) (v:(Int× Int× Int× List ai)× (Int× List Shape)) (h:y4q nf=some v):al y4l 49 nf=y4p v:=by
  unfold y4q at h
  split at h
  · cases h;rfl
  · cases h
def y4s (p:Int× Int× Int× List ai) (x:List Shape):St:={ax:=[(4,.own 0)],heap:=[(0,.arr none (.st .shape) x)],nid:=1,n:=49,gh:=[]}
def y4t (p:Int× Int× Int× List ai) (x:Bool):St:={ax:=[(2,.bw),(3,.r [] (.bool x))],heap:=[],nid:=0,n:=49,gh:=[]}
def y4u (ρ:Type) (k:Nat):Nat→Ev ρ→Ev ρ:=fun id f=>cond (Nat.beq id 0) (aX y4l y4m (fun n nf=>cond (Nat.beq n 49) (y4q nf) none) fun pv K=>iter (fun v next=>cC k pv.1 v next (fun x=>K (.exit 0) (y4s pv.1 x)) (fun x=>K .ret (y4t pv.1 x))) k pv.2) ((fun _ _ _ _=>none) id f)
theorem y4v {ρ:Type} (k:Nat) (p:Int× Int× Int× List ai) (v:Int× List Shape) (K K1:Ex→St→Option ρ):ev (y4h k) (y4u ρ k) 0 y4k (y4p (p,v)) (fun e st'=>match e with
    |.normal=>(aW y4l y4m st').bind fun nf=>K1 .normal (al y4l st'.n nf)
    |e=>(aW (y4n e) (y4o e) st').bind fun nf=>K e (al (y4n e) st'.n nf))=cC k p v (fun v'=>K1 .normal (y4p (p,v'))) (fun x=>K (.exit 0) (y4s p x)) (fun x=>K .ret (y4t p x)):=by kernel_rfl
theorem y4w {ρ:Type} (k:Nat):Sound Try.prog (.loop y4k) (y4u ρ k 0 fun st K=>ev (y4h k) (y4u ρ k) 0 y4k st K):=
  bg (aG (y4i k) y4k 0 (av (by kernel_rfl))) y4n y4o k (g:=fun p v next K=>cC k p v next (fun x=>K (.exit 0) (y4s p x)) (fun x=>K .ret (y4t p x))) (bz y4r) (fun p v K K1=>y4v k p v K K1)
def y4x (k:Nat):O Try.prog 90:=⟨oP [.agg [(.int .i64),(.int .i64),(.int .i64),(.sl (.st .aJ))]] (cdS .model) ⟨.tup [.own 0,.h 1],[.arr none (.st .shape) 0]⟩ ((cdL (.st .shape)).p cdB) fun a=>jL k a,okP (LP:=y4u _ k) (y4i k) Try.func90 (by kernel_rfl) (by kernel_rfl) (by kernel_rfl) (aI (l:=[(0,y4k)]) (by kernel_rfl) ⟨y4w k,trivial⟩) (.tup [.own (.st .shape),.sc]) fun a=>by kernel_rfl⟩
def y4y (k:Nat):O Try.prog 45:=fc (tt:=tt) [⟨90,y4x k⟩] .id Try.func45 [.agg [(.int .i64),(.int .i64),(.int .i64),(.sl (.st .aJ))]] (cdS .model) ⟨.h 0,[]⟩ cdB (.sc) (fun a=>iZ k a) (by kernel_rfl) fun a=>by kernel_rfl
noncomputable def y4z (k:Nat):Env:=jl (P:=Try.prog) tt [⟨101,yv k⟩,⟨102,yw k⟩,⟨103,y1v k⟩]
theorem y50 (k:Nat):cd (y4z k):=fun g=>bm _ g
noncomputable def y51:Code:=(Try.f59.body).getD .skip
noncomputable def y52:Code:=((aK 0 y51).getD 0 (0,.skip)).2
def y53:List Nat:=[1,3]
def y54:List (aQ× Co):=[]
def y55:Ex→List Nat
  |.exit j=>cond (Nat.beq j 0) [] []
  |.ret=>[2]
  |.normal=>[]
def y56:Ex→List (aQ× Co)
  |.exit j=>cond (Nat.beq j 0) [] []
  |.ret=>[]
  |.normal=>[]
def y57 (pv:(Int× Int× Int× List Int)× (Int)):St:={ax:=[(1,.ptr 0 0 0),(3,.r [] (.int .i64 pv.2))],heap:=[(0,.box [.r [] (.int .i64 pv.1.1),.r [] (.int .i64 pv.1.2.1),.r [] (.int .i64 pv.1.2.2.1),.r [] (.sl (.int .i64) pv.1.2.2.2)])],nid:=1,n:=31,gh:=[]}
def y58 (nf:NF):Option ((Int× Int× Int× List Int)× (Int)):=match nf with
  |([.ptr 0 0 0,.r [] (.int .i64 w0)],[.box [.r [] (.int .i64 w1),.r [] (.int .i64 w2),.r [] (.int .i64 w3),.r [] (.sl (.int .i64) w4)]],[])=>some ((w1,w2,w3,w4),w0)
  |_=>none
theorem y5a (nf:NF) (v:(Int× Int× Int× List Int)× (Int)) (h:y58 nf=some v):al y53 31 nf=y57 v:=by
  unfold y58 at h
  split at h
  · cases h;rfl
  · cases h
def y5b (p:Int× Int× Int× List Int) (x:Unit):St:={ax:=[],heap:=[],nid:=0,n:=31,gh:=[]}
def y5c (p:Int× Int× Int× List Int) (x:Bool):St:={ax:=[(2,.r [] (.bool x))],heap:=[],nid:=0,n:=31,gh:=[]}
def y5d (ρ:Type) (k:Nat):Nat→Ev ρ→Ev ρ:=fun id f=>cond (Nat.beq id 0) (aX y53 y54 (fun n nf=>cond (Nat.beq n 31) (y58 nf) none) fun pv K=>iter (fun v next=>dy k pv.1 v next (fun x=>K (.exit 0) (y5b pv.1 x)) (fun x=>K .ret (y5c pv.1 x))) k pv.2) ((fun _ _ _ _=>none) id f)
theorem y5e {ρ:Type} (k:Nat) (p:Int× Int× Int× List Int) (v:Int) (K K1:Ex→St→Option ρ):ev (y4z k) (y5d ρ k) 0 y52 (y57 (p,v)) (fun e st'=>match e with
    |.normal=>(aW y53 y54 st').bind fun nf=>K1 .normal (al y53 st'.n nf)
    |e=>(aW (y55 e) (y56 e) st').bind fun nf=>K e (al (y55 e) st'.n nf))=dy k p v (fun v'=>K1 .normal (y57 (p,v'))) (fun x=>K (.exit 0) (y5b p x)) (fun x=>K .ret (y5c p x)):=by kernel_rfl
theorem y5f {ρ:Type} (k:Nat):Sound Try.prog (.loop y52) (y5d ρ k 0 fun st K=>ev (y4z k) (y5d ρ k) 0 y52 st K):=
  bg (aG (y50 k) y52 0 (av (by kernel_rfl))) y55 y56 k (g:=fun p v next K=>dy k p v next (fun x=>K (.exit 0) (y5b p x)) (fun x=>K .ret (y5c p x))) (bz y5a) (fun p v K K1=>y5e k p v K K1)
def y5g (k:Nat):O Try.prog 59:=⟨oP [.agg [(.int .i64),(.int .i64),(.int .i64),(.sl (.int .i64))]] (cdS .bW) ⟨.h 0,[]⟩ cdB fun a=>gx k a,okP (LP:=y5d _ k) (y50 k) Try.func59 (by kernel_rfl) (by kernel_rfl) (by kernel_rfl) (aI (l:=[(0,y52)]) (by kernel_rfl) ⟨y5f k,trivial⟩) (.sc) fun a=>by kernel_rfl⟩
noncomputable def y5h (k:Nat):Env:=jl (P:=Try.prog) tt []
theorem y5i (k:Nat):cd (y5h k):=fun g=>bm _ g
noncomputable def y5j:Code:=(Try.f60.body).getD .skip
noncomputable def y5k:Code:=((aK 0 y5j).getD 0 (0,.skip)).2
def y5l:List Nat:=[0,3,4]
def y5m:List (aQ× Co):=[]
def y5n:Ex→List Nat
  |.exit j=>cond (Nat.beq j 0) [3] []
  |.ret=>[]
  |.normal=>[]
def y5o:Ex→List (aQ× Co)
  |.exit j=>cond (Nat.beq j 0) [] []
  |.ret=>[]
  |.normal=>[]
def y5p (pv:(List Int)× (Int× List Int)):St:={ax:=[(0,.r [] (.sl (.int .i64) pv.1)),(3,.own 0),(4,.r [] (.int .i64 pv.2.1))],heap:=[(0,.arr none (.int .i64) pv.2.2)],nid:=1,n:=20,gh:=[]}
def y5q (nf:NF):Option ((List Int)× (Int× List Int)):=match nf with
  |([.r [] (.sl (.int .i64) w0),.own 0,.r [] (.int .i64 w1)],[.arr none (.int .i64) w2],[])=>some (w0,(w1,w2))
  |_=>none
theorem y5r (nf:NF) (v:(List Int)× (Int× List Int)) (h:y5q nf=some v):al y5l 20 nf=y5p v:=by
  unfold y5q at h
  split at h
  · cases h;rfl
  · cases h
def y5s (p:List Int) (x:List Int):St:={ax:=[(3,.own 0)],heap:=[(0,.arr none (.int .i64) x)],nid:=1,n:=20,gh:=[]}
def y5t (ρ:Type) (k:Nat):Nat→Ev ρ→Ev ρ:=fun id f=>cond (Nat.beq id 0) (aX y5l y5m (fun n nf=>cond (Nat.beq n 20) (y5q nf) none) fun pv K=>iter (fun v next=>dk k pv.1 v next (fun x=>K (.exit 0) (y5s pv.1 x))) k pv.2) ((fun _ _ _ _=>none) id f)
theorem y5u {ρ:Type} (k:Nat) (p:List Int) (v:Int× List Int) (K K1:Ex→St→Option ρ):ev (y5h k) (y5t ρ k) 0 y5k (y5p (p,v)) (fun e st'=>match e with
    |.normal=>(aW y5l y5m st').bind fun nf=>K1 .normal (al y5l st'.n nf)
    |e=>(aW (y5n e) (y5o e) st').bind fun nf=>K e (al (y5n e) st'.n nf))=dk k p v (fun v'=>K1 .normal (y5p (p,v'))) (fun x=>K (.exit 0) (y5s p x)):=by kernel_rfl
theorem y5v {ρ:Type} (k:Nat):Sound Try.prog (.loop y5k) (y5t ρ k 0 fun st K=>ev (y5h k) (y5t ρ k) 0 y5k st K):=
  bg (aG (y5i k) y5k 0 (av (by kernel_rfl))) y5n y5o k (g:=fun p v next K=>dk k p v next (fun x=>K (.exit 0) (y5s p x))) (bz y5r) (fun p v K K1=>y5u k p v K K1)
def y5w (k:Nat):O Try.prog 60:=⟨oP [.one (.sl (.int .i64))] (cdL (.int .i64)) ⟨.own 0,[.arr none (.int .i64) 0]⟩ (cdL (.int .i64)) fun a=>mQ k a,okP (LP:=y5t _ k) (y5i k) Try.func60 (by kernel_rfl) (by kernel_rfl) (by kernel_rfl) (aI (l:=[(0,y5k)]) (by kernel_rfl) ⟨y5v k,trivial⟩) (.own (.int .i64)) fun a=>by kernel_rfl⟩
def y5x (k:Nat):O Try.prog 86:=fc (tt:=tt) [⟨60,y5w k⟩] .id Try.func86 [.agg [(.int .i64),(.int .i64),(.int .i64),(.sl (.int .i64))]] (cdS .bW) ⟨.agg [.h 0,.h 1,.h 2,.own 0],[.arr none (.int .i64) 3]⟩ (cdS .bW) (.agg [.sc,.sc,.sc,.own (.int .i64)]) (fun a=>mR k a) (by kernel_rfl) fun a=>by kernel_rfl
def y5y (k:Nat):O Try.prog 164:=fc (tt:=tt) [] .id Try.func164 [.one (.int .i64),.one (.int .i64),.one (.int .i64)] (cdZ.p (cdZ.p cdZ)) ⟨.h 0,[]⟩ cdZ (.sc) (fun a=>ja k a.1 a.2.1 a.2.2) (by kernel_rfl) fun a=>by kernel_rfl
def y5z (k:Nat):O Try.prog 153:=fc (tt:=tt) [⟨164,y5y k⟩] .id Try.func153 [.one (.int .i64)] cdZ ⟨.h 0,[]⟩ cdZ (.sc) (fun a=>p8 k a) (by kernel_rfl) fun a=>by kernel_rfl
def y60 (k:Nat):O Try.prog 156:=fc (tt:=tt) [⟨164,y5y k⟩] .id Try.func156 [.one (.int .i64)] cdZ ⟨.h 0,[]⟩ cdZ (.sc) (fun a=>iF k a) (by kernel_rfl) fun a=>by kernel_rfl
def y62 (k:Nat):O Try.prog 134:=fc (tt:=tt) [⟨156,y60 k⟩] .id Try.func134 [.one (.int .i64),.one (.int .i64)] (cdZ.p cdZ) ⟨.h 0,[]⟩ cdZ (.sc) (fun a=>ig k a.1 a.2) (by kernel_rfl) fun a=>by kernel_rfl
noncomputable def y63 (k:Nat):Env:=jl (P:=Try.prog) tt [⟨134,y62 k⟩,⟨153,y5z k⟩]
theorem y64 (k:Nat):cd (y63 k):=fun g=>bm _ g
noncomputable def y65:Code:=(Try.f135.body).getD .skip
noncomputable def y66:Code:=((aK 0 y65).getD 0 (0,.skip)).2
def y67:List Nat:=[0,1,5,6]
def y68:List (aQ× Co):=[]
def y69:Ex→List Nat
  |.exit j=>cond (Nat.beq j 0) [5] []
  |.ret=>[]
  |.normal=>[]
def y6a:Ex→List (aQ× Co)
  |.exit j=>cond (Nat.beq j 0) [] []
  |.ret=>[]
  |.normal=>[]
def y6b (pv:(List Int× List Int)× (Int× Int)):St:={ax:=[(0,.r [] (.sl (.int .i64) pv.1.1)),(1,.r [] (.sl (.int .i64) pv.1.2)),(5,.r [] (.int .i64 pv.2.1)),(6,.r [] (.int .i64 pv.2.2))],heap:=[],nid:=0,n:=33,gh:=[]}
def y6c (nf:NF):Option ((List Int× List Int)× (Int× Int)):=match nf with
  |([.r [] (.sl (.int .i64) w0),.r [] (.sl (.int .i64) w1),.r [] (.int .i64 w2),.r [] (.int .i64 w3)],[],[])=>some ((w0,w1),(w2,w3))
  |_=>none
theorem y6d (nf:NF) (v:(List Int× List Int)× (Int× Int)) (h:y6c nf=some v):al y67 33 nf=y6b v:=by
  unfold y6c at h
  split at h
  · cases h;rfl
  · cases h
def y6e (p:List Int× List Int) (x:Int):St:={ax:=[(5,.r [] (.int .i64 x))],heap:=[],nid:=0,n:=33,gh:=[]}
def y6f (ρ:Type) (k:Nat):Nat→Ev ρ→Ev ρ:=fun id f=>cond (Nat.beq id 0) (aX y67 y68 (fun n nf=>cond (Nat.beq n 33) (y6c nf) none) fun pv K=>iter (fun v next=>gB k pv.1 v next (fun x=>K (.exit 0) (y6e pv.1 x))) k pv.2) ((fun _ _ _ _=>none) id f)
theorem y6g {ρ:Type} (k:Nat) (p:List Int× List Int) (v:Int× Int) (K K1:Ex→St→Option ρ):ev (y63 k) (y6f ρ k) 0 y66 (y6b (p,v)) (fun e st'=>match e with
    |.normal=>(aW y67 y68 st').bind fun nf=>K1 .normal (al y67 st'.n nf)
    |e=>(aW (y69 e) (y6a e) st').bind fun nf=>K e (al (y69 e) st'.n nf))=gB k p v (fun v'=>K1 .normal (y6b (p,v'))) (fun x=>K (.exit 0) (y6e p x)):=by kernel_rfl
theorem y6h {ρ:Type} (k:Nat):Sound Try.prog (.loop y66) (y6f ρ k 0 fun st K=>ev (y63 k) (y6f ρ k) 0 y66 st K):=
  bg (aG (y64 k) y66 0 (av (by kernel_rfl))) y69 y6a k (g:=fun p v next K=>gB k p v next (fun x=>K (.exit 0) (y6e p x))) (bz y6d) (fun p v K K1=>y6g k p v K K1)
def y6i (k:Nat):O Try.prog 135:=⟨oP [.one (.sl (.int .i64)),.one (.sl (.int .i64))] ((cdL (.int .i64)).p (cdL (.int .i64))) ⟨.h 0,[]⟩ cdZ fun a=>s8 k a.1 a.2,okP (LP:=y6f _ k) (y64 k) Try.func135 (by kernel_rfl) (by kernel_rfl) (by kernel_rfl) (aI (l:=[(0,y66)]) (by kernel_rfl) ⟨y6h k,trivial⟩) (.sc) fun a=>by kernel_rfl⟩
def y6j (k:Nat):O Try.prog 165:=fc (tt:=tt) [] .id Try.func165 [.one (.int .i64),.one (.int .i64)] (cdZ.p cdZ) ⟨.h 0,[]⟩ cdZ (.sc) (fun a=>mT k a.1 a.2) (by kernel_rfl) fun a=>by kernel_rfl
def y6k (k:Nat):O Try.prog 155:=fc (tt:=tt) [⟨156,y60 k⟩,⟨165,y6j k⟩] .id Try.func155 [.one (.int .i64),.one (.int .i64)] (cdZ.p cdZ) ⟨.h 0,[]⟩ cdZ (.sc) (fun a=>mU k a.1 a.2) (by kernel_rfl) fun a=>by kernel_rfl
def y6l (k:Nat):O Try.prog 154:=fc (tt:=tt) [⟨156,y60 k⟩,⟨164,y5y k⟩] .id Try.func154 [.one (.int .i64),.one (.int .i64)] (cdZ.p cdZ) ⟨.h 0,[]⟩ cdZ (.sc) (fun a=>ij k a.1 a.2) (by kernel_rfl) fun a=>by kernel_rfl
def y6m (k:Nat):O Try.prog 133:=fc (tt:=tt) [⟨153,y5z k⟩,⟨154,y6l k⟩,⟨155,y6k k⟩] .id Try.func133 [.one (.int .i64),.one (.int .i64),.one (.int .i64),.one (.int .i64)] (cdZ.p (cdZ.p (cdZ.p cdZ))) ⟨.h 0,[]⟩ cdZ (.sc) (fun a=>jb k a.1 a.2.1 a.2.2.1 a.2.2.2) (by kernel_rfl) fun a=>by kernel_rfl
def y6n (k:Nat):O Try.prog 157:=fc (tt:=tt) [⟨66,yu k⟩,⟨101,yv k⟩] .id Try.func157 [.agg [(.int .i64),(.int .i64),(.int .i64)],.one (.int .i64),.one (.int .i64),.one (.int .i64)] ((cdS .shape).p (cdZ.p (cdZ.p cdZ))) ⟨.h 0,[]⟩ cdZ (.sc) (fun a=>p9 k a.1 a.2.1 a.2.2.1 a.2.2.2) (by kernel_rfl) fun a=>by kernel_rfl
def y6o (k:Nat):O Try.prog 136:=fc (tt:=tt) [⟨59,y5g k⟩,⟨157,y6n k⟩] .id Try.func136 [.agg [(.int .i64),(.int .i64),(.int .i64),(.sl (.int .i64))],.one (.int .i64),.one (.int .i64),.one (.int .i64)] ((cdS .bW).p (cdZ.p (cdZ.p cdZ))) ⟨.tup [.h 0,.h 1],[]⟩ (cdZ.p cdB) (.tup [.sc,.sc]) (fun a=>jN k a.1 a.2.1 a.2.2.1 a.2.2.2) (by kernel_rfl) fun a=>by kernel_rfl
noncomputable def y6p (k:Nat):Env:=jl (P:=Try.prog) tt [⟨136,y6o k⟩]
theorem y6q (k:Nat):cd (y6p k):=fun g=>bm _ g
noncomputable def y6r:Code:=(Try.f137.body).getD .skip
noncomputable def y6s:Code:=((aK 0 y6r).getD 0 (0,.skip)).2
noncomputable def y6t:Code:=((aK 0 y6s).getD 0 (0,.skip)).2
def y6u:List Nat:=[2,3,4,5,6,11,12,13]
def y6v:List (aQ× Co):=[]
def y6w:Ex→List Nat
  |.exit j=>cond (Nat.beq j 2) [2,3,4,5,6,11,12] []
  |.ret=>[]
  |.normal=>[]
def y6x:Ex→List (aQ× Co)
  |.exit j=>cond (Nat.beq j 2) [] []
  |.ret=>[]
  |.normal=>[]
def y6y (pv:(Int× Int× Int× Int× Int× Int× Int× List Int× Int× Int× Int× Int× Int× Int× Int× List Int× List Int)× (Int× List Int)):St:={ax:=[(2,.r [] (.int .i64 pv.1.1)),(3,.r [] (.int .i64 pv.1.2.1)),(4,.r [] (.int .i64 pv.1.2.2.1)),(5,.ptr 0 0 0),(6,.ptr 1 0 0),(11,.own 2),(12,.r [] (.int .i64 pv.1.2.2.2.1)),(13,.r [] (.int .i64 pv.2.1))],heap:=[(0,.box [.r [] (.int .i64 pv.1.2.2.2.2.1),.r [] (.int .i64 pv.1.2.2.2.2.2.1),.r [] (.int .i64 pv.1.2.2.2.2.2.2.1),.r [] (.sl (.int .i64) pv.1.2.2.2.2.2.2.2.1)]),(1,.box [.r [] (.int .i64 pv.1.2.2.2.2.2.2.2.2.1),.r [] (.int .i64 pv.1.2.2.2.2.2.2.2.2.2.1),.r [] (.int .i64 pv.1.2.2.2.2.2.2.2.2.2.2.1),.r [] (.int .i64 pv.1.2.2.2.2.2.2.2.2.2.2.2.1),.r [] (.int .i64 pv.1.2.2.2.2.2.2.2.2.2.2.2.2.1),.r [] (.int .i64 pv.1.2.2.2.2.2.2.2.2.2.2.2.2.2.1),.r [] (.int .i64 pv.1.2.2.2.2.2.2.2.2.2.2.2.2.2.2.1),.r [] (.sl (.int .i64) pv.1.2.2.2.2.2.2.2.2.2.2.2.2.2.2.2.1),.r [] (.sl (.int .i64) pv.1.2.2.2.2.2.2.2.2.2.2.2.2.2.2.2.2)]),(2,.arr none (.int .i64) pv.2.2)],nid:=3,n:=52,gh:=[]}
def y6z (nf:NF):Option ((Int× Int× Int× Int× Int× Int× Int× List Int× Int× Int× Int× Int× Int× Int× Int× List Int× List Int)× (Int× List Int)):=match nf with
  |([.r [] (.int .i64 w0),.r [] (.int .i64 w1),.r [] (.int .i64 w2),.ptr 0 0 0,.ptr 1 0 0,.own 2,.r [] (.int .i64 w3),.r [] (.int .i64 w4)],[.box [.r [] (.int .i64 w5),.r [] (.int .i64 w6),.r [] (.int .i64 w7),.r [] (.sl (.int .i64) w8)],.box [.r [] (.int .i64 w9),.r [] (.int .i64 w10),.r [] (.int .i64 w11),.r [] (.int .i64 w12),.r [] (.int .i64 w13),.r [] (.int .i64 w14),.r [] (.int .i64 w15),.r [] (.sl (.int .i64) w16),.r [] (.sl (.int .i64) w17)],.arr none (.int .i64) w18],[])=>some ((w0,w1,w2,w3,w5,w6,w7,w8,w9,w10,w11,w12,w13,w14,w15,w16,w17),(w4,w18))
  |_=>none
theorem y70 (nf:NF) (v:(Int× Int× Int× Int× Int× Int× Int× List Int× Int× Int× Int× Int× Int× Int× Int× List Int× List Int)× (Int× List Int)) (h:y6z nf=some v):al y6u 52 nf=y6y v:=by
  unfold y6z at h
  split at h
  · cases h;rfl
  · cases h
def y71 (p:Int× Int× Int× Int× Int× Int× Int× List Int× Int× Int× Int× Int× Int× Int× Int× List Int× List Int) (x:List Int):St:={ax:=[(2,.r [] (.int .i64 p.1)),(3,.r [] (.int .i64 p.2.1)),(4,.r [] (.int .i64 p.2.2.1)),(5,.ptr 0 0 0),(6,.ptr 1 0 0),(11,.own 2),(12,.r [] (.int .i64 p.2.2.2.1))],heap:=[(0,.box [.r [] (.int .i64 p.2.2.2.2.1),.r [] (.int .i64 p.2.2.2.2.2.1),.r [] (.int .i64 p.2.2.2.2.2.2.1),.r [] (.sl (.int .i64) p.2.2.2.2.2.2.2.1)]),(1,.box [.r [] (.int .i64 p.2.2.2.2.2.2.2.2.1),.r [] (.int .i64 p.2.2.2.2.2.2.2.2.2.1),.r [] (.int .i64 p.2.2.2.2.2.2.2.2.2.2.1),.r [] (.int .i64 p.2.2.2.2.2.2.2.2.2.2.2.1),.r [] (.int .i64 p.2.2.2.2.2.2.2.2.2.2.2.2.1),.r [] (.int .i64 p.2.2.2.2.2.2.2.2.2.2.2.2.2.1),.r [] (.int .i64 p.2.2.2.2.2.2.2.2.2.2.2.2.2.2.1),.r [] (.sl (.int .i64) p.2.2.2.2.2.2.2.2.2.2.2.2.2.2.2.1),.r [] (.sl (.int .i64) p.2.2.2.2.2.2.2.2.2.2.2.2.2.2.2.2)]),(2,.arr none (.int .i64) x)],nid:=3,n:=52,gh:=[]}
def y72:List Nat:=[2,3,4,5,6,11,12]
def y73:List (aQ× Co):=[]
def y74:Ex→List Nat
  |.exit j=>cond (Nat.beq j 0) [11] []
  |.ret=>[]
  |.normal=>[]
def y75:Ex→List (aQ× Co)
  |.exit j=>cond (Nat.beq j 0) [] []
  |.ret=>[]
  |.normal=>[]
def y76 (pv:(Int× Int× Int× Int× Int× Int× List Int× Int× Int× Int× Int× Int× Int× Int× List Int× List Int)× (Int× List Int)):St:={ax:=[(2,.r [] (.int .i64 pv.1.1)),(3,.r [] (.int .i64 pv.1.2.1)),(4,.r [] (.int .i64 pv.1.2.2.1)),(5,.ptr 0 0 0),(6,.ptr 1 0 0),(11,.own 2),(12,.r [] (.int .i64 pv.2.1))],heap:=[(0,.box [.r [] (.int .i64 pv.1.2.2.2.1),.r [] (.int .i64 pv.1.2.2.2.2.1),.r [] (.int .i64 pv.1.2.2.2.2.2.1),.r [] (.sl (.int .i64) pv.1.2.2.2.2.2.2.1)]),(1,.box [.r [] (.int .i64 pv.1.2.2.2.2.2.2.2.1),.r [] (.int .i64 pv.1.2.2.2.2.2.2.2.2.1),.r [] (.int .i64 pv.1.2.2.2.2.2.2.2.2.2.1),.r [] (.int .i64 pv.1.2.2.2.2.2.2.2.2.2.2.1),.r [] (.int .i64 pv.1.2.2.2.2.2.2.2.2.2.2.2.1),.r [] (.int .i64 pv.1.2.2.2.2.2.2.2.2.2.2.2.2.1),.r [] (.int .i64 pv.1.2.2.2.2.2.2.2.2.2.2.2.2.2.1),.r [] (.sl (.int .i64) pv.1.2.2.2.2.2.2.2.2.2.2.2.2.2.2.1),.r [] (.sl (.int .i64) pv.1.2.2.2.2.2.2.2.2.2.2.2.2.2.2.2)]),(2,.arr none (.int .i64) pv.2.2)],nid:=3,n:=52,gh:=[]}
def y77 (nf:NF):Option ((Int× Int× Int× Int× Int× Int× List Int× Int× Int× Int× Int× Int× Int× Int× List Int× List Int)× (Int× List Int)):=match nf with
  |([.r [] (.int .i64 w0),.r [] (.int .i64 w1),.r [] (.int .i64 w2),.ptr 0 0 0,.ptr 1 0 0,.own 2,.r [] (.int .i64 w3)],[.box [.r [] (.int .i64 w4),.r [] (.int .i64 w5),.r [] (.int .i64 w6),.r [] (.sl (.int .i64) w7)],.box [.r [] (.int .i64 w8),.r [] (.int .i64 w9),.r [] (.int .i64 w10),.r [] (.int .i64 w11),.r [] (.int .i64 w12),.r [] (.int .i64 w13),.r [] (.int .i64 w14),.r [] (.sl (.int .i64) w15),.r [] (.sl (.int .i64) w16)],.arr none (.int .i64) w17],[])=>some ((w0,w1,w2,w4,w5,w6,w7,w8,w9,w10,w11,w12,w13,w14,w15,w16),(w3,w17))
  |_=>none
theorem y78 (nf:NF) (v:(Int× Int× Int× Int× Int× Int× List Int× Int× Int× Int× Int× Int× Int× Int× List Int× List Int)× (Int× List Int)) (h:y77 nf=some v):al y72 52 nf=y76 v:=by
  unfold y77 at h
  split at h
  · cases h;rfl
  · cases h
def y79 (p:Int× Int× Int× Int× Int× Int× List Int× Int× Int× Int× Int× Int× Int× Int× List Int× List Int) (x:List Int):St:={ax:=[(11,.own 0)],heap:=[(0,.arr none (.int .i64) x)],nid:=1,n:=52,gh:=[]}
def y7a (ρ:Type) (k:Nat):Nat→Ev ρ→Ev ρ:=fun id f=>cond (Nat.beq id 0) (aX y72 y73 (fun n nf=>cond (Nat.beq n 52) (y77 nf) none) fun pv K=>iter (fun v next=>er k pv.1 v next (fun x=>K (.exit 0) (y79 pv.1 x))) k pv.2) ((fun id f=>cond (Nat.beq id 2) (aX y6u y6v (fun n nf=>cond (Nat.beq n 52) (y6z nf) none) fun pv K=>iter (fun v next=>ep k pv.1 v next (fun x=>K (.exit 2) (y71 pv.1 x))) k pv.2) ((fun _ _ _ _=>none) id f)) id f)
theorem y7b {ρ:Type} (k:Nat) (p:Int× Int× Int× Int× Int× Int× Int× List Int× Int× Int× Int× Int× Int× Int× Int× List Int× List Int) (v:Int× List Int) (K K1:Ex→St→Option ρ):ev (y6p k) (y7a ρ k) 2 y6t (y6y (p,v)) (fun e st'=>match e with
    |.normal=>(aW y6u y6v st').bind fun nf=>K1 .normal (al y6u st'.n nf)
    |e=>(aW (y6w e) (y6x e) st').bind fun nf=>K e (al (y6w e) st'.n nf))=ep k p v (fun v'=>K1 .normal (y6y (p,v'))) (fun x=>K (.exit 2) (y71 p x)):=by kernel_rfl
theorem y7c {ρ:Type} (k:Nat):Sound Try.prog (.loop y6t) (y7a ρ k 2 fun st K=>ev (y6p k) (y7a ρ k) 2 y6t st K):=
  bg (aG (y6q k) y6t 2 (av (by kernel_rfl))) y6w y6x k (g:=fun p v next K=>ep k p v next (fun x=>K (.exit 2) (y71 p x))) (bz y70) (fun p v K K1=>y7b k p v K K1)
theorem y7d {ρ:Type} (k:Nat) (p:Int× Int× Int× Int× Int× Int× List Int× Int× Int× Int× Int× Int× Int× Int× List Int× List Int) (v:Int× List Int) (K K1:Ex→St→Option ρ):ev (y6p k) (y7a ρ k) 0 y6s (y76 (p,v)) (fun e st'=>match e with
    |.normal=>(aW y72 y73 st').bind fun nf=>K1 .normal (al y72 st'.n nf)
    |e=>(aW (y74 e) (y75 e) st').bind fun nf=>K e (al (y74 e) st'.n nf))=er k p v (fun v'=>K1 .normal (y76 (p,v'))) (fun x=>K (.exit 0) (y79 p x)):=by kernel_rfl
theorem y7e {ρ:Type} (k:Nat):Sound Try.prog (.loop y6s) (y7a ρ k 0 fun st K=>ev (y6p k) (y7a ρ k) 0 y6s st K):=
  bg (aG (y6q k) y6s 0 (aI (l:=[(2,y6t)]) (by kernel_rfl) ⟨y7c k,trivial⟩)) y74 y75 k (g:=fun p v next K=>er k p v next (fun x=>K (.exit 0) (y79 p x))) (bz y78) (fun p v K K1=>y7d k p v K K1)
def y7f (k:Nat):O Try.prog 137:=⟨oP [.agg [(.int .i64),(.int .i64),(.int .i64),(.sl (.int .i64))],.agg [(.int .i64),(.int .i64),(.int .i64),(.int .i64),(.int .i64),(.int .i64),(.int .i64),(.sl (.int .i64)),(.sl (.int .i64))],.one (.int .i64),.one (.int .i64),.one (.int .i64)] ((cdS .bW).p ((cdS .aJ).p (cdZ.p (cdZ.p cdZ)))) ⟨.own 0,[.arr none (.int .i64) 0]⟩ (cdL (.int .i64)) fun a=>gP k a.1 a.2.1 a.2.2.1 a.2.2.2.1 a.2.2.2.2,okP (LP:=y7a _ k) (y6q k) Try.func137 (by kernel_rfl) (by kernel_rfl) (by kernel_rfl) (aI (l:=[(0,y6s)]) (by kernel_rfl) ⟨y7e k,trivial⟩) (.own (.int .i64)) fun a=>by kernel_rfl⟩
noncomputable def y7g (k:Nat):Env:=jl (P:=Try.prog) tt [⟨102,yw k⟩,⟨133,y6m k⟩,⟨134,y62 k⟩,⟨135,y6i k⟩,⟨136,y6o k⟩,⟨137,y7f k⟩]
theorem y7h (k:Nat):cd (y7g k):=fun g=>bm _ g
noncomputable def y7i:Code:=(Try.f118.body).getD .skip
noncomputable def y7j:Code:=((aK 0 y7i).getD 0 (0,.skip)).2
noncomputable def y7k:Code:=((aK 1 y7j).getD 0 (0,.skip)).2
noncomputable def y7l:Code:=((aK 3 y7k).getD 0 (0,.skip)).2
noncomputable def y7m:Code:=((aK 0 y7i).getD 1 (0,.skip)).2
noncomputable def y7n:Code:=((aK 0 y7i).getD 2 (0,.skip)).2
def y7o:List Nat:=[2,3,4,5,6,11,13,14,15,16]
def y7p:List (aQ× Co):=[]
def y7q:Ex→List Nat
  |.exit j=>cond (Nat.beq j 5) [2,3,4,5,6,11,13,14,15] []
  |.ret=>[]
  |.normal=>[]
def y7r:Ex→List (aQ× Co)
  |.exit j=>cond (Nat.beq j 5) [] []
  |.ret=>[]
  |.normal=>[]
def y7s (pv:(Int× Int× Int× Int× Int× Int× Int× Int× List Int× Int× Int× Int× Int× Int× Int× Int× List Int× List Int× Int× Int× Int)× (Int× Int)):St:={ax:=[(2,.r [] (.int .i64 pv.1.1)),(3,.r [] (.int .i64 pv.1.2.1)),(4,.r [] (.int .i64 pv.1.2.2.1)),(5,.ptr 0 0 0),(6,.ptr 1 0 0),(11,.ptr 2 0 0),(13,.r [] (.int .i64 pv.2.1)),(14,.r [] (.int .i64 pv.1.2.2.2.1)),(15,.r [] (.int .i64 pv.1.2.2.2.2.1)),(16,.r [] (.int .i64 pv.2.2))],heap:=[(0,.box [.r [] (.int .i64 pv.1.2.2.2.2.2.1),.r [] (.int .i64 pv.1.2.2.2.2.2.2.1),.r [] (.int .i64 pv.1.2.2.2.2.2.2.2.1),.r [] (.sl (.int .i64) pv.1.2.2.2.2.2.2.2.2.1)]),(1,.box [.r [] (.int .i64 pv.1.2.2.2.2.2.2.2.2.2.1),.r [] (.int .i64 pv.1.2.2.2.2.2.2.2.2.2.2.1),.r [] (.int .i64 pv.1.2.2.2.2.2.2.2.2.2.2.2.1),.r [] (.int .i64 pv.1.2.2.2.2.2.2.2.2.2.2.2.2.1),.r [] (.int .i64 pv.1.2.2.2.2.2.2.2.2.2.2.2.2.2.1),.r [] (.int .i64 pv.1.2.2.2.2.2.2.2.2.2.2.2.2.2.2.1),.r [] (.int .i64 pv.1.2.2.2.2.2.2.2.2.2.2.2.2.2.2.2.1),.r [] (.sl (.int .i64) pv.1.2.2.2.2.2.2.2.2.2.2.2.2.2.2.2.2.1),.r [] (.sl (.int .i64) pv.1.2.2.2.2.2.2.2.2.2.2.2.2.2.2.2.2.2.1)]),(2,.box [.r [] (.int .i64 pv.1.2.2.2.2.2.2.2.2.2.2.2.2.2.2.2.2.2.2.1),.r [] (.int .i64 pv.1.2.2.2.2.2.2.2.2.2.2.2.2.2.2.2.2.2.2.2.1),.r [] (.int .i64 pv.1.2.2.2.2.2.2.2.2.2.2.2.2.2.2.2.2.2.2.2.2)])],nid:=3,n:=228,gh:=[]}
def y7t (nf:NF):Option ((Int× Int× Int× Int× Int× Int× Int× Int× List Int× Int× Int× Int× Int× Int× Int× Int× List Int× List Int× Int× Int× Int)× (Int× Int)):=match nf with
  |([.r [] (.int .i64 w0),.r [] (.int .i64 w1),.r [] (.int .i64 w2),.ptr 0 0 0,.ptr 1 0 0,.ptr 2 0 0,.r [] (.int .i64 w3),.r [] (.int .i64 w4),.r [] (.int .i64 w5),.r [] (.int .i64 w6)],[.box [.r [] (.int .i64 w7),.r [] (.int .i64 w8),.r [] (.int .i64 w9),.r [] (.sl (.int .i64) w10)],.box [.r [] (.int .i64 w11),.r [] (.int .i64 w12),.r [] (.int .i64 w13),.r [] (.int .i64 w14),.r [] (.int .i64 w15),.r [] (.int .i64 w16),.r [] (.int .i64 w17),.r [] (.sl (.int .i64) w18),.r [] (.sl (.int .i64) w19)],.box [.r [] (.int .i64 w20),.r [] (.int .i64 w21),.r [] (.int .i64 w22)]],[])=>some ((w0,w1,w2,w4,w5,w7,w8,w9,w10,w11,w12,w13,w14,w15,w16,w17,w18,w19,w20,w21,w22),(w3,w6))
  |_=>none
theorem y7u (nf:NF) (v:(Int× Int× Int× Int× Int× Int× Int× Int× List Int× Int× Int× Int× Int× Int× Int× Int× List Int× List Int× Int× Int× Int)× (Int× Int)) (h:y7t nf=some v):al y7o 228 nf=y7s v:=by
  unfold y7t at h
  split at h
  · cases h;rfl
  · cases h
def y7v (p:Int× Int× Int× Int× Int× Int× Int× Int× List Int× Int× Int× Int× Int× Int× Int× Int× List Int× List Int× Int× Int× Int) (x:Int):St:={ax:=[(2,.r [] (.int .i64 p.1)),(3,.r [] (.int .i64 p.2.1)),(4,.r [] (.int .i64 p.2.2.1)),(5,.ptr 0 0 0),(6,.ptr 1 0 0),(11,.ptr 2 0 0),(13,.r [] (.int .i64 x)),(14,.r [] (.int .i64 p.2.2.2.1)),(15,.r [] (.int .i64 p.2.2.2.2.1))],heap:=[(0,.box [.r [] (.int .i64 p.2.2.2.2.2.1),.r [] (.int .i64 p.2.2.2.2.2.2.1),.r [] (.int .i64 p.2.2.2.2.2.2.2.1),.r [] (.sl (.int .i64) p.2.2.2.2.2.2.2.2.1)]),(1,.box [.r [] (.int .i64 p.2.2.2.2.2.2.2.2.2.1),.r [] (.int .i64 p.2.2.2.2.2.2.2.2.2.2.1),.r [] (.int .i64 p.2.2.2.2.2.2.2.2.2.2.2.1),.r [] (.int .i64 p.2.2.2.2.2.2.2.2.2.2.2.2.1),.r [] (.int .i64 p.2.2.2.2.2.2.2.2.2.2.2.2.2.1),.r [] (.int .i64 p.2.2.2.2.2.2.2.2.2.2.2.2.2.2.1),.r [] (.int .i64 p.2.2.2.2.2.2.2.2.2.2.2.2.2.2.2.1),.r [] (.sl (.int .i64) p.2.2.2.2.2.2.2.2.2.2.2.2.2.2.2.2.1),.r [] (.sl (.int .i64) p.2.2.2.2.2.2.2.2.2.2.2.2.2.2.2.2.2.1)]),(2,.box [.r [] (.int .i64 p.2.2.2.2.2.2.2.2.2.2.2.2.2.2.2.2.2.2.1),.r [] (.int .i64 p.2.2.2.2.2.2.2.2.2.2.2.2.2.2.2.2.2.2.2.1),.r [] (.int .i64 p.2.2.2.2.2.2.2.2.2.2.2.2.2.2.2.2.2.2.2.2)])],nid:=3,n:=228,gh:=[]}
def y7w:List Nat:=[2,3,4,5,6,11,13,14,15]
def y7x:List (aQ× Co):=[]
def y7y:Ex→List Nat
  |.exit j=>cond (Nat.beq j 3) [2,3,4,5,6,11,13,14] []
  |.ret=>[]
  |.normal=>[]
def y7z:Ex→List (aQ× Co)
  |.exit j=>cond (Nat.beq j 3) [] []
  |.ret=>[]
  |.normal=>[]
def y80 (pv:(Int× Int× Int× Int× Int× Int× Int× List Int× Int× Int× Int× Int× Int× Int× Int× List Int× List Int× Int× Int× Int)× (Int× Int)):St:={ax:=[(2,.r [] (.int .i64 pv.1.1)),(3,.r [] (.int .i64 pv.1.2.1)),(4,.r [] (.int .i64 pv.1.2.2.1)),(5,.ptr 0 0 0),(6,.ptr 1 0 0),(11,.ptr 2 0 0),(13,.r [] (.int .i64 pv.2.1)),(14,.r [] (.int .i64 pv.1.2.2.2.1)),(15,.r [] (.int .i64 pv.2.2))],heap:=[(0,.box [.r [] (.int .i64 pv.1.2.2.2.2.1),.r [] (.int .i64 pv.1.2.2.2.2.2.1),.r [] (.int .i64 pv.1.2.2.2.2.2.2.1),.r [] (.sl (.int .i64) pv.1.2.2.2.2.2.2.2.1)]),(1,.box [.r [] (.int .i64 pv.1.2.2.2.2.2.2.2.2.1),.r [] (.int .i64 pv.1.2.2.2.2.2.2.2.2.2.1),.r [] (.int .i64 pv.1.2.2.2.2.2.2.2.2.2.2.1),.r [] (.int .i64 pv.1.2.2.2.2.2.2.2.2.2.2.2.1),.r [] (.int .i64 pv.1.2.2.2.2.2.2.2.2.2.2.2.2.1),.r [] (.int .i64 pv.1.2.2.2.2.2.2.2.2.2.2.2.2.2.1),.r [] (.int .i64 pv.1.2.2.2.2.2.2.2.2.2.2.2.2.2.2.1),.r [] (.sl (.int .i64) pv.1.2.2.2.2.2.2.2.2.2.2.2.2.2.2.2.1),.r [] (.sl (.int .i64) pv.1.2.2.2.2.2.2.2.2.2.2.2.2.2.2.2.2.1)]),(2,.box [.r [] (.int .i64 pv.1.2.2.2.2.2.2.2.2.2.2.2.2.2.2.2.2.2.1),.r [] (.int .i64 pv.1.2.2.2.2.2.2.2.2.2.2.2.2.2.2.2.2.2.2.1),.r [] (.int .i64 pv.1.2.2.2.2.2.2.2.2.2.2.2.2.2.2.2.2.2.2.2)])],nid:=3,n:=228,gh:=[]}
def y81 (nf:NF):Option ((Int× Int× Int× Int× Int× Int× Int× List Int× Int× Int× Int× Int× Int× Int× Int× List Int× List Int× Int× Int× Int)× (Int× Int)):=match nf with
  |([.r [] (.int .i64 w0),.r [] (.int .i64 w1),.r [] (.int .i64 w2),.ptr 0 0 0,.ptr 1 0 0,.ptr 2 0 0,.r [] (.int .i64 w3),.r [] (.int .i64 w4),.r [] (.int .i64 w5)],[.box [.r [] (.int .i64 w6),.r [] (.int .i64 w7),.r [] (.int .i64 w8),.r [] (.sl (.int .i64) w9)],.box [.r [] (.int .i64 w10),.r [] (.int .i64 w11),.r [] (.int .i64 w12),.r [] (.int .i64 w13),.r [] (.int .i64 w14),.r [] (.int .i64 w15),.r [] (.int .i64 w16),.r [] (.sl (.int .i64) w17),.r [] (.sl (.int .i64) w18)],.box [.r [] (.int .i64 w19),.r [] (.int .i64 w20),.r [] (.int .i64 w21)]],[])=>some ((w0,w1,w2,w4,w6,w7,w8,w9,w10,w11,w12,w13,w14,w15,w16,w17,w18,w19,w20,w21),(w3,w5))
  |_=>none
theorem y82 (nf:NF) (v:(Int× Int× Int× Int× Int× Int× Int× List Int× Int× Int× Int× Int× Int× Int× Int× List Int× List Int× Int× Int× Int)× (Int× Int)) (h:y81 nf=some v):al y7w 228 nf=y80 v:=by
  unfold y81 at h
  split at h
  · cases h;rfl
  · cases h
def y83 (p:Int× Int× Int× Int× Int× Int× Int× List Int× Int× Int× Int× Int× Int× Int× Int× List Int× List Int× Int× Int× Int) (x:Int):St:={ax:=[(2,.r [] (.int .i64 p.1)),(3,.r [] (.int .i64 p.2.1)),(4,.r [] (.int .i64 p.2.2.1)),(5,.ptr 0 0 0),(6,.ptr 1 0 0),(11,.ptr 2 0 0),(13,.r [] (.int .i64 x)),(14,.r [] (.int .i64 p.2.2.2.1))],heap:=[(0,.box [.r [] (.int .i64 p.2.2.2.2.1),.r [] (.int .i64 p.2.2.2.2.2.1),.r [] (.int .i64 p.2.2.2.2.2.2.1),.r [] (.sl (.int .i64) p.2.2.2.2.2.2.2.1)]),(1,.box [.r [] (.int .i64 p.2.2.2.2.2.2.2.2.1),.r [] (.int .i64 p.2.2.2.2.2.2.2.2.2.1),.r [] (.int .i64 p.2.2.2.2.2.2.2.2.2.2.1),.r [] (.int .i64 p.2.2.2.2.2.2.2.2.2.2.2.1),.r [] (.int .i64 p.2.2.2.2.2.2.2.2.2.2.2.2.1),.r [] (.int .i64 p.2.2.2.2.2.2.2.2.2.2.2.2.2.1),.r [] (.int .i64 p.2.2.2.2.2.2.2.2.2.2.2.2.2.2.1),.r [] (.sl (.int .i64) p.2.2.2.2.2.2.2.2.2.2.2.2.2.2.2.1),.r [] (.sl (.int .i64) p.2.2.2.2.2.2.2.2.2.2.2.2.2.2.2.2.1)]),(2,.box [.r [] (.int .i64 p.2.2.2.2.2.2.2.2.2.2.2.2.2.2.2.2.2.1),.r [] (.int .i64 p.2.2.2.2.2.2.2.2.2.2.2.2.2.2.2.2.2.2.1),.r [] (.int .i64 p.2.2.2.2.2.2.2.2.2.2.2.2.2.2.2.2.2.2.2)])],nid:=3,n:=228,gh:=[]}
def y84:List Nat:=[2,3,4,5,6,11,13,14]
def y85:List (aQ× Co):=[]
def y86:Ex→List Nat
  |.exit j=>cond (Nat.beq j 1) [4,6,13] []
  |.ret=>[]
  |.normal=>[]
def y88:Ex→List (aQ× Co)
  |.exit j=>cond (Nat.beq j 1) [] []
  |.ret=>[]
  |.normal=>[]
def y8a (pv:(Int× Int× Int× Int× Int× Int× List Int× Int× Int× Int× Int× Int× Int× Int× List Int× List Int× Int× Int× Int)× (Int× Int)):St:={ax:=[(2,.r [] (.int .i64 pv.1.1)),(3,.r [] (.int .i64 pv.1.2.1)),(4,.r [] (.int .i64 pv.1.2.2.1)),(5,.ptr 0 0 0),(6,.ptr 1 0 0),(11,.ptr 2 0 0),(13,.r [] (.int .i64 pv.2.1)),(14,.r [] (.int .i64 pv.2.2))],heap:=[(0,.box [.r [] (.int .i64 pv.1.2.2.2.1),.r [] (.int .i64 pv.1.2.2.2.2.1),.r [] (.int .i64 pv.1.2.2.2.2.2.1),.r [] (.sl (.int .i64) pv.1.2.2.2.2.2.2.1)]),(1,.box [.r [] (.int .i64 pv.1.2.2.2.2.2.2.2.1),.r [] (.int .i64 pv.1.2.2.2.2.2.2.2.2.1),.r [] (.int .i64 pv.1.2.2.2.2.2.2.2.2.2.1),.r [] (.int .i64 pv.1.2.2.2.2.2.2.2.2.2.2.1),.r [] (.int .i64 pv.1.2.2.2.2.2.2.2.2.2.2.2.1),.r [] (.int .i64 pv.1.2.2.2.2.2.2.2.2.2.2.2.2.1),.r [] (.int .i64 pv.1.2.2.2.2.2.2.2.2.2.2.2.2.2.1),.r [] (.sl (.int .i64) pv.1.2.2.2.2.2.2.2.2.2.2.2.2.2.2.1),.r [] (.sl (.int .i64) pv.1.2.2.2.2.2.2.2.2.2.2.2.2.2.2.2.1)]),(2,.box [.r [] (.int .i64 pv.1.2.2.2.2.2.2.2.2.2.2.2.2.2.2.2.2.1),.r [] (.int .i64 pv.1.2.2.2.2.2.2.2.2.2.2.2.2.2.2.2.2.2.1),.r [] (.int .i64 pv.1.2.2.2.2.2.2.2.2.2.2.2.2.2.2.2.2.2.2)])],nid:=3,n:=228,gh:=[]}
def y8b (nf:NF):Option ((Int× Int× Int× Int× Int× Int× List Int× Int× Int× Int× Int× Int× Int× Int× List Int× List Int× Int× Int× Int)× (Int× Int)):=match nf with
  |([.r [] (.int .i64 w0),.r [] (.int .i64 w1),.r [] (.int .i64 w2),.ptr 0 0 0,.ptr 1 0 0,.ptr 2 0 0,.r [] (.int .i64 w3),.r [] (.int .i64 w4)],[.box [.r [] (.int .i64 w5),.r [] (.int .i64 w6),.r [] (.int .i64 w7),.r [] (.sl (.int .i64) w8)],.box [.r [] (.int .i64 w9),.r [] (.int .i64 w10),.r [] (.int .i64 w11),.r [] (.int .i64 w12),.r [] (.int .i64 w13),.r [] (.int .i64 w14),.r [] (.int .i64 w15),.r [] (.sl (.int .i64) w16),.r [] (.sl (.int .i64) w17)],.box [.r [] (.int .i64 w18),.r [] (.int .i64 w19),.r [] (.int .i64 w20)]],[])=>some ((w0,w1,w2,w5,w6,w7,w8,w9,w10,w11,w12,w13,w14,w15,w16,w17,w18,w19,w20),(w3,w4))
  |_=>none
theorem y8c (nf:NF) (v:(Int× Int× Int× Int× Int× Int× List Int× Int× Int× Int× Int× Int× Int× Int× List Int× List Int× Int× Int× Int)× (Int× Int)) (h:y8b nf=some v):al y84 228 nf=y8a v:=by
  unfold y8b at h
  split at h
  · cases h;rfl
  · cases h
def y8d (p:Int× Int× Int× Int× Int× Int× List Int× Int× Int× Int× Int× Int× Int× Int× List Int× List Int× Int× Int× Int) (x:Int):St:={ax:=[(4,.r [] (.int .i64 p.2.2.1)),(6,.ptr 0 0 0),(13,.r [] (.int .i64 x))],heap:=[(0,.box [.r [] (.int .i64 p.2.2.2.2.2.2.2.1),.r [] (.int .i64 p.2.2.2.2.2.2.2.2.1),.r [] (.int .i64 p.2.2.2.2.2.2.2.2.2.1),.r [] (.int .i64 p.2.2.2.2.2.2.2.2.2.2.1),.r [] (.int .i64 p.2.2.2.2.2.2.2.2.2.2.2.1),.r [] (.int .i64 p.2.2.2.2.2.2.2.2.2.2.2.2.1),.r [] (.int .i64 p.2.2.2.2.2.2.2.2.2.2.2.2.2.1),.r [] (.sl (.int .i64) p.2.2.2.2.2.2.2.2.2.2.2.2.2.2.1),.r [] (.sl (.int .i64) p.2.2.2.2.2.2.2.2.2.2.2.2.2.2.2.1)])],nid:=1,n:=228,gh:=[]}
def y8e:List Nat:=[19,20,21]
def y8f:List (aQ× Co):=[]
def y8g:Ex→List Nat
  |.exit j=>cond (Nat.beq j 7) [20] []
  |.ret=>[]
  |.normal=>[]
def y8h:Ex→List (aQ× Co)
  |.exit j=>cond (Nat.beq j 7) [] []
  |.ret=>[]
  |.normal=>[]
def y8i (pv:(List Int)× (Int× Int)):St:={ax:=[(19,.own 0),(20,.r [] (.int .i64 pv.2.1)),(21,.r [] (.int .i64 pv.2.2))],heap:=[(0,.arr none (.int .i64) pv.1)],nid:=1,n:=228,gh:=[]}
def y8j (nf:NF):Option ((List Int)× (Int× Int)):=match nf with
  |([.own 0,.r [] (.int .i64 w0),.r [] (.int .i64 w1)],[.arr none (.int .i64) w2],[])=>some (w2,(w0,w1))
  |_=>none
theorem y8k (nf:NF) (v:(List Int)× (Int× Int)) (h:y8j nf=some v):al y8e 228 nf=y8i v:=by
  unfold y8j at h
  split at h
  · cases h;rfl
  · cases h
def y8l (p:List Int) (x:Int):St:={ax:=[(20,.r [] (.int .i64 x))],heap:=[],nid:=0,n:=228,gh:=[]}
def y8m:List Nat:=[22,23,24]
def y8n:List (aQ× Co):=[]
def y8o:Ex→List Nat
  |.exit j=>cond (Nat.beq j 9) [22,23] []
  |.ret=>[]
  |.normal=>[]
def y8p:Ex→List (aQ× Co)
  |.exit j=>cond (Nat.beq j 9) [] []
  |.ret=>[]
  |.normal=>[]
def y8q (pv:(List Int)× (Int× Int)):St:={ax:=[(22,.own 0),(23,.r [] (.int .i64 pv.2.1)),(24,.r [] (.int .i64 pv.2.2))],heap:=[(0,.arr none (.int .i64) pv.1)],nid:=1,n:=228,gh:=[]}
def y8r (nf:NF):Option ((List Int)× (Int× Int)):=match nf with
  |([.own 0,.r [] (.int .i64 w0),.r [] (.int .i64 w1)],[.arr none (.int .i64) w2],[])=>some (w2,(w0,w1))
  |_=>none
theorem y8s (nf:NF) (v:(List Int)× (Int× Int)) (h:y8r nf=some v):al y8m 228 nf=y8q v:=by
  unfold y8r at h
  split at h
  · cases h;rfl
  · cases h
def y8t (p:List Int) (x:Int):St:={ax:=[(22,.own 0),(23,.r [] (.int .i64 x))],heap:=[(0,.arr none (.int .i64) p)],nid:=1,n:=228,gh:=[]}
def y8u (ρ:Type) (k:Nat):Nat→Ev ρ→Ev ρ:=fun id f=>cond (Nat.beq id 9) (aX y8m y8n (fun n nf=>cond (Nat.beq n 228) (y8r nf) none) fun pv K=>iter (fun v next=>eC k pv.1 v next (fun x=>K (.exit 9) (y8t pv.1 x))) k pv.2) ((fun id f=>cond (Nat.beq id 7) (aX y8e y8f (fun n nf=>cond (Nat.beq n 228) (y8j nf) none) fun pv K=>iter (fun v next=>ez k pv.1 v next (fun x=>K (.exit 7) (y8l pv.1 x))) k pv.2) ((fun id f=>cond (Nat.beq id 1) (aX y84 y85 (fun n nf=>cond (Nat.beq n 228) (y8b nf) none) fun pv K=>iter (fun v next=>ey k pv.1 v next (fun x=>K (.exit 1) (y8d pv.1 x))) k pv.2) ((fun id f=>cond (Nat.beq id 3) (aX y7w y7x (fun n nf=>cond (Nat.beq n 228) (y81 nf) none) fun pv K=>iter (fun v next=>eu k pv.1 v next (fun x=>K (.exit 3) (y83 pv.1 x))) k pv.2) ((fun id f=>cond (Nat.beq id 5) (aX y7o y7p (fun n nf=>cond (Nat.beq n 228) (y7t nf) none) fun pv K=>iter (fun v next=>et k pv.1 v next (fun x=>K (.exit 5) (y7v pv.1 x))) k pv.2) ((fun _ _ _ _=>none) id f)) id f)) id f)) id f)) id f)
theorem y8v {ρ:Type} (k:Nat) (p:Int× Int× Int× Int× Int× Int× Int× Int× List Int× Int× Int× Int× Int× Int× Int× Int× List Int× List Int× Int× Int× Int) (v:Int× Int) (K K1:Ex→St→Option ρ):ev (y7g k) (y8u ρ k) 5 y7l (y7s (p,v)) (fun e st'=>match e with
    |.normal=>(aW y7o y7p st').bind fun nf=>K1 .normal (al y7o st'.n nf)
    |e=>(aW (y7q e) (y7r e) st').bind fun nf=>K e (al (y7q e) st'.n nf))=et k p v (fun v'=>K1 .normal (y7s (p,v'))) (fun x=>K (.exit 5) (y7v p x)):=by kernel_rfl
theorem y8w {ρ:Type} (k:Nat):Sound Try.prog (.loop y7l) (y8u ρ k 5 fun st K=>ev (y7g k) (y8u ρ k) 5 y7l st K):=
  bg (aG (y7h k) y7l 5 (av (by kernel_rfl))) y7q y7r k (g:=fun p v next K=>et k p v next (fun x=>K (.exit 5) (y7v p x))) (bz y7u) (fun p v K K1=>y8v k p v K K1)
theorem y8x {ρ:Type} (k:Nat) (p:Int× Int× Int× Int× Int× Int× Int× List Int× Int× Int× Int× Int× Int× Int× Int× List Int× List Int× Int× Int× Int) (v:Int× Int) (K K1:Ex→St→Option ρ):ev (y7g k) (y8u ρ k) 3 y7k (y80 (p,v)) (fun e st'=>match e with
    |.normal=>(aW y7w y7x st').bind fun nf=>K1 .normal (al y7w st'.n nf)
    |e=>(aW (y7y e) (y7z e) st').bind fun nf=>K e (al (y7y e) st'.n nf))=eu k p v (fun v'=>K1 .normal (y80 (p,v'))) (fun x=>K (.exit 3) (y83 p x)):=by kernel_rfl
theorem y8y {ρ:Type} (k:Nat):Sound Try.prog (.loop y7k) (y8u ρ k 3 fun st K=>ev (y7g k) (y8u ρ k) 3 y7k st K):=
  bg (aG (y7h k) y7k 3 (aI (l:=[(5,y7l)]) (by kernel_rfl) ⟨y8w k,trivial⟩)) y7y y7z k (g:=fun p v next K=>eu k p v next (fun x=>K (.exit 3) (y83 p x))) (bz y82) (fun p v K K1=>y8x k p v K K1)
theorem y8z {ρ:Type} (k:Nat) (p:Int× Int× Int× Int× Int× Int× List Int× Int× Int× Int× Int× Int× Int× Int× List Int× List Int× Int× Int× Int) (v:Int× Int) (K K1:Ex→St→Option ρ):ev (y7g k) (y8u ρ k) 1 y7j (y8a (p,v)) (fun e st'=>match e with
    |.normal=>(aW y84 y85 st').bind fun nf=>K1 .normal (al y84 st'.n nf)
    |e=>(aW (y86 e) (y88 e) st').bind fun nf=>K e (al (y86 e) st'.n nf))=ey k p v (fun v'=>K1 .normal (y8a (p,v'))) (fun x=>K (.exit 1) (y8d p x)):=by kernel_rfl
theorem y90 {ρ:Type} (k:Nat):Sound Try.prog (.loop y7j) (y8u ρ k 1 fun st K=>ev (y7g k) (y8u ρ k) 1 y7j st K):=
  bg (aG (y7h k) y7j 1 (aI (l:=[(3,y7k)]) (by kernel_rfl) ⟨y8y k,trivial⟩)) y86 y88 k (g:=fun p v next K=>ey k p v next (fun x=>K (.exit 1) (y8d p x))) (bz y8c) (fun p v K K1=>y8z k p v K K1)
theorem y91 {ρ:Type} (k:Nat) (p:List Int) (v:Int× Int) (K K1:Ex→St→Option ρ):ev (y7g k) (y8u ρ k) 7 y7m (y8i (p,v)) (fun e st'=>match e with
    |.normal=>(aW y8e y8f st').bind fun nf=>K1 .normal (al y8e st'.n nf)
    |e=>(aW (y8g e) (y8h e) st').bind fun nf=>K e (al (y8g e) st'.n nf))=ez k p v (fun v'=>K1 .normal (y8i (p,v'))) (fun x=>K (.exit 7) (y8l p x)):=by kernel_rfl
theorem y92 {ρ:Type} (k:Nat):Sound Try.prog (.loop y7m) (y8u ρ k 7 fun st K=>ev (y7g k) (y8u ρ k) 7 y7m st K):=
  bg (aG (y7h k) y7m 7 (av (by kernel_rfl))) y8g y8h k (g:=fun p v next K=>ez k p v next (fun x=>K (.exit 7) (y8l p x))) (bz y8k) (fun p v K K1=>y91 k p v K K1)
theorem y93 {ρ:Type} (k:Nat) (p:List Int) (v:Int× Int) (K K1:Ex→St→Option ρ):ev (y7g k) (y8u ρ k) 9 y7n (y8q (p,v)) (fun e st'=>match e with
    |.normal=>(aW y8m y8n st').bind fun nf=>K1 .normal (al y8m st'.n nf)
    |e=>(aW (y8o e) (y8p e) st').bind fun nf=>K e (al (y8o e) st'.n nf))=eC k p v (fun v'=>K1 .normal (y8q (p,v'))) (fun x=>K (.exit 9) (y8t p x)):=by kernel_rfl
theorem y94 {ρ:Type} (k:Nat):Sound Try.prog (.loop y7n) (y8u ρ k 9 fun st K=>ev (y7g k) (y8u ρ k) 9 y7n st K):=
  bg (aG (y7h k) y7n 9 (av (by kernel_rfl))) y8o y8p k (g:=fun p v next K=>eC k p v next (fun x=>K (.exit 9) (y8t p x))) (bz y8s) (fun p v K K1=>y93 k p v K K1)
def y95 (k:Nat):O Try.prog 118:=⟨oP [.agg [(.int .i64),(.int .i64),(.int .i64),(.sl (.int .i64))],.agg [(.int .i64),(.int .i64),(.int .i64),(.int .i64),(.int .i64),(.int .i64),(.int .i64),(.sl (.int .i64)),(.sl (.int .i64))],.one (.int .i64),.one (.int .i64),.one (.int .i64)] ((cdS .bW).p ((cdS .aJ).p (cdZ.p (cdZ.p cdZ)))) ⟨.h 0,[]⟩ cdZ fun a=>mV k a.1 a.2.1 a.2.2.1 a.2.2.2.1 a.2.2.2.2,okP (LP:=y8u _ k) (y7h k) Try.func118 (by kernel_rfl) (by kernel_rfl) (by kernel_rfl) (aI (l:=[(1,y7j),(7,y7m),(9,y7n)]) (by kernel_rfl) ⟨y90 k,⟨y92 k,⟨y94 k,trivial⟩⟩⟩) (.sc) fun a=>by kernel_rfl⟩
noncomputable def y96 (k:Nat):Env:=jl (P:=Try.prog) tt [⟨59,y5g k⟩,⟨117,y2u k⟩,⟨118,y95 k⟩]
theorem y97 (k:Nat):cd (y96 k):=fun g=>bm _ g
noncomputable def y98:Code:=(Try.f87.body).getD .skip
noncomputable def y99:Code:=((aK 0 y98).getD 0 (0,.skip)).2
noncomputable def y9a:Code:=((aK 0 y99).getD 0 (0,.skip)).2
noncomputable def y9b:Code:=((aK 2 y9a).getD 0 (0,.skip)).2
def y9c:List Nat:=[2,3,4,6,8,9,10,11]
def y9d:List (aQ× Co):=[]
def y9e:Ex→List Nat
  |.exit j=>cond (Nat.beq j 4) [2,3,4,6,8,9,10] []
  |.ret=>[]
  |.normal=>[]
def y9f:Ex→List (aQ× Co)
  |.exit j=>cond (Nat.beq j 4) [] []
  |.ret=>[]
  |.normal=>[]
def y9g (pv:(Int× Int× Int× Int× Int× List Int× Int× Int× Int× Int× Int× Int× Int× List Int× List Int× Int× Int× Int× Int× Int× Int× Int× Int× Int)× (Int× List Int)):St:={ax:=[(2,.ptr 0 0 0),(3,.ptr 1 0 0),(4,.ptr 2 0 0),(6,.ptr 3 0 0),(8,.ptr 4 0 0),(9,.r [] (.int .i64 pv.1.1)),(10,.r [] (.int .i64 pv.1.2.1)),(11,.r [] (.int .i64 pv.2.1))],heap:=[(0,.box [.r [] (.int .i64 pv.1.2.2.1),.r [] (.int .i64 pv.1.2.2.2.1),.r [] (.int .i64 pv.1.2.2.2.2.1),.r [] (.sl (.int .i64) pv.1.2.2.2.2.2.1)]),(1,.box [.r [] (.int .i64 pv.1.2.2.2.2.2.2.1),.r [] (.int .i64 pv.1.2.2.2.2.2.2.2.1),.r [] (.int .i64 pv.1.2.2.2.2.2.2.2.2.1),.r [] (.int .i64 pv.1.2.2.2.2.2.2.2.2.2.1),.r [] (.int .i64 pv.1.2.2.2.2.2.2.2.2.2.2.1),.r [] (.int .i64 pv.1.2.2.2.2.2.2.2.2.2.2.2.1),.r [] (.int .i64 pv.1.2.2.2.2.2.2.2.2.2.2.2.2.1),.r [] (.sl (.int .i64) pv.1.2.2.2.2.2.2.2.2.2.2.2.2.2.1),.r [] (.sl (.int .i64) pv.1.2.2.2.2.2.2.2.2.2.2.2.2.2.2.1)]),(2,.box [.r [] (.int .i64 pv.1.2.2.2.2.2.2.2.2.2.2.2.2.2.2.2.1),.r [] (.int .i64 pv.1.2.2.2.2.2.2.2.2.2.2.2.2.2.2.2.2.1),.r [] (.int .i64 pv.1.2.2.2.2.2.2.2.2.2.2.2.2.2.2.2.2.2.1),.bw]),(3,.box [.r [] (.int .i64 pv.1.2.2.2.2.2.2.2.2.2.2.2.2.2.2.2.2.2.2.1),.r [] (.int .i64 pv.1.2.2.2.2.2.2.2.2.2.2.2.2.2.2.2.2.2.2.2.1),.r [] (.int .i64 pv.1.2.2.2.2.2.2.2.2.2.2.2.2.2.2.2.2.2.2.2.2.1)]),(4,.box [.r [] (.int .i64 pv.1.2.2.2.2.2.2.2.2.2.2.2.2.2.2.2.2.2.2.2.2.2.1),.r [] (.int .i64 pv.1.2.2.2.2.2.2.2.2.2.2.2.2.2.2.2.2.2.2.2.2.2.2.1),.r [] (.int .i64 pv.1.2.2.2.2.2.2.2.2.2.2.2.2.2.2.2.2.2.2.2.2.2.2.2),.own 5]),(5,.arr none (.int .i64) pv.2.2)],nid:=6,n:=58,gh:=[]}
def y9h (nf:NF):Option ((Int× Int× Int× Int× Int× List Int× Int× Int× Int× Int× Int× Int× Int× List Int× List Int× Int× Int× Int× Int× Int× Int× Int× Int× Int)× (Int× List Int)):=match nf with
  |([.ptr 0 0 0,.ptr 1 0 0,.ptr 2 0 0,.ptr 3 0 0,.ptr 4 0 0,.r [] (.int .i64 w0),.r [] (.int .i64 w1),.r [] (.int .i64 w2)],[.box [.r [] (.int .i64 w3),.r [] (.int .i64 w4),.r [] (.int .i64 w5),.r [] (.sl (.int .i64) w6)],.box [.r [] (.int .i64 w7),.r [] (.int .i64 w8),.r [] (.int .i64 w9),.r [] (.int .i64 w10),.r [] (.int .i64 w11),.r [] (.int .i64 w12),.r [] (.int .i64 w13),.r [] (.sl (.int .i64) w14),.r [] (.sl (.int .i64) w15)],.box [.r [] (.int .i64 w16),.r [] (.int .i64 w17),.r [] (.int .i64 w18),.bw],.box [.r [] (.int .i64 w19),.r [] (.int .i64 w20),.r [] (.int .i64 w21)],.box [.r [] (.int .i64 w22),.r [] (.int .i64 w23),.r [] (.int .i64 w24),.own 5],.arr none (.int .i64) w25],[])=>some ((w0,w1,w3,w4,w5,w6,w7,w8,w9,w10,w11,w12,w13,w14,w15,w16,w17,w18,w19,w20,w21,w22,w23,w24),(w2,w25))
  |_=>none
theorem y9i (nf:NF) (v:(Int× Int× Int× Int× Int× List Int× Int× Int× Int× Int× Int× Int× Int× List Int× List Int× Int× Int× Int× Int× Int× Int× Int× Int× Int)× (Int× List Int)) (h:y9h nf=some v):al y9c 58 nf=y9g v:=by
  unfold y9h at h
  split at h
  · cases h;rfl
  · cases h
def y9j (p:Int× Int× Int× Int× Int× List Int× Int× Int× Int× Int× Int× Int× Int× List Int× List Int× Int× Int× Int× Int× Int× Int× Int× Int× Int) (x:List Int):St:={ax:=[(2,.ptr 0 0 0),(3,.ptr 1 0 0),(4,.ptr 2 0 0),(6,.ptr 3 0 0),(8,.ptr 4 0 0),(9,.r [] (.int .i64 p.1)),(10,.r [] (.int .i64 p.2.1))],heap:=[(0,.box [.r [] (.int .i64 p.2.2.1),.r [] (.int .i64 p.2.2.2.1),.r [] (.int .i64 p.2.2.2.2.1),.r [] (.sl (.int .i64) p.2.2.2.2.2.1)]),(1,.box [.r [] (.int .i64 p.2.2.2.2.2.2.1),.r [] (.int .i64 p.2.2.2.2.2.2.2.1),.r [] (.int .i64 p.2.2.2.2.2.2.2.2.1),.r [] (.int .i64 p.2.2.2.2.2.2.2.2.2.1),.r [] (.int .i64 p.2.2.2.2.2.2.2.2.2.2.1),.r [] (.int .i64 p.2.2.2.2.2.2.2.2.2.2.2.1),.r [] (.int .i64 p.2.2.2.2.2.2.2.2.2.2.2.2.1),.r [] (.sl (.int .i64) p.2.2.2.2.2.2.2.2.2.2.2.2.2.1),.r [] (.sl (.int .i64) p.2.2.2.2.2.2.2.2.2.2.2.2.2.2.1)]),(2,.box [.r [] (.int .i64 p.2.2.2.2.2.2.2.2.2.2.2.2.2.2.2.1),.r [] (.int .i64 p.2.2.2.2.2.2.2.2.2.2.2.2.2.2.2.2.1),.r [] (.int .i64 p.2.2.2.2.2.2.2.2.2.2.2.2.2.2.2.2.2.1),.bw]),(3,.box [.r [] (.int .i64 p.2.2.2.2.2.2.2.2.2.2.2.2.2.2.2.2.2.2.1),.r [] (.int .i64 p.2.2.2.2.2.2.2.2.2.2.2.2.2.2.2.2.2.2.2.1),.r [] (.int .i64 p.2.2.2.2.2.2.2.2.2.2.2.2.2.2.2.2.2.2.2.2.1)]),(4,.box [.r [] (.int .i64 p.2.2.2.2.2.2.2.2.2.2.2.2.2.2.2.2.2.2.2.2.2.1),.r [] (.int .i64 p.2.2.2.2.2.2.2.2.2.2.2.2.2.2.2.2.2.2.2.2.2.2.1),.r [] (.int .i64 p.2.2.2.2.2.2.2.2.2.2.2.2.2.2.2.2.2.2.2.2.2.2.2),.own 5]),(5,.arr none (.int .i64) x)],nid:=6,n:=58,gh:=[]}
def y9k:List Nat:=[2,3,4,6,8,9,10]
def y9l:List (aQ× Co):=[]
def y9m:Ex→List Nat
  |.exit j=>cond (Nat.beq j 2) [2,3,4,6,8,9] []
  |.ret=>[]
  |.normal=>[]
def y9n:Ex→List (aQ× Co)
  |.exit j=>cond (Nat.beq j 2) [] []
  |.ret=>[]
  |.normal=>[]
def y9o (pv:(Int× Int× Int× Int× List Int× Int× Int× Int× Int× Int× Int× Int× List Int× List Int× Int× Int× Int× Int× Int× Int× Int× Int× Int)× (Int× List Int)):St:={ax:=[(2,.ptr 0 0 0),(3,.ptr 1 0 0),(4,.ptr 2 0 0),(6,.ptr 3 0 0),(8,.ptr 4 0 0),(9,.r [] (.int .i64 pv.1.1)),(10,.r [] (.int .i64 pv.2.1))],heap:=[(0,.box [.r [] (.int .i64 pv.1.2.1),.r [] (.int .i64 pv.1.2.2.1),.r [] (.int .i64 pv.1.2.2.2.1),.r [] (.sl (.int .i64) pv.1.2.2.2.2.1)]),(1,.box [.r [] (.int .i64 pv.1.2.2.2.2.2.1),.r [] (.int .i64 pv.1.2.2.2.2.2.2.1),.r [] (.int .i64 pv.1.2.2.2.2.2.2.2.1),.r [] (.int .i64 pv.1.2.2.2.2.2.2.2.2.1),.r [] (.int .i64 pv.1.2.2.2.2.2.2.2.2.2.1),.r [] (.int .i64 pv.1.2.2.2.2.2.2.2.2.2.2.1),.r [] (.int .i64 pv.1.2.2.2.2.2.2.2.2.2.2.2.1),.r [] (.sl (.int .i64) pv.1.2.2.2.2.2.2.2.2.2.2.2.2.1),.r [] (.sl (.int .i64) pv.1.2.2.2.2.2.2.2.2.2.2.2.2.2.1)]),(2,.box [.r [] (.int .i64 pv.1.2.2.2.2.2.2.2.2.2.2.2.2.2.2.1),.r [] (.int .i64 pv.1.2.2.2.2.2.2.2.2.2.2.2.2.2.2.2.1),.r [] (.int .i64 pv.1.2.2.2.2.2.2.2.2.2.2.2.2.2.2.2.2.1),.bw]),(3,.box [.r [] (.int .i64 pv.1.2.2.2.2.2.2.2.2.2.2.2.2.2.2.2.2.2.1),.r [] (.int .i64 pv.1.2.2.2.2.2.2.2.2.2.2.2.2.2.2.2.2.2.2.1),.r [] (.int .i64 pv.1.2.2.2.2.2.2.2.2.2.2.2.2.2.2.2.2.2.2.2.1)]),(4,.box [.r [] (.int .i64 pv.1.2.2.2.2.2.2.2.2.2.2.2.2.2.2.2.2.2.2.2.2.1),.r [] (.int .i64 pv.1.2.2.2.2.2.2.2.2.2.2.2.2.2.2.2.2.2.2.2.2.2.1),.r [] (.int .i64 pv.1.2.2.2.2.2.2.2.2.2.2.2.2.2.2.2.2.2.2.2.2.2.2),.own 5]),(5,.arr none (.int .i64) pv.2.2)],nid:=6,n:=58,gh:=[]}
def y9p (nf:NF):Option ((Int× Int× Int× Int× List Int× Int× Int× Int× Int× Int× Int× Int× List Int× List Int× Int× Int× Int× Int× Int× Int× Int× Int× Int)× (Int× List Int)):=match nf with
  |([.ptr 0 0 0,.ptr 1 0 0,.ptr 2 0 0,.ptr 3 0 0,.ptr 4 0 0,.r [] (.int .i64 w0),.r [] (.int .i64 w1)],[.box [.r [] (.int .i64 w2),.r [] (.int .i64 w3),.r [] (.int .i64 w4),.r [] (.sl (.int .i64) w5)],.box [.r [] (.int .i64 w6),.r [] (.int .i64 w7),.r [] (.int .i64 w8),.r [] (.int .i64 w9),.r [] (.int .i64 w10),.r [] (.int .i64 w11),.r [] (.int .i64 w12),.r [] (.sl (.int .i64) w13),.r [] (.sl (.int .i64) w14)],.box [.r [] (.int .i64 w15),.r [] (.int .i64 w16),.r [] (.int .i64 w17),.bw],.box [.r [] (.int .i64 w18),.r [] (.int .i64 w19),.r [] (.int .i64 w20)],.box [.r [] (.int .i64 w21),.r [] (.int .i64 w22),.r [] (.int .i64 w23),.own 5],.arr none (.int .i64) w24],[])=>some ((w0,w2,w3,w4,w5,w6,w7,w8,w9,w10,w11,w12,w13,w14,w15,w16,w17,w18,w19,w20,w21,w22,w23),(w1,w24))
  |_=>none
theorem y9q (nf:NF) (v:(Int× Int× Int× Int× List Int× Int× Int× Int× Int× Int× Int× Int× List Int× List Int× Int× Int× Int× Int× Int× Int× Int× Int× Int)× (Int× List Int)) (h:y9p nf=some v):al y9k 58 nf=y9o v:=by
  unfold y9p at h
  split at h
  · cases h;rfl
  · cases h
def y9r (p:Int× Int× Int× Int× List Int× Int× Int× Int× Int× Int× Int× Int× List Int× List Int× Int× Int× Int× Int× Int× Int× Int× Int× Int) (x:List Int):St:={ax:=[(2,.ptr 0 0 0),(3,.ptr 1 0 0),(4,.ptr 2 0 0),(6,.ptr 3 0 0),(8,.ptr 4 0 0),(9,.r [] (.int .i64 p.1))],heap:=[(0,.box [.r [] (.int .i64 p.2.1),.r [] (.int .i64 p.2.2.1),.r [] (.int .i64 p.2.2.2.1),.r [] (.sl (.int .i64) p.2.2.2.2.1)]),(1,.box [.r [] (.int .i64 p.2.2.2.2.2.1),.r [] (.int .i64 p.2.2.2.2.2.2.1),.r [] (.int .i64 p.2.2.2.2.2.2.2.1),.r [] (.int .i64 p.2.2.2.2.2.2.2.2.1),.r [] (.int .i64 p.2.2.2.2.2.2.2.2.2.1),.r [] (.int .i64 p.2.2.2.2.2.2.2.2.2.2.1),.r [] (.int .i64 p.2.2.2.2.2.2.2.2.2.2.2.1),.r [] (.sl (.int .i64) p.2.2.2.2.2.2.2.2.2.2.2.2.1),.r [] (.sl (.int .i64) p.2.2.2.2.2.2.2.2.2.2.2.2.2.1)]),(2,.box [.r [] (.int .i64 p.2.2.2.2.2.2.2.2.2.2.2.2.2.2.1),.r [] (.int .i64 p.2.2.2.2.2.2.2.2.2.2.2.2.2.2.2.1),.r [] (.int .i64 p.2.2.2.2.2.2.2.2.2.2.2.2.2.2.2.2.1),.bw]),(3,.box [.r [] (.int .i64 p.2.2.2.2.2.2.2.2.2.2.2.2.2.2.2.2.2.1),.r [] (.int .i64 p.2.2.2.2.2.2.2.2.2.2.2.2.2.2.2.2.2.2.1),.r [] (.int .i64 p.2.2.2.2.2.2.2.2.2.2.2.2.2.2.2.2.2.2.2.1)]),(4,.box [.r [] (.int .i64 p.2.2.2.2.2.2.2.2.2.2.2.2.2.2.2.2.2.2.2.2.1),.r [] (.int .i64 p.2.2.2.2.2.2.2.2.2.2.2.2.2.2.2.2.2.2.2.2.2.1),.r [] (.int .i64 p.2.2.2.2.2.2.2.2.2.2.2.2.2.2.2.2.2.2.2.2.2.2),.own 5]),(5,.arr none (.int .i64) x)],nid:=6,n:=58,gh:=[]}
def y9s:List Nat:=[2,3,4,6,8,9]
def y9t:List (aQ× Co):=[((.Di 8 3),(.ml false (.int .i64)))]
def y9u:Ex→List Nat
  |.exit j=>cond (Nat.beq j 0) [4,8] []
  |.ret=>[]
  |.normal=>[]
def y9v:Ex→List (aQ× Co)
  |.exit j=>cond (Nat.beq j 0) [] []
  |.ret=>[]
  |.normal=>[]
def y9w (pv:(Int× Int× Int× List Int× Int× Int× Int× Int× Int× Int× Int× List Int× List Int× Int× Int× Int× Int× Int× Int× Int× Int× Int)× (Int× List Int)):St:={ax:=[(2,.ptr 0 0 0),(3,.ptr 1 0 0),(4,.ptr 2 0 0),(6,.ptr 3 0 0),(8,.ptr 4 0 0),(9,.r [] (.int .i64 pv.2.1))],heap:=[(0,.box [.r [] (.int .i64 pv.1.1),.r [] (.int .i64 pv.1.2.1),.r [] (.int .i64 pv.1.2.2.1),.r [] (.sl (.int .i64) pv.1.2.2.2.1)]),(1,.box [.r [] (.int .i64 pv.1.2.2.2.2.1),.r [] (.int .i64 pv.1.2.2.2.2.2.1),.r [] (.int .i64 pv.1.2.2.2.2.2.2.1),.r [] (.int .i64 pv.1.2.2.2.2.2.2.2.1),.r [] (.int .i64 pv.1.2.2.2.2.2.2.2.2.1),.r [] (.int .i64 pv.1.2.2.2.2.2.2.2.2.2.1),.r [] (.int .i64 pv.1.2.2.2.2.2.2.2.2.2.2.1),.r [] (.sl (.int .i64) pv.1.2.2.2.2.2.2.2.2.2.2.2.1),.r [] (.sl (.int .i64) pv.1.2.2.2.2.2.2.2.2.2.2.2.2.1)]),(2,.box [.r [] (.int .i64 pv.1.2.2.2.2.2.2.2.2.2.2.2.2.2.1),.r [] (.int .i64 pv.1.2.2.2.2.2.2.2.2.2.2.2.2.2.2.1),.r [] (.int .i64 pv.1.2.2.2.2.2.2.2.2.2.2.2.2.2.2.2.1),.bw]),(3,.box [.r [] (.int .i64 pv.1.2.2.2.2.2.2.2.2.2.2.2.2.2.2.2.2.1),.r [] (.int .i64 pv.1.2.2.2.2.2.2.2.2.2.2.2.2.2.2.2.2.2.1),.r [] (.int .i64 pv.1.2.2.2.2.2.2.2.2.2.2.2.2.2.2.2.2.2.2.1)]),(4,.box [.r [] (.int .i64 pv.1.2.2.2.2.2.2.2.2.2.2.2.2.2.2.2.2.2.2.2.1),.r [] (.int .i64 pv.1.2.2.2.2.2.2.2.2.2.2.2.2.2.2.2.2.2.2.2.2.1),.r [] (.int .i64 pv.1.2.2.2.2.2.2.2.2.2.2.2.2.2.2.2.2.2.2.2.2.2),.own 5]),(5,.arr none (.int .i64) pv.2.2)],nid:=6,n:=58,gh:=[]}
def y9x (nf:NF):Option ((Int× Int× Int× List Int× Int× Int× Int× Int× Int× Int× Int× List Int× List Int× Int× Int× Int× Int× Int× Int× Int× Int× Int)× (Int× List Int)):=match nf with
  |([.ptr 0 0 0,.ptr 1 0 0,.ptr 2 0 0,.ptr 3 0 0,.ptr 4 0 0,.r [] (.int .i64 w0)],[.box [.r [] (.int .i64 w1),.r [] (.int .i64 w2),.r [] (.int .i64 w3),.r [] (.sl (.int .i64) w4)],.box [.r [] (.int .i64 w5),.r [] (.int .i64 w6),.r [] (.int .i64 w7),.r [] (.int .i64 w8),.r [] (.int .i64 w9),.r [] (.int .i64 w10),.r [] (.int .i64 w11),.r [] (.sl (.int .i64) w12),.r [] (.sl (.int .i64) w13)],.box [.r [] (.int .i64 w14),.r [] (.int .i64 w15),.r [] (.int .i64 w16),.bw],.box [.r [] (.int .i64 w17),.r [] (.int .i64 w18),.r [] (.int .i64 w19)],.box [.r [] (.int .i64 w20),.r [] (.int .i64 w21),.r [] (.int .i64 w22),.own 5],.arr none (.int .i64) w23],[])=>some ((w1,w2,w3,w4,w5,w6,w7,w8,w9,w10,w11,w12,w13,w14,w15,w16,w17,w18,w19,w20,w21,w22),(w0,w23))
  |_=>none
theorem y9y (nf:NF) (v:(Int× Int× Int× List Int× Int× Int× Int× Int× Int× Int× Int× List Int× List Int× Int× Int× Int× Int× Int× Int× Int× Int× Int)× (Int× List Int)) (h:y9x nf=some v):al y9s 58 nf=y9w v:=by
  unfold y9x at h
  split at h
  · cases h;rfl
  · cases h
def y9z (p:Int× Int× Int× List Int× Int× Int× Int× Int× Int× Int× Int× List Int× List Int× Int× Int× Int× Int× Int× Int× Int× Int× Int) (x:List Int):St:={ax:=[(4,.ptr 0 0 0),(8,.ptr 1 0 0)],heap:=[(0,.box [.r [] (.int .i64 p.2.2.2.2.2.2.2.2.2.2.2.2.2.1),.r [] (.int .i64 p.2.2.2.2.2.2.2.2.2.2.2.2.2.2.1),.r [] (.int .i64 p.2.2.2.2.2.2.2.2.2.2.2.2.2.2.2.1),.bw]),(1,.box [.r [] (.int .i64 p.2.2.2.2.2.2.2.2.2.2.2.2.2.2.2.2.2.2.2.1),.r [] (.int .i64 p.2.2.2.2.2.2.2.2.2.2.2.2.2.2.2.2.2.2.2.2.1),.r [] (.int .i64 p.2.2.2.2.2.2.2.2.2.2.2.2.2.2.2.2.2.2.2.2.2),.own 2]),(2,.arr none (.int .i64) x)],nid:=3,n:=58,gh:=[]}
def ya0 (ρ:Type) (k:Nat):Nat→Ev ρ→Ev ρ:=fun id f=>cond (Nat.beq id 0) (aX y9s y9t (fun n nf=>cond (Nat.beq n 58) (y9x nf) none) fun pv K=>iter (fun v next=>dD k pv.1 v next (fun x=>K (.exit 0) (y9z pv.1 x))) k pv.2) ((fun id f=>cond (Nat.beq id 2) (aX y9k y9l (fun n nf=>cond (Nat.beq n 58) (y9p nf) none) fun pv K=>iter (fun v next=>dC k pv.1 v next (fun x=>K (.exit 2) (y9r pv.1 x))) k pv.2) ((fun id f=>cond (Nat.beq id 4) (aX y9c y9d (fun n nf=>cond (Nat.beq n 58) (y9h nf) none) fun pv K=>iter (fun v next=>dB k pv.1 v next (fun x=>K (.exit 4) (y9j pv.1 x))) k pv.2) ((fun _ _ _ _=>none) id f)) id f)) id f)
theorem ya1 {ρ:Type} (k:Nat) (p:Int× Int× Int× Int× Int× List Int× Int× Int× Int× Int× Int× Int× Int× List Int× List Int× Int× Int× Int× Int× Int× Int× Int× Int× Int) (v:Int× List Int) (K K1:Ex→St→Option ρ):ev (y96 k) (ya0 ρ k) 4 y9b (y9g (p,v)) (fun e st'=>match e with
    |.normal=>(aW y9c y9d st').bind fun nf=>K1 .normal (al y9c st'.n nf)
    |e=>(aW (y9e e) (y9f e) st').bind fun nf=>K e (al (y9e e) st'.n nf))=dB k p v (fun v'=>K1 .normal (y9g (p,v'))) (fun x=>K (.exit 4) (y9j p x)):=by kernel_rfl
theorem ya2 {ρ:Type} (k:Nat):Sound Try.prog (.loop y9b) (ya0 ρ k 4 fun st K=>ev (y96 k) (ya0 ρ k) 4 y9b st K):=
  bg (aG (y97 k) y9b 4 (av (by kernel_rfl))) y9e y9f k (g:=fun p v next K=>dB k p v next (fun x=>K (.exit 4) (y9j p x))) (bz y9i) (fun p v K K1=>ya1 k p v K K1)
theorem ya3 {ρ:Type} (k:Nat) (p:Int× Int× Int× Int× List Int× Int× Int× Int× Int× Int× Int× Int× List Int× List Int× Int× Int× Int× Int× Int× Int× Int× Int× Int) (v:Int× List Int) (K K1:Ex→St→Option ρ):ev (y96 k) (ya0 ρ k) 2 y9a (y9o (p,v)) (fun e st'=>match e with
    |.normal=>(aW y9k y9l st').bind fun nf=>K1 .normal (al y9k st'.n nf)
    |e=>(aW (y9m e) (y9n e) st').bind fun nf=>K e (al (y9m e) st'.n nf))=dC k p v (fun v'=>K1 .normal (y9o (p,v'))) (fun x=>K (.exit 2) (y9r p x)):=by kernel_rfl
theorem ya4 {ρ:Type} (k:Nat):Sound Try.prog (.loop y9a) (ya0 ρ k 2 fun st K=>ev (y96 k) (ya0 ρ k) 2 y9a st K):=
  bg (aG (y97 k) y9a 2 (aI (l:=[(4,y9b)]) (by kernel_rfl) ⟨ya2 k,trivial⟩)) y9m y9n k (g:=fun p v next K=>dC k p v next (fun x=>K (.exit 2) (y9r p x))) (bz y9q) (fun p v K K1=>ya3 k p v K K1)
theorem ya5 {ρ:Type} (k:Nat) (p:Int× Int× Int× List Int× Int× Int× Int× Int× Int× Int× Int× List Int× List Int× Int× Int× Int× Int× Int× Int× Int× Int× Int) (v:Int× List Int) (K K1:Ex→St→Option ρ):ev (y96 k) (ya0 ρ k) 0 y99 (y9w (p,v)) (fun e st'=>match e with
    |.normal=>(aW y9s y9t st').bind fun nf=>K1 .normal (al y9s st'.n nf)
    |e=>(aW (y9u e) (y9v e) st').bind fun nf=>K e (al (y9u e) st'.n nf))=dD k p v (fun v'=>K1 .normal (y9w (p,v'))) (fun x=>K (.exit 0) (y9z p x)):=by kernel_rfl
theorem ya6 {ρ:Type} (k:Nat):Sound Try.prog (.loop y99) (ya0 ρ k 0 fun st K=>ev (y96 k) (ya0 ρ k) 0 y99 st K):=
  bg (aG (y97 k) y99 0 (aI (l:=[(2,y9a)]) (by kernel_rfl) ⟨ya4 k,trivial⟩)) y9u y9v k (g:=fun p v next K=>dD k p v next (fun x=>K (.exit 0) (y9z p x))) (bz y9y) (fun p v K K1=>ya5 k p v K K1)
def ya7 (k:Nat):O Try.prog 87:=⟨oP [.agg [(.int .i64),(.int .i64),(.int .i64),(.sl (.int .i64))],.agg [(.int .i64),(.int .i64),(.int .i64),(.int .i64),(.int .i64),(.int .i64),(.int .i64),(.sl (.int .i64)),(.sl (.int .i64))]] ((cdS .bW).p (cdS .aJ)) ⟨.tup [.agg [.h 0,.h 1,.h 2,.own 0],.h 4],[.arr none (.int .i64) 3]⟩ ((cdS .bW).p cdB) fun a=>lg k a.1 a.2,okP (LP:=ya0 _ k) (y97 k) Try.func87 (by kernel_rfl) (by kernel_rfl) (by kernel_rfl) (aI (l:=[(0,y99)]) (by kernel_rfl) ⟨ya6 k,trivial⟩) (.tup [.agg [.sc,.sc,.sc,.own (.int .i64)],.sc]) fun a=>by kernel_rfl⟩
noncomputable def ya8 (k:Nat):Env:=jl (P:=Try.prog) tt [⟨45,y4y k⟩,⟨59,y5g k⟩,⟨86,y5x k⟩,⟨87,ya7 k⟩]
theorem ya9 (k:Nat):cd (ya8 k):=fun g=>bm _ g
noncomputable def yaa:Code:=(Try.f42.body).getD .skip
noncomputable def yab:Code:=((aK 0 yaa).getD 0 (0,.skip)).2
def yac:List Nat:=[2,4,6,7]
def yad:List (aQ× Co):=[]
def yae:Ex→List Nat
  |.exit j=>cond (Nat.beq j 0) [4,6] []
  |.ret=>[]
  |.normal=>[]
def yaf:Ex→List (aQ× Co)
  |.exit j=>cond (Nat.beq j 0) [] []
  |.ret=>[]
  |.normal=>[]
def yag (pv:(Int× Int× Int× List ai× Int× Int× Int)× (Int× Int× Int× Int× List Int)):St:={ax:=[(2,.ptr 0 0 0),(4,.ptr 1 0 0),(6,.ptr 2 0 0),(7,.r [] (.int .i64 pv.2.1))],heap:=[(0,.box [.r [] (.int .i64 pv.1.1),.r [] (.int .i64 pv.1.2.1),.r [] (.int .i64 pv.1.2.2.1),.r [] (.sl (.st .aJ) pv.1.2.2.2.1)]),(1,.box [.r [] (.int .i64 pv.1.2.2.2.2.1),.r [] (.int .i64 pv.1.2.2.2.2.2.1),.r [] (.int .i64 pv.1.2.2.2.2.2.2),.bw]),(2,.box [.r [] (.int .i64 pv.2.2.1),.r [] (.int .i64 pv.2.2.2.1),.r [] (.int .i64 pv.2.2.2.2.1),.own 3]),(3,.arr none (.int .i64) pv.2.2.2.2.2)],nid:=4,n:=44,gh:=[]}
def yah (nf:NF):Option ((Int× Int× Int× List ai× Int× Int× Int)× (Int× Int× Int× Int× List Int)):=match nf with
  |([.ptr 0 0 0,.ptr 1 0 0,.ptr 2 0 0,.r [] (.int .i64 w0)],[.box [.r [] (.int .i64 w1),.r [] (.int .i64 w2),.r [] (.int .i64 w3),.r [] (.sl (.st .aJ) w4)],.box [.r [] (.int .i64 w5),.r [] (.int .i64 w6),.r [] (.int .i64 w7),.bw],.box [.r [] (.int .i64 w8),.r [] (.int .i64 w9),.r [] (.int .i64 w10),.own 3],.arr none (.int .i64) w11],[])=>some ((w1,w2,w3,w4,w5,w6,w7),(w0,w8,w9,w10,w11))
  |_=>none
theorem yai (nf:NF) (v:(Int× Int× Int× List ai× Int× Int× Int)× (Int× Int× Int× Int× List Int)) (h:yah nf=some v):al yac 44 nf=yag v:=by
  unfold yah at h
  split at h
  · cases h;rfl
  · cases h
def yaj (p:Int× Int× Int× List ai× Int× Int× Int) (x:Int× Int× Int× List Int):St:={ax:=[(4,.ptr 0 0 0),(6,.ptr 1 0 0)],heap:=[(0,.box [.r [] (.int .i64 p.2.2.2.2.1),.r [] (.int .i64 p.2.2.2.2.2.1),.r [] (.int .i64 p.2.2.2.2.2.2),.bw]),(1,.box [.r [] (.int .i64 x.1),.r [] (.int .i64 x.2.1),.r [] (.int .i64 x.2.2.1),.own 2]),(2,.arr none (.int .i64) x.2.2.2)],nid:=3,n:=44,gh:=[]}
def yak (ρ:Type) (k:Nat):Nat→Ev ρ→Ev ρ:=fun id f=>cond (Nat.beq id 0) (aX yac yad (fun n nf=>cond (Nat.beq n 44) (yah nf) none) fun pv K=>iter (fun v next=>cE k pv.1 v next (fun x=>K (.exit 0) (yaj pv.1 x))) k pv.2) ((fun _ _ _ _=>none) id f)
theorem yal {ρ:Type} (k:Nat) (p:Int× Int× Int× List ai× Int× Int× Int) (v:Int× Int× Int× Int× List Int) (K K1:Ex→St→Option ρ):ev (ya8 k) (yak ρ k) 0 yab (yag (p,v)) (fun e st'=>match e with
    |.normal=>(aW yac yad st').bind fun nf=>K1 .normal (al yac st'.n nf)
    |e=>(aW (yae e) (yaf e) st').bind fun nf=>K e (al (yae e) st'.n nf))=cE k p v (fun v'=>K1 .normal (yag (p,v'))) (fun x=>K (.exit 0) (yaj p x)):=by kernel_rfl
theorem yam {ρ:Type} (k:Nat):Sound Try.prog (.loop yab) (yak ρ k 0 fun st K=>ev (ya8 k) (yak ρ k) 0 yab st K):=
  bg (aG (ya9 k) yab 0 (av (by kernel_rfl))) yae yaf k (g:=fun p v next K=>cE k p v next (fun x=>K (.exit 0) (yaj p x))) (bz yai) (fun p v K K1=>yal k p v K K1)
def yan (k:Nat):O Try.prog 42:=⟨oP [.agg [(.int .i64),(.int .i64),(.int .i64),(.sl (.st .aJ))],.agg [(.int .i64),(.int .i64),(.int .i64),(.sl (.int .i64))]] ((cdS .model).p (cdS .bW)) ⟨.tup [.agg [.h 0,.h 1,.h 2,.own 0],.h 4],[.arr none (.int .i64) 3]⟩ ((cdS .bW).p cdB) fun a=>jP k a.1 a.2,okP (LP:=yak _ k) (ya9 k) Try.func42 (by kernel_rfl) (by kernel_rfl) (by kernel_rfl) (aI (l:=[(0,yab)]) (by kernel_rfl) ⟨yam k,trivial⟩) (.tup [.agg [.sc,.sc,.sc,.own (.int .i64)],.sc]) fun a=>by kernel_rfl⟩
def qw (k:Nat):O Try.prog 69:=fc (tt:=tt) [] .id Try.func69 [.one (.int .i64),.one (.int .i64),.one (.int .i64)] (cdZ.p (cdZ.p cdZ)) ⟨.h 0,[]⟩ cdB (.sc) (fun a=>vq k a.1 a.2.1 a.2.2) (by kernel_rfl) fun a=>by kernel_rfl
def yao (k:Nat):O Try.prog 94:=fc (tt:=tt) [⟨69,qw k⟩] .id Try.func94 [.agg [(.int .i64),(.int .i64),(.int .i64)]] (cdS .shape) ⟨.h 0,[]⟩ cdB (.sc) (fun a=>iX k a) (by kernel_rfl) fun a=>by kernel_rfl
def yap (k:Nat):O Try.prog 49:=fc (tt:=tt) [⟨94,yao k⟩] .id Try.func49 [.agg [(.int .i64),(.int .i64),(.int .i64)]] (cdS .shape) ⟨.h 0,[]⟩ cdZ (.sc) (fun a=>cU k a) (by kernel_rfl) fun a=>by kernel_rfl
def yaq (k:Nat):O Try.prog 138:=fc (tt:=tt) [] .id Try.func138 [.agg [(.int .i64),(.int .i64),(.int .i64),(.int .i64),(.int .i64),(.int .i64),(.int .i64),(.sl (.int .i64)),(.sl (.int .i64))]] (cdS .aJ) ⟨.h 0,[]⟩ cdB (.sc) (fun a=>cQ k a) (by kernel_rfl) fun a=>by kernel_rfl
def yar (k:Nat):O Try.prog 128:=fc (tt:=tt) [⟨69,qw k⟩] .id Try.func128 [.one (.int .i64)] cdZ ⟨.h 0,[]⟩ cdB (.sc) (fun a=>jK k a) (by kernel_rfl) fun a=>by kernel_rfl
noncomputable def yas (k:Nat):Env:=jl (P:=Try.prog) tt [⟨128,yar k⟩]
theorem yat (k:Nat):cd (yas k):=fun g=>bm _ g
noncomputable def yau:Code:=(Try.f150.body).getD .skip
noncomputable def yav:Code:=((aK 0 yau).getD 0 (0,.skip)).2
def yaw:List Nat:=[0,1,7,8]
def yax:List (aQ× Co):=[]
def yay:Ex→List Nat
  |.exit j=>cond (Nat.beq j 0) [] []
  |.ret=>[4]
  |.normal=>[]
def yaz:Ex→List (aQ× Co)
  |.exit j=>cond (Nat.beq j 0) [] []
  |.ret=>[]
  |.normal=>[]
def yb0 (pv:(List Int× Int)× (Int)):St:={ax:=[(0,.r [] (.sl (.int .i64) pv.1.1)),(1,.fn (.func 128) [] []),(7,.r [] (.int .i64 pv.1.2)),(8,.r [] (.int .i64 pv.2))],heap:=[],nid:=0,n:=19,gh:=[]}
def yb1 (nf:NF):Option ((List Int× Int)× (Int)):=match nf with
  |([.r [] (.sl (.int .i64) w0),.fn (.func 128) [] [],.r [] (.int .i64 w1),.r [] (.int .i64 w2)],[],[])=>some ((w0,w1),w2)
  |_=>none
theorem yb2 (nf:NF) (v:(List Int× Int)× (Int)) (h:yb1 nf=some v):al yaw 19 nf=yb0 v:=by
  unfold yb1 at h
  split at h
  · cases h;rfl
  · cases h
def yb3 (p:List Int× Int) (x:Unit):St:={ax:=[],heap:=[],nid:=0,n:=19,gh:=[]}
def yb4 (p:List Int× Int) (x:Int):St:={ax:=[(4,.r [] (.int .i64 x))],heap:=[],nid:=0,n:=19,gh:=[]}
def yb5 (ρ:Type) (k:Nat):Nat→Ev ρ→Ev ρ:=fun id f=>cond (Nat.beq id 0) (aX yaw yax (fun n nf=>cond (Nat.beq n 19) (yb1 nf) none) fun pv K=>iter (fun v next=>aD k pv.1 v next (fun x=>K (.exit 0) (yb3 pv.1 x)) (fun x=>K .ret (yb4 pv.1 x))) k pv.2) ((fun _ _ _ _=>none) id f)
theorem yb6 {ρ:Type} (k:Nat) (p:List Int× Int) (v:Int) (K K1:Ex→St→Option ρ):ev (yas k) (yb5 ρ k) 0 yav (yb0 (p,v)) (fun e st'=>match e with
    |.normal=>(aW yaw yax st').bind fun nf=>K1 .normal (al yaw st'.n nf)
    |e=>(aW (yay e) (yaz e) st').bind fun nf=>K e (al (yay e) st'.n nf))=aD k p v (fun v'=>K1 .normal (yb0 (p,v'))) (fun x=>K (.exit 0) (yb3 p x)) (fun x=>K .ret (yb4 p x)):=by kernel_rfl
theorem yb7 {ρ:Type} (k:Nat):Sound Try.prog (.loop yav) (yb5 ρ k 0 fun st K=>ev (yas k) (yb5 ρ k) 0 yav st K):=
  bg (aG (yat k) yav 0 (av (by kernel_rfl))) yay yaz k (g:=fun p v next K=>aD k p v next (fun x=>K (.exit 0) (yb3 p x)) (fun x=>K .ret (yb4 p x))) (bz yb2) (fun p v K K1=>yb6 k p v K K1)
def yb8 (a:List Int):List Arg:=[.one (.sl (.int .i64) a),.fn (.func 128) [] []]
def yb9 (l:List Arg):Option (List Int):=match l with
  |[.one (.sl (.int .i64) b0),.fn (.func 128) [] []]=>some b0
  |_=>none
def yba (r:Int):Out:=(.r [] (.int .i64 r),[])
def ybb (o:Out):Option (Int):=match o with
  |(.r [] (.int .i64 z1),[])=>some z1
  |_=>none
def ybc (k:Nat):PG:=fun _ l K=>(yb9 l).bind fun a=>(aZ k a).bind fun r=>K (yba r)
theorem ybd (k:Nat) (a:List Int):ev (yas k) (yb5 (Int) k) 0 yau (st0 Try.f150 (yb8 a)) (fin Try.prog Try.f150 (.sc) ybb)=aZ k a:=by kernel_rfl
theorem ybe (k:Nat):mG Try.prog 150 (ybc k):=
  dj (yat k) Try.func150 (by kernel_rfl) (by kernel_rfl) yb8 yb9
    (fun l a h=>by unfold yb9 at h;split at h<;>first|(cases h;rfl)|cases h) (fun a=>rfl) (aI (l:=[(0,yav)]) (by kernel_rfl) ⟨yb7 k,trivial⟩)
    (fun o r h=>by unfold ybb at h;split at h<;>first|(cases h;rfl)|cases h) (ybd k)
def ybf (k:Nat):O Try.prog 150:=⟨kz [.one (.sl (.int .i64)),.fn] (ybc k),gw (ybe k)⟩
noncomputable def ybg (k:Nat):Env:=jl (P:=Try.prog) tt [⟨150,ybf k⟩]
theorem ybh (k:Nat):cd (ybg k):=fun g=>bm _ g
noncomputable def ybi:Code:=(Try.f127.body).getD .skip
def ybj (ρ:Type) (k:Nat):Nat→Ev ρ→Ev ρ:=fun _ _ _ _=>none
def ybk (a:List Int):List Arg:=[.one (.sl (.int .i64) a),.fn (.func 128) [] []]
def ybl (l:List Arg):Option (List Int):=match l with
  |[.one (.sl (.int .i64) b0),.fn (.func 128) [] []]=>some b0
  |_=>none
def ybm (r:Bool):Out:=(.r [] (.bool r),[])
def ybn (o:Out):Option (Bool):=match o with
  |(.r [] (.bool z1),[])=>some z1
  |_=>none
def ybo (k:Nat):PG:=fun _ l K=>(ybl l).bind fun a=>(aU k a).bind fun r=>K (ybm r)
theorem ybp (k:Nat) (a:List Int):ev (ybg k) (ybj (Bool) k) 0 ybi (st0 Try.f127 (ybk a)) (fin Try.prog Try.f127 (.sc) ybn)=aU k a:=by kernel_rfl
theorem ybq (k:Nat):mG Try.prog 127 (ybo k):=
  dj (ybh k) Try.func127 (by kernel_rfl) (by kernel_rfl) ybk ybl
    (fun l a h=>by unfold ybl at h;split at h<;>first|(cases h;rfl)|cases h) (fun a=>rfl) (av (by kernel_rfl))
    (fun o r h=>by unfold ybn at h;split at h<;>first|(cases h;rfl)|cases h) (ybp k)
def ybr (k:Nat):O Try.prog 127:=⟨kz [.one (.sl (.int .i64)),.fn] (ybo k),gw (ybq k)⟩
def ybs (k:Nat):O Try.prog 104:=fc (tt:=tt) [⟨127,ybr k⟩] .id Try.func104 [.one (.sl (.int .i64))] (cdL (.int .i64)) ⟨.h 0,[]⟩ cdB (.sc) (fun a=>iY k a) (by kernel_rfl) fun a=>by kernel_rfl
def ybt (k:Nat):O Try.prog 158:=fc (tt:=tt) [⟨69,qw k⟩] .id Try.func158 [.one (.int .i64)] cdZ ⟨.h 0,[]⟩ cdB (.sc) (fun a=>dY k a) (by kernel_rfl) fun a=>by kernel_rfl
noncomputable def ybu (k:Nat):Env:=jl (P:=Try.prog) tt [⟨158,ybt k⟩]
theorem ybv (k:Nat):cd (ybu k):=fun g=>bm _ g
noncomputable def ybw:Code:=(Try.f150.body).getD .skip
noncomputable def ybx:Code:=((aK 0 ybw).getD 0 (0,.skip)).2
def yby:List Nat:=[0,1,7,8]
def ybz:List (aQ× Co):=[]
def yc0:Ex→List Nat
  |.exit j=>cond (Nat.beq j 0) [] []
  |.ret=>[4]
  |.normal=>[]
def yc1:Ex→List (aQ× Co)
  |.exit j=>cond (Nat.beq j 0) [] []
  |.ret=>[]
  |.normal=>[]
def yc2 (pv:(List Int× Int)× (Int)):St:={ax:=[(0,.r [] (.sl (.int .i64) pv.1.1)),(1,.fn (.func 158) [] []),(7,.r [] (.int .i64 pv.1.2)),(8,.r [] (.int .i64 pv.2))],heap:=[],nid:=0,n:=19,gh:=[]}
def yc3 (nf:NF):Option ((List Int× Int)× (Int)):=match nf with
  |([.r [] (.sl (.int .i64) w0),.fn (.func 158) [] [],.r [] (.int .i64 w1),.r [] (.int .i64 w2)],[],[])=>some ((w0,w1),w2)
  |_=>none
theorem yc4 (nf:NF) (v:(List Int× Int)× (Int)) (h:yc3 nf=some v):al yby 19 nf=yc2 v:=by
  unfold yc3 at h
  split at h
  · cases h;rfl
  · cases h
def yc5 (p:List Int× Int) (x:Unit):St:={ax:=[],heap:=[],nid:=0,n:=19,gh:=[]}
def yc6 (p:List Int× Int) (x:Int):St:={ax:=[(4,.r [] (.int .i64 x))],heap:=[],nid:=0,n:=19,gh:=[]}
def yc7 (ρ:Type) (k:Nat):Nat→Ev ρ→Ev ρ:=fun id f=>cond (Nat.beq id 0) (aX yby ybz (fun n nf=>cond (Nat.beq n 19) (yc3 nf) none) fun pv K=>iter (fun v next=>az k pv.1 v next (fun x=>K (.exit 0) (yc5 pv.1 x)) (fun x=>K .ret (yc6 pv.1 x))) k pv.2) ((fun _ _ _ _=>none) id f)
theorem yc8 {ρ:Type} (k:Nat) (p:List Int× Int) (v:Int) (K K1:Ex→St→Option ρ):ev (ybu k) (yc7 ρ k) 0 ybx (yc2 (p,v)) (fun e st'=>match e with
    |.normal=>(aW yby ybz st').bind fun nf=>K1 .normal (al yby st'.n nf)
    |e=>(aW (yc0 e) (yc1 e) st').bind fun nf=>K e (al (yc0 e) st'.n nf))=az k p v (fun v'=>K1 .normal (yc2 (p,v'))) (fun x=>K (.exit 0) (yc5 p x)) (fun x=>K .ret (yc6 p x)):=by kernel_rfl
theorem yc9 {ρ:Type} (k:Nat):Sound Try.prog (.loop ybx) (yc7 ρ k 0 fun st K=>ev (ybu k) (yc7 ρ k) 0 ybx st K):=
  bg (aG (ybv k) ybx 0 (av (by kernel_rfl))) yc0 yc1 k (g:=fun p v next K=>az k p v next (fun x=>K (.exit 0) (yc5 p x)) (fun x=>K .ret (yc6 p x))) (bz yc4) (fun p v K K1=>yc8 k p v K K1)
def yca (a:List Int):List Arg:=[.one (.sl (.int .i64) a),.fn (.func 158) [] []]
def ycb (l:List Arg):Option (List Int):=match l with
  |[.one (.sl (.int .i64) b0),.fn (.func 158) [] []]=>some b0
  |_=>none
def ycc (r:Int):Out:=(.r [] (.int .i64 r),[])
def ycd (o:Out):Option (Int):=match o with
  |(.r [] (.int .i64 z1),[])=>some z1
  |_=>none
def yce (k:Nat):PG:=fun _ l K=>(ycb l).bind fun a=>(aS k a).bind fun r=>K (ycc r)
theorem ycf (k:Nat) (a:List Int):ev (ybu k) (yc7 (Int) k) 0 ybw (st0 Try.f150 (yca a)) (fin Try.prog Try.f150 (.sc) ycd)=aS k a:=by kernel_rfl
theorem ycg (k:Nat):mG Try.prog 150 (yce k):=
  dj (ybv k) Try.func150 (by kernel_rfl) (by kernel_rfl) yca ycb
    (fun l a h=>by unfold ycb at h;split at h<;>first|(cases h;rfl)|cases h) (fun a=>rfl) (aI (l:=[(0,ybx)]) (by kernel_rfl) ⟨yc9 k,trivial⟩)
    (fun o r h=>by unfold ycd at h;split at h<;>first|(cases h;rfl)|cases h) (ycf k)
def ych (k:Nat):O Try.prog 150:=⟨kz [.one (.sl (.int .i64)),.fn] (yce k),gw (ycg k)⟩
noncomputable def yci (k:Nat):Env:=jl (P:=Try.prog) tt [⟨150,ych k⟩]
theorem ycj (k:Nat):cd (yci k):=fun g=>bm _ g
noncomputable def yck:Code:=(Try.f127.body).getD .skip
def ycl (ρ:Type) (k:Nat):Nat→Ev ρ→Ev ρ:=fun _ _ _ _=>none
def ycm (a:List Int):List Arg:=[.one (.sl (.int .i64) a),.fn (.func 158) [] []]
def ycn (l:List Arg):Option (List Int):=match l with
  |[.one (.sl (.int .i64) b0),.fn (.func 158) [] []]=>some b0
  |_=>none
def yco (r:Bool):Out:=(.r [] (.bool r),[])
def ycp (o:Out):Option (Bool):=match o with
  |(.r [] (.bool z1),[])=>some z1
  |_=>none
def ycq (k:Nat):PG:=fun _ l K=>(ycn l).bind fun a=>(aE k a).bind fun r=>K (yco r)
theorem ycr (k:Nat) (a:List Int):ev (yci k) (ycl (Bool) k) 0 yck (st0 Try.f127 (ycm a)) (fin Try.prog Try.f127 (.sc) ycp)=aE k a:=by kernel_rfl
theorem ycs (k:Nat):mG Try.prog 127 (ycq k):=
  dj (ycj k) Try.func127 (by kernel_rfl) (by kernel_rfl) ycm ycn
    (fun l a h=>by unfold ycn at h;split at h<;>first|(cases h;rfl)|cases h) (fun a=>rfl) (av (by kernel_rfl))
    (fun o r h=>by unfold ycp at h;split at h<;>first|(cases h;rfl)|cases h) (ycr k)
def yct (k:Nat):O Try.prog 127:=⟨kz [.one (.sl (.int .i64)),.fn] (ycq k),gw (ycs k)⟩
def ycu (k:Nat):O Try.prog 139:=fc (tt:=tt) [⟨69,qw k⟩,⟨104,ybs k⟩,⟨127,yct k⟩] .id Try.func139 [.agg [(.int .i64),(.int .i64),(.int .i64),(.int .i64),(.int .i64),(.int .i64),(.int .i64),(.sl (.int .i64)),(.sl (.int .i64))],.one (.int .i64)] ((cdS .aJ).p cdZ) ⟨.h 0,[]⟩ cdB (.sc) (fun a=>cZ k a.1 a.2) (by kernel_rfl) fun a=>by kernel_rfl
def ycv (k:Nat):O Try.prog 140:=fc (tt:=tt) [⟨69,qw k⟩] .id Try.func140 [.agg [(.int .i64),(.int .i64),(.int .i64),(.int .i64),(.int .i64),(.int .i64),(.int .i64),(.sl (.int .i64)),(.sl (.int .i64))],.agg [(.int .i64),(.int .i64),(.int .i64)]] ((cdS .aJ).p (cdS .shape)) ⟨.h 0,[]⟩ cdB (.sc) (fun a=>cn k a.1 a.2) (by kernel_rfl) fun a=>by kernel_rfl
def ycw (k:Nat):O Try.prog 141:=fc (tt:=tt) [] .id Try.func141 [.agg [(.int .i64),(.int .i64),(.int .i64),(.int .i64),(.int .i64),(.int .i64),(.int .i64),(.sl (.int .i64)),(.sl (.int .i64))],.agg [(.int .i64),(.int .i64),(.int .i64)],.one (.int .i64)] ((cdS .aJ).p ((cdS .shape).p cdZ)) ⟨.agg [.h 0,.h 1,.h 2],[]⟩ (cdS .shape) (.agg [.sc,.sc,.sc]) (fun a=>cR k a.1 a.2.1 a.2.2) (by kernel_rfl) fun a=>by kernel_rfl
def ycx (k:Nat):O Try.prog 142:=fc (tt:=tt) [] .id Try.func142 [.agg [(.int .i64),(.int .i64),(.int .i64),(.int .i64),(.int .i64),(.int .i64),(.int .i64),(.sl (.int .i64)),(.sl (.int .i64))]] (cdS .aJ) ⟨.h 0,[]⟩ cdB (.sc) (fun a=>cD k a) (by kernel_rfl) fun a=>by kernel_rfl
def ycy (k:Nat):O Try.prog 119:=fc (tt:=tt) [⟨49,yap k⟩,⟨69,qw k⟩,⟨94,yao k⟩,⟨138,yaq k⟩,⟨139,ycu k⟩,⟨140,ycv k⟩,⟨141,ycw k⟩,⟨142,ycx k⟩] .id Try.func119 [.agg [(.int .i64),(.int .i64),(.int .i64)],.agg [(.int .i64),(.int .i64),(.int .i64),(.int .i64),(.int .i64),(.int .i64),(.int .i64),(.sl (.int .i64)),(.sl (.int .i64))]] ((cdS .shape).p (cdS .aJ)) ⟨.tup [.agg [.h 0,.h 1,.h 2],.h 3],[]⟩ ((cdS .shape).p cdB) (.tup [.agg [.sc,.sc,.sc],.sc]) (fun a=>gA k a.1 a.2) (by kernel_rfl) fun a=>by kernel_rfl
noncomputable def ycz (k:Nat):Env:=jl (P:=Try.prog) tt [⟨119,ycy k⟩]
theorem yd0 (k:Nat):cd (ycz k):=fun g=>bm _ g
noncomputable def yd1:Code:=(Try.f89.body).getD .skip
noncomputable def yd2:Code:=((aK 0 yd1).getD 0 (0,.skip)).2
def yd3:List Nat:=[4,5,16,17,18]
def yd4:List (aQ× Co):=[]
def yd5:Ex→List Nat
  |.exit j=>cond (Nat.beq j 0) [4] []
  |.ret=>[2,3]
  |.normal=>[]
def yd6:Ex→List (aQ× Co)
  |.exit j=>cond (Nat.beq j 0) [] []
  |.ret=>[]
  |.normal=>[]
def yd7 (pv:(List ai× Int)× (Int× List Shape× Int× Int× Int)):St:={ax:=[(4,.own 0),(5,.ptr 1 0 0),(16,.r [] (.sl (.st .aJ) pv.1.1)),(17,.r [] (.int .i64 pv.1.2)),(18,.r [] (.int .i64 pv.2.1))],heap:=[(0,.arr none (.st .shape) pv.2.2.1),(1,.box [.r [] (.int .i64 pv.2.2.2.1),.r [] (.int .i64 pv.2.2.2.2.1),.r [] (.int .i64 pv.2.2.2.2.2)])],nid:=2,n:=37,gh:=[]}
def yd8 (nf:NF):Option ((List ai× Int)× (Int× List Shape× Int× Int× Int)):=match nf with
  |([.own 0,.ptr 1 0 0,.r [] (.sl (.st .aJ) w0),.r [] (.int .i64 w1),.r [] (.int .i64 w2)],[.arr none (.st .shape) w3,.box [.r [] (.int .i64 w4),.r [] (.int .i64 w5),.r [] (.int .i64 w6)]],[])=>some ((w0,w1),(w2,w3,w4,w5,w6))
  |_=>none
theorem yd9 (nf:NF) (v:(List ai× Int)× (Int× List Shape× Int× Int× Int)) (h:yd8 nf=some v):al yd3 37 nf=yd7 v:=by
  unfold yd8 at h
  split at h
  · cases h;rfl
  · cases h
def yda (p:List ai× Int) (x:List Shape):St:={ax:=[(4,.own 0)],heap:=[(0,.arr none (.st .shape) x)],nid:=1,n:=37,gh:=[]}
def ydb (p:List ai× Int) (x:Bool):St:={ax:=[(2,.bw),(3,.r [] (.bool x))],heap:=[],nid:=0,n:=37,gh:=[]}
def ydc (ρ:Type) (k:Nat):Nat→Ev ρ→Ev ρ:=fun id f=>cond (Nat.beq id 0) (aX yd3 yd4 (fun n nf=>cond (Nat.beq n 37) (yd8 nf) none) fun pv K=>iter (fun v next=>bS k pv.1 v next (fun x=>K (.exit 0) (yda pv.1 x)) (fun x=>K .ret (ydb pv.1 x))) k pv.2) ((fun _ _ _ _=>none) id f)
theorem ydd {ρ:Type} (k:Nat) (p:List ai× Int) (v:Int× List Shape× Int× Int× Int) (K K1:Ex→St→Option ρ):ev (ycz k) (ydc ρ k) 0 yd2 (yd7 (p,v)) (fun e st'=>match e with
    |.normal=>(aW yd3 yd4 st').bind fun nf=>K1 .normal (al yd3 st'.n nf)
    |e=>(aW (yd5 e) (yd6 e) st').bind fun nf=>K e (al (yd5 e) st'.n nf))=bS k p v (fun v'=>K1 .normal (yd7 (p,v'))) (fun x=>K (.exit 0) (yda p x)) (fun x=>K .ret (ydb p x)):=by kernel_rfl
theorem yde {ρ:Type} (k:Nat):Sound Try.prog (.loop yd2) (ydc ρ k 0 fun st K=>ev (ycz k) (ydc ρ k) 0 yd2 st K):=
  bg (aG (yd0 k) yd2 0 (av (by kernel_rfl))) yd5 yd6 k (g:=fun p v next K=>bS k p v next (fun x=>K (.exit 0) (yda p x)) (fun x=>K .ret (ydb p x))) (bz yd9) (fun p v K K1=>ydd k p v K K1)
def ydf (k:Nat):O Try.prog 89:=⟨oP [.agg [(.int .i64),(.int .i64),(.int .i64),(.sl (.st .aJ))]] (cdS .model) ⟨.tup [.own 0,.h 1],[.arr none (.st .shape) 0]⟩ ((cdL (.st .shape)).p cdB) fun a=>dO k a,okP (LP:=ydc _ k) (yd0 k) Try.func89 (by kernel_rfl) (by kernel_rfl) (by kernel_rfl) (aI (l:=[(0,yd2)]) (by kernel_rfl) ⟨yde k,trivial⟩) (.tup [.own (.st .shape),.sc]) fun a=>by kernel_rfl⟩
def ydg (k:Nat):O Try.prog 44:=fc (tt:=tt) [⟨69,qw k⟩,⟨89,ydf k⟩] .id Try.func44 [.agg [(.int .i64),(.int .i64),(.int .i64),(.sl (.st .aJ))]] (cdS .model) ⟨.h 0,[]⟩ cdB (.sc) (fun a=>eR k a) (by kernel_rfl) fun a=>by kernel_rfl
def ydh (k:Nat):O Try.prog 62:=fc (tt:=tt) [⟨49,yap k⟩,⟨94,yao k⟩,⟨104,ybs k⟩] .id Try.func62 [.agg [(.int .i64),(.int .i64),(.int .i64),(.sl (.int .i64))]] (cdS .bW) ⟨.h 0,[]⟩ cdB (.sc) (fun a=>gy k a) (by kernel_rfl) fun a=>by kernel_rfl
def ydi (k:Nat):O Try.prog 171:=fc (tt:=tt) [] .id Try.func171 [.one (.int .i64),.one (.int .i64),.one (.int .i64)] (cdZ.p (cdZ.p cdZ)) ⟨.h 0,[]⟩ cdZ (.sc) (fun a=>zE k a.1 a.2.1 a.2.2) (by kernel_rfl) fun a=>by kernel_rfl
def ydj (k:Nat):O Try.prog 166:=fc (tt:=tt) [⟨171,ydi k⟩] .id Try.func166 [.one (.int .i64)] cdZ ⟨.h 0,[]⟩ cdZ (.sc) (fun a=>qa k a) (by kernel_rfl) fun a=>by kernel_rfl
def ydk (k:Nat):O Try.prog 169:=fc (tt:=tt) [⟨171,ydi k⟩] .id Try.func169 [.one (.int .i64)] cdZ ⟨.h 0,[]⟩ cdZ (.sc) (fun a=>iG k a) (by kernel_rfl) fun a=>by kernel_rfl
def ydl (k:Nat):O Try.prog 161:=fc (tt:=tt) [⟨169,ydk k⟩] .id Try.func161 [.one (.int .i64),.one (.int .i64)] (cdZ.p cdZ) ⟨.h 0,[]⟩ cdZ (.sc) (fun a=>mW k a.1 a.2) (by kernel_rfl) fun a=>by kernel_rfl
noncomputable def ydm (k:Nat):Env:=jl (P:=Try.prog) tt [⟨161,ydl k⟩,⟨166,ydj k⟩]
theorem ydn (k:Nat):cd (ydm k):=fun g=>bm _ g
noncomputable def ydo:Code:=(Try.f159.body).getD .skip
noncomputable def ydp:Code:=((aK 0 ydo).getD 0 (0,.skip)).2
def ydq:List Nat:=[0,1,5,11,12]
def ydr:List (aQ× Co):=[]
def yds:Ex→List Nat
  |.exit j=>cond (Nat.beq j 0) [5] []
  |.ret=>[]
  |.normal=>[]
def ydt:Ex→List (aQ× Co)
  |.exit j=>cond (Nat.beq j 0) [] []
  |.ret=>[]
  |.normal=>[]
def ydu (pv:(List Int× List Int× Int)× (Int× Int)):St:={ax:=[(0,.r [] (.sl (.int .i64) pv.1.1)),(1,.r [] (.sl (.int .i64) pv.1.2.1)),(5,.r [] (.int .i64 pv.2.1)),(11,.r [] (.int .i64 pv.1.2.2)),(12,.r [] (.int .i64 pv.2.2))],heap:=[],nid:=0,n:=30,gh:=[]}
def ydv (nf:NF):Option ((List Int× List Int× Int)× (Int× Int)):=match nf with
  |([.r [] (.sl (.int .i64) w0),.r [] (.sl (.int .i64) w1),.r [] (.int .i64 w2),.r [] (.int .i64 w3),.r [] (.int .i64 w4)],[],[])=>some ((w0,w1,w3),(w2,w4))
  |_=>none
theorem ydw (nf:NF) (v:(List Int× List Int× Int)× (Int× Int)) (h:ydv nf=some v):al ydq 30 nf=ydu v:=by
  unfold ydv at h
  split at h
  · cases h;rfl
  · cases h
def ydx (p:List Int× List Int× Int) (x:Int):St:={ax:=[(5,.r [] (.int .i64 x))],heap:=[],nid:=0,n:=30,gh:=[]}
def ydy (ρ:Type) (k:Nat):Nat→Ev ρ→Ev ρ:=fun id f=>cond (Nat.beq id 0) (aX ydq ydr (fun n nf=>cond (Nat.beq n 30) (ydv nf) none) fun pv K=>iter (fun v next=>gC k pv.1 v next (fun x=>K (.exit 0) (ydx pv.1 x))) k pv.2) ((fun _ _ _ _=>none) id f)
theorem ydz {ρ:Type} (k:Nat) (p:List Int× List Int× Int) (v:Int× Int) (K K1:Ex→St→Option ρ):ev (ydm k) (ydy ρ k) 0 ydp (ydu (p,v)) (fun e st'=>match e with
    |.normal=>(aW ydq ydr st').bind fun nf=>K1 .normal (al ydq st'.n nf)
    |e=>(aW (yds e) (ydt e) st').bind fun nf=>K e (al (yds e) st'.n nf))=gC k p v (fun v'=>K1 .normal (ydu (p,v'))) (fun x=>K (.exit 0) (ydx p x)):=by kernel_rfl
theorem ye0 {ρ:Type} (k:Nat):Sound Try.prog (.loop ydp) (ydy ρ k 0 fun st K=>ev (ydm k) (ydy ρ k) 0 ydp st K):=
  bg (aG (ydn k) ydp 0 (av (by kernel_rfl))) yds ydt k (g:=fun p v next K=>gC k p v next (fun x=>K (.exit 0) (ydx p x))) (bz ydw) (fun p v K K1=>ydz k p v K K1)
def ye1 (k:Nat):O Try.prog 159:=⟨oP [.one (.sl (.int .i64)),.one (.sl (.int .i64))] ((cdL (.int .i64)).p (cdL (.int .i64))) ⟨.h 0,[]⟩ cdZ fun a=>s9 k a.1 a.2,okP (LP:=ydy _ k) (ydn k) Try.func159 (by kernel_rfl) (by kernel_rfl) (by kernel_rfl) (aI (l:=[(0,ydp)]) (by kernel_rfl) ⟨ye0 k,trivial⟩) (.sc) fun a=>by kernel_rfl⟩
def ye2 (k:Nat):O Try.prog 168:=fc (tt:=tt) [⟨169,ydk k⟩] .id Try.func168 [.one (.int .i64),.one (.int .i64)] (cdZ.p cdZ) ⟨.h 0,[]⟩ cdZ (.sc) (fun a=>mX k a.1 a.2) (by kernel_rfl) fun a=>by kernel_rfl
def ye3 (k:Nat):O Try.prog 146:=fc (tt:=tt) [] .id Try.func146 [.one (.int .i64),.one (.int .i64)] (cdZ.p cdZ) ⟨.h 0,[]⟩ cdZ (.sc) (fun a=>jO k a.1 a.2) (by kernel_rfl) fun a=>by kernel_rfl
def ye4 (k:Nat):O Try.prog 146:=fc (tt:=tt) [⟨146,ye3 k⟩] .id Try.func146 [.one (.int .i64),.one (.int .i64)] (cdZ.p cdZ) ⟨.h 0,[]⟩ cdZ (.sc) (fun a=>jc k a.1 a.2) (by kernel_rfl) fun a=>by kernel_rfl
def ye5 (k:Nat):O Try.prog 167:=fc (tt:=tt) [⟨146,ye4 k⟩,⟨169,ydk k⟩,⟨171,ydi k⟩] .id Try.func167 [.one (.int .i64),.one (.int .i64)] (cdZ.p cdZ) ⟨.h 0,[]⟩ cdZ (.sc) (fun a=>ik k a.1 a.2) (by kernel_rfl) fun a=>by kernel_rfl
def ye6 (k:Nat):O Try.prog 160:=fc (tt:=tt) [⟨166,ydj k⟩,⟨167,ye5 k⟩,⟨168,ye2 k⟩] .id Try.func160 [.one (.int .i64),.one (.int .i64),.one (.int .i64),.one (.int .i64)] (cdZ.p (cdZ.p (cdZ.p cdZ))) ⟨.h 0,[]⟩ cdZ (.sc) (fun a=>mY k a.1 a.2.1 a.2.2.1 a.2.2.2) (by kernel_rfl) fun a=>by kernel_rfl
def ye7 (k:Nat):O Try.prog 143:=fc (tt:=tt) [⟨159,ye1 k⟩,⟨160,ye6 k⟩,⟨161,ydl k⟩] .id Try.func143 [.agg [(.int .i64),(.int .i64),(.int .i64),(.int .i64),(.int .i64),(.int .i64),(.int .i64),(.sl (.int .i64)),(.sl (.int .i64))],.one (.sl (.int .i64)),.one (.int .i64)] ((cdS .aJ).p ((cdL (.int .i64)).p cdZ)) ⟨.h 0,[]⟩ cdZ (.sc) (fun a=>db k a.1 a.2.1 a.2.2) (by kernel_rfl) fun a=>by kernel_rfl
def ye8 (k:Nat):O Try.prog 147:=fc (tt:=tt) [] .id Try.func147 [.agg [(.int .i64),(.int .i64),(.int .i64)],.one (.int .i64),.one (.int .i64),.one (.int .i64)] ((cdS .shape).p (cdZ.p (cdZ.p cdZ))) ⟨.h 0,[]⟩ cdZ (.sc) (fun a=>eS k a.1 a.2.1 a.2.2.1 a.2.2.2) (by kernel_rfl) fun a=>by kernel_rfl
noncomputable def ye9 (k:Nat):Env:=jl (P:=Try.prog) tt [⟨147,ye8 k⟩]
theorem yea (k:Nat):cd (ye9 k):=fun g=>bm _ g
noncomputable def yeb:Code:=(Try.f144.body).getD .skip
noncomputable def yec:Code:=((aK 0 yeb).getD 0 (0,.skip)).2
noncomputable def yed:Code:=((aK 0 yec).getD 0 (0,.skip)).2
def yee:List Nat:=[2,3,4,5,6,11,12,17,18,22,23]
def yef:List (aQ× Co):=[]
def yeg:Ex→List Nat
  |.exit j=>cond (Nat.beq j 2) [2,3,4,5,6,11,17,18] []
  |.ret=>[]
  |.normal=>[]
def yeh:Ex→List (aQ× Co)
  |.exit j=>cond (Nat.beq j 2) [] []
  |.ret=>[]
  |.normal=>[]
def yei (pv:(Int× Int× Int× Int× Int× Int× Int× Int× Int× Int× Int× Int× Int× Int× List Int× List Int× Int× Int× Int× List Int)× (Int× List Int)):St:={ax:=[(2,.r [] (.int .i64 pv.1.1)),(3,.r [] (.int .i64 pv.1.2.1)),(4,.r [] (.int .i64 pv.1.2.2.1)),(5,.ptr 0 0 0),(6,.ptr 1 0 0),(11,.own 2),(12,.r [] (.int .i64 pv.1.2.2.2.1)),(17,.r [] (.int .i64 pv.1.2.2.2.2.1)),(18,.r [] (.int .i64 pv.1.2.2.2.2.2.1)),(22,.r [] (.int .i64 pv.1.2.2.2.2.2.2.1)),(23,.r [] (.int .i64 pv.2.1))],heap:=[(0,.box [.r [] (.int .i64 pv.1.2.2.2.2.2.2.2.1),.r [] (.int .i64 pv.1.2.2.2.2.2.2.2.2.1),.r [] (.int .i64 pv.1.2.2.2.2.2.2.2.2.2.1),.r [] (.int .i64 pv.1.2.2.2.2.2.2.2.2.2.2.1),.r [] (.int .i64 pv.1.2.2.2.2.2.2.2.2.2.2.2.1),.r [] (.int .i64 pv.1.2.2.2.2.2.2.2.2.2.2.2.2.1),.r [] (.int .i64 pv.1.2.2.2.2.2.2.2.2.2.2.2.2.2.1),.r [] (.sl (.int .i64) pv.1.2.2.2.2.2.2.2.2.2.2.2.2.2.2.1),.r [] (.sl (.int .i64) pv.1.2.2.2.2.2.2.2.2.2.2.2.2.2.2.2.1)]),(1,.box [.r [] (.int .i64 pv.1.2.2.2.2.2.2.2.2.2.2.2.2.2.2.2.2.1),.r [] (.int .i64 pv.1.2.2.2.2.2.2.2.2.2.2.2.2.2.2.2.2.2.1),.r [] (.int .i64 pv.1.2.2.2.2.2.2.2.2.2.2.2.2.2.2.2.2.2.2.1),.r [] (.sl (.int .i64) pv.1.2.2.2.2.2.2.2.2.2.2.2.2.2.2.2.2.2.2.2)]),(2,.arr none (.int .i64) pv.2.2)],nid:=3,n:=67,gh:=[]}
def yej (nf:NF):Option ((Int× Int× Int× Int× Int× Int× Int× Int× Int× Int× Int× Int× Int× Int× List Int× List Int× Int× Int× Int× List Int)× (Int× List Int)):=match nf with
  |([.r [] (.int .i64 w0),.r [] (.int .i64 w1),.r [] (.int .i64 w2),.ptr 0 0 0,.ptr 1 0 0,.own 2,.r [] (.int .i64 w3),.r [] (.int .i64 w4),.r [] (.int .i64 w5),.r [] (.int .i64 w6),.r [] (.int .i64 w7)],[.box [.r [] (.int .i64 w8),.r [] (.int .i64 w9),.r [] (.int .i64 w10),.r [] (.int .i64 w11),.r [] (.int .i64 w12),.r [] (.int .i64 w13),.r [] (.int .i64 w14),.r [] (.sl (.int .i64) w15),.r [] (.sl (.int .i64) w16)],.box [.r [] (.int .i64 w17),.r [] (.int .i64 w18),.r [] (.int .i64 w19),.r [] (.sl (.int .i64) w20)],.arr none (.int .i64) w21],[])=>some ((w0,w1,w2,w3,w4,w5,w6,w8,w9,w10,w11,w12,w13,w14,w15,w16,w17,w18,w19,w20),(w7,w21))
  |_=>none
theorem yek (nf:NF) (v:(Int× Int× Int× Int× Int× Int× Int× Int× Int× Int× Int× Int× Int× Int× List Int× List Int× Int× Int× Int× List Int)× (Int× List Int)) (h:yej nf=some v):al yee 67 nf=yei v:=by
  unfold yej at h
  split at h
  · cases h;rfl
  · cases h
def yel (p:Int× Int× Int× Int× Int× Int× Int× Int× Int× Int× Int× Int× Int× Int× List Int× List Int× Int× Int× Int× List Int) (x:List Int):St:={ax:=[(2,.r [] (.int .i64 p.1)),(3,.r [] (.int .i64 p.2.1)),(4,.r [] (.int .i64 p.2.2.1)),(5,.ptr 0 0 0),(6,.ptr 1 0 0),(11,.own 2),(17,.r [] (.int .i64 p.2.2.2.2.1)),(18,.r [] (.int .i64 p.2.2.2.2.2.1))],heap:=[(0,.box [.r [] (.int .i64 p.2.2.2.2.2.2.2.1),.r [] (.int .i64 p.2.2.2.2.2.2.2.2.1),.r [] (.int .i64 p.2.2.2.2.2.2.2.2.2.1),.r [] (.int .i64 p.2.2.2.2.2.2.2.2.2.2.1),.r [] (.int .i64 p.2.2.2.2.2.2.2.2.2.2.2.1),.r [] (.int .i64 p.2.2.2.2.2.2.2.2.2.2.2.2.1),.r [] (.int .i64 p.2.2.2.2.2.2.2.2.2.2.2.2.2.1),.r [] (.sl (.int .i64) p.2.2.2.2.2.2.2.2.2.2.2.2.2.2.1),.r [] (.sl (.int .i64) p.2.2.2.2.2.2.2.2.2.2.2.2.2.2.2.1)]),(1,.box [.r [] (.int .i64 p.2.2.2.2.2.2.2.2.2.2.2.2.2.2.2.2.1),.r [] (.int .i64 p.2.2.2.2.2.2.2.2.2.2.2.2.2.2.2.2.2.1),.r [] (.int .i64 p.2.2.2.2.2.2.2.2.2.2.2.2.2.2.2.2.2.2.1),.r [] (.sl (.int .i64) p.2.2.2.2.2.2.2.2.2.2.2.2.2.2.2.2.2.2.2)]),(2,.arr none (.int .i64) x)],nid:=3,n:=67,gh:=[]}
def yem:List Nat:=[2,3,4,5,6,11,17,18]
def yen:List (aQ× Co):=[]
def yeo:Ex→List Nat
  |.exit j=>cond (Nat.beq j 0) [11] []
  |.ret=>[]
  |.normal=>[]
def yep:Ex→List (aQ× Co)
  |.exit j=>cond (Nat.beq j 0) [] []
  |.ret=>[]
  |.normal=>[]
def yeq (pv:(Int× Int× Int× Int× Int× Int× Int× Int× Int× Int× Int× List Int× List Int× Int× Int× Int× List Int)× (Int× List Int)):St:={ax:=[(2,.r [] (.int .i64 pv.1.1)),(3,.r [] (.int .i64 pv.1.2.1)),(4,.r [] (.int .i64 pv.1.2.2.1)),(5,.ptr 0 0 0),(6,.ptr 1 0 0),(11,.own 2),(17,.r [] (.int .i64 pv.1.2.2.2.1)),(18,.r [] (.int .i64 pv.2.1))],heap:=[(0,.box [.r [] (.int .i64 pv.1.2.2.2.2.1),.r [] (.int .i64 pv.1.2.2.2.2.2.1),.r [] (.int .i64 pv.1.2.2.2.2.2.2.1),.r [] (.int .i64 pv.1.2.2.2.2.2.2.2.1),.r [] (.int .i64 pv.1.2.2.2.2.2.2.2.2.1),.r [] (.int .i64 pv.1.2.2.2.2.2.2.2.2.2.1),.r [] (.int .i64 pv.1.2.2.2.2.2.2.2.2.2.2.1),.r [] (.sl (.int .i64) pv.1.2.2.2.2.2.2.2.2.2.2.2.1),.r [] (.sl (.int .i64) pv.1.2.2.2.2.2.2.2.2.2.2.2.2.1)]),(1,.box [.r [] (.int .i64 pv.1.2.2.2.2.2.2.2.2.2.2.2.2.2.1),.r [] (.int .i64 pv.1.2.2.2.2.2.2.2.2.2.2.2.2.2.2.1),.r [] (.int .i64 pv.1.2.2.2.2.2.2.2.2.2.2.2.2.2.2.2.1),.r [] (.sl (.int .i64) pv.1.2.2.2.2.2.2.2.2.2.2.2.2.2.2.2.2)]),(2,.arr none (.int .i64) pv.2.2)],nid:=3,n:=67,gh:=[]}
def yer (nf:NF):Option ((Int× Int× Int× Int× Int× Int× Int× Int× Int× Int× Int× List Int× List Int× Int× Int× Int× List Int)× (Int× List Int)):=match nf with
  |([.r [] (.int .i64 w0),.r [] (.int .i64 w1),.r [] (.int .i64 w2),.ptr 0 0 0,.ptr 1 0 0,.own 2,.r [] (.int .i64 w3),.r [] (.int .i64 w4)],[.box [.r [] (.int .i64 w5),.r [] (.int .i64 w6),.r [] (.int .i64 w7),.r [] (.int .i64 w8),.r [] (.int .i64 w9),.r [] (.int .i64 w10),.r [] (.int .i64 w11),.r [] (.sl (.int .i64) w12),.r [] (.sl (.int .i64) w13)],.box [.r [] (.int .i64 w14),.r [] (.int .i64 w15),.r [] (.int .i64 w16),.r [] (.sl (.int .i64) w17)],.arr none (.int .i64) w18],[])=>some ((w0,w1,w2,w3,w5,w6,w7,w8,w9,w10,w11,w12,w13,w14,w15,w16,w17),(w4,w18))
  |_=>none
theorem yet (nf:NF) (v:(Int× Int× Int× Int× Int× Int× Int× Int× Int× Int× Int× List Int× List Int× Int× Int× Int× List Int)× (Int× List Int)) (h:yer nf=some v):al yem 67 nf=yeq v:=by
  unfold yer at h
  split at h
  · cases h;rfl
  · cases h
def yeu (p:Int× Int× Int× Int× Int× Int× Int× Int× Int× Int× Int× List Int× List Int× Int× Int× Int× List Int) (x:List Int):St:={ax:=[(11,.own 0)],heap:=[(0,.arr none (.int .i64) x)],nid:=1,n:=67,gh:=[]}
def yev (ρ:Type) (k:Nat):Nat→Ev ρ→Ev ρ:=fun id f=>cond (Nat.beq id 0) (aX yem yen (fun n nf=>cond (Nat.beq n 67) (yer nf) none) fun pv K=>iter (fun v next=>bF k pv.1 v next (fun x=>K (.exit 0) (yeu pv.1 x))) k pv.2) ((fun id f=>cond (Nat.beq id 2) (aX yee yef (fun n nf=>cond (Nat.beq n 67) (yej nf) none) fun pv K=>iter (fun v next=>bE k pv.1 v next (fun x=>K (.exit 2) (yel pv.1 x))) k pv.2) ((fun _ _ _ _=>none) id f)) id f)
theorem yew {ρ:Type} (k:Nat) (p:Int× Int× Int× Int× Int× Int× Int× Int× Int× Int× Int× Int× Int× Int× List Int× List Int× Int× Int× Int× List Int) (v:Int× List Int) (K K1:Ex→St→Option ρ):ev (ye9 k) (yev ρ k) 2 yed (yei (p,v)) (fun e st'=>match e with
    |.normal=>(aW yee yef st').bind fun nf=>K1 .normal (al yee st'.n nf)
    |e=>(aW (yeg e) (yeh e) st').bind fun nf=>K e (al (yeg e) st'.n nf))=bE k p v (fun v'=>K1 .normal (yei (p,v'))) (fun x=>K (.exit 2) (yel p x)):=by kernel_rfl
theorem yex {ρ:Type} (k:Nat):Sound Try.prog (.loop yed) (yev ρ k 2 fun st K=>ev (ye9 k) (yev ρ k) 2 yed st K):=
  bg (aG (yea k) yed 2 (av (by kernel_rfl))) yeg yeh k (g:=fun p v next K=>bE k p v next (fun x=>K (.exit 2) (yel p x))) (bz yek) (fun p v K K1=>yew k p v K K1)
theorem yey {ρ:Type} (k:Nat) (p:Int× Int× Int× Int× Int× Int× Int× Int× Int× Int× Int× List Int× List Int× Int× Int× Int× List Int) (v:Int× List Int) (K K1:Ex→St→Option ρ):ev (ye9 k) (yev ρ k) 0 yec (yeq (p,v)) (fun e st'=>match e with
    |.normal=>(aW yem yen st').bind fun nf=>K1 .normal (al yem st'.n nf)
    |e=>(aW (yeo e) (yep e) st').bind fun nf=>K e (al (yeo e) st'.n nf))=bF k p v (fun v'=>K1 .normal (yeq (p,v'))) (fun x=>K (.exit 0) (yeu p x)):=by kernel_rfl
theorem yez {ρ:Type} (k:Nat):Sound Try.prog (.loop yec) (yev ρ k 0 fun st K=>ev (ye9 k) (yev ρ k) 0 yec st K):=
  bg (aG (yea k) yec 0 (aI (l:=[(2,yed)]) (by kernel_rfl) ⟨yex k,trivial⟩)) yeo yep k (g:=fun p v next K=>bF k p v next (fun x=>K (.exit 0) (yeu p x))) (bz yet) (fun p v K K1=>yey k p v K K1)
def yf0 (k:Nat):O Try.prog 144:=⟨oP [.agg [(.int .i64),(.int .i64),(.int .i64),(.int .i64),(.int .i64),(.int .i64),(.int .i64),(.sl (.int .i64)),(.sl (.int .i64))],.agg [(.int .i64),(.int .i64),(.int .i64),(.sl (.int .i64))],.one (.int .i64),.one (.int .i64),.one (.int .i64)] ((cdS .aJ).p ((cdS .bW).p (cdZ.p (cdZ.p cdZ)))) ⟨.own 0,[.arr none (.int .i64) 0]⟩ (cdL (.int .i64)) fun a=>bu k a.1 a.2.1 a.2.2.1 a.2.2.2.1 a.2.2.2.2,okP (LP:=yev _ k) (yea k) Try.func144 (by kernel_rfl) (by kernel_rfl) (by kernel_rfl) (aI (l:=[(0,yec)]) (by kernel_rfl) ⟨yez k,trivial⟩) (.own (.int .i64)) fun a=>by kernel_rfl⟩
noncomputable def yf1 (k:Nat):Env:=jl (P:=Try.prog) tt []
theorem yf2 (k:Nat):cd (yf1 k):=fun g=>bm _ g
noncomputable def yf3:Code:=(Try.f145.body).getD .skip
noncomputable def yf4:Code:=((aK 0 yf3).getD 0 (0,.skip)).2
def yf5:List Nat:=[0,3,4]
def yf6:List (aQ× Co):=[]
def yf7:Ex→List Nat
  |.exit j=>cond (Nat.beq j 0) [3] []
  |.ret=>[]
  |.normal=>[]
def yf8:Ex→List (aQ× Co)
  |.exit j=>cond (Nat.beq j 0) [] []
  |.ret=>[]
  |.normal=>[]
def yf9 (pv:(List Int)× (Int× Int)):St:={ax:=[(0,.r [] (.sl (.int .i64) pv.1)),(3,.r [] (.int .i64 pv.2.1)),(4,.r [] (.int .i64 pv.2.2))],heap:=[],nid:=0,n:=25,gh:=[]}
def yfa (nf:NF):Option ((List Int)× (Int× Int)):=match nf with
  |([.r [] (.sl (.int .i64) w0),.r [] (.int .i64 w1),.r [] (.int .i64 w2)],[],[])=>some (w0,(w1,w2))
  |_=>none
theorem yfb (nf:NF) (v:(List Int)× (Int× Int)) (h:yfa nf=some v):al yf5 25 nf=yf9 v:=by
  unfold yfa at h
  split at h
  · cases h;rfl
  · cases h
def yfc (p:List Int) (x:Int):St:={ax:=[(3,.r [] (.int .i64 x))],heap:=[],nid:=0,n:=25,gh:=[]}
def yfd (ρ:Type) (k:Nat):Nat→Ev ρ→Ev ρ:=fun id f=>cond (Nat.beq id 0) (aX yf5 yf6 (fun n nf=>cond (Nat.beq n 25) (yfa nf) none) fun pv K=>iter (fun v next=>br k pv.1 v next (fun x=>K (.exit 0) (yfc pv.1 x))) k pv.2) ((fun _ _ _ _=>none) id f)
theorem yfe {ρ:Type} (k:Nat) (p:List Int) (v:Int× Int) (K K1:Ex→St→Option ρ):ev (yf1 k) (yfd ρ k) 0 yf4 (yf9 (p,v)) (fun e st'=>match e with
    |.normal=>(aW yf5 yf6 st').bind fun nf=>K1 .normal (al yf5 st'.n nf)
    |e=>(aW (yf7 e) (yf8 e) st').bind fun nf=>K e (al (yf7 e) st'.n nf))=br k p v (fun v'=>K1 .normal (yf9 (p,v'))) (fun x=>K (.exit 0) (yfc p x)):=by kernel_rfl
theorem yff {ρ:Type} (k:Nat):Sound Try.prog (.loop yf4) (yfd ρ k 0 fun st K=>ev (yf1 k) (yfd ρ k) 0 yf4 st K):=
  bg (aG (yf2 k) yf4 0 (av (by kernel_rfl))) yf7 yf8 k (g:=fun p v next K=>br k p v next (fun x=>K (.exit 0) (yfc p x))) (bz yfb) (fun p v K K1=>yfe k p v K K1)
def yfg (k:Nat):O Try.prog 145:=⟨oP [.one (.sl (.int .i64))] (cdL (.int .i64)) ⟨.h 0,[]⟩ cdZ fun a=>cV k a,okP (LP:=yfd _ k) (yf2 k) Try.func145 (by kernel_rfl) (by kernel_rfl) (by kernel_rfl) (aI (l:=[(0,yf4)]) (by kernel_rfl) ⟨yff k,trivial⟩) (.sc) fun a=>by kernel_rfl⟩
noncomputable def yfh (k:Nat):Env:=jl (P:=Try.prog) tt [⟨143,ye7 k⟩,⟨144,yf0 k⟩,⟨145,yfg k⟩,⟨146,ye4 k⟩,⟨147,ye8 k⟩]
theorem yfi (k:Nat):cd (yfh k):=fun g=>bm _ g
noncomputable def yfj:Code:=(Try.f120.body).getD .skip
noncomputable def yfk:Code:=((aK 0 yfj).getD 0 (0,.skip)).2
def yfl:List Nat:=[5,11,49,50,51]
def yfm:List (aQ× Co):=[]
def yfn:Ex→List Nat
  |.exit j=>cond (Nat.beq j 1) [5,11] []
  |.ret=>[]
  |.normal=>[]
def yfo:Ex→List (aQ× Co)
  |.exit j=>cond (Nat.beq j 1) [] []
  |.ret=>[]
  |.normal=>[]
def yfp (pv:(Int× Int× Int× Int× Int× Int× Int× Int× List Int× List Int× List Int)× (Int× Int)):St:={ax:=[(5,.ptr 0 0 0),(11,.r [] (.int .i64 pv.2.1)),(49,.own 1),(50,.r [] (.int .i64 pv.1.1)),(51,.r [] (.int .i64 pv.2.2))],heap:=[(0,.box [.r [] (.int .i64 pv.1.2.1),.r [] (.int .i64 pv.1.2.2.1),.r [] (.int .i64 pv.1.2.2.2.1),.r [] (.int .i64 pv.1.2.2.2.2.1),.r [] (.int .i64 pv.1.2.2.2.2.2.1),.r [] (.int .i64 pv.1.2.2.2.2.2.2.1),.r [] (.int .i64 pv.1.2.2.2.2.2.2.2.1),.r [] (.sl (.int .i64) pv.1.2.2.2.2.2.2.2.2.1),.r [] (.sl (.int .i64) pv.1.2.2.2.2.2.2.2.2.2.1)]),(1,.arr none (.int .i64) pv.1.2.2.2.2.2.2.2.2.2.2)],nid:=2,n:=86,gh:=[]}
def yfq (nf:NF):Option ((Int× Int× Int× Int× Int× Int× Int× Int× List Int× List Int× List Int)× (Int× Int)):=match nf with
  |([.ptr 0 0 0,.r [] (.int .i64 w0),.own 1,.r [] (.int .i64 w1),.r [] (.int .i64 w2)],[.box [.r [] (.int .i64 w3),.r [] (.int .i64 w4),.r [] (.int .i64 w5),.r [] (.int .i64 w6),.r [] (.int .i64 w7),.r [] (.int .i64 w8),.r [] (.int .i64 w9),.r [] (.sl (.int .i64) w10),.r [] (.sl (.int .i64) w11)],.arr none (.int .i64) w12],[])=>some ((w1,w3,w4,w5,w6,w7,w8,w9,w10,w11,w12),(w0,w2))
  |_=>none
theorem yfr (nf:NF) (v:(Int× Int× Int× Int× Int× Int× Int× Int× List Int× List Int× List Int)× (Int× Int)) (h:yfq nf=some v):al yfl 86 nf=yfp v:=by
  unfold yfq at h
  split at h
  · cases h;rfl
  · cases h
def yfs (p:Int× Int× Int× Int× Int× Int× Int× Int× List Int× List Int× List Int) (x:Int):St:={ax:=[(5,.ptr 0 0 0),(11,.r [] (.int .i64 x))],heap:=[(0,.box [.r [] (.int .i64 p.2.1),.r [] (.int .i64 p.2.2.1),.r [] (.int .i64 p.2.2.2.1),.r [] (.int .i64 p.2.2.2.2.1),.r [] (.int .i64 p.2.2.2.2.2.1),.r [] (.int .i64 p.2.2.2.2.2.2.1),.r [] (.int .i64 p.2.2.2.2.2.2.2.1),.r [] (.sl (.int .i64) p.2.2.2.2.2.2.2.2.1),.r [] (.sl (.int .i64) p.2.2.2.2.2.2.2.2.2.1)])],nid:=1,n:=86,gh:=[]}
def yft (ρ:Type) (k:Nat):Nat→Ev ρ→Ev ρ:=fun id f=>cond (Nat.beq id 1) (aX yfl yfm (fun n nf=>cond (Nat.beq n 86) (yfq nf) none) fun pv K=>iter (fun v next=>cS k pv.1 v next (fun x=>K (.exit 1) (yfs pv.1 x))) k pv.2) ((fun _ _ _ _=>none) id f)
theorem yfu {ρ:Type} (k:Nat) (p:Int× Int× Int× Int× Int× Int× Int× Int× List Int× List Int× List Int) (v:Int× Int) (K K1:Ex→St→Option ρ):ev (yfh k) (yft ρ k) 1 yfk (yfp (p,v)) (fun e st'=>match e with
    |.normal=>(aW yfl yfm st').bind fun nf=>K1 .normal (al yfl st'.n nf)
    |e=>(aW (yfn e) (yfo e) st').bind fun nf=>K e (al (yfn e) st'.n nf))=cS k p v (fun v'=>K1 .normal (yfp (p,v'))) (fun x=>K (.exit 1) (yfs p x)):=by kernel_rfl
theorem yfv {ρ:Type} (k:Nat):Sound Try.prog (.loop yfk) (yft ρ k 1 fun st K=>ev (yfh k) (yft ρ k) 1 yfk st K):=
  bg (aG (yfi k) yfk 1 (av (by kernel_rfl))) yfn yfo k (g:=fun p v next K=>cS k p v next (fun x=>K (.exit 1) (yfs p x))) (bz yfr) (fun p v K K1=>yfu k p v K K1)
def yfw (k:Nat):O Try.prog 120:=⟨oP [.agg [(.int .i64),(.int .i64),(.int .i64),(.int .i64),(.int .i64),(.int .i64),(.int .i64),(.sl (.int .i64)),(.sl (.int .i64))],.agg [(.int .i64),(.int .i64),(.int .i64),(.sl (.int .i64))],.one (.int .i64),.one (.int .i64),.one (.int .i64)] ((cdS .aJ).p ((cdS .bW).p (cdZ.p (cdZ.p cdZ)))) ⟨.h 0,[]⟩ cdZ fun a=>il k a.1 a.2.1 a.2.2.1 a.2.2.2.1 a.2.2.2.2,okP (LP:=yft _ k) (yfi k) Try.func120 (by kernel_rfl) (by kernel_rfl) (by kernel_rfl) (aI (l:=[(1,yfk)]) (by kernel_rfl) ⟨yfv k,trivial⟩) (.sc) fun a=>by kernel_rfl⟩
noncomputable def yfx (k:Nat):Env:=jl (P:=Try.prog) tt [⟨62,ydh k⟩,⟨119,ycy k⟩,⟨120,yfw k⟩]
theorem yfy (k:Nat):cd (yfx k):=fun g=>bm _ g
noncomputable def yfz:Code:=(Try.f88.body).getD .skip
noncomputable def yg0:Code:=((aK 0 yfz).getD 0 (0,.skip)).2
noncomputable def yg1:Code:=((aK 0 yg0).getD 0 (0,.skip)).2
noncomputable def yg2:Code:=((aK 2 yg1).getD 0 (0,.skip)).2
def yg3:List Nat:=[2,3,4,6,8,9,10,30,31,35,36,40,41]
def yg4:List (aQ× Co):=[]
def yg5:Ex→List Nat
  |.exit j=>cond (Nat.beq j 4) [2,3,4,6,8,9,30,31,35,36] []
  |.ret=>[]
  |.normal=>[]
def yg6:Ex→List (aQ× Co)
  |.exit j=>cond (Nat.beq j 4) [] []
  |.ret=>[]
  |.normal=>[]
def yg7 (pv:(Int× Int× Int× Int× Int× Int× Int× Int× Int× Int× List Int× Int× Int× Int× Int× Int× Int× Int× List Int× List Int× Int× Int× Int× Int× Int× Int× Int× Int× Int)× (Int× List Int)):St:={ax:=[(2,.ptr 0 0 0),(3,.ptr 1 0 0),(4,.ptr 2 0 0),(6,.ptr 3 0 0),(8,.ptr 4 0 0),(9,.r [] (.int .i64 pv.1.1)),(10,.r [] (.int .i64 pv.1.2.1)),(30,.r [] (.int .i64 pv.1.2.2.1)),(31,.r [] (.int .i64 pv.1.2.2.2.1)),(35,.r [] (.int .i64 pv.1.2.2.2.2.1)),(36,.r [] (.int .i64 pv.1.2.2.2.2.2.1)),(40,.r [] (.int .i64 pv.1.2.2.2.2.2.2.1)),(41,.r [] (.int .i64 pv.2.1))],heap:=[(0,.box [.r [] (.int .i64 pv.1.2.2.2.2.2.2.2.1),.r [] (.int .i64 pv.1.2.2.2.2.2.2.2.2.1),.r [] (.int .i64 pv.1.2.2.2.2.2.2.2.2.2.1),.r [] (.sl (.int .i64) pv.1.2.2.2.2.2.2.2.2.2.2.1)]),(1,.box [.r [] (.int .i64 pv.1.2.2.2.2.2.2.2.2.2.2.2.1),.r [] (.int .i64 pv.1.2.2.2.2.2.2.2.2.2.2.2.2.1),.r [] (.int .i64 pv.1.2.2.2.2.2.2.2.2.2.2.2.2.2.1),.r [] (.int .i64 pv.1.2.2.2.2.2.2.2.2.2.2.2.2.2.2.1),.r [] (.int .i64 pv.1.2.2.2.2.2.2.2.2.2.2.2.2.2.2.2.1),.r [] (.int .i64 pv.1.2.2.2.2.2.2.2.2.2.2.2.2.2.2.2.2.1),.r [] (.int .i64 pv.1.2.2.2.2.2.2.2.2.2.2.2.2.2.2.2.2.2.1),.r [] (.sl (.int .i64) pv.1.2.2.2.2.2.2.2.2.2.2.2.2.2.2.2.2.2.2.1),.r [] (.sl (.int .i64) pv.1.2.2.2.2.2.2.2.2.2.2.2.2.2.2.2.2.2.2.2.1)]),(2,.box [.r [] (.int .i64 pv.1.2.2.2.2.2.2.2.2.2.2.2.2.2.2.2.2.2.2.2.2.1),.r [] (.int .i64 pv.1.2.2.2.2.2.2.2.2.2.2.2.2.2.2.2.2.2.2.2.2.2.1),.r [] (.int .i64 pv.1.2.2.2.2.2.2.2.2.2.2.2.2.2.2.2.2.2.2.2.2.2.2.1),.bw]),(3,.box [.r [] (.int .i64 pv.1.2.2.2.2.2.2.2.2.2.2.2.2.2.2.2.2.2.2.2.2.2.2.2.1),.r [] (.int .i64 pv.1.2.2.2.2.2.2.2.2.2.2.2.2.2.2.2.2.2.2.2.2.2.2.2.2.1),.r [] (.int .i64 pv.1.2.2.2.2.2.2.2.2.2.2.2.2.2.2.2.2.2.2.2.2.2.2.2.2.2.1)]),(4,.box [.r [] (.int .i64 pv.1.2.2.2.2.2.2.2.2.2.2.2.2.2.2.2.2.2.2.2.2.2.2.2.2.2.2.1),.r [] (.int .i64 pv.1.2.2.2.2.2.2.2.2.2.2.2.2.2.2.2.2.2.2.2.2.2.2.2.2.2.2.2.1),.r [] (.int .i64 pv.1.2.2.2.2.2.2.2.2.2.2.2.2.2.2.2.2.2.2.2.2.2.2.2.2.2.2.2.2),.own 5]),(5,.arr none (.int .i64) pv.2.2)],nid:=6,n:=59,gh:=[]}
def yg8 (nf:NF):Option ((Int× Int× Int× Int× Int× Int× Int× Int× Int× Int× List Int× Int× Int× Int× Int× Int× Int× Int× List Int× List Int× Int× Int× Int× Int× Int× Int× Int× Int× Int)× (Int× List Int)):=match nf with
  |([.ptr 0 0 0,.ptr 1 0 0,.ptr 2 0 0,.ptr 3 0 0,.ptr 4 0 0,.r [] (.int .i64 w0),.r [] (.int .i64 w1),.r [] (.int .i64 w2),.r [] (.int .i64 w3),.r [] (.int .i64 w4),.r [] (.int .i64 w5),.r [] (.int .i64 w6),.r [] (.int .i64 w7)],[.box [.r [] (.int .i64 w8),.r [] (.int .i64 w9),.r [] (.int .i64 w10),.r [] (.sl (.int .i64) w11)],.box [.r [] (.int .i64 w12),.r [] (.int .i64 w13),.r [] (.int .i64 w14),.r [] (.int .i64 w15),.r [] (.int .i64 w16),.r [] (.int .i64 w17),.r [] (.int .i64 w18),.r [] (.sl (.int .i64) w19),.r [] (.sl (.int .i64) w20)],.box [.r [] (.int .i64 w21),.r [] (.int .i64 w22),.r [] (.int .i64 w23),.bw],.box [.r [] (.int .i64 w24),.r [] (.int .i64 w25),.r [] (.int .i64 w26)],.box [.r [] (.int .i64 w27),.r [] (.int .i64 w28),.r [] (.int .i64 w29),.own 5],.arr none (.int .i64) w30],[])=>some ((w0,w1,w2,w3,w4,w5,w6,w8,w9,w10,w11,w12,w13,w14,w15,w16,w17,w18,w19,w20,w21,w22,w23,w24,w25,w26,w27,w28,w29),(w7,w30))
  |_=>none
theorem yg9 (nf:NF) (v:(Int× Int× Int× Int× Int× Int× Int× Int× Int× Int× List Int× Int× Int× Int× Int× Int× Int× Int× List Int× List Int× Int× Int× Int× Int× Int× Int× Int× Int× Int)× (Int× List Int)) (h:yg8 nf=some v):al yg3 59 nf=yg7 v:=by
  unfold yg8 at h
  split at h
  · cases h;rfl
  · cases h
def yga (p:Int× Int× Int× Int× Int× Int× Int× Int× Int× Int× List Int× Int× Int× Int× Int× Int× Int× Int× List Int× List Int× Int× Int× Int× Int× Int× Int× Int× Int× Int) (x:List Int):St:={ax:=[(2,.ptr 0 0 0),(3,.ptr 1 0 0),(4,.ptr 2 0 0),(6,.ptr 3 0 0),(8,.ptr 4 0 0),(9,.r [] (.int .i64 p.1)),(30,.r [] (.int .i64 p.2.2.1)),(31,.r [] (.int .i64 p.2.2.2.1)),(35,.r [] (.int .i64 p.2.2.2.2.1)),(36,.r [] (.int .i64 p.2.2.2.2.2.1))],heap:=[(0,.box [.r [] (.int .i64 p.2.2.2.2.2.2.2.1),.r [] (.int .i64 p.2.2.2.2.2.2.2.2.1),.r [] (.int .i64 p.2.2.2.2.2.2.2.2.2.1),.r [] (.sl (.int .i64) p.2.2.2.2.2.2.2.2.2.2.1)]),(1,.box [.r [] (.int .i64 p.2.2.2.2.2.2.2.2.2.2.2.1),.r [] (.int .i64 p.2.2.2.2.2.2.2.2.2.2.2.2.1),.r [] (.int .i64 p.2.2.2.2.2.2.2.2.2.2.2.2.2.1),.r [] (.int .i64 p.2.2.2.2.2.2.2.2.2.2.2.2.2.2.1),.r [] (.int .i64 p.2.2.2.2.2.2.2.2.2.2.2.2.2.2.2.1),.r [] (.int .i64 p.2.2.2.2.2.2.2.2.2.2.2.2.2.2.2.2.1),.r [] (.int .i64 p.2.2.2.2.2.2.2.2.2.2.2.2.2.2.2.2.2.1),.r [] (.sl (.int .i64) p.2.2.2.2.2.2.2.2.2.2.2.2.2.2.2.2.2.2.1),.r [] (.sl (.int .i64) p.2.2.2.2.2.2.2.2.2.2.2.2.2.2.2.2.2.2.2.1)]),(2,.box [.r [] (.int .i64 p.2.2.2.2.2.2.2.2.2.2.2.2.2.2.2.2.2.2.2.2.1),.r [] (.int .i64 p.2.2.2.2.2.2.2.2.2.2.2.2.2.2.2.2.2.2.2.2.2.1),.r [] (.int .i64 p.2.2.2.2.2.2.2.2.2.2.2.2.2.2.2.2.2.2.2.2.2.2.1),.bw]),(3,.box [.r [] (.int .i64 p.2.2.2.2.2.2.2.2.2.2.2.2.2.2.2.2.2.2.2.2.2.2.2.1),.r [] (.int .i64 p.2.2.2.2.2.2.2.2.2.2.2.2.2.2.2.2.2.2.2.2.2.2.2.2.1),.r [] (.int .i64 p.2.2.2.2.2.2.2.2.2.2.2.2.2.2.2.2.2.2.2.2.2.2.2.2.2.1)]),(4,.box [.r [] (.int .i64 p.2.2.2.2.2.2.2.2.2.2.2.2.2.2.2.2.2.2.2.2.2.2.2.2.2.2.1),.r [] (.int .i64 p.2.2.2.2.2.2.2.2.2.2.2.2.2.2.2.2.2.2.2.2.2.2.2.2.2.2.2.1),.r [] (.int .i64 p.2.2.2.2.2.2.2.2.2.2.2.2.2.2.2.2.2.2.2.2.2.2.2.2.2.2.2.2),.own 5]),(5,.arr none (.int .i64) x)],nid:=6,n:=59,gh:=[]}
def ygb:List Nat:=[2,3,4,6,8,9,30,31,35,36]
def ygc:List (aQ× Co):=[]
def ygd:Ex→List Nat
  |.exit j=>cond (Nat.beq j 2) [2,3,4,6,8,30,31] []
  |.ret=>[]
  |.normal=>[]
def yge:Ex→List (aQ× Co)
  |.exit j=>cond (Nat.beq j 2) [] []
  |.ret=>[]
  |.normal=>[]
def ygf (pv:(Int× Int× Int× Int× Int× Int× Int× List Int× Int× Int× Int× Int× Int× Int× Int× List Int× List Int× Int× Int× Int× Int× Int× Int× Int× Int× Int)× (Int× List Int)):St:={ax:=[(2,.ptr 0 0 0),(3,.ptr 1 0 0),(4,.ptr 2 0 0),(6,.ptr 3 0 0),(8,.ptr 4 0 0),(9,.r [] (.int .i64 pv.1.1)),(30,.r [] (.int .i64 pv.1.2.1)),(31,.r [] (.int .i64 pv.1.2.2.1)),(35,.r [] (.int .i64 pv.1.2.2.2.1)),(36,.r [] (.int .i64 pv.2.1))],heap:=[(0,.box [.r [] (.int .i64 pv.1.2.2.2.2.1),.r [] (.int .i64 pv.1.2.2.2.2.2.1),.r [] (.int .i64 pv.1.2.2.2.2.2.2.1),.r [] (.sl (.int .i64) pv.1.2.2.2.2.2.2.2.1)]),(1,.box [.r [] (.int .i64 pv.1.2.2.2.2.2.2.2.2.1),.r [] (.int .i64 pv.1.2.2.2.2.2.2.2.2.2.1),.r [] (.int .i64 pv.1.2.2.2.2.2.2.2.2.2.2.1),.r [] (.int .i64 pv.1.2.2.2.2.2.2.2.2.2.2.2.1),.r [] (.int .i64 pv.1.2.2.2.2.2.2.2.2.2.2.2.2.1),.r [] (.int .i64 pv.1.2.2.2.2.2.2.2.2.2.2.2.2.2.1),.r [] (.int .i64 pv.1.2.2.2.2.2.2.2.2.2.2.2.2.2.2.1),.r [] (.sl (.int .i64) pv.1.2.2.2.2.2.2.2.2.2.2.2.2.2.2.2.1),.r [] (.sl (.int .i64) pv.1.2.2.2.2.2.2.2.2.2.2.2.2.2.2.2.2.1)]),(2,.box [.r [] (.int .i64 pv.1.2.2.2.2.2.2.2.2.2.2.2.2.2.2.2.2.2.1),.r [] (.int .i64 pv.1.2.2.2.2.2.2.2.2.2.2.2.2.2.2.2.2.2.2.1),.r [] (.int .i64 pv.1.2.2.2.2.2.2.2.2.2.2.2.2.2.2.2.2.2.2.2.1),.bw]),(3,.box [.r [] (.int .i64 pv.1.2.2.2.2.2.2.2.2.2.2.2.2.2.2.2.2.2.2.2.2.1),.r [] (.int .i64 pv.1.2.2.2.2.2.2.2.2.2.2.2.2.2.2.2.2.2.2.2.2.2.1),.r [] (.int .i64 pv.1.2.2.2.2.2.2.2.2.2.2.2.2.2.2.2.2.2.2.2.2.2.2.1)]),(4,.box [.r [] (.int .i64 pv.1.2.2.2.2.2.2.2.2.2.2.2.2.2.2.2.2.2.2.2.2.2.2.2.1),.r [] (.int .i64 pv.1.2.2.2.2.2.2.2.2.2.2.2.2.2.2.2.2.2.2.2.2.2.2.2.2.1),.r [] (.int .i64 pv.1.2.2.2.2.2.2.2.2.2.2.2.2.2.2.2.2.2.2.2.2.2.2.2.2.2),.own 5]),(5,.arr none (.int .i64) pv.2.2)],nid:=6,n:=59,gh:=[]}
def ygg (nf:NF):Option ((Int× Int× Int× Int× Int× Int× Int× List Int× Int× Int× Int× Int× Int× Int× Int× List Int× List Int× Int× Int× Int× Int× Int× Int× Int× Int× Int)× (Int× List Int)):=match nf with
  |([.ptr 0 0 0,.ptr 1 0 0,.ptr 2 0 0,.ptr 3 0 0,.ptr 4 0 0,.r [] (.int .i64 w0),.r [] (.int .i64 w1),.r [] (.int .i64 w2),.r [] (.int .i64 w3),.r [] (.int .i64 w4)],[.box [.r [] (.int .i64 w5),.r [] (.int .i64 w6),.r [] (.int .i64 w7),.r [] (.sl (.int .i64) w8)],.box [.r [] (.int .i64 w9),.r [] (.int .i64 w10),.r [] (.int .i64 w11),.r [] (.int .i64 w12),.r [] (.int .i64 w13),.r [] (.int .i64 w14),.r [] (.int .i64 w15),.r [] (.sl (.int .i64) w16),.r [] (.sl (.int .i64) w17)],.box [.r [] (.int .i64 w18),.r [] (.int .i64 w19),.r [] (.int .i64 w20),.bw],.box [.r [] (.int .i64 w21),.r [] (.int .i64 w22),.r [] (.int .i64 w23)],.box [.r [] (.int .i64 w24),.r [] (.int .i64 w25),.r [] (.int .i64 w26),.own 5],.arr none (.int .i64) w27],[])=>some ((w0,w1,w2,w3,w5,w6,w7,w8,w9,w10,w11,w12,w13,w14,w15,w16,w17,w18,w19,w20,w21,w22,w23,w24,w25,w26),(w4,w27))
  |_=>none
theorem ygh (nf:NF) (v:(Int× Int× Int× Int× Int× Int× Int× List Int× Int× Int× Int× Int× Int× Int× Int× List Int× List Int× Int× Int× Int× Int× Int× Int× Int× Int× Int)× (Int× List Int)) (h:ygg nf=some v):al ygb 59 nf=ygf v:=by
  unfold ygg at h
  split at h
  · cases h;rfl
  · cases h
def ygi (p:Int× Int× Int× Int× Int× Int× Int× List Int× Int× Int× Int× Int× Int× Int× Int× List Int× List Int× Int× Int× Int× Int× Int× Int× Int× Int× Int) (x:List Int):St:={ax:=[(2,.ptr 0 0 0),(3,.ptr 1 0 0),(4,.ptr 2 0 0),(6,.ptr 3 0 0),(8,.ptr 4 0 0),(30,.r [] (.int .i64 p.2.1)),(31,.r [] (.int .i64 p.2.2.1))],heap:=[(0,.box [.r [] (.int .i64 p.2.2.2.2.1),.r [] (.int .i64 p.2.2.2.2.2.1),.r [] (.int .i64 p.2.2.2.2.2.2.1),.r [] (.sl (.int .i64) p.2.2.2.2.2.2.2.1)]),(1,.box [.r [] (.int .i64 p.2.2.2.2.2.2.2.2.1),.r [] (.int .i64 p.2.2.2.2.2.2.2.2.2.1),.r [] (.int .i64 p.2.2.2.2.2.2.2.2.2.2.1),.r [] (.int .i64 p.2.2.2.2.2.2.2.2.2.2.2.1),.r [] (.int .i64 p.2.2.2.2.2.2.2.2.2.2.2.2.1),.r [] (.int .i64 p.2.2.2.2.2.2.2.2.2.2.2.2.2.1),.r [] (.int .i64 p.2.2.2.2.2.2.2.2.2.2.2.2.2.2.1),.r [] (.sl (.int .i64) p.2.2.2.2.2.2.2.2.2.2.2.2.2.2.2.1),.r [] (.sl (.int .i64) p.2.2.2.2.2.2.2.2.2.2.2.2.2.2.2.2.1)]),(2,.box [.r [] (.int .i64 p.2.2.2.2.2.2.2.2.2.2.2.2.2.2.2.2.2.1),.r [] (.int .i64 p.2.2.2.2.2.2.2.2.2.2.2.2.2.2.2.2.2.2.1),.r [] (.int .i64 p.2.2.2.2.2.2.2.2.2.2.2.2.2.2.2.2.2.2.2.1),.bw]),(3,.box [.r [] (.int .i64 p.2.2.2.2.2.2.2.2.2.2.2.2.2.2.2.2.2.2.2.2.1),.r [] (.int .i64 p.2.2.2.2.2.2.2.2.2.2.2.2.2.2.2.2.2.2.2.2.2.1),.r [] (.int .i64 p.2.2.2.2.2.2.2.2.2.2.2.2.2.2.2.2.2.2.2.2.2.2.1)]),(4,.box [.r [] (.int .i64 p.2.2.2.2.2.2.2.2.2.2.2.2.2.2.2.2.2.2.2.2.2.2.2.1),.r [] (.int .i64 p.2.2.2.2.2.2.2.2.2.2.2.2.2.2.2.2.2.2.2.2.2.2.2.2.1),.r [] (.int .i64 p.2.2.2.2.2.2.2.2.2.2.2.2.2.2.2.2.2.2.2.2.2.2.2.2.2),.own 5]),(5,.arr none (.int .i64) x)],nid:=6,n:=59,gh:=[]}
def ygj:List Nat:=[2,3,4,6,8,30,31]
def ygk:List (aQ× Co):=[((.Di 8 3),(.ml false (.int .i64)))]
def ygl:Ex→List Nat
  |.exit j=>cond (Nat.beq j 0) [4,8] []
  |.ret=>[]
  |.normal=>[]
def ygm:Ex→List (aQ× Co)
  |.exit j=>cond (Nat.beq j 0) [] []
  |.ret=>[]
  |.normal=>[]
def ygn (pv:(Int× Int× Int× Int× List Int× Int× Int× Int× Int× Int× Int× Int× List Int× List Int× Int× Int× Int× Int× Int× Int× Int× Int× Int)× (Int× List Int)):St:={ax:=[(2,.ptr 0 0 0),(3,.ptr 1 0 0),(4,.ptr 2 0 0),(6,.ptr 3 0 0),(8,.ptr 4 0 0),(30,.r [] (.int .i64 pv.1.1)),(31,.r [] (.int .i64 pv.2.1))],heap:=[(0,.box [.r [] (.int .i64 pv.1.2.1),.r [] (.int .i64 pv.1.2.2.1),.r [] (.int .i64 pv.1.2.2.2.1),.r [] (.sl (.int .i64) pv.1.2.2.2.2.1)]),(1,.box [.r [] (.int .i64 pv.1.2.2.2.2.2.1),.r [] (.int .i64 pv.1.2.2.2.2.2.2.1),.r [] (.int .i64 pv.1.2.2.2.2.2.2.2.1),.r [] (.int .i64 pv.1.2.2.2.2.2.2.2.2.1),.r [] (.int .i64 pv.1.2.2.2.2.2.2.2.2.2.1),.r [] (.int .i64 pv.1.2.2.2.2.2.2.2.2.2.2.1),.r [] (.int .i64 pv.1.2.2.2.2.2.2.2.2.2.2.2.1),.r [] (.sl (.int .i64) pv.1.2.2.2.2.2.2.2.2.2.2.2.2.1),.r [] (.sl (.int .i64) pv.1.2.2.2.2.2.2.2.2.2.2.2.2.2.1)]),(2,.box [.r [] (.int .i64 pv.1.2.2.2.2.2.2.2.2.2.2.2.2.2.2.1),.r [] (.int .i64 pv.1.2.2.2.2.2.2.2.2.2.2.2.2.2.2.2.1),.r [] (.int .i64 pv.1.2.2.2.2.2.2.2.2.2.2.2.2.2.2.2.2.1),.bw]),(3,.box [.r [] (.int .i64 pv.1.2.2.2.2.2.2.2.2.2.2.2.2.2.2.2.2.2.1),.r [] (.int .i64 pv.1.2.2.2.2.2.2.2.2.2.2.2.2.2.2.2.2.2.2.1),.r [] (.int .i64 pv.1.2.2.2.2.2.2.2.2.2.2.2.2.2.2.2.2.2.2.2.1)]),(4,.box [.r [] (.int .i64 pv.1.2.2.2.2.2.2.2.2.2.2.2.2.2.2.2.2.2.2.2.2.1),.r [] (.int .i64 pv.1.2.2.2.2.2.2.2.2.2.2.2.2.2.2.2.2.2.2.2.2.2.1),.r [] (.int .i64 pv.1.2.2.2.2.2.2.2.2.2.2.2.2.2.2.2.2.2.2.2.2.2.2),.own 5]),(5,.arr none (.int .i64) pv.2.2)],nid:=6,n:=59,gh:=[]}
def ygo (nf:NF):Option ((Int× Int× Int× Int× List Int× Int× Int× Int× Int× Int× Int× Int× List Int× List Int× Int× Int× Int× Int× Int× Int× Int× Int× Int)× (Int× List Int)):=match nf with
  |([.ptr 0 0 0,.ptr 1 0 0,.ptr 2 0 0,.ptr 3 0 0,.ptr 4 0 0,.r [] (.int .i64 w0),.r [] (.int .i64 w1)],[.box [.r [] (.int .i64 w2),.r [] (.int .i64 w3),.r [] (.int .i64 w4),.r [] (.sl (.int .i64) w5)],.box [.r [] (.int .i64 w6),.r [] (.int .i64 w7),.r [] (.int .i64 w8),.r [] (.int .i64 w9),.r [] (.int .i64 w10),.r [] (.int .i64 w11),.r [] (.int .i64 w12),.r [] (.sl (.int .i64) w13),.r [] (.sl (.int .i64) w14)],.box [.r [] (.int .i64 w15),.r [] (.int .i64 w16),.r [] (.int .i64 w17),.bw],.box [.r [] (.int .i64 w18),.r [] (.int .i64 w19),.r [] (.int .i64 w20)],.box [.r [] (.int .i64 w21),.r [] (.int .i64 w22),.r [] (.int .i64 w23),.own 5],.arr none (.int .i64) w24],[])=>some ((w0,w2,w3,w4,w5,w6,w7,w8,w9,w10,w11,w12,w13,w14,w15,w16,w17,w18,w19,w20,w21,w22,w23),(w1,w24))
  |_=>none
theorem ygp (nf:NF) (v:(Int× Int× Int× Int× List Int× Int× Int× Int× Int× Int× Int× Int× List Int× List Int× Int× Int× Int× Int× Int× Int× Int× Int× Int)× (Int× List Int)) (h:ygo nf=some v):al ygj 59 nf=ygn v:=by
  unfold ygo at h
  split at h
  · cases h;rfl
  · cases h
def ygq (p:Int× Int× Int× Int× List Int× Int× Int× Int× Int× Int× Int× Int× List Int× List Int× Int× Int× Int× Int× Int× Int× Int× Int× Int) (x:List Int):St:={ax:=[(4,.ptr 0 0 0),(8,.ptr 1 0 0)],heap:=[(0,.box [.r [] (.int .i64 p.2.2.2.2.2.2.2.2.2.2.2.2.2.2.1),.r [] (.int .i64 p.2.2.2.2.2.2.2.2.2.2.2.2.2.2.2.1),.r [] (.int .i64 p.2.2.2.2.2.2.2.2.2.2.2.2.2.2.2.2.1),.bw]),(1,.box [.r [] (.int .i64 p.2.2.2.2.2.2.2.2.2.2.2.2.2.2.2.2.2.2.2.2.1),.r [] (.int .i64 p.2.2.2.2.2.2.2.2.2.2.2.2.2.2.2.2.2.2.2.2.2.1),.r [] (.int .i64 p.2.2.2.2.2.2.2.2.2.2.2.2.2.2.2.2.2.2.2.2.2.2),.own 2]),(2,.arr none (.int .i64) x)],nid:=3,n:=59,gh:=[]}
def ygr (ρ:Type) (k:Nat):Nat→Ev ρ→Ev ρ:=fun id f=>cond (Nat.beq id 0) (aX ygj ygk (fun n nf=>cond (Nat.beq n 59) (ygo nf) none) fun pv K=>iter (fun v next=>dG k pv.1 v next (fun x=>K (.exit 0) (ygq pv.1 x))) k pv.2) ((fun id f=>cond (Nat.beq id 2) (aX ygb ygc (fun n nf=>cond (Nat.beq n 59) (ygg nf) none) fun pv K=>iter (fun v next=>dF k pv.1 v next (fun x=>K (.exit 2) (ygi pv.1 x))) k pv.2) ((fun id f=>cond (Nat.beq id 4) (aX yg3 yg4 (fun n nf=>cond (Nat.beq n 59) (yg8 nf) none) fun pv K=>iter (fun v next=>dE k pv.1 v next (fun x=>K (.exit 4) (yga pv.1 x))) k pv.2) ((fun _ _ _ _=>none) id f)) id f)) id f)
theorem ygs {ρ:Type} (k:Nat) (p:Int× Int× Int× Int× Int× Int× Int× Int× Int× Int× List Int× Int× Int× Int× Int× Int× Int× Int× List Int× List Int× Int× Int× Int× Int× Int× Int× Int× Int× Int) (v:Int× List Int) (K K1:Ex→St→Option ρ):ev (yfx k) (ygr ρ k) 4 yg2 (yg7 (p,v)) (fun e st'=>match e with
    |.normal=>(aW yg3 yg4 st').bind fun nf=>K1 .normal (al yg3 st'.n nf)
    |e=>(aW (yg5 e) (yg6 e) st').bind fun nf=>K e (al (yg5 e) st'.n nf))=dE k p v (fun v'=>K1 .normal (yg7 (p,v'))) (fun x=>K (.exit 4) (yga p x)):=by kernel_rfl
theorem ygt {ρ:Type} (k:Nat):Sound Try.prog (.loop yg2) (ygr ρ k 4 fun st K=>ev (yfx k) (ygr ρ k) 4 yg2 st K):=
  bg (aG (yfy k) yg2 4 (av (by kernel_rfl))) yg5 yg6 k (g:=fun p v next K=>dE k p v next (fun x=>K (.exit 4) (yga p x))) (bz yg9) (fun p v K K1=>ygs k p v K K1)
theorem ygu {ρ:Type} (k:Nat) (p:Int× Int× Int× Int× Int× Int× Int× List Int× Int× Int× Int× Int× Int× Int× Int× List Int× List Int× Int× Int× Int× Int× Int× Int× Int× Int× Int) (v:Int× List Int) (K K1:Ex→St→Option ρ):ev (yfx k) (ygr ρ k) 2 yg1 (ygf (p,v)) (fun e st'=>match e with
    |.normal=>(aW ygb ygc st').bind fun nf=>K1 .normal (al ygb st'.n nf)
    |e=>(aW (ygd e) (yge e) st').bind fun nf=>K e (al (ygd e) st'.n nf))=dF k p v (fun v'=>K1 .normal (ygf (p,v'))) (fun x=>K (.exit 2) (ygi p x)):=by kernel_rfl
theorem ygv {ρ:Type} (k:Nat):Sound Try.prog (.loop yg1) (ygr ρ k 2 fun st K=>ev (yfx k) (ygr ρ k) 2 yg1 st K):=
  bg (aG (yfy k) yg1 2 (aI (l:=[(4,yg2)]) (by kernel_rfl) ⟨ygt k,trivial⟩)) ygd yge k (g:=fun p v next K=>dF k p v next (fun x=>K (.exit 2) (ygi p x))) (bz ygh) (fun p v K K1=>ygu k p v K K1)
theorem ygw {ρ:Type} (k:Nat) (p:Int× Int× Int× Int× List Int× Int× Int× Int× Int× Int× Int× Int× List Int× List Int× Int× Int× Int× Int× Int× Int× Int× Int× Int) (v:Int× List Int) (K K1:Ex→St→Option ρ):ev (yfx k) (ygr ρ k) 0 yg0 (ygn (p,v)) (fun e st'=>match e with
    |.normal=>(aW ygj ygk st').bind fun nf=>K1 .normal (al ygj st'.n nf)
    |e=>(aW (ygl e) (ygm e) st').bind fun nf=>K e (al (ygl e) st'.n nf))=dG k p v (fun v'=>K1 .normal (ygn (p,v'))) (fun x=>K (.exit 0) (ygq p x)):=by kernel_rfl
theorem ygx {ρ:Type} (k:Nat):Sound Try.prog (.loop yg0) (ygr ρ k 0 fun st K=>ev (yfx k) (ygr ρ k) 0 yg0 st K):=
  bg (aG (yfy k) yg0 0 (aI (l:=[(2,yg1)]) (by kernel_rfl) ⟨ygv k,trivial⟩)) ygl ygm k (g:=fun p v next K=>dG k p v next (fun x=>K (.exit 0) (ygq p x))) (bz ygp) (fun p v K K1=>ygw k p v K K1)
def ygy (k:Nat):O Try.prog 88:=⟨oP [.agg [(.int .i64),(.int .i64),(.int .i64),(.sl (.int .i64))],.agg [(.int .i64),(.int .i64),(.int .i64),(.int .i64),(.int .i64),(.int .i64),(.int .i64),(.sl (.int .i64)),(.sl (.int .i64))]] ((cdS .bW).p (cdS .aJ)) ⟨.tup [.agg [.h 0,.h 1,.h 2,.own 0],.h 4],[.arr none (.int .i64) 3]⟩ ((cdS .bW).p cdB) fun a=>jd k a.1 a.2,okP (LP:=ygr _ k) (yfy k) Try.func88 (by kernel_rfl) (by kernel_rfl) (by kernel_rfl) (aI (l:=[(0,yg0)]) (by kernel_rfl) ⟨ygx k,trivial⟩) (.tup [.agg [.sc,.sc,.sc,.own (.int .i64)],.sc]) fun a=>by kernel_rfl⟩
noncomputable def ygz (k:Nat):Env:=jl (P:=Try.prog) tt [⟨44,ydg k⟩,⟨62,ydh k⟩,⟨88,ygy k⟩]
theorem yh0 (k:Nat):cd (ygz k):=fun g=>bm _ g
noncomputable def yh1:Code:=(Try.f43.body).getD .skip
noncomputable def yh2:Code:=((aK 0 yh1).getD 0 (0,.skip)).2
def yh3:List Nat:=[3,4,25,26,27]
def yh4:List (aQ× Co):=[]
def yh5:Ex→List Nat
  |.exit j=>cond (Nat.beq j 0) [3,4] []
  |.ret=>[]
  |.normal=>[]
def yh6:Ex→List (aQ× Co)
  |.exit j=>cond (Nat.beq j 0) [] []
  |.ret=>[]
  |.normal=>[]
def yh7 (pv:(List ai× Int× Int× Int× Int)× (Int× Int× Int× Int× List Int)):St:={ax:=[(3,.ptr 0 0 0),(4,.ptr 1 0 0),(25,.r [] (.sl (.st .aJ) pv.1.1)),(26,.r [] (.int .i64 pv.1.2.1)),(27,.r [] (.int .i64 pv.2.1))],heap:=[(0,.box [.r [] (.int .i64 pv.2.2.1),.r [] (.int .i64 pv.2.2.2.1),.r [] (.int .i64 pv.2.2.2.2.1),.own 2]),(1,.box [.r [] (.int .i64 pv.1.2.2.1),.r [] (.int .i64 pv.1.2.2.2.1),.r [] (.int .i64 pv.1.2.2.2.2),.bw]),(2,.arr none (.int .i64) pv.2.2.2.2.2)],nid:=3,n:=39,gh:=[]}
def yh8 (nf:NF):Option ((List ai× Int× Int× Int× Int)× (Int× Int× Int× Int× List Int)):=match nf with
  |([.ptr 0 0 0,.ptr 1 0 0,.r [] (.sl (.st .aJ) w0),.r [] (.int .i64 w1),.r [] (.int .i64 w2)],[.box [.r [] (.int .i64 w3),.r [] (.int .i64 w4),.r [] (.int .i64 w5),.own 2],.box [.r [] (.int .i64 w6),.r [] (.int .i64 w7),.r [] (.int .i64 w8),.bw],.arr none (.int .i64) w9],[])=>some ((w0,w1,w6,w7,w8),(w2,w3,w4,w5,w9))
  |_=>none
theorem yh9 (nf:NF) (v:(List ai× Int× Int× Int× Int)× (Int× Int× Int× Int× List Int)) (h:yh8 nf=some v):al yh3 39 nf=yh7 v:=by
  unfold yh8 at h
  split at h
  · cases h;rfl
  · cases h
def yha (p:List ai× Int× Int× Int× Int) (x:Int× Int× Int× List Int):St:={ax:=[(3,.ptr 0 0 0),(4,.ptr 1 0 0)],heap:=[(0,.box [.r [] (.int .i64 x.1),.r [] (.int .i64 x.2.1),.r [] (.int .i64 x.2.2.1),.own 2]),(1,.box [.r [] (.int .i64 p.2.2.1),.r [] (.int .i64 p.2.2.2.1),.r [] (.int .i64 p.2.2.2.2),.bw]),(2,.arr none (.int .i64) x.2.2.2)],nid:=3,n:=39,gh:=[]}
def yhb (ρ:Type) (k:Nat):Nat→Ev ρ→Ev ρ:=fun id f=>cond (Nat.beq id 0) (FM f (aX yh3 yh4 (fun n nf=>cond (Nat.beq n 39) (yh8 nf) none) fun pv K=>iter (fun v next=>cF k pv.1 v next (fun x=>K (.exit 0) (yha pv.1 x))) k pv.2)) ((fun _ _ _ _=>none) id f)
theorem yhc {ρ:Type} (k:Nat) (p:List ai× Int× Int× Int× Int) (v:Int× Int× Int× Int× List Int) (K K1:Ex→St→Option ρ):ev (ygz k) (yhb ρ k) 0 yh2 (yh7 (p,v)) (fun e st'=>match e with
    |.normal=>(aW yh3 yh4 st').bind fun nf=>K1 .normal (al yh3 st'.n nf)
    |e=>(aW (yh5 e) (yh6 e) st').bind fun nf=>K e (al (yh5 e) st'.n nf))=cF k p v (fun v'=>K1 .normal (yh7 (p,v'))) (fun x=>K (.exit 0) (yha p x)):=by kernel_rfl
theorem yhd {ρ:Type} (k:Nat):Sound Try.prog (.loop yh2) (yhb ρ k 0 fun st K=>ev (ygz k) (yhb ρ k) 0 yh2 st K):=
  D7 (aG (yh0 k) yh2 0 (av (by kernel_rfl))) yh5 yh6 k (g:=fun p v next K=>cF k p v next (fun x=>K (.exit 0) (yha p x))) (bz yh9) (fun p v K K1=>yhc k p v K K1)
def yhe (k:Nat):O Try.prog 43:=⟨oP [.agg [(.int .i64),(.int .i64),(.int .i64),(.sl (.st .aJ))],.agg [(.int .i64),(.int .i64),(.int .i64),(.sl (.int .i64))]] ((cdS .model).p (cdS .bW)) ⟨.tup [.agg [.h 0,.h 1,.h 2,.own 0],.h 4],[.arr none (.int .i64) 3]⟩ ((cdS .bW).p cdB) fun a=>cG k a.1 a.2,okP (LP:=yhb _ k) (yh0 k) Try.func43 (by kernel_rfl) (by kernel_rfl) (by kernel_rfl) (aI (l:=[(0,yh2)]) (by kernel_rfl) ⟨yhd k,trivial⟩) (.tup [.agg [.sc,.sc,.sc,.own (.int .i64)],.sc]) fun a=>by kernel_rfl⟩
def yhf (k:Nat):O Try.prog 48:=fc (tt:=tt) [⟨44,ydg k⟩,⟨89,ydf k⟩] .id Try.func48 [.agg [(.int .i64),(.int .i64),(.int .i64),(.sl (.st .aJ))]] (cdS .model) ⟨.own 0,[.arr none (.st .shape) 0]⟩ (cdL (.st .shape)) (.own (.st .shape)) (fun a=>dz k a) (by kernel_rfl) fun a=>by kernel_rfl
def yhg (k:Nat):O Try.prog 121:=fc (tt:=tt) [⟨49,yap k⟩,⟨119,ycy k⟩] .id Try.func121 [.agg [(.int .i64),(.int .i64),(.int .i64)],.agg [(.int .i64),(.int .i64),(.int .i64),(.int .i64),(.int .i64),(.int .i64),(.int .i64),(.sl (.int .i64)),(.sl (.int .i64))]] ((cdS .shape).p (cdS .aJ)) ⟨.h 0,[]⟩ cdZ (.sc) (fun a=>o6 k a.1 a.2) (by kernel_rfl) fun a=>by kernel_rfl
noncomputable def yhh (k:Nat):Env:=jl (P:=Try.prog) tt [⟨48,yhf k⟩,⟨121,yhg k⟩]
theorem yhi (k:Nat):cd (yhh k):=fun g=>bm _ g
noncomputable def yhj:Code:=(Try.f92.body).getD .skip
noncomputable def yhk:Code:=((aK 0 yhj).getD 0 (0,.skip)).2
def yhl:List Nat:=[1,3,8,9,10]
def yhm:List (aQ× Co):=[]
def yhn:Ex→List Nat
  |.exit j=>cond (Nat.beq j 0) [3] []
  |.ret=>[]
  |.normal=>[]
def yho:Ex→List (aQ× Co)
  |.exit j=>cond (Nat.beq j 0) [] []
  |.ret=>[]
  |.normal=>[]
def yhp (pv:(Int× Int× Int× Int× List ai× List Shape)× (Int× List Int)):St:={ax:=[(1,.ptr 0 0 0),(3,.own 1),(8,.own 2),(9,.r [] (.int .i64 pv.1.1)),(10,.r [] (.int .i64 pv.2.1))],heap:=[(0,.box [.r [] (.int .i64 pv.1.2.1),.r [] (.int .i64 pv.1.2.2.1),.r [] (.int .i64 pv.1.2.2.2.1),.r [] (.sl (.st .aJ) pv.1.2.2.2.2.1)]),(1,.arr none (.int .i64) pv.2.2),(2,.arr none (.st .shape) pv.1.2.2.2.2.2)],nid:=3,n:=32,gh:=[]}
def yhq (nf:NF):Option ((Int× Int× Int× Int× List ai× List Shape)× (Int× List Int)):=match nf with
  |([.ptr 0 0 0,.own 1,.own 2,.r [] (.int .i64 w0),.r [] (.int .i64 w1)],[.box [.r [] (.int .i64 w2),.r [] (.int .i64 w3),.r [] (.int .i64 w4),.r [] (.sl (.st .aJ) w5)],.arr none (.int .i64) w6,.arr none (.st .shape) w7],[])=>some ((w0,w2,w3,w4,w5,w7),(w1,w6))
  |_=>none
theorem yhr (nf:NF) (v:(Int× Int× Int× Int× List ai× List Shape)× (Int× List Int)) (h:yhq nf=some v):al yhl 32 nf=yhp v:=by
  unfold yhq at h
  split at h
  · cases h;rfl
  · cases h
def yhs (p:Int× Int× Int× Int× List ai× List Shape) (x:List Int):St:={ax:=[(3,.own 0)],heap:=[(0,.arr none (.int .i64) x)],nid:=1,n:=32,gh:=[]}
def yht (ρ:Type) (k:Nat):Nat→Ev ρ→Ev ρ:=fun id f=>cond (Nat.beq id 0) (aX yhl yhm (fun n nf=>cond (Nat.beq n 32) (yhq nf) none) fun pv K=>iter (fun v next=>dm k pv.1 v next (fun x=>K (.exit 0) (yhs pv.1 x))) k pv.2) ((fun _ _ _ _=>none) id f)
theorem yhu {ρ:Type} (k:Nat) (p:Int× Int× Int× Int× List ai× List Shape) (v:Int× List Int) (K K1:Ex→St→Option ρ):ev (yhh k) (yht ρ k) 0 yhk (yhp (p,v)) (fun e st'=>match e with
    |.normal=>(aW yhl yhm st').bind fun nf=>K1 .normal (al yhl st'.n nf)
    |e=>(aW (yhn e) (yho e) st').bind fun nf=>K e (al (yhn e) st'.n nf))=dm k p v (fun v'=>K1 .normal (yhp (p,v'))) (fun x=>K (.exit 0) (yhs p x)):=by kernel_rfl
theorem yhv {ρ:Type} (k:Nat):Sound Try.prog (.loop yhk) (yht ρ k 0 fun st K=>ev (yhh k) (yht ρ k) 0 yhk st K):=
  bg (aG (yhi k) yhk 0 (av (by kernel_rfl))) yhn yho k (g:=fun p v next K=>dm k p v next (fun x=>K (.exit 0) (yhs p x))) (bz yhr) (fun p v K K1=>yhu k p v K K1)
def yhw (k:Nat):O Try.prog 92:=⟨oP [.agg [(.int .i64),(.int .i64),(.int .i64),(.sl (.st .aJ))]] (cdS .model) ⟨.own 0,[.arr none (.int .i64) 0]⟩ (cdL (.int .i64)) fun a=>mS k a,okP (LP:=yht _ k) (yhi k) Try.func92 (by kernel_rfl) (by kernel_rfl) (by kernel_rfl) (aI (l:=[(0,yhk)]) (by kernel_rfl) ⟨yhv k,trivial⟩) (.own (.int .i64)) fun a=>by kernel_rfl⟩
noncomputable def yhx (k:Nat):Env:=jl (P:=Try.prog) tt []
theorem yhy (k:Nat):cd (yhx k):=fun g=>bm _ g
noncomputable def yhz:Code:=(Try.f91.body).getD .skip
noncomputable def yi0:Code:=((aK 0 yhz).getD 0 (0,.skip)).2
def yi1:List Nat:=[3,6,7,8]
def yi2:List (aQ× Co):=[]
def yi3:Ex→List Nat
  |.exit j=>cond (Nat.beq j 0) [3] []
  |.ret=>[]
  |.normal=>[]
def yi4:Ex→List (aQ× Co)
  |.exit j=>cond (Nat.beq j 0) [] []
  |.ret=>[]
  |.normal=>[]
def yi5 (pv:(List Int× Int)× (Int× Int)):St:={ax:=[(3,.r [] (.int .i64 pv.2.1)),(6,.r [] (.sl (.int .i64) pv.1.1)),(7,.r [] (.int .i64 pv.1.2)),(8,.r [] (.int .i64 pv.2.2))],heap:=[],nid:=0,n:=17,gh:=[]}
def yi6 (nf:NF):Option ((List Int× Int)× (Int× Int)):=match nf with
  |([.r [] (.int .i64 w0),.r [] (.sl (.int .i64) w1),.r [] (.int .i64 w2),.r [] (.int .i64 w3)],[],[])=>some ((w1,w2),(w0,w3))
  |_=>none
theorem yi7 (nf:NF) (v:(List Int× Int)× (Int× Int)) (h:yi6 nf=some v):al yi1 17 nf=yi5 v:=by
  unfold yi6 at h
  split at h
  · cases h;rfl
  · cases h
def yi8 (p:List Int× Int) (x:Int):St:={ax:=[(3,.r [] (.int .i64 x))],heap:=[],nid:=0,n:=17,gh:=[]}
def yi9 (ρ:Type) (k:Nat):Nat→Ev ρ→Ev ρ:=fun id f=>cond (Nat.beq id 0) (aX yi1 yi2 (fun n nf=>cond (Nat.beq n 17) (yi6 nf) none) fun pv K=>iter (fun v next=>jM k pv.1 v next (fun x=>K (.exit 0) (yi8 pv.1 x))) k pv.2) ((fun _ _ _ _=>none) id f)
theorem yia {ρ:Type} (k:Nat) (p:List Int× Int) (v:Int× Int) (K K1:Ex→St→Option ρ):ev (yhx k) (yi9 ρ k) 0 yi0 (yi5 (p,v)) (fun e st'=>match e with
    |.normal=>(aW yi1 yi2 st').bind fun nf=>K1 .normal (al yi1 st'.n nf)
    |e=>(aW (yi3 e) (yi4 e) st').bind fun nf=>K e (al (yi3 e) st'.n nf))=jM k p v (fun v'=>K1 .normal (yi5 (p,v'))) (fun x=>K (.exit 0) (yi8 p x)):=by kernel_rfl
theorem yib {ρ:Type} (k:Nat):Sound Try.prog (.loop yi0) (yi9 ρ k 0 fun st K=>ev (yhx k) (yi9 ρ k) 0 yi0 st K):=
  bg (aG (yhy k) yi0 0 (av (by kernel_rfl))) yi3 yi4 k (g:=fun p v next K=>jM k p v next (fun x=>K (.exit 0) (yi8 p x))) (bz yi7) (fun p v K K1=>yia k p v K K1)
def yic (k:Nat):O Try.prog 91:=⟨oP [.one (.sl (.int .i64))] (cdL (.int .i64)) ⟨.h 0,[]⟩ cdZ fun a=>Ed k a,okP (LP:=yi9 _ k) (yhy k) Try.func91 (by kernel_rfl) (by kernel_rfl) (by kernel_rfl) (aI (l:=[(0,yi0)]) (by kernel_rfl) ⟨yib k,trivial⟩) (.sc) fun a=>by kernel_rfl⟩
def yid (k:Nat):O Try.prog 46:=fc (tt:=tt) [⟨91,yic k⟩,⟨92,yhw k⟩] .id Try.func46 [.agg [(.int .i64),(.int .i64),(.int .i64),(.sl (.st .aJ))]] (cdS .model) ⟨.h 0,[]⟩ cdZ (.sc) (fun a=>bT k a) (by kernel_rfl) fun a=>by kernel_rfl
noncomputable def yie (k:Nat):Env:=jl (P:=Try.prog) tt []
theorem yif (k:Nat):cd (yie k):=fun g=>bm _ g
noncomputable def yig:Code:=(Try.f122.body).getD .skip
noncomputable def yih:Code:=((aK 0 yig).getD 0 (0,.skip)).2
def yii:List Nat:=[0,1,12,13]
def yij:List (aQ× Co):=[]
def yik:Ex→List Nat
  |.exit j=>cond (Nat.beq j 0) [] []
  |.ret=>[4]
  |.normal=>[]
def yil:Ex→List (aQ× Co)
  |.exit j=>cond (Nat.beq j 0) [] []
  |.ret=>[]
  |.normal=>[]
def yim (pv:(List Int× List Int× Int)× (Int)):St:={ax:=[(0,.r [] (.sl (.int .i64) pv.1.1)),(1,.r [] (.sl (.int .i64) pv.1.2.1)),(12,.r [] (.int .i64 pv.1.2.2)),(13,.r [] (.int .i64 pv.2))],heap:=[],nid:=0,n:=26,gh:=[]}
def yin (nf:NF):Option ((List Int× List Int× Int)× (Int)):=match nf with
  |([.r [] (.sl (.int .i64) w0),.r [] (.sl (.int .i64) w1),.r [] (.int .i64 w2),.r [] (.int .i64 w3)],[],[])=>some ((w0,w1,w2),w3)
  |_=>none
theorem yio (nf:NF) (v:(List Int× List Int× Int)× (Int)) (h:yin nf=some v):al yii 26 nf=yim v:=by
  unfold yin at h
  split at h
  · cases h;rfl
  · cases h
def yip (p:List Int× List Int× Int) (x:Unit):St:={ax:=[],heap:=[],nid:=0,n:=26,gh:=[]}
def yiq (p:List Int× List Int× Int) (x:Bool):St:={ax:=[(4,.r [] (.bool x))],heap:=[],nid:=0,n:=26,gh:=[]}
def yir (ρ:Type) (k:Nat):Nat→Ev ρ→Ev ρ:=fun id f=>cond (Nat.beq id 0) (aX yii yij (fun n nf=>cond (Nat.beq n 26) (yin nf) none) fun pv K=>iter (fun v next=>b6 k pv.1 v next (fun x=>K (.exit 0) (yip pv.1 x)) (fun x=>K .ret (yiq pv.1 x))) k pv.2) ((fun _ _ _ _=>none) id f)
theorem yis {ρ:Type} (k:Nat) (p:List Int× List Int× Int) (v:Int) (K K1:Ex→St→Option ρ):ev (yie k) (yir ρ k) 0 yih (yim (p,v)) (fun e st'=>match e with
    |.normal=>(aW yii yij st').bind fun nf=>K1 .normal (al yii st'.n nf)
    |e=>(aW (yik e) (yil e) st').bind fun nf=>K e (al (yik e) st'.n nf))=b6 k p v (fun v'=>K1 .normal (yim (p,v'))) (fun x=>K (.exit 0) (yip p x)) (fun x=>K .ret (yiq p x)):=by kernel_rfl
theorem yit {ρ:Type} (k:Nat):Sound Try.prog (.loop yih) (yir ρ k 0 fun st K=>ev (yie k) (yir ρ k) 0 yih st K):=
  bg (aG (yif k) yih 0 (av (by kernel_rfl))) yik yil k (g:=fun p v next K=>b6 k p v next (fun x=>K (.exit 0) (yip p x)) (fun x=>K .ret (yiq p x))) (bz yio) (fun p v K K1=>yis k p v K K1)
def yiu (k:Nat):O Try.prog 122:=⟨oP [.one (.sl (.int .i64)),.one (.sl (.int .i64))] ((cdL (.int .i64)).p (cdL (.int .i64))) ⟨.h 0,[]⟩ cdB fun a=>bD k a.1 a.2,okP (LP:=yir _ k) (yif k) Try.func122 (by kernel_rfl) (by kernel_rfl) (by kernel_rfl) (aI (l:=[(0,yih)]) (by kernel_rfl) ⟨yit k,trivial⟩) (.sc) fun a=>by kernel_rfl⟩
def yiv (k:Nat):O Try.prog 93:=fc (tt:=tt) [⟨122,yiu k⟩] .id Try.func93 [.agg [(.int .i64),(.int .i64),(.int .i64),(.sl (.int .i64))],.agg [(.int .i64),(.int .i64),(.int .i64),(.sl (.int .i64))]] ((cdS .bW).p (cdS .bW)) ⟨.h 0,[]⟩ cdB (.sc) (fun a=>gg k a.1 a.2) (by kernel_rfl) fun a=>by kernel_rfl
def yiw (k:Nat):O Try.prog 47:=fc (tt:=tt) [⟨62,ydh k⟩,⟨93,yiv k⟩] .id Try.func47 [.agg [(.int .i64),(.int .i64),(.int .i64),(.sl (.int .i64))],.agg [(.int .i64),(.int .i64),(.int .i64),(.sl (.int .i64))]] ((cdS .bW).p (cdS .bW)) ⟨.h 0,[]⟩ cdB (.sc) (fun a=>dp k a.1 a.2) (by kernel_rfl) fun a=>by kernel_rfl
noncomputable def yix (k:Nat):Env:=jl (P:=Try.prog) tt [⟨48,yhf k⟩,⟨49,yap k⟩]
theorem yiy (k:Nat):cd (yix k):=fun g=>bm _ g
noncomputable def yiz:Code:=(Try.f50.body).getD .skip
noncomputable def yj0:Code:=((aK 0 yiz).getD 0 (0,.skip)).2
def yj1:List Nat:=[3,4,8,9,10]
def yj2:List (aQ× Co):=[]
def yj3:Ex→List Nat
  |.exit j=>cond (Nat.beq j 0) [3] []
  |.ret=>[]
  |.normal=>[]
def yj4:Ex→List (aQ× Co)
  |.exit j=>cond (Nat.beq j 0) [] []
  |.ret=>[]
  |.normal=>[]
def yj5 (pv:(Int× List Shape)× (Int× Int× Int)):St:={ax:=[(3,.r [] (.int .i64 pv.2.1)),(4,.r [] (.int .i64 pv.2.2.1)),(8,.own 0),(9,.r [] (.int .i64 pv.1.1)),(10,.r [] (.int .i64 pv.2.2.2))],heap:=[(0,.arr none (.st .shape) pv.1.2)],nid:=1,n:=27,gh:=[]}
def yj6 (nf:NF):Option ((Int× List Shape)× (Int× Int× Int)):=match nf with
  |([.r [] (.int .i64 w0),.r [] (.int .i64 w1),.own 0,.r [] (.int .i64 w2),.r [] (.int .i64 w3)],[.arr none (.st .shape) w4],[])=>some ((w2,w4),(w0,w1,w3))
  |_=>none
theorem yj7 (nf:NF) (v:(Int× List Shape)× (Int× Int× Int)) (h:yj6 nf=some v):al yj1 27 nf=yj5 v:=by
  unfold yj6 at h
  split at h
  · cases h;rfl
  · cases h
def yj8 (p:Int× List Shape) (x:Int):St:={ax:=[(3,.r [] (.int .i64 x))],heap:=[],nid:=0,n:=27,gh:=[]}
def yj9 (ρ:Type) (k:Nat):Nat→Ev ρ→Ev ρ:=fun id f=>cond (Nat.beq id 0) (aX yj1 yj2 (fun n nf=>cond (Nat.beq n 27) (yj6 nf) none) fun pv K=>iter (fun v next=>eW k pv.1 v next (fun x=>K (.exit 0) (yj8 pv.1 x))) k pv.2) ((fun _ _ _ _=>none) id f)
theorem yja {ρ:Type} (k:Nat) (p:Int× List Shape) (v:Int× Int× Int) (K K1:Ex→St→Option ρ):ev (yix k) (yj9 ρ k) 0 yj0 (yj5 (p,v)) (fun e st'=>match e with
    |.normal=>(aW yj1 yj2 st').bind fun nf=>K1 .normal (al yj1 st'.n nf)
    |e=>(aW (yj3 e) (yj4 e) st').bind fun nf=>K e (al (yj3 e) st'.n nf))=eW k p v (fun v'=>K1 .normal (yj5 (p,v'))) (fun x=>K (.exit 0) (yj8 p x)):=by kernel_rfl
theorem yjb {ρ:Type} (k:Nat):Sound Try.prog (.loop yj0) (yj9 ρ k 0 fun st K=>ev (yix k) (yj9 ρ k) 0 yj0 st K):=
  bg (aG (yiy k) yj0 0 (av (by kernel_rfl))) yj3 yj4 k (g:=fun p v next K=>eW k p v next (fun x=>K (.exit 0) (yj8 p x))) (bz yj7) (fun p v K K1=>yja k p v K K1)
def yjc (k:Nat):O Try.prog 50:=⟨oP [.agg [(.int .i64),(.int .i64),(.int .i64),(.sl (.st .aJ))]] (cdS .model) ⟨.h 0,[]⟩ cdZ fun a=>lj k a,okP (LP:=yj9 _ k) (yiy k) Try.func50 (by kernel_rfl) (by kernel_rfl) (by kernel_rfl) (aI (l:=[(0,yj0)]) (by kernel_rfl) ⟨yjb k,trivial⟩) (.sc) fun a=>by kernel_rfl⟩
def Ff (k:Nat):O Try.prog 51:=fc (tt:=tt) [] .id Try.func51 [.one (.sl (.int .u8)),.one (.int .i64)] ((cdL (.int .u8)).p cdZ) ⟨.h 0,[]⟩ cdZ (.sc) (fun a=>EA k a.1 a.2) (by kernel_rfl) fun a=>by kernel_rfl
def yjd (k:Nat):O Try.prog 64:=fc (tt:=tt) [] .id Try.func64 [.one (.sl (.int .i64))] (cdL (.int .i64)) ⟨.own 0,[.arr none (.int .i64) 0]⟩ (cdL (.int .i64)) (.own (.int .i64)) (fun a=>bZ k a) (by kernel_rfl) fun a=>by kernel_rfl
def yje (k:Nat):O Try.prog 123:=fc (tt:=tt) [⟨64,yjd k⟩] .id Try.func123 [.agg [(.int .i64),(.int .i64),(.int .i64),(.int .i64),(.int .i64),(.int .i64),(.int .i64),(.sl (.int .i64)),(.sl (.int .i64))]] (cdS .aJ) ⟨.agg (hs 0 7++[.own 0,.own 1]),[.arr none (.int .i64) 7,.arr none (.int .i64) 8]⟩ (cdS .aJ) (.agg [.sc,.sc,.sc,.sc,.sc,.sc,.sc,.own (.int .i64),.own (.int .i64)]) (fun a=>fG k a) (by kernel_rfl) fun a=>by kernel_rfl
noncomputable def yjf (k:Nat):Env:=jl (P:=Try.prog) tt [⟨123,yje k⟩]
theorem yjg (k:Nat):cd (yjf k):=fun g=>bm _ g
noncomputable def yjh:Code:=(Try.f95.body).getD .skip
noncomputable def yji:Code:=((aK 0 yjh).getD 0 (0,.skip)).2
def yjj:List Nat:=[3,7,8,9]
def yjk:List (aQ× Co):=[]
def yjl:Ex→List Nat
  |.exit j=>cond (Nat.beq j 0) [3] []
  |.ret=>[]
  |.normal=>[]
def yjm:Ex→List (aQ× Co)
  |.exit j=>cond (Nat.beq j 0) [] []
  |.ret=>[]
  |.normal=>[]
def yjn (pv:(List ai× Int)× (Int× List ai)):St:={ax:=[(3,.own 0),(7,.r [] (.sl (.st .aJ) pv.1.1)),(8,.r [] (.int .i64 pv.1.2)),(9,.r [] (.int .i64 pv.2.1))],heap:=[(0,.arr none (.st .aJ) pv.2.2)],nid:=1,n:=20,gh:=[]}
def yjo (nf:NF):Option ((List ai× Int)× (Int× List ai)):=match nf with
  |([.own 0,.r [] (.sl (.st .aJ) w0),.r [] (.int .i64 w1),.r [] (.int .i64 w2)],[.arr none (.st .aJ) w3],[])=>some ((w0,w1),(w2,w3))
  |_=>none
theorem yjp (nf:NF) (v:(List ai× Int)× (Int× List ai)) (h:yjo nf=some v):al yjj 20 nf=yjn v:=by
  unfold yjo at h
  split at h
  · cases h;rfl
  · cases h
def yjq (p:List ai× Int) (x:List ai):St:={ax:=[(3,.own 0)],heap:=[(0,.arr none (.st .aJ) x)],nid:=1,n:=20,gh:=[]}
def yjr (ρ:Type) (k:Nat):Nat→Ev ρ→Ev ρ:=fun id f=>cond (Nat.beq id 0) (aX yjj yjk (fun n nf=>cond (Nat.beq n 20) (yjo nf) none) fun pv K=>iter (fun v next=>bU k pv.1 v next (fun x=>K (.exit 0) (yjq pv.1 x))) k pv.2) ((fun _ _ _ _=>none) id f)
theorem yjs {ρ:Type} (k:Nat) (p:List ai× Int) (v:Int× List ai) (K K1:Ex→St→Option ρ):ev (yjf k) (yjr ρ k) 0 yji (yjn (p,v)) (fun e st'=>match e with
    |.normal=>(aW yjj yjk st').bind fun nf=>K1 .normal (al yjj st'.n nf)
    |e=>(aW (yjl e) (yjm e) st').bind fun nf=>K e (al (yjl e) st'.n nf))=bU k p v (fun v'=>K1 .normal (yjn (p,v'))) (fun x=>K (.exit 0) (yjq p x)):=by kernel_rfl
theorem yjt {ρ:Type} (k:Nat):Sound Try.prog (.loop yji) (yjr ρ k 0 fun st K=>ev (yjf k) (yjr ρ k) 0 yji st K):=
  bg (aG (yjg k) yji 0 (av (by kernel_rfl))) yjl yjm k (g:=fun p v next K=>bU k p v next (fun x=>K (.exit 0) (yjq p x))) (bz yjp) (fun p v K K1=>yjs k p v K K1)
def yju (k:Nat):O Try.prog 95:=⟨oP [.one (.sl (.st .aJ))] (cdL (.st .aJ)) ⟨.own 0,[.arr none (.st .aJ) 0]⟩ (cdL (.st .aJ)) fun a=>fH k a,okP (LP:=yjr _ k) (yjg k) Try.func95 (by kernel_rfl) (by kernel_rfl) (by kernel_rfl) (aI (l:=[(0,yji)]) (by kernel_rfl) ⟨yjt k,trivial⟩) (.own (.st .aJ)) fun a=>by kernel_rfl⟩
def yjv (k:Nat):O Try.prog 52:=fc (tt:=tt) [⟨44,ydg k⟩,⟨48,yhf k⟩,⟨95,yju k⟩] .id Try.func52 [.agg [(.int .i64),(.int .i64),(.int .i64),(.sl (.st .aJ))],.one (.int .i64),.one (.int .i64)] ((cdS .model).p (cdZ.p cdZ)) ⟨.tup [.agg [.h 0,.h 1,.h 2,.own 0],.h 4],[.arr none (.st .aJ) 3]⟩ ((cdS .model).p cdB) (.tup [.agg [.sc,.sc,.sc,.own (.st .aJ)],.sc]) (fun a=>dA k a.1 a.2.1 a.2.2) (by kernel_rfl) fun a=>by kernel_rfl
def yjw (k:Nat):O Try.prog 124:=B5 (tt:=tt) [] .id Try.func124 [.cl,.cl] ⟨[.v .bw,.h 0],[]⟩ cdZ ⟨.own 0,[],[.arr none (.st .aJ) 1]⟩ (cdL (.st .aJ)) (.own (.st .aJ)) [] (fun a=>bp k a) (by kernel_rfl) fun a=>by kernel_rfl
noncomputable def yjx (k:Nat):Env:={jl (P:=Try.prog) tt [⟨124,yjw k⟩]with wr:=fun g=>mem g [124],wt:=true}
theorem yjy (k:Nat):cd (yjx k):=fun g=>bm _ g
noncomputable def yjz:Code:=(Try.f96.body).getD .skip
noncomputable def yk0:Code:=((aK 0 yjz).getD 0 (0,.skip)).2
noncomputable def yk1:Code:=((aK 0 yjz).getD 1 (0,.skip)).2
def yk2 (ρ:Type) (k:Nat):Nat→Ev ρ→Ev ρ:=fun id f=>cond (Nat.beq id 2) (Ci f 15) ((fun id f=>cond (Nat.beq id 0) (Ci f 15) ((fun _ _ _ _=>none) id f)) id f)
theorem yk3 {ρ:Type} (k:Nat):Sound Try.prog (.loop yk0) (yk2 ρ k 0 fun st K=>ev (yjx k) (yk2 ρ k) 0 yk0 st K):=
  ru (aG (yjy k) yk0 0 (av (by kernel_rfl))) 15
theorem yk4 {ρ:Type} (k:Nat):Sound Try.prog (.loop yk1) (yk2 ρ k 2 fun st K=>ev (yjx k) (yk2 ρ k) 2 yk1 st K):=
  ru (aG (yjy k) yk1 2 (av (by kernel_rfl))) 15
def yk5 (k:Nat):O Try.prog 96:=⟨oM [.cl] ⟨[.v (.bsl 0 2)],[.box [.h 0,.h 1]]⟩ ((cdL (.st .aJ)).p (cdL (.st .aJ))) ⟨.own 1,[some (.box [.h 0,.h 1])],[.arr (some []) (.st .aJ) 2]⟩ (cdL (.st .aJ)) fun a=>bj k a.1 a.2,okM (LP:=yk2 _ k) (yjy k) Try.func96 (by kernel_rfl) (by kernel_rfl) (by kernel_rfl) (by kernel_rfl) (aI (l:=[(0,yk0),(2,yk1)]) (by kernel_rfl) ⟨yk3 k,⟨yk4 k,trivial⟩⟩) (.shl (.st .aJ)) [.box [.ro (.st .aJ),.ro (.st .aJ)]] fun a=>by kernel_rfl⟩
def yk6 (k:Nat):O Try.prog 53:=fc (tt:=tt) [⟨44,ydg k⟩,⟨48,yhf k⟩,⟨95,yju k⟩,⟨96,yk5 k⟩] {f:=fun E=>{E with wr:=fun g=>mem g [96],wt:=true}} Try.func53 [.agg [(.int .i64),(.int .i64),(.int .i64),(.sl (.st .aJ))],.agg [(.int .i64),(.int .i64),(.int .i64),(.sl (.st .aJ))]] ((cdS .model).p (cdS .model)) ⟨.tup [.agg [.h 0,.h 1,.h 2,.own 0],.h 4],[.arr none (.st .aJ) 3]⟩ ((cdS .model).p cdB) (.tup [.agg [.sc,.sc,.sc,.own (.st .aJ)],.sc]) (fun a=>eD k a.1 a.2) (by kernel_rfl) fun a=>by kernel_rfl
def yk7 (k:Nat):O Try.prog 125:=fc (tt:=tt) [] .id Try.func125 [.agg [(.int .i64),(.int .i64),(.int .i64),(.int .i64),(.int .i64),(.int .i64),(.int .i64),(.sl (.int .i64)),(.sl (.int .i64))]] (cdS .aJ) ⟨.own 0,[.arr none (.int .i64) 0]⟩ (cdL (.int .i64)) (.own (.int .i64)) (fun a=>eX k a) (by kernel_rfl) fun a=>by kernel_rfl
def yk8 (k:Nat):O Try.prog 98:=fc (tt:=tt) [⟨122,yiu k⟩,⟨125,yk7 k⟩] .id Try.func98 [.agg [(.int .i64),(.int .i64),(.int .i64),(.int .i64),(.int .i64),(.int .i64),(.int .i64),(.sl (.int .i64)),(.sl (.int .i64))],.agg [(.int .i64),(.int .i64),(.int .i64),(.int .i64),(.int .i64),(.int .i64),(.int .i64),(.sl (.int .i64)),(.sl (.int .i64))]] ((cdS .aJ).p (cdS .aJ)) ⟨.h 0,[]⟩ cdB (.sc) (fun a=>jQ k a.1 a.2) (by kernel_rfl) fun a=>by kernel_rfl
noncomputable def yk9 (k:Nat):Env:=jl (P:=Try.prog) tt [⟨98,yk8 k⟩]
theorem yka (k:Nat):cd (yk9 k):=fun g=>bm _ g
noncomputable def ykb:Code:=(Try.f97.body).getD .skip
noncomputable def ykc:Code:=((aK 0 ykb).getD 0 (0,.skip)).2
def ykd:List Nat:=[1,2,15,16,17]
def yke:List (aQ× Co):=[]
def ykf:Ex→List Nat
  |.exit j=>cond (Nat.beq j 0) [] []
  |.ret=>[6]
  |.normal=>[]
def ykg:Ex→List (aQ× Co)
  |.exit j=>cond (Nat.beq j 0) [] []
  |.ret=>[]
  |.normal=>[]
def ykh (pv:(List ai× List ai× Int)× (Int)):St:={ax:=[(1,.r [] (.sl (.st .aJ) pv.1.1)),(2,.fn (.func 98) [] []),(15,.r [] (.sl (.st .aJ) pv.1.2.1)),(16,.r [] (.int .i64 pv.1.2.2)),(17,.r [] (.int .i64 pv.2))],heap:=[],nid:=0,n:=32,gh:=[]}
def yki (nf:NF):Option ((List ai× List ai× Int)× (Int)):=match nf with
  |([.r [] (.sl (.st .aJ) w0),.fn (.func 98) [] [],.r [] (.sl (.st .aJ) w1),.r [] (.int .i64 w2),.r [] (.int .i64 w3)],[],[])=>some ((w0,w1,w2),w3)
  |_=>none
theorem ykj (nf:NF) (v:(List ai× List ai× Int)× (Int)) (h:yki nf=some v):al ykd 32 nf=ykh v:=by
  unfold yki at h
  split at h
  · cases h;rfl
  · cases h
def ykk (p:List ai× List ai× Int) (x:Unit):St:={ax:=[],heap:=[],nid:=0,n:=32,gh:=[]}
def ykl (p:List ai× List ai× Int) (x:Bool):St:={ax:=[(6,.r [] (.bool x))],heap:=[],nid:=0,n:=32,gh:=[]}
def ykm (ρ:Type) (k:Nat):Nat→Ev ρ→Ev ρ:=fun id f=>cond (Nat.beq id 0) (aX ykd yke (fun n nf=>cond (Nat.beq n 32) (yki nf) none) fun pv K=>iter (fun v next=>ak k pv.1 v next (fun x=>K (.exit 0) (ykk pv.1 x)) (fun x=>K .ret (ykl pv.1 x))) k pv.2) ((fun _ _ _ _=>none) id f)
theorem ykn {ρ:Type} (k:Nat) (p:List ai× List ai× Int) (v:Int) (K K1:Ex→St→Option ρ):ev (yk9 k) (ykm ρ k) 0 ykc (ykh (p,v)) (fun e st'=>match e with
    |.normal=>(aW ykd yke st').bind fun nf=>K1 .normal (al ykd st'.n nf)
    |e=>(aW (ykf e) (ykg e) st').bind fun nf=>K e (al (ykf e) st'.n nf))=ak k p v (fun v'=>K1 .normal (ykh (p,v'))) (fun x=>K (.exit 0) (ykk p x)) (fun x=>K .ret (ykl p x)):=by kernel_rfl
theorem yko {ρ:Type} (k:Nat):Sound Try.prog (.loop ykc) (ykm ρ k 0 fun st K=>ev (yk9 k) (ykm ρ k) 0 ykc st K):=
  bg (aG (yka k) ykc 0 (av (by kernel_rfl))) ykf ykg k (g:=fun p v next K=>ak k p v next (fun x=>K (.exit 0) (ykk p x)) (fun x=>K .ret (ykl p x))) (bz ykj) (fun p v K K1=>ykn k p v K K1)
def ykp (a:List ai× List ai):List Arg:=[.one (.sl (.st .aJ) a.1),.one (.sl (.st .aJ) a.2),.fn (.func 98) [] []]
def ykq (l:List Arg):Option (List ai× List ai):=match l with
  |[.one (.sl (.st .aJ) b0),.one (.sl (.st .aJ) b1),.fn (.func 98) [] []]=>some (b0,b1)
  |_=>none
def ykr (r:Bool):Out:=(.r [] (.bool r),[])
def yks (o:Out):Option (Bool):=match o with
  |(.r [] (.bool z1),[])=>some z1
  |_=>none
def ykt (k:Nat):PG:=fun _ l K=>(ykq l).bind fun a=>(au k a.1 a.2).bind fun r=>K (ykr r)
theorem yku (k:Nat) (a:List ai× List ai):ev (yk9 k) (ykm (Bool) k) 0 ykb (st0 Try.f97 (ykp a)) (fin Try.prog Try.f97 (.sc) yks)=au k a.1 a.2:=by kernel_rfl
theorem ykv (k:Nat):mG Try.prog 97 (ykt k):=
  dj (yka k) Try.func97 (by kernel_rfl) (by kernel_rfl) ykp ykq
    (fun l a h=>by unfold ykq at h;split at h<;>first|(cases h;rfl)|cases h) (fun a=>rfl) (aI (l:=[(0,ykc)]) (by kernel_rfl) ⟨yko k,trivial⟩)
    (fun o r h=>by unfold yks at h;split at h<;>first|(cases h;rfl)|cases h) (yku k)
def ykw (k:Nat):O Try.prog 97:=⟨kz [.one (.sl (.st .aJ)),.one (.sl (.st .aJ)),.fn] (ykt k),gw (ykv k)⟩
def ykx (k:Nat):O Try.prog 54:=fc (tt:=tt) [⟨97,ykw k⟩] .id Try.func54 [.agg [(.int .i64),(.int .i64),(.int .i64),(.sl (.st .aJ))],.agg [(.int .i64),(.int .i64),(.int .i64),(.sl (.st .aJ))]] ((cdS .model).p (cdS .model)) ⟨.h 0,[]⟩ cdB (.sc) (fun a=>fx k a.1 a.2) (by kernel_rfl) fun a=>by kernel_rfl
noncomputable def yky (k:Nat):Env:=jl (P:=Try.prog) tt [⟨32,y0 k⟩,⟨41,y4g k⟩,⟨42,yan k⟩,⟨43,yhe k⟩,⟨44,ydg k⟩,⟨45,y4y k⟩,⟨46,yid k⟩,⟨47,yiw k⟩,⟨48,yhf k⟩,⟨49,yap k⟩,⟨50,yjc k⟩,⟨51,Ff k⟩,⟨52,yjv k⟩,⟨53,yk6 k⟩,⟨54,ykx k⟩]
theorem ykz (k:Nat):cd (yky k):=fun g=>bm _ g
noncomputable def yl0:Code:=(Try.f7.body).getD .skip
noncomputable def yl1:Code:=((aK 0 yl0).getD 0 (0,.skip)).2
def yl2:List Nat:=[0,3,4,5,6,9,10]
def yl3:List (aQ× Co):=[]
def yl4:Ex→List Nat
  |.exit j=>cond (Nat.beq j 0) [0,3,4,5,6] []
  |.ret=>[2]
  |.normal=>[]
def yl5:Ex→List (aQ× Co)
  |.exit j=>cond (Nat.beq j 0) [] []
  |.ret=>[]
  |.normal=>[]
def yl6 (pv:(List Int× Bool× Int× Int× Int× Int× Int× Int× Int× Int× Int× List Shape× List ai× List Int× List Int)× (Int)):St:={ax:=[(0,.r [] (.sl (.int .u8) pv.1.1)),(3,.ptr 0 0 0),(4,.ptr 1 0 0),(5,.ptr 2 0 0),(6,.r [] (.bool pv.1.2.1)),(9,.own 3),(10,.r [] (.int .i64 pv.2))],heap:=[(0,.box [.r [] (.int .i64 pv.1.2.2.1),.r [] (.int .i64 pv.1.2.2.2.1),.r [] (.int .i64 pv.1.2.2.2.2.1),.own 4]),(1,.box [.r [] (.int .i64 pv.1.2.2.2.2.2.1),.r [] (.int .i64 pv.1.2.2.2.2.2.2.1),.r [] (.int .i64 pv.1.2.2.2.2.2.2.2.1),.own 5]),(2,.box [.r [] (.int .i64 pv.1.2.2.2.2.2.2.2.2.1),.r [] (.int .i64 pv.1.2.2.2.2.2.2.2.2.2.1),.r [] (.int .i64 pv.1.2.2.2.2.2.2.2.2.2.2.1),.own 6]),(3,.arr none (.st .shape) pv.1.2.2.2.2.2.2.2.2.2.2.2.1),(4,.arr none (.st .aJ) pv.1.2.2.2.2.2.2.2.2.2.2.2.2.1),(5,.arr none (.int .i64) pv.1.2.2.2.2.2.2.2.2.2.2.2.2.2.1),(6,.arr none (.int .i64) pv.1.2.2.2.2.2.2.2.2.2.2.2.2.2.2)],nid:=7,n:=169,gh:=[]}
def yl7 (nf:NF):Option ((List Int× Bool× Int× Int× Int× Int× Int× Int× Int× Int× Int× List Shape× List ai× List Int× List Int)× (Int)):=match nf with
  |([.r [] (.sl (.int .u8) w0),.ptr 0 0 0,.ptr 1 0 0,.ptr 2 0 0,.r [] (.bool w1),.own 3,.r [] (.int .i64 w2)],[.box [.r [] (.int .i64 w3),.r [] (.int .i64 w4),.r [] (.int .i64 w5),.own 4],.box [.r [] (.int .i64 w6),.r [] (.int .i64 w7),.r [] (.int .i64 w8),.own 5],.box [.r [] (.int .i64 w9),.r [] (.int .i64 w10),.r [] (.int .i64 w11),.own 6],.arr none (.st .shape) w12,.arr none (.st .aJ) w13,.arr none (.int .i64) w14,.arr none (.int .i64) w15],[])=>some ((w0,w1,w3,w4,w5,w6,w7,w8,w9,w10,w11,w12,w13,w14,w15),w2)
  |_=>none
theorem yl8 (nf:NF) (v:(List Int× Bool× Int× Int× Int× Int× Int× Int× Int× Int× Int× List Shape× List ai× List Int× List Int)× (Int)) (h:yl7 nf=some v):al yl2 169 nf=yl6 v:=by
  unfold yl7 at h
  split at h
  · cases h;rfl
  · cases h
def yl9 (p:List Int× Bool× Int× Int× Int× Int× Int× Int× Int× Int× Int× List Shape× List ai× List Int× List Int) (x:Unit):St:={ax:=[(0,.r [] (.sl (.int .u8) p.1)),(3,.ptr 0 0 0),(4,.ptr 1 0 0),(5,.ptr 2 0 0),(6,.r [] (.bool p.2.1))],heap:=[(0,.box [.r [] (.int .i64 p.2.2.1),.r [] (.int .i64 p.2.2.2.1),.r [] (.int .i64 p.2.2.2.2.1),.own 3]),(1,.box [.r [] (.int .i64 p.2.2.2.2.2.1),.r [] (.int .i64 p.2.2.2.2.2.2.1),.r [] (.int .i64 p.2.2.2.2.2.2.2.1),.own 4]),(2,.box [.r [] (.int .i64 p.2.2.2.2.2.2.2.2.1),.r [] (.int .i64 p.2.2.2.2.2.2.2.2.2.1),.r [] (.int .i64 p.2.2.2.2.2.2.2.2.2.2.1),.own 5]),(3,.arr none (.st .aJ) p.2.2.2.2.2.2.2.2.2.2.2.2.1),(4,.arr none (.int .i64) p.2.2.2.2.2.2.2.2.2.2.2.2.2.1),(5,.arr none (.int .i64) p.2.2.2.2.2.2.2.2.2.2.2.2.2.2)],nid:=6,n:=169,gh:=[]}
def yla (p:List Int× Bool× Int× Int× Int× Int× Int× Int× Int× Int× Int× List Shape× List ai× List Int× List Int) (x:Bool):St:={ax:=[(2,.r [] (.bool x))],heap:=[],nid:=0,n:=169,gh:=[]}
def ylb (ρ:Type) (k:Nat):Nat→Ev ρ→Ev ρ:=fun id f=>cond (Nat.beq id 0) (aX yl2 yl3 (fun n nf=>cond (Nat.beq n 169) (yl7 nf) none) fun pv K=>iter (fun v next=>cW k pv.1 v next (fun x=>K (.exit 0) (yl9 pv.1 x)) (fun x=>K .ret (yla pv.1 x))) k pv.2) ((fun _ _ _ _=>none) id f)
theorem ylc {ρ:Type} (k:Nat) (p:List Int× Bool× Int× Int× Int× Int× Int× Int× Int× Int× Int× List Shape× List ai× List Int× List Int) (v:Int) (K K1:Ex→St→Option ρ):ev (yky k) (ylb ρ k) 0 yl1 (yl6 (p,v)) (fun e st'=>match e with
    |.normal=>(aW yl2 yl3 st').bind fun nf=>K1 .normal (al yl2 st'.n nf)
    |e=>(aW (yl4 e) (yl5 e) st').bind fun nf=>K e (al (yl4 e) st'.n nf))=cW k p v (fun v'=>K1 .normal (yl6 (p,v'))) (fun x=>K (.exit 0) (yl9 p x)) (fun x=>K .ret (yla p x)):=by kernel_rfl
theorem yld {ρ:Type} (k:Nat):Sound Try.prog (.loop yl1) (ylb ρ k 0 fun st K=>ev (yky k) (ylb ρ k) 0 yl1 st K):=
  bg (aG (ykz k) yl1 0 (av (by kernel_rfl))) yl4 yl5 k (g:=fun p v next K=>cW k p v next (fun x=>K (.exit 0) (yl9 p x)) (fun x=>K .ret (yla p x))) (bz yl8) (fun p v K K1=>ylc k p v K K1)
def yle (a:List Int):List Arg:=[.one (.sl (.int .u8) a)]
def ylf (l:List Arg):Option (List Int):=match l with
  |[.one (.sl (.int .u8) b0)]=>some b0
  |_=>none
def ylg (r:Bool):Out:=(.r [] (.bool r),[])
def ylh (o:Out):Option (Bool):=match o with
  |(.r [] (.bool z1),[])=>some z1
  |_=>none
def yli (k:Nat):PG:=fun _ l K=>(ylf l).bind fun a=>(je k a).bind fun r=>K (ylg r)
theorem ylj (k:Nat) (a:List Int):ev (yky k) (ylb (Bool) k) 0 yl0 (st0 Try.f7 (yle a)) (fin Try.prog Try.f7 (.sc) ylh)=je k a:=by kernel_rfl
theorem ylk (k:Nat):mG Try.prog 7 (yli k):=
  dj (ykz k) Try.func7 (by kernel_rfl) (by kernel_rfl) yle ylf
    (fun l a h=>by unfold ylf at h;split at h<;>first|(cases h;rfl)|cases h) (fun a=>rfl) (aI (l:=[(0,yl1)]) (by kernel_rfl) ⟨yld k,trivial⟩)
    (fun o r h=>by unfold ylh at h;split at h<;>first|(cases h;rfl)|cases h) (ylj k)
end
end Go.Proofs.Ev
