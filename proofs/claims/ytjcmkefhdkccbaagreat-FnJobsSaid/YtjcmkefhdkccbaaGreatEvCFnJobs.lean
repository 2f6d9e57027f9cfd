/- Text of this claim. -/
import Derived.Test.YtjcmkefhdkccbaaGreatEvK7
import Derived.Test.YtjcmkefhdkccbaaGreatProg
import Derived.Test.YtjcmkefhdkccbaaGreatEvL1
set_option linter.unusedVariables false
set_option linter.unusedSimpArgs false
set_option linter.unusedVariables false
set_option linter.unusedSimpArgs false
set_option maxRecDepth 100000
set_option maxHeartbeats 4000000
namespace Go.Proofs.Ev
noncomputable section
variable [Tok]
set_option linter.unusedSectionVars false
def tt:TT:=look [(2,(.int .i64)),(3,(.int .i64)),(4,.bool),(5,(.int .u8)),(6,(.int .u8)),(9,.str),(10,.str),(11,.str),(12,(.int .u64)),(21,(.int .i32)),(22,(.sl (.int .u8))),(25,(.st .shape)),(26,(.sl (.st .aC))),(28,(.st .model)),(29,(.sl (.int .i64))),(31,(.st .bK)),(50,(.sl (.st .bK))),(68,(.st .aC)),(72,(.sl (.st .shape))),(120,(.int .u64)),(137,(.int .u32)),(138,(.int .u8)),(139,(.int .u8)),(142,(.int .i32)),(143,(.int .i32))]
def y0 (k:Nat):O Tryz.prog 5:=dP (tt:=tt) [] .id Tryz.func5 [.one (.sl (.int .u8))] (cdL (.int .u8)) ⟨.h 0,[]⟩ cdB (.sc) (fun a=>EY k a) (by kernel_rfl) fun a=>by kernel_rfl
noncomputable def y1 (k:Nat):Env:=iU (P:=Tryz.prog) tt []
theorem ya (k:Nat):bY (y1 k):=fun g=>bh _ g
noncomputable def yb:Code:=(Tryz.f49.body).getD .skip
noncomputable def yc:Code:=((aH 0 yb).getD 0 (0,.skip)).2
def yd:List Nat:=[0,3,4]
def ye:List (aM× Co):=[]
def yf:Ex→List Nat
  |.exit j=>cond (Nat.beq j 0) [0,3] []
  |.ret=>[]
  |.normal=>[]
def yg:Ex→List (aM× Co)
  |.exit j=>cond (Nat.beq j 0) [] []
  |.ret=>[]
  |.normal=>[]
def yh (pv:(List Int)× (Int× Int)):St:={au:=[(0,.r [] (.sl (.int .u8) pv.1)),(3,.r [] (.int .i64 pv.2.1)),(4,.r [] (.int .i64 pv.2.2))],heap:=[],nid:=0,n:=32,gh:=[]}
def yi (nf:NF):Option ((List Int)× (Int× Int)):=match nf with
  |([.r [] (.sl (.int .u8) w0),.r [] (.int .i64 w1),.r [] (.int .i64 w2)],[],[])=>some (w0,(w1,w2))
  |_=>none
theorem yj (nf:NF) (v:(List Int)× (Int× Int)) (h:yi nf=some v):ak yd 32 nf=yh v:=by
  unfold yi at h
  split at h
  · cases h;rfl
  · cases h
def yk (p:List Int) (x:Int):St:={au:=[(0,.r [] (.sl (.int .u8) p)),(3,.r [] (.int .i64 x))],heap:=[],nid:=0,n:=32,gh:=[]}
def yl (ρ:Type) (k:Nat):Nat→Ev ρ→Ev ρ:=fun id f=>cond (Nat.beq id 0) (aT yd ye (fun n nf=>cond (Nat.beq n 32) (yi nf) none) fun pv K=>iter (fun v next=>eT k pv.1 v next (fun x=>K (.exit 0) (yk pv.1 x))) k pv.2) ((fun _ _ _ _=>none) id f)
theorem ym {ρ:Type} (k:Nat) (p:List Int) (v:Int× Int) (K K1:Ex→St→Option ρ):ev (y1 k) (yl ρ k) 0 yc (yh (p,v)) (fun e st'=>match e with
    |.normal=>(aS yd ye st').bind fun nf=>K1 .normal (ak yd st'.n nf)
    |e=>(aS (yf e) (yg e) st').bind fun nf=>K e (ak (yf e) st'.n nf))=eT k p v (fun v'=>K1 .normal (yh (p,v'))) (fun x=>K (.exit 0) (yk p x)):=by kernel_rfl
theorem yn {ρ:Type} (k:Nat):Sound Tryz.prog (.loop yc) (yl ρ k 0 fun st K=>ev (y1 k) (yl ρ k) 0 yc st K):=
  aX (aE (ya k) yc 0 (av (by kernel_rfl))) yf yg k (g:=fun p v next K=>eT k p v next (fun x=>K (.exit 0) (yk p x))) (bp yj) (fun p v K K1=>ym k p v K K1)
def yo (k:Nat):O Tryz.prog 49:=⟨oM [.one (.sl (.int .u8))] ⟨[.h 0],[]⟩ (cdL (.int .u8)) ⟨.v (.ptr 0 0 0),[],[.box [.h 0,.h 1,.h 2]]⟩ (cdZ.p cdZ) fun a=>ln k a,okM (LP:=yl _ k) (ya k) Tryz.func49 (by kernel_rfl) (by kernel_rfl) (by kernel_rfl) (by kernel_rfl) (aF (l:=[(0,yc)]) (by kernel_rfl) ⟨yn k,trivial⟩) (.ptr) [.box [.ro (.int .u8),.sc,.sc]] fun a=>by kernel_rfl⟩
def yp (k:Nat):O Tryz.prog 82:=DB (tt:=tt) [] .id Tryz.func82 [.cP] ⟨[.v (.ptr 0 0 0)],[.box [.h 0,.h 1,.h 2]]⟩ ((cdL (.int .u8)).p (cdZ.p cdZ)) ⟨.h 3,[some (.box [.h 0,.h 4,.h 5])],[]⟩ (cdZ.p (cdZ.p cdZ)) (.sc) [.box [.ro (.int .u8),.sc,.sc]] (fun a=>dZ k a.1 a.2.1 a.2.2) (by kernel_rfl) fun a=>by kernel_rfl
def yq (k:Nat):O Tryz.prog 55:=DB (tt:=tt) [⟨82,yp k⟩] {f:=fun E=>{E with wr:=fun g=>mem g [82],wt:=true}} Tryz.func55 [.cP,.one (.int .i64)] ⟨[.v (.ptr 0 0 0),.h 3],[.box [.h 0,.h 1,.h 2]]⟩ ((cdL (.int .u8)).p (cdZ.p (cdZ.p cdZ))) ⟨.h 4,[some (.box [.h 0,.h 5,.h 6])],[]⟩ (cdZ.p (cdZ.p cdZ)) (.sc) [.box [.ro (.int .u8),.sc,.sc]] (fun a=>ab k a.1 a.2.1 a.2.2.1 a.2.2.2) (by kernel_rfl) fun a=>by kernel_rfl
def yr (k:Nat):O Tryz.prog 84:=DB (tt:=tt) [⟨55,yq k⟩] {f:=fun E=>{E with wr:=fun g=>mem g [55],wt:=true}} Tryz.func84 [.cP,.one (.int .i64)] ⟨[.v (.ptr 0 0 0),.h 3],[.box [.h 0,.h 1,.h 2]]⟩ ((cdL (.int .u8)).p (cdZ.p (cdZ.p cdZ))) ⟨.agg [.h 4,.h 5,.h 6],[some (.box [.h 0,.h 7,.h 8])],[]⟩ ((cdS .shape).p (cdZ.p cdZ)) (.agg [.sc,.sc,.sc]) [.box [.ro (.int .u8),.sc,.sc]] (fun a=>cV k a.1 a.2.1 a.2.2.1 a.2.2.2) (by kernel_rfl) fun a=>by kernel_rfl
def yt (k:Nat):O Tryz.prog 80:=DB (tt:=tt) [⟨55,yq k⟩] {f:=fun E=>{E with wr:=fun g=>mem g [55],wt:=true}} Tryz.func80 [.cP,.one (.sl (.int .i64))] ⟨[.v (.ptr 0 0 0),.h 3],[.box [.h 0,.h 1,.h 2]]⟩ ((cdL (.int .u8)).p (cdZ.p (cdZ.p (cdL (.int .i64))))) ⟨.h 4,[some (.box [.h 0,.h 5,.h 6])],[]⟩ (cdZ.p (cdZ.p cdZ)) (.sc) [.box [.ro (.int .u8),.sc,.sc]] (fun a=>aR k a.1 a.2.1 a.2.2.1 a.2.2.2) (by kernel_rfl) fun a=>by kernel_rfl
def yu (k:Nat):O Tryz.prog 46:=dP (tt:=tt) [] .id Tryz.func46 [.one (.int .i64),.one (.int .i64),.one (.int .i64)] (cdZ.p (cdZ.p cdZ)) ⟨.h 0,[]⟩ cdB (.sc) (fun a=>bI k a.1 a.2.1 a.2.2) (by kernel_rfl) fun a=>by kernel_rfl
def yv (k:Nat):O Tryz.prog 65:=dP (tt:=tt) [⟨46,yu k⟩] .id Tryz.func65 [.agg [(.int .i64),(.int .i64),(.int .i64)]] (cdS .shape) ⟨.h 0,[]⟩ cdB (.sc) (fun a=>fQ k a) (by kernel_rfl) fun a=>by kernel_rfl
def yw (k:Nat):O Tryz.prog 66:=dP (tt:=tt) [⟨65,yv k⟩] .id Tryz.func66 [.agg [(.int .i64),(.int .i64),(.int .i64)]] (cdS .shape) ⟨.h 0,[]⟩ cdZ (.sc) (fun a=>bg k a) (by kernel_rfl) fun a=>by kernel_rfl
def yx (k:Nat):O Tryz.prog 83:=DB (tt:=tt) [⟨55,yq k⟩,⟨80,yt k⟩] {f:=fun E=>{E with wr:=fun g=>mem g [55,80],wt:=true}} Tryz.func83 [.cP] ⟨[.v (.ptr 0 0 0)],[.box [.h 0,.h 1,.h 2]]⟩ ((cdL (.int .u8)).p (cdZ.p cdZ)) ⟨.h 3,[some (.box [.h 0,.h 4,.h 5])],[]⟩ (cdZ.p (cdZ.p cdZ)) (.sc) [.box [.ro (.int .u8),.sc,.sc]] (fun a=>dn k a.1 a.2.1 a.2.2) (by kernel_rfl) fun a=>by kernel_rfl
noncomputable def yy (k:Nat):Env:={iU (P:=Tryz.prog) tt [⟨46,yu k⟩,⟨55,yq k⟩,⟨66,yw k⟩,⟨80,yt k⟩,⟨83,yx k⟩]with wr:=fun g=>mem g [55,80,83],wt:=true}
theorem yz (k:Nat):bY (yy k):=fun g=>bh _ g
noncomputable def y14:Code:=(Tryz.f115.body).getD .skip
noncomputable def y16:Code:=((aH 0 y14).getD 0 (0,.skip)).2
noncomputable def y17:Code:=((aH 0 y14).getD 1 (0,.skip)).2
def y19:List Nat:=[0,4,5,7,8]
def y1a:List (aM× Co):=[((.D0 5 7),(.mo false (.int .i64)))]
def y1b:Ex→List Nat
  |.exit j=>cond (Nat.beq j 0) [0,4,5] []
  |.ret=>[]
  |.normal=>[]
def y1c:Ex→List (aM× Co)
  |.exit j=>cond (Nat.beq j 0) [] []
  |.ret=>[]
  |.normal=>[]
def y1d (pv:(Int× List Int× Int× Int× Int× Int× Int× Int× Int× Int× Int× Int× Int× Int× Int× Int)× (Int× Int× Int× List Int)):St:={au:=[(0,.ptr 0 0 0),(4,.ptr 1 0 0),(5,.ptr 2 0 0),(7,.r [] (.int .i64 pv.1.1)),(8,.r [] (.int .i64 pv.2.1))],heap:=[(0,.box [.r [] (.sl (.int .u8) pv.1.2.1),.r [] (.int .i64 pv.2.2.1),.r [] (.int .i64 pv.2.2.2.1)]),(1,.box [.r [] (.int .i64 pv.1.2.2.1),.r [] (.int .i64 pv.1.2.2.2.1),.r [] (.int .i64 pv.1.2.2.2.2.1),.r [] (.int .i64 pv.1.2.2.2.2.2.1),.r [] (.int .i64 pv.1.2.2.2.2.2.2.1),.r [] (.int .i64 pv.1.2.2.2.2.2.2.2.1),.r [] (.int .i64 pv.1.2.2.2.2.2.2.2.2.1),.bn,.bn]),(2,.box [.r [] (.int .i64 pv.1.2.2.2.2.2.2.2.2.2.1),.r [] (.int .i64 pv.1.2.2.2.2.2.2.2.2.2.2.1),.r [] (.int .i64 pv.1.2.2.2.2.2.2.2.2.2.2.2.1),.r [] (.int .i64 pv.1.2.2.2.2.2.2.2.2.2.2.2.2.1),.r [] (.int .i64 pv.1.2.2.2.2.2.2.2.2.2.2.2.2.2.1),.r [] (.int .i64 pv.1.2.2.2.2.2.2.2.2.2.2.2.2.2.2.1),.r [] (.int .i64 pv.1.2.2.2.2.2.2.2.2.2.2.2.2.2.2.2),.own 3,.bn]),(3,.arr none (.int .i64) pv.2.2.2.2)],nid:=4,n:=129,gh:=[some 0]}
def y1e (nf:NF):Option ((Int× List Int× Int× Int× Int× Int× Int× Int× Int× Int× Int× Int× Int× Int× Int× Int)× (Int× Int× Int× List Int)):=match nf with
  |([.ptr 0 0 0,.ptr 1 0 0,.ptr 2 0 0,.r [] (.int .i64 w0),.r [] (.int .i64 w1)],[.box [.r [] (.sl (.int .u8) w2),.r [] (.int .i64 w3),.r [] (.int .i64 w4)],.box [.r [] (.int .i64 w5),.r [] (.int .i64 w6),.r [] (.int .i64 w7),.r [] (.int .i64 w8),.r [] (.int .i64 w9),.r [] (.int .i64 w10),.r [] (.int .i64 w11),.bn,.bn],.box [.r [] (.int .i64 w12),.r [] (.int .i64 w13),.r [] (.int .i64 w14),.r [] (.int .i64 w15),.r [] (.int .i64 w16),.r [] (.int .i64 w17),.r [] (.int .i64 w18),.own 3,.bn],.arr none (.int .i64) w19],[some 0])=>some ((w0,w2,w5,w6,w7,w8,w9,w10,w11,w12,w13,w14,w15,w16,w17,w18),(w1,w3,w4,w19))
  |_=>none
theorem y1f (nf:NF) (v:(Int× List Int× Int× Int× Int× Int× Int× Int× Int× Int× Int× Int× Int× Int× Int× Int)× (Int× Int× Int× List Int)) (h:y1e nf=some v):ak y19 129 nf=y1d v:=by
  unfold y1e at h
  split at h
  · cases h;rfl
  · cases h
def y1g (p:Int× List Int× Int× Int× Int× Int× Int× Int× Int× Int× Int× Int× Int× Int× Int× Int) (x:Int× Int× List Int):St:={au:=[(0,.ptr 0 0 0),(4,.ptr 1 0 0),(5,.ptr 2 0 0)],heap:=[(0,.box [.r [] (.sl (.int .u8) p.2.1),.r [] (.int .i64 x.1),.r [] (.int .i64 x.2.1)]),(1,.box [.r [] (.int .i64 p.2.2.1),.r [] (.int .i64 p.2.2.2.1),.r [] (.int .i64 p.2.2.2.2.1),.r [] (.int .i64 p.2.2.2.2.2.1),.r [] (.int .i64 p.2.2.2.2.2.2.1),.r [] (.int .i64 p.2.2.2.2.2.2.2.1),.r [] (.int .i64 p.2.2.2.2.2.2.2.2.1),.bn,.bn]),(2,.box [.r [] (.int .i64 p.2.2.2.2.2.2.2.2.2.1),.r [] (.int .i64 p.2.2.2.2.2.2.2.2.2.2.1),.r [] (.int .i64 p.2.2.2.2.2.2.2.2.2.2.2.1),.r [] (.int .i64 p.2.2.2.2.2.2.2.2.2.2.2.2.1),.r [] (.int .i64 p.2.2.2.2.2.2.2.2.2.2.2.2.2.1),.r [] (.int .i64 p.2.2.2.2.2.2.2.2.2.2.2.2.2.2.1),.r [] (.int .i64 p.2.2.2.2.2.2.2.2.2.2.2.2.2.2.2),.own 3,.bn]),(3,.arr none (.int .i64) x.2.2)],nid:=4,n:=129,gh:=[some 0]}
def y1h:List Nat:=[0,4,5,9]
def y1i:List (aM× Co):=[((.D0 5 8),(.mo false (.int .i64)))]
def y1j:Ex→List Nat
  |.exit j=>cond (Nat.beq j 2) [0,4,5] []
  |.ret=>[]
  |.normal=>[]
def y1k:Ex→List (aM× Co)
  |.exit j=>cond (Nat.beq j 2) [] []
  |.ret=>[]
  |.normal=>[]
def y1l (pv:(List Int× Int× Int× Int× Int× Int× Int× Int× Int× Int× Int× Int× Int× Int× Int× List Int)× (Int× Int× Int× List Int)):St:={au:=[(0,.ptr 0 0 0),(4,.ptr 1 0 0),(5,.ptr 2 0 0),(9,.r [] (.int .i64 pv.2.1))],heap:=[(0,.box [.r [] (.sl (.int .u8) pv.1.1),.r [] (.int .i64 pv.2.2.1),.r [] (.int .i64 pv.2.2.2.1)]),(1,.box [.r [] (.int .i64 pv.1.2.1),.r [] (.int .i64 pv.1.2.2.1),.r [] (.int .i64 pv.1.2.2.2.1),.r [] (.int .i64 pv.1.2.2.2.2.1),.r [] (.int .i64 pv.1.2.2.2.2.2.1),.r [] (.int .i64 pv.1.2.2.2.2.2.2.1),.r [] (.int .i64 pv.1.2.2.2.2.2.2.2.1),.bn,.bn]),(2,.box [.r [] (.int .i64 pv.1.2.2.2.2.2.2.2.2.1),.r [] (.int .i64 pv.1.2.2.2.2.2.2.2.2.2.1),.r [] (.int .i64 pv.1.2.2.2.2.2.2.2.2.2.2.1),.r [] (.int .i64 pv.1.2.2.2.2.2.2.2.2.2.2.2.1),.r [] (.int .i64 pv.1.2.2.2.2.2.2.2.2.2.2.2.2.1),.r [] (.int .i64 pv.1.2.2.2.2.2.2.2.2.2.2.2.2.2.1),.r [] (.int .i64 pv.1.2.2.2.2.2.2.2.2.2.2.2.2.2.2.1),.own 3,.own 4]),(3,.arr none (.int .i64) pv.1.2.2.2.2.2.2.2.2.2.2.2.2.2.2.2),(4,.arr none (.int .i64) pv.2.2.2.2)],nid:=5,n:=129,gh:=[some 0]}
def y1m (nf:NF):Option ((List Int× Int× Int× Int× Int× Int× Int× Int× Int× Int× Int× Int× Int× Int× Int× List Int)× (Int× Int× Int× List Int)):=match nf with
  |([.ptr 0 0 0,.ptr 1 0 0,.ptr 2 0 0,.r [] (.int .i64 w0)],[.box [.r [] (.sl (.int .u8) w1),.r [] (.int .i64 w2),.r [] (.int .i64 w3)],.box [.r [] (.int .i64 w4),.r [] (.int .i64 w5),.r [] (.int .i64 w6),.r [] (.int .i64 w7),.r [] (.int .i64 w8),.r [] (.int .i64 w9),.r [] (.int .i64 w10),.bn,.bn],.box [.r [] (.int .i64 w11),.r [] (.int .i64 w12),.r [] (.int .i64 w13),.r [] (.int .i64 w14),.r [] (.int .i64 w15),.r [] (.int .i64 w16),.r [] (.int .i64 w17),.own 3,.own 4],.arr none (.int .i64) w18,.arr none (.int .i64) w19],[some 0])=>some ((w1,w4,w5,w6,w7,w8,w9,w10,w11,w12,w13,w14,w15,w16,w17,w18),(w0,w2,w3,w19))
  |_=>none
theorem y1n (nf:NF) (v:(List Int× Int× Int× Int× Int× Int× Int× Int× Int× Int× Int× Int× Int× Int× Int× List Int)× (Int× Int× Int× List Int)) (h:y1m nf=some v):ak y1h 129 nf=y1l v:=by
  unfold y1m at h
  split at h
  · cases h;rfl
  · cases h
def y1o (p:List Int× Int× Int× Int× Int× Int× Int× Int× Int× Int× Int× Int× Int× Int× Int× List Int) (x:Int× Int× List Int):St:={au:=[(0,.ptr 0 0 0),(4,.ptr 1 0 0),(5,.ptr 2 0 0)],heap:=[(0,.box [.r [] (.sl (.int .u8) p.1),.r [] (.int .i64 x.1),.r [] (.int .i64 x.2.1)]),(1,.box [.r [] (.int .i64 p.2.1),.r [] (.int .i64 p.2.2.1),.r [] (.int .i64 p.2.2.2.1),.r [] (.int .i64 p.2.2.2.2.1),.r [] (.int .i64 p.2.2.2.2.2.1),.r [] (.int .i64 p.2.2.2.2.2.2.1),.r [] (.int .i64 p.2.2.2.2.2.2.2.1),.bn,.bn]),(2,.box [.r [] (.int .i64 p.2.2.2.2.2.2.2.2.1),.r [] (.int .i64 p.2.2.2.2.2.2.2.2.2.1),.r [] (.int .i64 p.2.2.2.2.2.2.2.2.2.2.1),.r [] (.int .i64 p.2.2.2.2.2.2.2.2.2.2.2.1),.r [] (.int .i64 p.2.2.2.2.2.2.2.2.2.2.2.2.1),.r [] (.int .i64 p.2.2.2.2.2.2.2.2.2.2.2.2.2.1),.r [] (.int .i64 p.2.2.2.2.2.2.2.2.2.2.2.2.2.2.1),.own 3,.own 4]),(3,.arr none (.int .i64) p.2.2.2.2.2.2.2.2.2.2.2.2.2.2.2),(4,.arr none (.int .i64) x.2.2)],nid:=5,n:=129,gh:=[some 0]}
def y1p (ρ:Type) (k:Nat):Nat→Ev ρ→Ev ρ:=fun id f=>cond (Nat.beq id 2) (aT y1h y1i (fun n nf=>cond (Nat.beq n 129) (y1m nf) none) fun pv K=>iter (fun v next=>aZ k pv.1 v next (fun x=>K (.exit 2) (y1o pv.1 x))) k pv.2) ((fun id f=>cond (Nat.beq id 0) (aT y19 y1a (fun n nf=>cond (Nat.beq n 129) (y1e nf) none) fun pv K=>iter (fun v next=>aY k pv.1 v next (fun x=>K (.exit 0) (y1g pv.1 x))) k pv.2) ((fun _ _ _ _=>none) id f)) id f)
theorem y1q {ρ:Type} (k:Nat) (p:Int× List Int× Int× Int× Int× Int× Int× Int× Int× Int× Int× Int× Int× Int× Int× Int) (v:Int× Int× Int× List Int) (K K1:Ex→St→Option ρ):ev (yy k) (y1p ρ k) 0 y16 (y1d (p,v)) (fun e st'=>match e with
    |.normal=>(aS y19 y1a st').bind fun nf=>K1 .normal (ak y19 st'.n nf)
    |e=>(aS (y1b e) (y1c e) st').bind fun nf=>K e (ak (y1b e) st'.n nf))=aY k p v (fun v'=>K1 .normal (y1d (p,v'))) (fun x=>K (.exit 0) (y1g p x)):=by kernel_rfl
theorem y1r {ρ:Type} (k:Nat):Sound Tryz.prog (.loop y16) (y1p ρ k 0 fun st K=>ev (yy k) (y1p ρ k) 0 y16 st K):=
  aX (aE (yz k) y16 0 (av (by kernel_rfl))) y1b y1c k (g:=fun p v next K=>aY k p v next (fun x=>K (.exit 0) (y1g p x))) (bp y1f) (fun p v K K1=>y1q k p v K K1)
theorem y1s {ρ:Type} (k:Nat) (p:List Int× Int× Int× Int× Int× Int× Int× Int× Int× Int× Int× Int× Int× Int× Int× List Int) (v:Int× Int× Int× List Int) (K K1:Ex→St→Option ρ):ev (yy k) (y1p ρ k) 2 y17 (y1l (p,v)) (fun e st'=>match e with
    |.normal=>(aS y1h y1i st').bind fun nf=>K1 .normal (ak y1h st'.n nf)
    |e=>(aS (y1j e) (y1k e) st').bind fun nf=>K e (ak (y1j e) st'.n nf))=aZ k p v (fun v'=>K1 .normal (y1l (p,v'))) (fun x=>K (.exit 2) (y1o p x)):=by kernel_rfl
theorem y1t {ρ:Type} (k:Nat):Sound Tryz.prog (.loop y17) (y1p ρ k 2 fun st K=>ev (yy k) (y1p ρ k) 2 y17 st K):=
  aX (aE (yz k) y17 2 (av (by kernel_rfl))) y1j y1k k (g:=fun p v next K=>aZ k p v next (fun x=>K (.exit 2) (y1o p x))) (bp y1n) (fun p v K K1=>y1s k p v K K1)
def y1u (k:Nat):O Tryz.prog 115:=⟨oM [.cP,.agg [(.int .i64),(.int .i64),(.int .i64)]] ⟨[.v (.ptr 0 0 0),.agg [.h 3,.h 4,.h 5]],[.box [.h 0,.h 1,.h 2]]⟩ ((cdL (.int .u8)).p (cdZ.p (cdZ.p (cdS .shape)))) ⟨.agg (hs 6 7++[.own 1,.own 2]),[some (.box [.h 0,.h 15,.h 16])],[.arr none (.int .i64) 13,.arr none (.int .i64) 14]⟩ ((cdS .aC).p (cdZ.p cdZ)) fun a=>dQ k a.1 a.2.1 a.2.2.1 a.2.2.2,okM (LP:=y1p _ k) (yz k) Tryz.func115 (by kernel_rfl) (by kernel_rfl) (by kernel_rfl) (by kernel_rfl) (aF (l:=[(0,y16),(2,y17)]) (by kernel_rfl) ⟨y1r k,⟨y1t k,trivial⟩⟩) (.agg [.sc,.sc,.sc,.sc,.sc,.sc,.sc,.own (.int .i64),.own (.int .i64)]) [.box [.ro (.int .u8),.sc,.sc]] fun a=>by kernel_rfl⟩
def y1v (k:Nat):O Tryz.prog 67:=dP (tt:=tt) [⟨46,yu k⟩] .id Tryz.func67 [.one (.int .i64)] cdZ ⟨.h 0,[]⟩ cdB (.sc) (fun a=>dM k a) (by kernel_rfl) fun a=>by kernel_rfl
noncomputable def y1w (k:Nat):Env:=iU (P:=Tryz.prog) tt [⟨46,yu k⟩,⟨67,y1v k⟩]
theorem y1x (k:Nat):bY (y1w k):=fun g=>bh _ g
noncomputable def y1y:Code:=(Tryz.f87.body).getD .skip
noncomputable def y1z:Code:=((aH 0 y1y).getD 0 (0,.skip)).2
noncomputable def y20:Code:=((aH 0 y1y).getD 1 (0,.skip)).2
def y23:List Nat:=[3,7]
def y25:List (aM× Co):=[]
def y29:Ex→List Nat
  |.exit j=>cond (Nat.beq j 0) [3] []
  |.ret=>[6]
  |.normal=>[]
def y2a:Ex→List (aM× Co)
  |.exit j=>cond (Nat.beq j 0) [] []
  |.ret=>[]
  |.normal=>[]
def y2b (pv:(Int× Int× Int× Int× Int× Int× Int× List Int× List Int)× (Int)):St:={au:=[(3,.ptr 0 0 0),(7,.r [] (.int .i64 pv.2))],heap:=[(0,.box [.r [] (.int .i64 pv.1.1),.r [] (.int .i64 pv.1.2.1),.r [] (.int .i64 pv.1.2.2.1),.r [] (.int .i64 pv.1.2.2.2.1),.r [] (.int .i64 pv.1.2.2.2.2.1),.r [] (.int .i64 pv.1.2.2.2.2.2.1),.r [] (.int .i64 pv.1.2.2.2.2.2.2.1),.r [] (.sl (.int .i64) pv.1.2.2.2.2.2.2.2.1),.r [] (.sl (.int .i64) pv.1.2.2.2.2.2.2.2.2)])],nid:=1,n:=121,gh:=[]}
def y2c (nf:NF):Option ((Int× Int× Int× Int× Int× Int× Int× List Int× List Int)× (Int)):=match nf with
  |([.ptr 0 0 0,.r [] (.int .i64 w0)],[.box [.r [] (.int .i64 w1),.r [] (.int .i64 w2),.r [] (.int .i64 w3),.r [] (.int .i64 w4),.r [] (.int .i64 w5),.r [] (.int .i64 w6),.r [] (.int .i64 w7),.r [] (.sl (.int .i64) w8),.r [] (.sl (.int .i64) w9)]],[])=>some ((w1,w2,w3,w4,w5,w6,w7,w8,w9),w0)
  |_=>none
theorem y2d (nf:NF) (v:(Int× Int× Int× Int× Int× Int× Int× List Int× List Int)× (Int)) (h:y2c nf=some v):ak y23 121 nf=y2b v:=by
  unfold y2c at h
  split at h
  · cases h;rfl
  · cases h
def y2e (p:Int× Int× Int× Int× Int× Int× Int× List Int× List Int) (x:Unit):St:={au:=[(3,.ptr 0 0 0)],heap:=[(0,.box [.r [] (.int .i64 p.1),.r [] (.int .i64 p.2.1),.r [] (.int .i64 p.2.2.1),.r [] (.int .i64 p.2.2.2.1),.r [] (.int .i64 p.2.2.2.2.1),.r [] (.int .i64 p.2.2.2.2.2.1),.r [] (.int .i64 p.2.2.2.2.2.2.1),.r [] (.sl (.int .i64) p.2.2.2.2.2.2.2.1),.r [] (.sl (.int .i64) p.2.2.2.2.2.2.2.2)])],nid:=1,n:=121,gh:=[]}
def y2f (p:Int× Int× Int× Int× Int× Int× Int× List Int× List Int) (x:Bool):St:={au:=[(6,.r [] (.bool x))],heap:=[],nid:=0,n:=121,gh:=[]}
def y2g:List Nat:=[3,8]
def y2h:List (aM× Co):=[]
def y2i:Ex→List Nat
  |.exit j=>cond (Nat.beq j 2) [] []
  |.ret=>[6]
  |.normal=>[]
def y2j:Ex→List (aM× Co)
  |.exit j=>cond (Nat.beq j 2) [] []
  |.ret=>[]
  |.normal=>[]
def y2k (pv:(Int× Int× Int× Int× Int× Int× Int× List Int× List Int)× (Int)):St:={au:=[(3,.ptr 0 0 0),(8,.r [] (.int .i64 pv.2))],heap:=[(0,.box [.r [] (.int .i64 pv.1.1),.r [] (.int .i64 pv.1.2.1),.r [] (.int .i64 pv.1.2.2.1),.r [] (.int .i64 pv.1.2.2.2.1),.r [] (.int .i64 pv.1.2.2.2.2.1),.r [] (.int .i64 pv.1.2.2.2.2.2.1),.r [] (.int .i64 pv.1.2.2.2.2.2.2.1),.r [] (.sl (.int .i64) pv.1.2.2.2.2.2.2.2.1),.r [] (.sl (.int .i64) pv.1.2.2.2.2.2.2.2.2)])],nid:=1,n:=121,gh:=[]}
def y2l (nf:NF):Option ((Int× Int× Int× Int× Int× Int× Int× List Int× List Int)× (Int)):=match nf with
  |([.ptr 0 0 0,.r [] (.int .i64 w0)],[.box [.r [] (.int .i64 w1),.r [] (.int .i64 w2),.r [] (.int .i64 w3),.r [] (.int .i64 w4),.r [] (.int .i64 w5),.r [] (.int .i64 w6),.r [] (.int .i64 w7),.r [] (.sl (.int .i64) w8),.r [] (.sl (.int .i64) w9)]],[])=>some ((w1,w2,w3,w4,w5,w6,w7,w8,w9),w0)
  |_=>none
theorem y2m (nf:NF) (v:(Int× Int× Int× Int× Int× Int× Int× List Int× List Int)× (Int)) (h:y2l nf=some v):ak y2g 121 nf=y2k v:=by
  unfold y2l at h
  split at h
  · cases h;rfl
  · cases h
def y2n (p:Int× Int× Int× Int× Int× Int× Int× List Int× List Int) (x:Unit):St:={au:=[],heap:=[],nid:=0,n:=121,gh:=[]}
def y2o (p:Int× Int× Int× Int× Int× Int× Int× List Int× List Int) (x:Bool):St:={au:=[(6,.r [] (.bool x))],heap:=[],nid:=0,n:=121,gh:=[]}
def y2p (ρ:Type) (k:Nat):Nat→Ev ρ→Ev ρ:=fun id f=>cond (Nat.beq id 2) (aT y2g y2h (fun n nf=>cond (Nat.beq n 121) (y2l nf) none) fun pv K=>iter (fun v next=>cp k pv.1 v next (fun x=>K (.exit 2) (y2n pv.1 x)) (fun x=>K .ret (y2o pv.1 x))) k pv.2) ((fun id f=>cond (Nat.beq id 0) (aT y23 y25 (fun n nf=>cond (Nat.beq n 121) (y2c nf) none) fun pv K=>iter (fun v next=>cn k pv.1 v next (fun x=>K (.exit 0) (y2e pv.1 x)) (fun x=>K .ret (y2f pv.1 x))) k pv.2) ((fun _ _ _ _=>none) id f)) id f)
theorem y2q {ρ:Type} (k:Nat) (p:Int× Int× Int× Int× Int× Int× Int× List Int× List Int) (v:Int) (K K1:Ex→St→Option ρ):ev (y1w k) (y2p ρ k) 0 y1z (y2b (p,v)) (fun e st'=>match e with
    |.normal=>(aS y23 y25 st').bind fun nf=>K1 .normal (ak y23 st'.n nf)
    |e=>(aS (y29 e) (y2a e) st').bind fun nf=>K e (ak (y29 e) st'.n nf))=cn k p v (fun v'=>K1 .normal (y2b (p,v'))) (fun x=>K (.exit 0) (y2e p x)) (fun x=>K .ret (y2f p x)):=by kernel_rfl
theorem y2r {ρ:Type} (k:Nat):Sound Tryz.prog (.loop y1z) (y2p ρ k 0 fun st K=>ev (y1w k) (y2p ρ k) 0 y1z st K):=
  aX (aE (y1x k) y1z 0 (av (by kernel_rfl))) y29 y2a k (g:=fun p v next K=>cn k p v next (fun x=>K (.exit 0) (y2e p x)) (fun x=>K .ret (y2f p x))) (bp y2d) (fun p v K K1=>y2q k p v K K1)
theorem y2s {ρ:Type} (k:Nat) (p:Int× Int× Int× Int× Int× Int× Int× List Int× List Int) (v:Int) (K K1:Ex→St→Option ρ):ev (y1w k) (y2p ρ k) 2 y20 (y2k (p,v)) (fun e st'=>match e with
    |.normal=>(aS y2g y2h st').bind fun nf=>K1 .normal (ak y2g st'.n nf)
    |e=>(aS (y2i e) (y2j e) st').bind fun nf=>K e (ak (y2i e) st'.n nf))=cp k p v (fun v'=>K1 .normal (y2k (p,v'))) (fun x=>K (.exit 2) (y2n p x)) (fun x=>K .ret (y2o p x)):=by kernel_rfl
theorem y2t {ρ:Type} (k:Nat):Sound Tryz.prog (.loop y20) (y2p ρ k 2 fun st K=>ev (y1w k) (y2p ρ k) 2 y20 st K):=
  aX (aE (y1x k) y20 2 (av (by kernel_rfl))) y2i y2j k (g:=fun p v next K=>cp k p v next (fun x=>K (.exit 2) (y2n p x)) (fun x=>K .ret (y2o p x))) (bp y2m) (fun p v K K1=>y2s k p v K K1)
def y2u (k:Nat):O Tryz.prog 87:=⟨oP [.agg [(.int .i64),(.int .i64),(.int .i64),(.int .i64),(.int .i64),(.int .i64),(.int .i64),(.sl (.int .i64)),(.sl (.int .i64))],.one .bool,.one .bool] ((cdS .aC).p (cdB.p cdB)) ⟨.h 0,[]⟩ cdB fun a=>lh k a.1 a.2.1 a.2.2,okP (LP:=y2p _ k) (y1x k) Tryz.func87 (by kernel_rfl) (by kernel_rfl) (by kernel_rfl) (aF (l:=[(0,y1z),(2,y20)]) (by kernel_rfl) ⟨y2r k,⟨y2t k,trivial⟩⟩) (.sc) fun a=>by kernel_rfl⟩
def y2v (k:Nat):O Tryz.prog 69:=dP (tt:=tt) [⟨46,yu k⟩,⟨65,yv k⟩,⟨66,yw k⟩,⟨87,y2u k⟩] .id Tryz.func69 [.agg [(.int .i64),(.int .i64),(.int .i64)],.agg [(.int .i64),(.int .i64),(.int .i64),(.int .i64),(.int .i64),(.int .i64),(.int .i64),(.sl (.int .i64)),(.sl (.int .i64))]] ((cdS .shape).p (cdS .aC)) ⟨.tup [.agg [.h 0,.h 1,.h 2],.h 3],[]⟩ ((cdS .shape).p cdB) (.tup [.agg [.sc,.sc,.sc],.sc]) (fun a=>fq k a.1 a.2) (by kernel_rfl) fun a=>by kernel_rfl
noncomputable def y2w (k:Nat):Env:={iU (P:=Tryz.prog) tt [⟨69,y2v k⟩,⟨115,y1u k⟩]with wr:=fun g=>mem g [115],wt:=true}
theorem y2x (k:Nat):bY (y2w k):=fun g=>bh _ g
noncomputable def y2y:Code:=(Tryz.f97.body).getD .skip
noncomputable def y2z:Code:=((aH 0 y2y).getD 0 (0,.skip)).2
def y31:List Nat:=[0,2,4,6,7,8]
def y32:List (aM× Co):=[((.D0 7 3),(.mo false (.st .aC)))]
def y34:Ex→List Nat
  |.exit j=>cond (Nat.beq j 0) [6,7] []
  |.ret=>[]
  |.normal=>[]
def y36:Ex→List (aM× Co)
  |.exit j=>cond (Nat.beq j 0) [] []
  |.ret=>[]
  |.normal=>[]
def y37 (pv:(Int× List Int× Int× Int× Int× Int× Int× Int)× (Int× Int× Int× Int× Int× Int× List ag)):St:={au:=[(0,.ptr 0 0 0),(2,.r [] (.int .i64 pv.1.1)),(4,.ptr 1 0 0),(6,.ptr 2 0 0),(7,.ptr 3 0 0),(8,.r [] (.int .i64 pv.2.1))],heap:=[(0,.box [.r [] (.sl (.int .u8) pv.1.2.1),.r [] (.int .i64 pv.2.2.1),.r [] (.int .i64 pv.2.2.2.1)]),(1,.box [.r [] (.int .i64 pv.2.2.2.2.1),.r [] (.int .i64 pv.2.2.2.2.2.1),.r [] (.int .i64 pv.2.2.2.2.2.2.1)]),(2,.box [.r [] (.int .i64 pv.1.2.2.1),.r [] (.int .i64 pv.1.2.2.2.1),.r [] (.int .i64 pv.1.2.2.2.2.1),.bn]),(3,.box [.r [] (.int .i64 pv.1.2.2.2.2.2.1),.r [] (.int .i64 pv.1.2.2.2.2.2.2.1),.r [] (.int .i64 pv.1.2.2.2.2.2.2.2),.own 4]),(4,.arr none (.st .aC) pv.2.2.2.2.2.2.2)],nid:=5,n:=38,gh:=[some 0]}
def y38 (nf:NF):Option ((Int× List Int× Int× Int× Int× Int× Int× Int)× (Int× Int× Int× Int× Int× Int× List ag)):=match nf with
  |([.ptr 0 0 0,.r [] (.int .i64 w0),.ptr 1 0 0,.ptr 2 0 0,.ptr 3 0 0,.r [] (.int .i64 w1)],[.box [.r [] (.sl (.int .u8) w2),.r [] (.int .i64 w3),.r [] (.int .i64 w4)],.box [.r [] (.int .i64 w5),.r [] (.int .i64 w6),.r [] (.int .i64 w7)],.box [.r [] (.int .i64 w8),.r [] (.int .i64 w9),.r [] (.int .i64 w10),.bn],.box [.r [] (.int .i64 w11),.r [] (.int .i64 w12),.r [] (.int .i64 w13),.own 4],.arr none (.st .aC) w14],[some 0])=>some ((w0,w2,w8,w9,w10,w11,w12,w13),(w1,w3,w4,w5,w6,w7,w14))
  |_=>none
theorem y39 (nf:NF) (v:(Int× List Int× Int× Int× Int× Int× Int× Int)× (Int× Int× Int× Int× Int× Int× List ag)) (h:y38 nf=some v):ak y31 38 nf=y37 v:=by
  unfold y38 at h
  split at h
  · cases h;rfl
  · cases h
def y3a (p:Int× List Int× Int× Int× Int× Int× Int× Int) (x:Int× Int× List ag):St:={au:=[(6,.ptr 0 0 0),(7,.ptr 1 0 0)],heap:=[(0,.box [.r [] (.int .i64 p.2.2.1),.r [] (.int .i64 p.2.2.2.1),.r [] (.int .i64 p.2.2.2.2.1),.bn]),(1,.box [.r [] (.int .i64 p.2.2.2.2.2.1),.r [] (.int .i64 p.2.2.2.2.2.2.1),.r [] (.int .i64 p.2.2.2.2.2.2.2),.own 3]),(2,.box [.r [] (.sl (.int .u8) p.2.1),.r [] (.int .i64 x.1),.r [] (.int .i64 x.2.1)]),(3,.arr none (.st .aC) x.2.2)],nid:=4,n:=38,gh:=[some 2]}
def y3b (ρ:Type) (k:Nat):Nat→Ev ρ→Ev ρ:=fun id f=>cond (Nat.beq id 0) (aT y31 y32 (fun n nf=>cond (Nat.beq n 38) (y38 nf) none) fun pv K=>iter (fun v next=>cq k pv.1 v next (fun x=>K (.exit 0) (y3a pv.1 x))) k pv.2) ((fun _ _ _ _=>none) id f)
theorem y3c {ρ:Type} (k:Nat) (p:Int× List Int× Int× Int× Int× Int× Int× Int) (v:Int× Int× Int× Int× Int× Int× List ag) (K K1:Ex→St→Option ρ):ev (y2w k) (y3b ρ k) 0 y2z (y37 (p,v)) (fun e st'=>match e with
    |.normal=>(aS y31 y32 st').bind fun nf=>K1 .normal (ak y31 st'.n nf)
    |e=>(aS (y34 e) (y36 e) st').bind fun nf=>K e (ak (y34 e) st'.n nf))=cq k p v (fun v'=>K1 .normal (y37 (p,v'))) (fun x=>K (.exit 0) (y3a p x)):=by kernel_rfl
theorem y3d {ρ:Type} (k:Nat):Sound Tryz.prog (.loop y2z) (y3b ρ k 0 fun st K=>ev (y2w k) (y3b ρ k) 0 y2z st K):=
  aX (aE (y2x k) y2z 0 (av (by kernel_rfl))) y34 y36 k (g:=fun p v next K=>cq k p v next (fun x=>K (.exit 0) (y3a p x))) (bp y39) (fun p v K K1=>y3c k p v K K1)
def y3e (k:Nat):O Tryz.prog 97:=⟨oM [.cP,.agg [(.int .i64),(.int .i64),(.int .i64)],.one (.int .i64)] ⟨[.v (.ptr 0 0 0),.agg [.h 3,.h 4,.h 5],.h 6],[.box [.h 0,.h 1,.h 2]]⟩ ((cdL (.int .u8)).p (cdZ.p (cdZ.p ((cdS .shape).p cdZ)))) ⟨.agg [.h 7,.h 8,.h 9,.own 1],[some (.box [.h 0,.h 11,.h 12])],[.arr none (.st .aC) 10]⟩ ((cdS .model).p (cdZ.p cdZ)) fun a=>eU k a.1 a.2.1 a.2.2.1 a.2.2.2.1 a.2.2.2.2,okM (LP:=y3b _ k) (y2x k) Tryz.func97 (by kernel_rfl) (by kernel_rfl) (by kernel_rfl) (by kernel_rfl) (aF (l:=[(0,y2z)]) (by kernel_rfl) ⟨y3d k,trivial⟩) (.agg [.sc,.sc,.sc,.own (.st .aC)]) [.box [.ro (.int .u8),.sc,.sc]] fun a=>by kernel_rfl⟩
def y3f (k:Nat):O Tryz.prog 79:=DB (tt:=tt) [⟨55,yq k⟩,⟨84,yr k⟩,⟨97,y3e k⟩] {f:=fun E=>{E with wr:=fun g=>mem g [55,84,97],wt:=true}} Tryz.func79 [.cP] ⟨[.v (.ptr 0 0 0)],[.box [.h 0,.h 1,.h 2]]⟩ ((cdL (.int .u8)).p (cdZ.p cdZ)) ⟨.agg [.h 3,.h 4,.h 5,.own 1],[some (.box [.h 0,.h 7,.h 8])],[.arr none (.st .aC) 6]⟩ ((cdS .model).p (cdZ.p cdZ)) (.agg [.sc,.sc,.sc,.own (.st .aC)]) [.box [.ro (.int .u8),.sc,.sc]] (fun a=>dR k a.1 a.2.1 a.2.2) (by kernel_rfl) fun a=>by kernel_rfl
def y3g (k:Nat):O Tryz.prog 57:=DB (tt:=tt) [⟨55,yq k⟩] {f:=fun E=>{E with wr:=fun g=>mem g [55],wt:=true}} Tryz.func57 [.cP,.one (.int .i64)] ⟨[.v (.ptr 0 0 0),.h 3],[.box [.h 0,.h 1,.h 2]]⟩ ((cdL (.int .u8)).p (cdZ.p (cdZ.p cdZ))) ⟨.h 4,[some (.box [.h 0,.h 5,.h 6])],[]⟩ (cdB.p (cdZ.p cdZ)) (.sc) [.box [.ro (.int .u8),.sc,.sc]] (fun a=>fv k a.1 a.2.1 a.2.2.1 a.2.2.2) (by kernel_rfl) fun a=>by kernel_rfl
def y3h (k:Nat):O Tryz.prog 81:=DB (tt:=tt) [⟨55,yq k⟩,⟨80,yt k⟩] {f:=fun E=>{E with wr:=fun g=>mem g [55,80],wt:=true}} Tryz.func81 [.cP,.cP] ⟨[.v (.ptr 0 0 0),.agg (hs 3 7++[.own 1,.own 2])],[.box [.h 0,.h 1,.h 2],.arr none (.int .i64) 10,.arr none (.int .i64) 11]⟩ ((cdL (.int .u8)).p (cdZ.p (cdZ.p (cdS .aC)))) ⟨.agg (hs 12 7++[.own 3,.own 4]),[some (.box [.h 0,.h 21,.h 22]),none,none],[.arr none (.int .i64) 19,.arr none (.int .i64) 20]⟩ ((cdS .aC).p (cdZ.p cdZ)) (.agg [.sc,.sc,.sc,.sc,.sc,.sc,.sc,.own (.int .i64),.own (.int .i64)]) [.box [.ro (.int .u8),.sc,.sc],.gone,.gone] (fun a=>ij k a.1 a.2.1 a.2.2.1 a.2.2.2) (by kernel_rfl) fun a=>by kernel_rfl
noncomputable def y3i (k:Nat):Env:={iU (P:=Tryz.prog) tt [⟨55,yq k⟩,⟨57,y3g k⟩,⟨79,y3f k⟩,⟨80,yt k⟩,⟨81,y3h k⟩]with wr:=fun g=>mem g [55,57,79,80,81],wt:=true,tak:=true}
theorem y3j (k:Nat):bY (y3i k):=fun g=>bh _ g
noncomputable def y3k:Code:=(Tryz.f54.body).getD .skip
noncomputable def y3l:Code:=((aH 0 y3k).getD 0 (0,.skip)).2
def y3m:List Nat:=[0,2,3]
def y3n:List (aM× Co):=[]
def y3o:Ex→List Nat
  |.exit j=>cond (Nat.beq j 1) [2,3] []
  |.ret=>[]
  |.normal=>[]
def y3p:Ex→List (aM× Co)
  |.exit j=>cond (Nat.beq j 1) [] []
  |.ret=>[]
  |.normal=>[]
def y3q (pv:(List Int× Int× Int× Int× Int× Int× Int)× (Int× Int× List ag)):St:={au:=[(0,.ptr 0 0 0),(2,.ptr 1 0 0),(3,.ptr 2 0 0)],heap:=[(0,.box [.r [] (.sl (.int .u8) pv.1.1),.r [] (.int .i64 pv.2.1),.r [] (.int .i64 pv.2.2.1)]),(1,.box [.r [] (.int .i64 pv.1.2.1),.r [] (.int .i64 pv.1.2.2.1),.r [] (.int .i64 pv.1.2.2.2.1),.bn]),(2,.box [.r [] (.int .i64 pv.1.2.2.2.2.1),.r [] (.int .i64 pv.1.2.2.2.2.2.1),.r [] (.int .i64 pv.1.2.2.2.2.2.2),.own 3]),(3,.arr none (.st .aC) pv.2.2.2)],nid:=4,n:=65,gh:=[some 0]}
def y3r (nf:NF):Option ((List Int× Int× Int× Int× Int× Int× Int)× (Int× Int× List ag)):=match nf with
  |([.ptr 0 0 0,.ptr 1 0 0,.ptr 2 0 0],[.box [.r [] (.sl (.int .u8) w0),.r [] (.int .i64 w1),.r [] (.int .i64 w2)],.box [.r [] (.int .i64 w3),.r [] (.int .i64 w4),.r [] (.int .i64 w5),.bn],.box [.r [] (.int .i64 w6),.r [] (.int .i64 w7),.r [] (.int .i64 w8),.own 3],.arr none (.st .aC) w9],[some 0])=>some ((w0,w3,w4,w5,w6,w7,w8),(w1,w2,w9))
  |_=>none
theorem y3s (nf:NF) (v:(List Int× Int× Int× Int× Int× Int× Int)× (Int× Int× List ag)) (h:y3r nf=some v):ak y3m 65 nf=y3q v:=by
  unfold y3r at h
  split at h
  · cases h;rfl
  · cases h
def y3t (p:List Int× Int× Int× Int× Int× Int× Int) (x:Int× Int× List ag):St:={au:=[(2,.ptr 0 0 0),(3,.ptr 1 0 0)],heap:=[(0,.box [.r [] (.int .i64 p.2.1),.r [] (.int .i64 p.2.2.1),.r [] (.int .i64 p.2.2.2.1),.bn]),(1,.box [.r [] (.int .i64 p.2.2.2.2.1),.r [] (.int .i64 p.2.2.2.2.2.1),.r [] (.int .i64 p.2.2.2.2.2.2),.own 3]),(2,.box [.r [] (.sl (.int .u8) p.1),.r [] (.int .i64 x.1),.r [] (.int .i64 x.2.1)]),(3,.arr none (.st .aC) x.2.2)],nid:=4,n:=65,gh:=[some 2]}
def y3u (ρ:Type) (k:Nat):Nat→Ev ρ→Ev ρ:=fun id f=>cond (Nat.beq id 1) (aT y3m y3n (fun n nf=>cond (Nat.beq n 65) (y3r nf) none) fun pv K=>iter (fun v next=>ca k pv.1 v next (fun x=>K (.exit 1) (y3t pv.1 x))) k pv.2) ((fun _ _ _ _=>none) id f)
theorem y3v {ρ:Type} (k:Nat) (p:List Int× Int× Int× Int× Int× Int× Int) (v:Int× Int× List ag) (K K1:Ex→St→Option ρ):ev (y3i k) (y3u ρ k) 1 y3l (y3q (p,v)) (fun e st'=>match e with
    |.normal=>(aS y3m y3n st').bind fun nf=>K1 .normal (ak y3m st'.n nf)
    |e=>(aS (y3o e) (y3p e) st').bind fun nf=>K e (ak (y3o e) st'.n nf))=ca k p v (fun v'=>K1 .normal (y3q (p,v'))) (fun x=>K (.exit 1) (y3t p x)):=by kernel_rfl
theorem y3w {ρ:Type} (k:Nat):Sound Tryz.prog (.loop y3l) (y3u ρ k 1 fun st K=>ev (y3i k) (y3u ρ k) 1 y3l st K):=
  aX (aE (y3j k) y3l 1 (av (by kernel_rfl))) y3o y3p k (g:=fun p v next K=>ca k p v next (fun x=>K (.exit 1) (y3t p x))) (bp y3s) (fun p v K K1=>y3v k p v K K1)
def y3x (k:Nat):O Tryz.prog 54:=⟨oM [.cP] ⟨[.v (.ptr 0 0 0)],[.box [.h 0,.h 1,.h 2]]⟩ ((cdL (.int .u8)).p (cdZ.p cdZ)) ⟨.agg [.h 3,.h 4,.h 5,.own 1],[some (.box [.h 0,.h 7,.h 8])],[.arr none (.st .aC) 6]⟩ ((cdS .model).p (cdZ.p cdZ)) fun a=>dS k a.1 a.2.1 a.2.2,okM (LP:=y3u _ k) (y3j k) Tryz.func54 (by kernel_rfl) (by kernel_rfl) (by kernel_rfl) (by kernel_rfl) (aF (l:=[(1,y3l)]) (by kernel_rfl) ⟨y3w k,trivial⟩) (.agg [.sc,.sc,.sc,.own (.st .aC)]) [.box [.ro (.int .u8),.sc,.sc]] fun a=>by kernel_rfl⟩
noncomputable def y3y (k:Nat):Env:={iU (P:=Tryz.prog) tt [⟨66,yw k⟩,⟨83,yx k⟩]with wr:=fun g=>mem g [83],wt:=true}
theorem y3z (k:Nat):bY (y3y k):=fun g=>bh _ g
noncomputable def y40:Code:=(Tryz.f56.body).getD .skip
noncomputable def y41:Code:=((aH 0 y40).getD 0 (0,.skip)).2
def y42:List Nat:=[0,3,4,5,6]
def y43:List (aM× Co):=[((.D0 5 3),(.mo false (.int .i64)))]
def y44:Ex→List Nat
  |.exit j=>cond (Nat.beq j 0) [4,5] []
  |.ret=>[]
  |.normal=>[]
def y45:Ex→List (aM× Co)
  |.exit j=>cond (Nat.beq j 0) [] []
  |.ret=>[]
  |.normal=>[]
def y46 (pv:(List Int× Int× Int× Int× Int× Int× Int× Int× Int× Int)× (Int× Int× Int× List Int)):St:={au:=[(0,.ptr 0 0 0),(3,.ptr 1 0 0),(4,.ptr 2 0 0),(5,.ptr 3 0 0),(6,.r [] (.int .i64 pv.2.1))],heap:=[(0,.box [.r [] (.sl (.int .u8) pv.1.1),.r [] (.int .i64 pv.2.2.1),.r [] (.int .i64 pv.2.2.2.1)]),(1,.box [.r [] (.int .i64 pv.1.2.1),.r [] (.int .i64 pv.1.2.2.1),.r [] (.int .i64 pv.1.2.2.2.1)]),(2,.box [.r [] (.int .i64 pv.1.2.2.2.2.1),.r [] (.int .i64 pv.1.2.2.2.2.2.1),.r [] (.int .i64 pv.1.2.2.2.2.2.2.1),.bn]),(3,.box [.r [] (.int .i64 pv.1.2.2.2.2.2.2.2.1),.r [] (.int .i64 pv.1.2.2.2.2.2.2.2.2.1),.r [] (.int .i64 pv.1.2.2.2.2.2.2.2.2.2),.own 4]),(4,.arr none (.int .i64) pv.2.2.2.2)],nid:=5,n:=23,gh:=[some 0]}
def y47 (nf:NF):Option ((List Int× Int× Int× Int× Int× Int× Int× Int× Int× Int)× (Int× Int× Int× List Int)):=match nf with
  |([.ptr 0 0 0,.ptr 1 0 0,.ptr 2 0 0,.ptr 3 0 0,.r [] (.int .i64 w0)],[.box [.r [] (.sl (.int .u8) w1),.r [] (.int .i64 w2),.r [] (.int .i64 w3)],.box [.r [] (.int .i64 w4),.r [] (.int .i64 w5),.r [] (.int .i64 w6)],.box [.r [] (.int .i64 w7),.r [] (.int .i64 w8),.r [] (.int .i64 w9),.bn],.box [.r [] (.int .i64 w10),.r [] (.int .i64 w11),.r [] (.int .i64 w12),.own 4],.arr none (.int .i64) w13],[some 0])=>some ((w1,w4,w5,w6,w7,w8,w9,w10,w11,w12),(w0,w2,w3,w13))
  |_=>none
theorem y48 (nf:NF) (v:(List Int× Int× Int× Int× Int× Int× Int× Int× Int× Int)× (Int× Int× Int× List Int)) (h:y47 nf=some v):ak y42 23 nf=y46 v:=by
  unfold y47 at h
  split at h
  · cases h;rfl
  · cases h
def y49 (p:List Int× Int× Int× Int× Int× Int× Int× Int× Int× Int) (x:Int× Int× List Int):St:={au:=[(4,.ptr 0 0 0),(5,.ptr 1 0 0)],heap:=[(0,.box [.r [] (.int .i64 p.2.2.2.2.1),.r [] (.int .i64 p.2.2.2.2.2.1),.r [] (.int .i64 p.2.2.2.2.2.2.1),.bn]),(1,.box [.r [] (.int .i64 p.2.2.2.2.2.2.2.1),.r [] (.int .i64 p.2.2.2.2.2.2.2.2.1),.r [] (.int .i64 p.2.2.2.2.2.2.2.2.2),.own 3]),(2,.box [.r [] (.sl (.int .u8) p.1),.r [] (.int .i64 x.1),.r [] (.int .i64 x.2.1)]),(3,.arr none (.int .i64) x.2.2)],nid:=4,n:=23,gh:=[some 2]}
def y4a (ρ:Type) (k:Nat):Nat→Ev ρ→Ev ρ:=fun id f=>cond (Nat.beq id 0) (aT y42 y43 (fun n nf=>cond (Nat.beq n 23) (y47 nf) none) fun pv K=>iter (fun v next=>bX k pv.1 v next (fun x=>K (.exit 0) (y49 pv.1 x))) k pv.2) ((fun _ _ _ _=>none) id f)
theorem y4b {ρ:Type} (k:Nat) (p:List Int× Int× Int× Int× Int× Int× Int× Int× Int× Int) (v:Int× Int× Int× List Int) (K K1:Ex→St→Option ρ):ev (y3y k) (y4a ρ k) 0 y41 (y46 (p,v)) (fun e st'=>match e with
    |.normal=>(aS y42 y43 st').bind fun nf=>K1 .normal (ak y42 st'.n nf)
    |e=>(aS (y44 e) (y45 e) st').bind fun nf=>K e (ak (y44 e) st'.n nf))=bX k p v (fun v'=>K1 .normal (y46 (p,v'))) (fun x=>K (.exit 0) (y49 p x)):=by kernel_rfl
theorem y4c {ρ:Type} (k:Nat):Sound Tryz.prog (.loop y41) (y4a ρ k 0 fun st K=>ev (y3y k) (y4a ρ k) 0 y41 st K):=
  aX (aE (y3z k) y41 0 (av (by kernel_rfl))) y44 y45 k (g:=fun p v next K=>bX k p v next (fun x=>K (.exit 0) (y49 p x))) (bp y48) (fun p v K K1=>y4b k p v K K1)
def y4d (k:Nat):O Tryz.prog 56:=⟨oM [.cP,.agg [(.int .i64),(.int .i64),(.int .i64)]] ⟨[.v (.ptr 0 0 0),.agg [.h 3,.h 4,.h 5]],[.box [.h 0,.h 1,.h 2]]⟩ ((cdL (.int .u8)).p (cdZ.p (cdZ.p (cdS .shape)))) ⟨.agg [.h 6,.h 7,.h 8,.own 1],[some (.box [.h 0,.h 10,.h 11])],[.arr none (.int .i64) 9]⟩ ((cdS .bK).p (cdZ.p cdZ)) fun a=>b6 k a.1 a.2.1 a.2.2.1 a.2.2.2,okM (LP:=y4a _ k) (y3z k) Tryz.func56 (by kernel_rfl) (by kernel_rfl) (by kernel_rfl) (by kernel_rfl) (aF (l:=[(0,y41)]) (by kernel_rfl) ⟨y4c k,trivial⟩) (.agg [.sc,.sc,.sc,.own (.int .i64)]) [.box [.ro (.int .u8),.sc,.sc]] fun a=>by kernel_rfl⟩
def y4e (k:Nat):O Tryz.prog 58:=DB (tt:=tt) [⟨55,yq k⟩,⟨56,y4d k⟩,⟨57,y3g k⟩,⟨80,yt k⟩,⟨84,yr k⟩] {f:=fun E=>{E with wr:=fun g=>mem g [55,56,57,80,84],wt:=true}} Tryz.func58 [.cP] ⟨[.v (.ptr 0 0 0)],[.box [.h 0,.h 1,.h 2]]⟩ ((cdL (.int .u8)).p (cdZ.p cdZ)) ⟨.agg [.h 3,.h 4,.h 5,.own 1],[some (.box [.h 0,.h 7,.h 8])],[.arr none (.int .i64) 6]⟩ ((cdS .bK).p (cdZ.p cdZ)) (.agg [.sc,.sc,.sc,.own (.int .i64)]) [.box [.ro (.int .u8),.sc,.sc]] (fun a=>dT k a.1 a.2.1 a.2.2) (by kernel_rfl) fun a=>by kernel_rfl
def y4f (k:Nat):O Tryz.prog 32:=dP (tt:=tt) [⟨49,yo k⟩,⟨54,y3x k⟩,⟨56,y4d k⟩,⟨57,y3g k⟩,⟨58,y4e k⟩] {f:=fun E=>{E with wr:=fun g=>mem g [49,54,56,57,58],wt:=true}} Tryz.func32 [.one (.sl (.int .u8))] (cdL (.int .u8)) ⟨.tup [.agg [.h 0,.h 1,.h 2,.own 0],.agg [.h 4,.h 5,.h 6,.own 1]],[.arr none (.st .aC) 3,.arr none (.int .i64) 7]⟩ ((cdS .model).p (cdS .bK)) (.tup [.agg [.sc,.sc,.sc,.own (.st .aC)],.agg [.sc,.sc,.sc,.own (.int .i64)]]) (fun a=>eV k a) (by kernel_rfl) fun a=>by kernel_rfl
def y4g (k:Nat):O Tryz.prog 6:=dP (tt:=tt) [⟨32,y4f k⟩] .id Tryz.func6 [.one (.sl (.int .u8))] (cdL (.int .u8)) ⟨.tup [.agg [.h 0,.h 1,.h 2,.own 0],.agg [.h 4,.h 5,.h 6,.own 1]],[.arr none (.st .aC) 3,.arr none (.int .i64) 7]⟩ ((cdS .model).p (cdS .bK)) (.tup [.agg [.sc,.sc,.sc,.own (.st .aC)],.agg [.sc,.sc,.sc,.own (.int .i64)]]) (fun a=>iE k a) (by kernel_rfl) fun a=>by kernel_rfl
def oX (k:Nat):O Tryz.prog 50:=dP (tt:=tt) [] .id Tryz.func50 [.one (.int .i64),.one (.int .i64),.one (.int .i64)] (cdZ.p (cdZ.p cdZ)) ⟨.h 0,[]⟩ cdB (.sc) (fun a=>vh k a.1 a.2.1 a.2.2) (by kernel_rfl) fun a=>by kernel_rfl
def y4h (k:Nat):O Tryz.prog 73:=dP (tt:=tt) [⟨50,oX k⟩] .id Tryz.func73 [.agg [(.int .i64),(.int .i64),(.int .i64)]] (cdS .shape) ⟨.h 0,[]⟩ cdB (.sc) (fun a=>iX k a) (by kernel_rfl) fun a=>by kernel_rfl
def y4i (k:Nat):O Tryz.prog 74:=dP (tt:=tt) [⟨73,y4h k⟩] .id Tryz.func74 [.agg [(.int .i64),(.int .i64),(.int .i64)]] (cdS .shape) ⟨.h 0,[]⟩ cdZ (.sc) (fun a=>fF k a) (by kernel_rfl) fun a=>by kernel_rfl
def y4j (k:Nat):O Tryz.prog 104:=dP (tt:=tt) [] .id Tryz.func104 [.agg [(.int .i64),(.int .i64),(.int .i64),(.int .i64),(.int .i64),(.int .i64),(.int .i64),(.sl (.int .i64)),(.sl (.int .i64))]] (cdS .aC) ⟨.h 0,[]⟩ cdB (.sc) (fun a=>cJ k a) (by kernel_rfl) fun a=>by kernel_rfl
def y4k (k:Nat):O Tryz.prog 96:=dP (tt:=tt) [⟨50,oX k⟩] .id Tryz.func96 [.one (.int .i64)] cdZ ⟨.h 0,[]⟩ cdB (.sc) (fun a=>jI k a) (by kernel_rfl) fun a=>by kernel_rfl
noncomputable def y4l (k:Nat):Env:=iU (P:=Tryz.prog) tt [⟨96,y4k k⟩]
theorem y4m (k:Nat):bY (y4l k):=fun g=>bh _ g
noncomputable def y4n:Code:=(Tryz.f114.body).getD .skip
noncomputable def y4o:Code:=((aH 0 y4n).getD 0 (0,.skip)).2
def y4p:List Nat:=[0,1,7,8]
def y4q:List (aM× Co):=[]
def y4r:Ex→List Nat
  |.exit j=>cond (Nat.beq j 0) [] []
  |.ret=>[4]
  |.normal=>[]
def y4s:Ex→List (aM× Co)
  |.exit j=>cond (Nat.beq j 0) [] []
  |.ret=>[]
  |.normal=>[]
def y4t (pv:(List Int× Int)× (Int)):St:={au:=[(0,.r [] (.sl (.int .i64) pv.1.1)),(1,.fn (.func 96) [] []),(7,.r [] (.int .i64 pv.1.2)),(8,.r [] (.int .i64 pv.2))],heap:=[],nid:=0,n:=19,gh:=[]}
def y4u (nf:NF):Option ((List Int× Int)× (Int)):=match nf with
  |([.r [] (.sl (.int .i64) w0),.fn (.func 96) [] [],.r [] (.int .i64 w1),.r [] (.int .i64 w2)],[],[])=>some ((w0,w1),w2)
  |_=>none
theorem y4v (nf:NF) (v:(List Int× Int)× (Int)) (h:y4u nf=some v):ak y4p 19 nf=y4t v:=by
  unfold y4u at h
  split at h
  · cases h;rfl
  · cases h
def y4w (p:List Int× Int) (x:Unit):St:={au:=[],heap:=[],nid:=0,n:=19,gh:=[]}
def y4x (p:List Int× Int) (x:Int):St:={au:=[(4,.r [] (.int .i64 x))],heap:=[],nid:=0,n:=19,gh:=[]}
def y4y (ρ:Type) (k:Nat):Nat→Ev ρ→Ev ρ:=fun id f=>cond (Nat.beq id 0) (aT y4p y4q (fun n nf=>cond (Nat.beq n 19) (y4u nf) none) fun pv K=>iter (fun v next=>aA k pv.1 v next (fun x=>K (.exit 0) (y4w pv.1 x)) (fun x=>K .ret (y4x pv.1 x))) k pv.2) ((fun _ _ _ _=>none) id f)
theorem y4z {ρ:Type} (k:Nat) (p:List Int× Int) (v:Int) (K K1:Ex→St→Option ρ):ev (y4l k) (y4y ρ k) 0 y4o (y4t (p,v)) (fun e st'=>match e with
    |.normal=>(aS y4p y4q st').bind fun nf=>K1 .normal (ak y4p st'.n nf)
    |e=>(aS (y4r e) (y4s e) st').bind fun nf=>K e (ak (y4r e) st'.n nf))=aA k p v (fun v'=>K1 .normal (y4t (p,v'))) (fun x=>K (.exit 0) (y4w p x)) (fun x=>K .ret (y4x p x)):=by kernel_rfl
theorem y50 {ρ:Type} (k:Nat):Sound Tryz.prog (.loop y4o) (y4y ρ k 0 fun st K=>ev (y4l k) (y4y ρ k) 0 y4o st K):=
  aX (aE (y4m k) y4o 0 (av (by kernel_rfl))) y4r y4s k (g:=fun p v next K=>aA k p v next (fun x=>K (.exit 0) (y4w p x)) (fun x=>K .ret (y4x p x))) (bp y4v) (fun p v K K1=>y4z k p v K K1)
def y51 (a:List Int):List Arg:=[.one (.sl (.int .i64) a),.fn (.func 96) [] []]
def y52 (l:List Arg):Option (List Int):=match l with
  |[.one (.sl (.int .i64) b0),.fn (.func 96) [] []]=>some b0
  |_=>none
def y53 (r:Int):Out:=(.r [] (.int .i64 r),[])
def y54 (o:Out):Option (Int):=match o with
  |(.r [] (.int .i64 z1),[])=>some z1
  |_=>none
def y55 (k:Nat):PG:=fun _ l K=>(y52 l).bind fun a=>(aV k a).bind fun r=>K (y53 r)
theorem y56 (k:Nat) (a:List Int):ev (y4l k) (y4y (Int) k) 0 y4n (st0 Tryz.f114 (y51 a)) (fin Tryz.prog Tryz.f114 (.sc) y54)=aV k a:=by kernel_rfl
theorem y57 (k:Nat):oH Tryz.prog 114 (y55 k):=
  et (y4m k) Tryz.func114 (by kernel_rfl) (by kernel_rfl) y51 y52
    (fun l a h=>by unfold y52 at h;split at h<;>first|(cases h;rfl)|cases h) (fun a=>rfl) (aF (l:=[(0,y4o)]) (by kernel_rfl) ⟨y50 k,trivial⟩)
    (fun o r h=>by unfold y54 at h;split at h<;>first|(cases h;rfl)|cases h) (y56 k)
def y58 (k:Nat):O Tryz.prog 114:=⟨lZ [.one (.sl (.int .i64)),.fn] (y55 k),iS (y57 k)⟩
noncomputable def y5a (k:Nat):Env:=iU (P:=Tryz.prog) tt [⟨114,y58 k⟩]
theorem y5b (k:Nat):bY (y5a k):=fun g=>bh _ g
noncomputable def y5c:Code:=(Tryz.f95.body).getD .skip
def y5d (ρ:Type) (k:Nat):Nat→Ev ρ→Ev ρ:=fun _ _ _ _=>none
def y5e (a:List Int):List Arg:=[.one (.sl (.int .i64) a),.fn (.func 96) [] []]
def y5f (l:List Arg):Option (List Int):=match l with
  |[.one (.sl (.int .i64) b0),.fn (.func 96) [] []]=>some b0
  |_=>none
def y5g (r:Bool):Out:=(.r [] (.bool r),[])
def y5h (o:Out):Option (Bool):=match o with
  |(.r [] (.bool z1),[])=>some z1
  |_=>none
def y5i (k:Nat):PG:=fun _ l K=>(y5f l).bind fun a=>(aQ k a).bind fun r=>K (y5g r)
theorem y5j (k:Nat) (a:List Int):ev (y5a k) (y5d (Bool) k) 0 y5c (st0 Tryz.f95 (y5e a)) (fin Tryz.prog Tryz.f95 (.sc) y5h)=aQ k a:=by kernel_rfl
theorem y5k (k:Nat):oH Tryz.prog 95 (y5i k):=
  et (y5b k) Tryz.func95 (by kernel_rfl) (by kernel_rfl) y5e y5f
    (fun l a h=>by unfold y5f at h;split at h<;>first|(cases h;rfl)|cases h) (fun a=>rfl) (av (by kernel_rfl))
    (fun o r h=>by unfold y5h at h;split at h<;>first|(cases h;rfl)|cases h) (y5j k)
def y5l (k:Nat):O Tryz.prog 95:=⟨lZ [.one (.sl (.int .i64)),.fn] (y5i k),iS (y5k k)⟩
def y5m (k:Nat):O Tryz.prog 75:=dP (tt:=tt) [⟨95,y5l k⟩] .id Tryz.func75 [.one (.sl (.int .i64))] (cdL (.int .i64)) ⟨.h 0,[]⟩ cdB (.sc) (fun a=>iY k a) (by kernel_rfl) fun a=>by kernel_rfl
def y5n (k:Nat):O Tryz.prog 118:=dP (tt:=tt) [⟨50,oX k⟩] .id Tryz.func118 [.one (.int .i64)] cdZ ⟨.h 0,[]⟩ cdB (.sc) (fun a=>dW k a) (by kernel_rfl) fun a=>by kernel_rfl
noncomputable def y5o (k:Nat):Env:=iU (P:=Tryz.prog) tt [⟨118,y5n k⟩]
theorem y5p (k:Nat):bY (y5o k):=fun g=>bh _ g
noncomputable def y5q:Code:=(Tryz.f114.body).getD .skip
noncomputable def y5r:Code:=((aH 0 y5q).getD 0 (0,.skip)).2
def y5s:List Nat:=[0,1,7,8]
def y5t:List (aM× Co):=[]
def y5u:Ex→List Nat
  |.exit j=>cond (Nat.beq j 0) [] []
  |.ret=>[4]
  |.normal=>[]
def y5v:Ex→List (aM× Co)
  |.exit j=>cond (Nat.beq j 0) [] []
  |.ret=>[]
  |.normal=>[]
def y5w (pv:(List Int× Int)× (Int)):St:={au:=[(0,.r [] (.sl (.int .i64) pv.1.1)),(1,.fn (.func 118) [] []),(7,.r [] (.int .i64 pv.1.2)),(8,.r [] (.int .i64 pv.2))],heap:=[],nid:=0,n:=19,gh:=[]}
def y5x (nf:NF):Option ((List Int× Int)× (Int)):=match nf with
  |([.r [] (.sl (.int .i64) w0),.fn (.func 118) [] [],.r [] (.int .i64 w1),.r [] (.int .i64 w2)],[],[])=>some ((w0,w1),w2)
  |_=>none
theorem y5y (nf:NF) (v:(List Int× Int)× (Int)) (h:y5x nf=some v):ak y5s 19 nf=y5w v:=by
  unfold y5x at h
  split at h
  · cases h;rfl
  · cases h
def y5z (p:List Int× Int) (x:Unit):St:={au:=[],heap:=[],nid:=0,n:=19,gh:=[]}
def y60 (p:List Int× Int) (x:Int):St:={au:=[(4,.r [] (.int .i64 x))],heap:=[],nid:=0,n:=19,gh:=[]}
def y62 (ρ:Type) (k:Nat):Nat→Ev ρ→Ev ρ:=fun id f=>cond (Nat.beq id 0) (aT y5s y5t (fun n nf=>cond (Nat.beq n 19) (y5x nf) none) fun pv K=>iter (fun v next=>ay k pv.1 v next (fun x=>K (.exit 0) (y5z pv.1 x)) (fun x=>K .ret (y60 pv.1 x))) k pv.2) ((fun _ _ _ _=>none) id f)
theorem y63 {ρ:Type} (k:Nat) (p:List Int× Int) (v:Int) (K K1:Ex→St→Option ρ):ev (y5o k) (y62 ρ k) 0 y5r (y5w (p,v)) (fun e st'=>match e with
    |.normal=>(aS y5s y5t st').bind fun nf=>K1 .normal (ak y5s st'.n nf)
    |e=>(aS (y5u e) (y5v e) st').bind fun nf=>K e (ak (y5u e) st'.n nf))=ay k p v (fun v'=>K1 .normal (y5w (p,v'))) (fun x=>K (.exit 0) (y5z p x)) (fun x=>K .ret (y60 p x)):=by kernel_rfl
theorem y64 {ρ:Type} (k:Nat):Sound Tryz.prog (.loop y5r) (y62 ρ k 0 fun st K=>ev (y5o k) (y62 ρ k) 0 y5r st K):=
  aX (aE (y5p k) y5r 0 (av (by kernel_rfl))) y5u y5v k (g:=fun p v next K=>ay k p v next (fun x=>K (.exit 0) (y5z p x)) (fun x=>K .ret (y60 p x))) (bp y5y) (fun p v K K1=>y63 k p v K K1)
def y65 (a:List Int):List Arg:=[.one (.sl (.int .i64) a),.fn (.func 118) [] []]
def y66 (l:List Arg):Option (List Int):=match l with
  |[.one (.sl (.int .i64) b0),.fn (.func 118) [] []]=>some b0
  |_=>none
def y67 (r:Int):Out:=(.r [] (.int .i64 r),[])
def y68 (o:Out):Option (Int):=match o with
  |(.r [] (.int .i64 z1),[])=>some z1
  |_=>none
def y69 (k:Nat):PG:=fun _ l K=>(y66 l).bind fun a=>(aP k a).bind fun r=>K (y67 r)
theorem y6a (k:Nat) (a:List Int):ev (y5o k) (y62 (Int) k) 0 y5q (st0 Tryz.f114 (y65 a)) (fin Tryz.prog Tryz.f114 (.sc) y68)=aP k a:=by kernel_rfl
theorem y6b (k:Nat):oH Tryz.prog 114 (y69 k):=
  et (y5p k) Tryz.func114 (by kernel_rfl) (by kernel_rfl) y65 y66
    (fun l a h=>by unfold y66 at h;split at h<;>first|(cases h;rfl)|cases h) (fun a=>rfl) (aF (l:=[(0,y5r)]) (by kernel_rfl) ⟨y64 k,trivial⟩)
    (fun o r h=>by unfold y68 at h;split at h<;>first|(cases h;rfl)|cases h) (y6a k)
def y6c (k:Nat):O Tryz.prog 114:=⟨lZ [.one (.sl (.int .i64)),.fn] (y69 k),iS (y6b k)⟩
noncomputable def y6d (k:Nat):Env:=iU (P:=Tryz.prog) tt [⟨114,y6c k⟩]
theorem y6e (k:Nat):bY (y6d k):=fun g=>bh _ g
noncomputable def y6f:Code:=(Tryz.f95.body).getD .skip
def y6g (ρ:Type) (k:Nat):Nat→Ev ρ→Ev ρ:=fun _ _ _ _=>none
def y6h (a:List Int):List Arg:=[.one (.sl (.int .i64) a),.fn (.func 118) [] []]
def y6i (l:List Arg):Option (List Int):=match l with
  |[.one (.sl (.int .i64) b0),.fn (.func 118) [] []]=>some b0
  |_=>none
def y6j (r:Bool):Out:=(.r [] (.bool r),[])
def y6k (o:Out):Option (Bool):=match o with
  |(.r [] (.bool z1),[])=>some z1
  |_=>none
def y6l (k:Nat):PG:=fun _ l K=>(y6i l).bind fun a=>(aB k a).bind fun r=>K (y6j r)
theorem y6m (k:Nat) (a:List Int):ev (y6d k) (y6g (Bool) k) 0 y6f (st0 Tryz.f95 (y6h a)) (fin Tryz.prog Tryz.f95 (.sc) y6k)=aB k a:=by kernel_rfl
theorem y6n (k:Nat):oH Tryz.prog 95 (y6l k):=
  et (y6e k) Tryz.func95 (by kernel_rfl) (by kernel_rfl) y6h y6i
    (fun l a h=>by unfold y6i at h;split at h<;>first|(cases h;rfl)|cases h) (fun a=>rfl) (av (by kernel_rfl))
    (fun o r h=>by unfold y6k at h;split at h<;>first|(cases h;rfl)|cases h) (y6m k)
def y6o (k:Nat):O Tryz.prog 95:=⟨lZ [.one (.sl (.int .i64)),.fn] (y6l k),iS (y6n k)⟩
def y6p (k:Nat):O Tryz.prog 105:=dP (tt:=tt) [⟨50,oX k⟩,⟨75,y5m k⟩,⟨95,y6o k⟩] .id Tryz.func105 [.agg [(.int .i64),(.int .i64),(.int .i64),(.int .i64),(.int .i64),(.int .i64),(.int .i64),(.sl (.int .i64)),(.sl (.int .i64))],.one (.int .i64)] ((cdS .aC).p cdZ) ⟨.h 0,[]⟩ cdB (.sc) (fun a=>cU k a.1 a.2) (by kernel_rfl) fun a=>by kernel_rfl
def y6q (k:Nat):O Tryz.prog 106:=dP (tt:=tt) [⟨50,oX k⟩] .id Tryz.func106 [.agg [(.int .i64),(.int .i64),(.int .i64),(.int .i64),(.int .i64),(.int .i64),(.int .i64),(.sl (.int .i64)),(.sl (.int .i64))],.agg [(.int .i64),(.int .i64),(.int .i64)]] ((cdS .aC).p (cdS .shape)) ⟨.h 0,[]⟩ cdB (.sc) (fun a=>cf k a.1 a.2) (by kernel_rfl) fun a=>by kernel_rfl
def y6r (k:Nat):O Tryz.prog 107:=dP (tt:=tt) [] .id Tryz.func107 [.agg [(.int .i64),(.int .i64),(.int .i64),(.int .i64),(.int .i64),(.int .i64),(.int .i64),(.sl (.int .i64)),(.sl (.int .i64))],.agg [(.int .i64),(.int .i64),(.int .i64)],.one (.int .i64)] ((cdS .aC).p ((cdS .shape).p cdZ)) ⟨.agg [.h 0,.h 1,.h 2],[]⟩ (cdS .shape) (.agg [.sc,.sc,.sc]) (fun a=>cK k a.1 a.2.1 a.2.2) (by kernel_rfl) fun a=>by kernel_rfl
def y6s (k:Nat):O Tryz.prog 108:=dP (tt:=tt) [] .id Tryz.func108 [.agg [(.int .i64),(.int .i64),(.int .i64),(.int .i64),(.int .i64),(.int .i64),(.int .i64),(.sl (.int .i64)),(.sl (.int .i64))]] (cdS .aC) ⟨.h 0,[]⟩ cdB (.sc) (fun a=>cu k a) (by kernel_rfl) fun a=>by kernel_rfl
def y6t (k:Nat):O Tryz.prog 93:=dP (tt:=tt) [⟨50,oX k⟩,⟨73,y4h k⟩,⟨74,y4i k⟩,⟨104,y4j k⟩,⟨105,y6p k⟩,⟨106,y6q k⟩,⟨107,y6r k⟩,⟨108,y6s k⟩] .id Tryz.func93 [.agg [(.int .i64),(.int .i64),(.int .i64)],.agg [(.int .i64),(.int .i64),(.int .i64),(.int .i64),(.int .i64),(.int .i64),(.int .i64),(.sl (.int .i64)),(.sl (.int .i64))]] ((cdS .shape).p (cdS .aC)) ⟨.tup [.agg [.h 0,.h 1,.h 2],.h 3],[]⟩ ((cdS .shape).p cdB) (.tup [.agg [.sc,.sc,.sc],.sc]) (fun a=>gx k a.1 a.2) (by kernel_rfl) fun a=>by kernel_rfl
noncomputable def y6u (k:Nat):Env:=iU (P:=Tryz.prog) tt [⟨93,y6t k⟩]
theorem y6v (k:Nat):bY (y6u k):=fun g=>bh _ g
noncomputable def y6w:Code:=(Tryz.f85.body).getD .skip
noncomputable def y6x:Code:=((aH 0 y6w).getD 0 (0,.skip)).2
def y6y:List Nat:=[4,5,16,17,18]
def y6z:List (aM× Co):=[]
def y70:Ex→List Nat
  |.exit j=>cond (Nat.beq j 0) [4] []
  |.ret=>[2,3]
  |.normal=>[]
def y71:Ex→List (aM× Co)
  |.exit j=>cond (Nat.beq j 0) [] []
  |.ret=>[]
  |.normal=>[]
def y72 (pv:(List ag× Int)× (Int× List Shape× Int× Int× Int)):St:={au:=[(4,.own 0),(5,.ptr 1 0 0),(16,.r [] (.sl (.st .aC) pv.1.1)),(17,.r [] (.int .i64 pv.1.2)),(18,.r [] (.int .i64 pv.2.1))],heap:=[(0,.arr none (.st .shape) pv.2.2.1),(1,.box [.r [] (.int .i64 pv.2.2.2.1),.r [] (.int .i64 pv.2.2.2.2.1),.r [] (.int .i64 pv.2.2.2.2.2)])],nid:=2,n:=37,gh:=[]}
def y73 (nf:NF):Option ((List ag× Int)× (Int× List Shape× Int× Int× Int)):=match nf with
  |([.own 0,.ptr 1 0 0,.r [] (.sl (.st .aC) w0),.r [] (.int .i64 w1),.r [] (.int .i64 w2)],[.arr none (.st .shape) w3,.box [.r [] (.int .i64 w4),.r [] (.int .i64 w5),.r [] (.int .i64 w6)]],[])=>some ((w0,w1),(w2,w3,w4,w5,w6))
  |_=>none
theorem y74 (nf:NF) (v:(List ag× Int)× (Int× List Shape× Int× Int× Int)) (h:y73 nf=some v):ak y6y 37 nf=y72 v:=by
  unfold y73 at h
  split at h
  · cases h;rfl
  · cases h
def y75 (p:List ag× Int) (x:List Shape):St:={au:=[(4,.own 0)],heap:=[(0,.arr none (.st .shape) x)],nid:=1,n:=37,gh:=[]}
def y76 (p:List ag× Int) (x:Bool):St:={au:=[(2,.bn),(3,.r [] (.bool x))],heap:=[],nid:=0,n:=37,gh:=[]}
def y77 (ρ:Type) (k:Nat):Nat→Ev ρ→Ev ρ:=fun id f=>cond (Nat.beq id 0) (aT y6y y6z (fun n nf=>cond (Nat.beq n 37) (y73 nf) none) fun pv K=>iter (fun v next=>bO k pv.1 v next (fun x=>K (.exit 0) (y75 pv.1 x)) (fun x=>K .ret (y76 pv.1 x))) k pv.2) ((fun _ _ _ _=>none) id f)
theorem y78 {ρ:Type} (k:Nat) (p:List ag× Int) (v:Int× List Shape× Int× Int× Int) (K K1:Ex→St→Option ρ):ev (y6u k) (y77 ρ k) 0 y6x (y72 (p,v)) (fun e st'=>match e with
    |.normal=>(aS y6y y6z st').bind fun nf=>K1 .normal (ak y6y st'.n nf)
    |e=>(aS (y70 e) (y71 e) st').bind fun nf=>K e (ak (y70 e) st'.n nf))=bO k p v (fun v'=>K1 .normal (y72 (p,v'))) (fun x=>K (.exit 0) (y75 p x)) (fun x=>K .ret (y76 p x)):=by kernel_rfl
theorem y79 {ρ:Type} (k:Nat):Sound Tryz.prog (.loop y6x) (y77 ρ k 0 fun st K=>ev (y6u k) (y77 ρ k) 0 y6x st K):=
  aX (aE (y6v k) y6x 0 (av (by kernel_rfl))) y70 y71 k (g:=fun p v next K=>bO k p v next (fun x=>K (.exit 0) (y75 p x)) (fun x=>K .ret (y76 p x))) (bp y74) (fun p v K K1=>y78 k p v K K1)
def y7a (k:Nat):O Tryz.prog 85:=⟨oP [.agg [(.int .i64),(.int .i64),(.int .i64),(.sl (.st .aC))]] (cdS .model) ⟨.tup [.own 0,.h 1],[.arr none (.st .shape) 0]⟩ ((cdL (.st .shape)).p cdB) fun a=>dN k a,okP (LP:=y77 _ k) (y6v k) Tryz.func85 (by kernel_rfl) (by kernel_rfl) (by kernel_rfl) (aF (l:=[(0,y6x)]) (by kernel_rfl) ⟨y79 k,trivial⟩) (.tup [.own (.st .shape),.sc]) fun a=>by kernel_rfl⟩
def y7b (k:Nat):O Tryz.prog 60:=dP (tt:=tt) [⟨50,oX k⟩,⟨85,y7a k⟩] .id Tryz.func60 [.agg [(.int .i64),(.int .i64),(.int .i64),(.sl (.st .aC))]] (cdS .model) ⟨.h 0,[]⟩ cdB (.sc) (fun a=>kJ k a) (by kernel_rfl) fun a=>by kernel_rfl
def y7c (k:Nat):O Tryz.prog 42:=dP (tt:=tt) [⟨73,y4h k⟩,⟨74,y4i k⟩,⟨75,y5m k⟩] .id Tryz.func42 [.agg [(.int .i64),(.int .i64),(.int .i64),(.sl (.int .i64))]] (cdS .bK) ⟨.h 0,[]⟩ cdB (.sc) (fun a=>gw k a) (by kernel_rfl) fun a=>by kernel_rfl
def y7d (k:Nat):O Tryz.prog 62:=dP (tt:=tt) [⟨60,y7b k⟩,⟨85,y7a k⟩] .id Tryz.func62 [.agg [(.int .i64),(.int .i64),(.int .i64),(.sl (.st .aC))]] (cdS .model) ⟨.own 0,[.arr none (.st .shape) 0]⟩ (cdL (.st .shape)) (.own (.st .shape)) (fun a=>iZ k a) (by kernel_rfl) fun a=>by kernel_rfl
def y7e (k:Nat):O Tryz.prog 71:=dP (tt:=tt) [⟨74,y4i k⟩,⟨93,y6t k⟩] .id Tryz.func71 [.agg [(.int .i64),(.int .i64),(.int .i64)],.agg [(.int .i64),(.int .i64),(.int .i64),(.int .i64),(.int .i64),(.int .i64),(.int .i64),(.sl (.int .i64)),(.sl (.int .i64))]] ((cdS .shape).p (cdS .aC)) ⟨.h 0,[]⟩ cdZ (.sc) (fun a=>pt k a.1 a.2) (by kernel_rfl) fun a=>by kernel_rfl
noncomputable def y7f (k:Nat):Env:=iU (P:=Tryz.prog) tt [⟨62,y7d k⟩,⟨71,y7e k⟩]
theorem y7g (k:Nat):bY (y7f k):=fun g=>bh _ g
noncomputable def y7h:Code:=(Tryz.f40.body).getD .skip
noncomputable def y7i:Code:=((aH 0 y7h).getD 0 (0,.skip)).2
def y7j:List Nat:=[1,3,8,9,10]
def y7k:List (aM× Co):=[]
def y7l:Ex→List Nat
  |.exit j=>cond (Nat.beq j 0) [3] []
  |.ret=>[]
  |.normal=>[]
def y7m:Ex→List (aM× Co)
  |.exit j=>cond (Nat.beq j 0) [] []
  |.ret=>[]
  |.normal=>[]
def y7n (pv:(Int× Int× Int× Int× List ag× List Shape)× (Int× List Int)):St:={au:=[(1,.ptr 0 0 0),(3,.own 1),(8,.own 2),(9,.r [] (.int .i64 pv.1.1)),(10,.r [] (.int .i64 pv.2.1))],heap:=[(0,.box [.r [] (.int .i64 pv.1.2.1),.r [] (.int .i64 pv.1.2.2.1),.r [] (.int .i64 pv.1.2.2.2.1),.r [] (.sl (.st .aC) pv.1.2.2.2.2.1)]),(1,.arr none (.int .i64) pv.2.2),(2,.arr none (.st .shape) pv.1.2.2.2.2.2)],nid:=3,n:=32,gh:=[]}
def y7o (nf:NF):Option ((Int× Int× Int× Int× List ag× List Shape)× (Int× List Int)):=match nf with
  |([.ptr 0 0 0,.own 1,.own 2,.r [] (.int .i64 w0),.r [] (.int .i64 w1)],[.box [.r [] (.int .i64 w2),.r [] (.int .i64 w3),.r [] (.int .i64 w4),.r [] (.sl (.st .aC) w5)],.arr none (.int .i64) w6,.arr none (.st .shape) w7],[])=>some ((w0,w2,w3,w4,w5,w7),(w1,w6))
  |_=>none
theorem y7p (nf:NF) (v:(Int× Int× Int× Int× List ag× List Shape)× (Int× List Int)) (h:y7o nf=some v):ak y7j 32 nf=y7n v:=by
  unfold y7o at h
  split at h
  · cases h;rfl
  · cases h
def y7q (p:Int× Int× Int× Int× List ag× List Shape) (x:List Int):St:={au:=[(3,.own 0)],heap:=[(0,.arr none (.int .i64) x)],nid:=1,n:=32,gh:=[]}
def y7r (ρ:Type) (k:Nat):Nat→Ev ρ→Ev ρ:=fun id f=>cond (Nat.beq id 0) (aT y7j y7k (fun n nf=>cond (Nat.beq n 32) (y7o nf) none) fun pv K=>iter (fun v next=>dk k pv.1 v next (fun x=>K (.exit 0) (y7q pv.1 x))) k pv.2) ((fun _ _ _ _=>none) id f)
theorem y7s {ρ:Type} (k:Nat) (p:Int× Int× Int× Int× List ag× List Shape) (v:Int× List Int) (K K1:Ex→St→Option ρ):ev (y7f k) (y7r ρ k) 0 y7i (y7n (p,v)) (fun e st'=>match e with
    |.normal=>(aS y7j y7k st').bind fun nf=>K1 .normal (ak y7j st'.n nf)
    |e=>(aS (y7l e) (y7m e) st').bind fun nf=>K e (ak (y7l e) st'.n nf))=dk k p v (fun v'=>K1 .normal (y7n (p,v'))) (fun x=>K (.exit 0) (y7q p x)):=by kernel_rfl
theorem y7t {ρ:Type} (k:Nat):Sound Tryz.prog (.loop y7i) (y7r ρ k 0 fun st K=>ev (y7f k) (y7r ρ k) 0 y7i st K):=
  aX (aE (y7g k) y7i 0 (av (by kernel_rfl))) y7l y7m k (g:=fun p v next K=>dk k p v next (fun x=>K (.exit 0) (y7q p x))) (bp y7p) (fun p v K K1=>y7s k p v K K1)
def y7u (k:Nat):O Tryz.prog 40:=⟨oP [.agg [(.int .i64),(.int .i64),(.int .i64),(.sl (.st .aC))]] (cdS .model) ⟨.own 0,[.arr none (.int .i64) 0]⟩ (cdL (.int .i64)) fun a=>ja k a,okP (LP:=y7r _ k) (y7g k) Tryz.func40 (by kernel_rfl) (by kernel_rfl) (by kernel_rfl) (aF (l:=[(0,y7i)]) (by kernel_rfl) ⟨y7t k,trivial⟩) (.own (.int .i64)) fun a=>by kernel_rfl⟩
noncomputable def y7v (k:Nat):Env:=iU (P:=Tryz.prog) tt []
theorem y7w (k:Nat):bY (y7v k):=fun g=>bh _ g
noncomputable def y7x:Code:=(Tryz.f44.body).getD .skip
noncomputable def y7y:Code:=((aH 0 y7x).getD 0 (0,.skip)).2
def y7z:List Nat:=[3,6,7,8]
def y80:List (aM× Co):=[]
def y81:Ex→List Nat
  |.exit j=>cond (Nat.beq j 0) [3] []
  |.ret=>[]
  |.normal=>[]
def y82:Ex→List (aM× Co)
  |.exit j=>cond (Nat.beq j 0) [] []
  |.ret=>[]
  |.normal=>[]
def y83 (pv:(List Int× Int)× (Int× Int)):St:={au:=[(3,.r [] (.int .i64 pv.2.1)),(6,.r [] (.sl (.int .i64) pv.1.1)),(7,.r [] (.int .i64 pv.1.2)),(8,.r [] (.int .i64 pv.2.2))],heap:=[],nid:=0,n:=17,gh:=[]}
def y84 (nf:NF):Option ((List Int× Int)× (Int× Int)):=match nf with
  |([.r [] (.int .i64 w0),.r [] (.sl (.int .i64) w1),.r [] (.int .i64 w2),.r [] (.int .i64 w3)],[],[])=>some ((w1,w2),(w0,w3))
  |_=>none
theorem y85 (nf:NF) (v:(List Int× Int)× (Int× Int)) (h:y84 nf=some v):ak y7z 17 nf=y83 v:=by
  unfold y84 at h
  split at h
  · cases h;rfl
  · cases h
def y86 (p:List Int× Int) (x:Int):St:={au:=[(3,.r [] (.int .i64 x))],heap:=[],nid:=0,n:=17,gh:=[]}
def y88 (ρ:Type) (k:Nat):Nat→Ev ρ→Ev ρ:=fun id f=>cond (Nat.beq id 0) (aT y7z y80 (fun n nf=>cond (Nat.beq n 17) (y84 nf) none) fun pv K=>iter (fun v next=>jJ k pv.1 v next (fun x=>K (.exit 0) (y86 pv.1 x))) k pv.2) ((fun _ _ _ _=>none) id f)
theorem y8a {ρ:Type} (k:Nat) (p:List Int× Int) (v:Int× Int) (K K1:Ex→St→Option ρ):ev (y7v k) (y88 ρ k) 0 y7y (y83 (p,v)) (fun e st'=>match e with
    |.normal=>(aS y7z y80 st').bind fun nf=>K1 .normal (ak y7z st'.n nf)
    |e=>(aS (y81 e) (y82 e) st').bind fun nf=>K e (ak (y81 e) st'.n nf))=jJ k p v (fun v'=>K1 .normal (y83 (p,v'))) (fun x=>K (.exit 0) (y86 p x)):=by kernel_rfl
theorem y8b {ρ:Type} (k:Nat):Sound Tryz.prog (.loop y7y) (y88 ρ k 0 fun st K=>ev (y7v k) (y88 ρ k) 0 y7y st K):=
  aX (aE (y7w k) y7y 0 (av (by kernel_rfl))) y81 y82 k (g:=fun p v next K=>jJ k p v next (fun x=>K (.exit 0) (y86 p x))) (bp y85) (fun p v K K1=>y8a k p v K K1)
def y8c (k:Nat):O Tryz.prog 44:=⟨oP [.one (.sl (.int .i64))] (cdL (.int .i64)) ⟨.h 0,[]⟩ cdZ fun a=>DH k a,okP (LP:=y88 _ k) (y7w k) Tryz.func44 (by kernel_rfl) (by kernel_rfl) (by kernel_rfl) (aF (l:=[(0,y7y)]) (by kernel_rfl) ⟨y8b k,trivial⟩) (.sc) fun a=>by kernel_rfl⟩
def y8d (k:Nat):O Tryz.prog 33:=dP (tt:=tt) [⟨40,y7u k⟩,⟨42,y7c k⟩,⟨44,y8c k⟩,⟨50,oX k⟩,⟨60,y7b k⟩,⟨62,y7d k⟩] .id Tryz.func33 [.agg [(.int .i64),(.int .i64),(.int .i64),(.sl (.st .aC)),(.int .i64),(.int .i64),(.int .i64),(.int .i64),(.sl (.int .i64)),(.int .i64)]] mN ⟨.h 0,[]⟩ cdB (.sc) (fun a=>jL k a) (by kernel_rfl) fun a=>by kernel_rfl
def y8e (k:Nat):O Tryz.prog 52:=dP (tt:=tt) [] .id Tryz.func52 [.one (.sl (.int .i64))] (cdL (.int .i64)) ⟨.own 0,[.arr none (.int .i64) 0]⟩ (cdL (.int .i64)) (.own (.int .i64)) (fun a=>bB k a) (by kernel_rfl) fun a=>by kernel_rfl
def y8f (k:Nat):O Tryz.prog 98:=dP (tt:=tt) [⟨52,y8e k⟩] .id Tryz.func98 [.agg [(.int .i64),(.int .i64),(.int .i64),(.int .i64),(.int .i64),(.int .i64),(.int .i64),(.sl (.int .i64)),(.sl (.int .i64))]] (cdS .aC) ⟨.agg (hs 0 7++[.own 0,.own 1]),[.arr none (.int .i64) 7,.arr none (.int .i64) 8]⟩ (cdS .aC) (.agg [.sc,.sc,.sc,.sc,.sc,.sc,.sc,.own (.int .i64),.own (.int .i64)]) (fun a=>fG k a) (by kernel_rfl) fun a=>by kernel_rfl
noncomputable def y8g (k:Nat):Env:=iU (P:=Tryz.prog) tt [⟨98,y8f k⟩]
theorem y8h (k:Nat):bY (y8g k):=fun g=>bh _ g
noncomputable def y8i:Code:=(Tryz.f86.body).getD .skip
noncomputable def y8j:Code:=((aH 0 y8i).getD 0 (0,.skip)).2
def y8k:List Nat:=[3,7,8,9]
def y8l:List (aM× Co):=[]
def y8m:Ex→List Nat
  |.exit j=>cond (Nat.beq j 0) [3] []
  |.ret=>[]
  |.normal=>[]
def y8n:Ex→List (aM× Co)
  |.exit j=>cond (Nat.beq j 0) [] []
  |.ret=>[]
  |.normal=>[]
def y8o (pv:(List ag× Int)× (Int× List ag)):St:={au:=[(3,.own 0),(7,.r [] (.sl (.st .aC) pv.1.1)),(8,.r [] (.int .i64 pv.1.2)),(9,.r [] (.int .i64 pv.2.1))],heap:=[(0,.arr none (.st .aC) pv.2.2)],nid:=1,n:=20,gh:=[]}
def y8p (nf:NF):Option ((List ag× Int)× (Int× List ag)):=match nf with
  |([.own 0,.r [] (.sl (.st .aC) w0),.r [] (.int .i64 w1),.r [] (.int .i64 w2)],[.arr none (.st .aC) w3],[])=>some ((w0,w1),(w2,w3))
  |_=>none
theorem y8q (nf:NF) (v:(List ag× Int)× (Int× List ag)) (h:y8p nf=some v):ak y8k 20 nf=y8o v:=by
  unfold y8p at h
  split at h
  · cases h;rfl
  · cases h
def y8r (p:List ag× Int) (x:List ag):St:={au:=[(3,.own 0)],heap:=[(0,.arr none (.st .aC) x)],nid:=1,n:=20,gh:=[]}
def y8s (ρ:Type) (k:Nat):Nat→Ev ρ→Ev ρ:=fun id f=>cond (Nat.beq id 0) (aT y8k y8l (fun n nf=>cond (Nat.beq n 20) (y8p nf) none) fun pv K=>iter (fun v next=>bP k pv.1 v next (fun x=>K (.exit 0) (y8r pv.1 x))) k pv.2) ((fun _ _ _ _=>none) id f)
theorem y8t {ρ:Type} (k:Nat) (p:List ag× Int) (v:Int× List ag) (K K1:Ex→St→Option ρ):ev (y8g k) (y8s ρ k) 0 y8j (y8o (p,v)) (fun e st'=>match e with
    |.normal=>(aS y8k y8l st').bind fun nf=>K1 .normal (ak y8k st'.n nf)
    |e=>(aS (y8m e) (y8n e) st').bind fun nf=>K e (ak (y8m e) st'.n nf))=bP k p v (fun v'=>K1 .normal (y8o (p,v'))) (fun x=>K (.exit 0) (y8r p x)):=by kernel_rfl
theorem y8u {ρ:Type} (k:Nat):Sound Tryz.prog (.loop y8j) (y8s ρ k 0 fun st K=>ev (y8g k) (y8s ρ k) 0 y8j st K):=
  aX (aE (y8h k) y8j 0 (av (by kernel_rfl))) y8m y8n k (g:=fun p v next K=>bP k p v next (fun x=>K (.exit 0) (y8r p x))) (bp y8q) (fun p v K K1=>y8t k p v K K1)
def y8v (k:Nat):O Tryz.prog 86:=⟨oP [.one (.sl (.st .aC))] (cdL (.st .aC)) ⟨.own 0,[.arr none (.st .aC) 0]⟩ (cdL (.st .aC)) fun a=>iB k a,okP (LP:=y8s _ k) (y8h k) Tryz.func86 (by kernel_rfl) (by kernel_rfl) (by kernel_rfl) (aF (l:=[(0,y8j)]) (by kernel_rfl) ⟨y8u k,trivial⟩) (.own (.st .aC)) fun a=>by kernel_rfl⟩
def y8w (k:Nat):O Tryz.prog 63:=dP (tt:=tt) [⟨86,y8v k⟩] .id Tryz.func63 [.agg [(.int .i64),(.int .i64),(.int .i64),(.sl (.st .aC))]] (cdS .model) ⟨.agg [.h 0,.h 1,.h 2,.own 0],[.arr none (.st .aC) 3]⟩ (cdS .model) (.agg [.sc,.sc,.sc,.own (.st .aC)]) (fun a=>fH k a) (by kernel_rfl) fun a=>by kernel_rfl
def y8x (k:Nat):O Tryz.prog 64:=dP (tt:=tt) [⟨52,y8e k⟩] .id Tryz.func64 [.agg [(.int .i64),(.int .i64),(.int .i64),(.sl (.int .i64))]] (cdS .bK) ⟨.agg [.h 0,.h 1,.h 2,.own 0],[.arr none (.int .i64) 3]⟩ (cdS .bK) (.agg [.sc,.sc,.sc,.own (.int .i64)]) (fun a=>eR k a) (by kernel_rfl) fun a=>by kernel_rfl
def y8y (k:Nat):O Tryz.prog 34:=dP (tt:=tt) [⟨63,y8w k⟩,⟨64,y8x k⟩] .id Tryz.func34 [.agg [(.int .i64),(.int .i64),(.int .i64),(.sl (.st .aC)),(.int .i64),(.int .i64),(.int .i64),(.int .i64),(.sl (.int .i64)),(.int .i64)]] mN ⟨.agg ([.h 0,.h 1,.h 2,.own 0]++hs 4 4++[.own 1,.h 9]),[.arr none (.st .aC) 3,.arr none (.int .i64) 8]⟩ mN (.agg [.sc,.sc,.sc,.own (.st .aC),.sc,.sc,.sc,.sc,.own (.int .i64),.sc]) (fun a=>dm k a) (by kernel_rfl) fun a=>by kernel_rfl
def y8z (k:Nat):O Tryz.prog 7:=dP (tt:=tt) [⟨33,y8d k⟩,⟨34,y8y k⟩] .id Tryz.func7 [.agg [(.int .i64),(.int .i64),(.int .i64),(.sl (.st .aC))],.agg [(.int .i64),(.int .i64),(.int .i64),(.sl (.int .i64))]] ((cdS .model).p (cdS .bK)) ⟨.tup [.agg ([.h 0,.h 1,.h 2,.own 0]++hs 4 4++[.own 1,.h 9]),.h 10],[.arr none (.st .aC) 3,.arr none (.int .i64) 8]⟩ (mN.p cdB) (.tup [.agg [.sc,.sc,.sc,.own (.st .aC),.sc,.sc,.sc,.sc,.own (.int .i64),.sc],.sc]) (fun a=>lj k a.1 a.2) (by kernel_rfl) fun a=>by kernel_rfl
noncomputable def y90 (k:Nat):Env:=iU (P:=Tryz.prog) tt [⟨46,yu k⟩,⟨65,yv k⟩,⟨69,y2v k⟩]
theorem y91 (k:Nat):bY (y90 k):=fun g=>bh _ g
noncomputable def y92:Code:=(Tryz.f45.body).getD .skip
noncomputable def y93:Code:=((aH 0 y92).getD 0 (0,.skip)).2
def y94:List Nat:=[1,4,5]
def y95:List (aM× Co):=[]
def y96:Ex→List Nat
  |.exit j=>cond (Nat.beq j 0) [4] []
  |.ret=>[2,3]
  |.normal=>[]
def y97:Ex→List (aM× Co)
  |.exit j=>cond (Nat.beq j 0) [] []
  |.ret=>[]
  |.normal=>[]
def y98 (pv:(Int× Int× Int× List ag)× (Int× List Shape)):St:={au:=[(1,.ptr 0 0 0),(4,.own 1),(5,.r [] (.int .i64 pv.2.1))],heap:=[(0,.box [.r [] (.int .i64 pv.1.1),.r [] (.int .i64 pv.1.2.1),.r [] (.int .i64 pv.1.2.2.1),.r [] (.sl (.st .aC) pv.1.2.2.2)]),(1,.arr none (.st .shape) pv.2.2)],nid:=2,n:=49,gh:=[]}
def y99 (nf:NF):Option ((Int× Int× Int× List ag)× (Int× List Shape)):=match nf with
  |([.ptr 0 0 0,.own 1,.r [] (.int .i64 w0)],[.box [.r [] (.int .i64 w1),.r [] (.int .i64 w2),.r [] (.int .i64 w3),.r [] (.sl (.st .aC) w4)],.arr none (.st .shape) w5],[])=>some ((w1,w2,w3,w4),(w0,w5))
  |_=>none
theorem y9a (nf:NF) (v:(Int× Int× Int× List ag)× (Int× List Shape)) (h:y99 nf=some v):ak y94 49 nf=y98 v:=by
  unfold y99 at h
  split at h
  · cases h;rfl
  · cases h
def y9b (p:Int× Int× Int× List ag) (x:List Shape):St:={au:=[(4,.own 0)],heap:=[(0,.arr none (.st .shape) x)],nid:=1,n:=49,gh:=[]}
def y9c (p:Int× Int× Int× List ag) (x:Bool):St:={au:=[(2,.bn),(3,.r [] (.bool x))],heap:=[],nid:=0,n:=49,gh:=[]}
def y9d (ρ:Type) (k:Nat):Nat→Ev ρ→Ev ρ:=fun id f=>cond (Nat.beq id 0) (aT y94 y95 (fun n nf=>cond (Nat.beq n 49) (y99 nf) none) fun pv K=>iter (fun v next=>ct k pv.1 v next (fun x=>K (.exit 0) (y9b pv.1 x)) (fun x=>K .ret (y9c pv.1 x))) k pv.2) ((fun _ _ _ _=>none) id f)
theorem y9e {ρ:Type} (k:Nat) (p:Int× Int× Int× List ag) (v:Int× List Shape) (K K1:Ex→St→Option ρ):ev (y90 k) (y9d ρ k) 0 y93 (y98 (p,v)) (fun e st'=>match e with
    |.normal=>(aS y94 y95 st').bind fun nf=>K1 .normal (ak y94 st'.n nf)
    |e=>(aS (y96 e) (y97 e) st').bind fun nf=>K e (ak (y96 e) st'.n nf))=ct k p v (fun v'=>K1 .normal (y98 (p,v'))) (fun x=>K (.exit 0) (y9b p x)) (fun x=>K .ret (y9c p x)):=by kernel_rfl
theorem y9f {ρ:Type} (k:Nat):Sound Tryz.prog (.loop y93) (y9d ρ k 0 fun st K=>ev (y90 k) (y9d ρ k) 0 y93 st K):=
  aX (aE (y91 k) y93 0 (av (by kernel_rfl))) y96 y97 k (g:=fun p v next K=>ct k p v next (fun x=>K (.exit 0) (y9b p x)) (fun x=>K .ret (y9c p x))) (bp y9a) (fun p v K K1=>y9e k p v K K1)
def y9g (k:Nat):O Tryz.prog 45:=⟨oP [.agg [(.int .i64),(.int .i64),(.int .i64),(.sl (.st .aC))]] (cdS .model) ⟨.tup [.own 0,.h 1],[.arr none (.st .shape) 0]⟩ ((cdL (.st .shape)).p cdB) fun a=>ft k a,okP (LP:=y9d _ k) (y91 k) Tryz.func45 (by kernel_rfl) (by kernel_rfl) (by kernel_rfl) (aF (l:=[(0,y93)]) (by kernel_rfl) ⟨y9f k,trivial⟩) (.tup [.own (.st .shape),.sc]) fun a=>by kernel_rfl⟩
def y9h (k:Nat):O Tryz.prog 35:=dP (tt:=tt) [⟨45,y9g k⟩] .id Tryz.func35 [.agg [(.int .i64),(.int .i64),(.int .i64),(.sl (.st .aC))]] (cdS .model) ⟨.h 0,[]⟩ cdB (.sc) (fun a=>mU k a) (by kernel_rfl) fun a=>by kernel_rfl
noncomputable def y9i (k:Nat):Env:=iU (P:=Tryz.prog) tt [⟨65,yv k⟩,⟨66,yw k⟩,⟨67,y1v k⟩]
theorem y9j (k:Nat):bY (y9i k):=fun g=>bh _ g
noncomputable def y9k:Code:=(Tryz.f36.body).getD .skip
noncomputable def y9l:Code:=((aH 0 y9k).getD 0 (0,.skip)).2
def y9m:List Nat:=[1,3]
def y9n:List (aM× Co):=[]
def y9o:Ex→List Nat
  |.exit j=>cond (Nat.beq j 0) [] []
  |.ret=>[2]
  |.normal=>[]
def y9p:Ex→List (aM× Co)
  |.exit j=>cond (Nat.beq j 0) [] []
  |.ret=>[]
  |.normal=>[]
def y9q (pv:(Int× Int× Int× List Int)× (Int)):St:={au:=[(1,.ptr 0 0 0),(3,.r [] (.int .i64 pv.2))],heap:=[(0,.box [.r [] (.int .i64 pv.1.1),.r [] (.int .i64 pv.1.2.1),.r [] (.int .i64 pv.1.2.2.1),.r [] (.sl (.int .i64) pv.1.2.2.2)])],nid:=1,n:=31,gh:=[]}
def y9r (nf:NF):Option ((Int× Int× Int× List Int)× (Int)):=match nf with
  |([.ptr 0 0 0,.r [] (.int .i64 w0)],[.box [.r [] (.int .i64 w1),.r [] (.int .i64 w2),.r [] (.int .i64 w3),.r [] (.sl (.int .i64) w4)]],[])=>some ((w1,w2,w3,w4),w0)
  |_=>none
theorem y9s (nf:NF) (v:(Int× Int× Int× List Int)× (Int)) (h:y9r nf=some v):ak y9m 31 nf=y9q v:=by
  unfold y9r at h
  split at h
  · cases h;rfl
  · cases h
def y9t (p:Int× Int× Int× List Int) (x:Unit):St:={au:=[],heap:=[],nid:=0,n:=31,gh:=[]}
def y9u (p:Int× Int× Int× List Int) (x:Bool):St:={au:=[(2,.r [] (.bool x))],heap:=[],nid:=0,n:=31,gh:=[]}
def y9v (ρ:Type) (k:Nat):Nat→Ev ρ→Ev ρ:=fun id f=>cond (Nat.beq id 0) (aT y9m y9n (fun n nf=>cond (Nat.beq n 31) (y9r nf) none) fun pv K=>iter (fun v next=>dy k pv.1 v next (fun x=>K (.exit 0) (y9t pv.1 x)) (fun x=>K .ret (y9u pv.1 x))) k pv.2) ((fun _ _ _ _=>none) id f)
theorem y9w {ρ:Type} (k:Nat) (p:Int× Int× Int× List Int) (v:Int) (K K1:Ex→St→Option ρ):ev (y9i k) (y9v ρ k) 0 y9l (y9q (p,v)) (fun e st'=>match e with
    |.normal=>(aS y9m y9n st').bind fun nf=>K1 .normal (ak y9m st'.n nf)
    |e=>(aS (y9o e) (y9p e) st').bind fun nf=>K e (ak (y9o e) st'.n nf))=dy k p v (fun v'=>K1 .normal (y9q (p,v'))) (fun x=>K (.exit 0) (y9t p x)) (fun x=>K .ret (y9u p x)):=by kernel_rfl
theorem y9x {ρ:Type} (k:Nat):Sound Tryz.prog (.loop y9l) (y9v ρ k 0 fun st K=>ev (y9i k) (y9v ρ k) 0 y9l st K):=
  aX (aE (y9j k) y9l 0 (av (by kernel_rfl))) y9o y9p k (g:=fun p v next K=>dy k p v next (fun x=>K (.exit 0) (y9t p x)) (fun x=>K .ret (y9u p x))) (bp y9s) (fun p v K K1=>y9w k p v K K1)
def y9y (k:Nat):O Tryz.prog 36:=⟨oP [.agg [(.int .i64),(.int .i64),(.int .i64),(.sl (.int .i64))]] (cdS .bK) ⟨.h 0,[]⟩ cdB fun a=>fo k a,okP (LP:=y9v _ k) (y9j k) Tryz.func36 (by kernel_rfl) (by kernel_rfl) (by kernel_rfl) (aF (l:=[(0,y9l)]) (by kernel_rfl) ⟨y9x k,trivial⟩) (.sc) fun a=>by kernel_rfl⟩
noncomputable def y9z (k:Nat):Env:=iU (P:=Tryz.prog) tt []
theorem ya0 (k:Nat):bY (y9z k):=fun g=>bh _ g
noncomputable def ya1:Code:=(Tryz.f68.body).getD .skip
noncomputable def ya2:Code:=((aH 0 ya1).getD 0 (0,.skip)).2
def ya3:List Nat:=[0,3,4]
def ya4:List (aM× Co):=[]
def ya5:Ex→List Nat
  |.exit j=>cond (Nat.beq j 0) [3] []
  |.ret=>[]
  |.normal=>[]
def ya6:Ex→List (aM× Co)
  |.exit j=>cond (Nat.beq j 0) [] []
  |.ret=>[]
  |.normal=>[]
def ya7 (pv:(List Int)× (Int× List Int)):St:={au:=[(0,.r [] (.sl (.int .i64) pv.1)),(3,.own 0),(4,.r [] (.int .i64 pv.2.1))],heap:=[(0,.arr none (.int .i64) pv.2.2)],nid:=1,n:=20,gh:=[]}
def ya8 (nf:NF):Option ((List Int)× (Int× List Int)):=match nf with
  |([.r [] (.sl (.int .i64) w0),.own 0,.r [] (.int .i64 w1)],[.arr none (.int .i64) w2],[])=>some (w0,(w1,w2))
  |_=>none
theorem ya9 (nf:NF) (v:(List Int)× (Int× List Int)) (h:ya8 nf=some v):ak ya3 20 nf=ya7 v:=by
  unfold ya8 at h
  split at h
  · cases h;rfl
  · cases h
def yaa (p:List Int) (x:List Int):St:={au:=[(3,.own 0)],heap:=[(0,.arr none (.int .i64) x)],nid:=1,n:=20,gh:=[]}
def yab (ρ:Type) (k:Nat):Nat→Ev ρ→Ev ρ:=fun id f=>cond (Nat.beq id 0) (aT ya3 ya4 (fun n nf=>cond (Nat.beq n 20) (ya8 nf) none) fun pv K=>iter (fun v next=>dh k pv.1 v next (fun x=>K (.exit 0) (yaa pv.1 x))) k pv.2) ((fun _ _ _ _=>none) id f)
theorem yac {ρ:Type} (k:Nat) (p:List Int) (v:Int× List Int) (K K1:Ex→St→Option ρ):ev (y9z k) (yab ρ k) 0 ya2 (ya7 (p,v)) (fun e st'=>match e with
    |.normal=>(aS ya3 ya4 st').bind fun nf=>K1 .normal (ak ya3 st'.n nf)
    |e=>(aS (ya5 e) (ya6 e) st').bind fun nf=>K e (ak (ya5 e) st'.n nf))=dh k p v (fun v'=>K1 .normal (ya7 (p,v'))) (fun x=>K (.exit 0) (yaa p x)):=by kernel_rfl
theorem yad {ρ:Type} (k:Nat):Sound Tryz.prog (.loop ya2) (yab ρ k 0 fun st K=>ev (y9z k) (yab ρ k) 0 ya2 st K):=
  aX (aE (ya0 k) ya2 0 (av (by kernel_rfl))) ya5 ya6 k (g:=fun p v next K=>dh k p v next (fun x=>K (.exit 0) (yaa p x))) (bp ya9) (fun p v K K1=>yac k p v K K1)
def yae (k:Nat):O Tryz.prog 68:=⟨oP [.one (.sl (.int .i64))] (cdL (.int .i64)) ⟨.own 0,[.arr none (.int .i64) 0]⟩ (cdL (.int .i64)) fun a=>mS k a,okP (LP:=yab _ k) (ya0 k) Tryz.func68 (by kernel_rfl) (by kernel_rfl) (by kernel_rfl) (aF (l:=[(0,ya2)]) (by kernel_rfl) ⟨yad k,trivial⟩) (.own (.int .i64)) fun a=>by kernel_rfl⟩
def yaf (k:Nat):O Tryz.prog 37:=dP (tt:=tt) [⟨68,yae k⟩] .id Tryz.func37 [.agg [(.int .i64),(.int .i64),(.int .i64),(.sl (.int .i64))]] (cdS .bK) ⟨.agg [.h 0,.h 1,.h 2,.own 0],[.arr none (.int .i64) 3]⟩ (cdS .bK) (.agg [.sc,.sc,.sc,.own (.int .i64)]) (fun a=>mT k a) (by kernel_rfl) fun a=>by kernel_rfl
def yag (k:Nat):O Tryz.prog 116:=dP (tt:=tt) [] .id Tryz.func116 [.one (.int .i64),.one (.int .i64),.one (.int .i64)] (cdZ.p (cdZ.p cdZ)) ⟨.h 0,[]⟩ cdZ (.sc) (fun a=>jb k a.1 a.2.1 a.2.2) (by kernel_rfl) fun a=>by kernel_rfl
def yah (k:Nat):O Tryz.prog 99:=dP (tt:=tt) [⟨116,yag k⟩] .id Tryz.func99 [.one (.int .i64)] cdZ ⟨.h 0,[]⟩ cdZ (.sc) (fun a=>qp k a) (by kernel_rfl) fun a=>by kernel_rfl
def yai (k:Nat):O Tryz.prog 102:=dP (tt:=tt) [⟨116,yag k⟩] .id Tryz.func102 [.one (.int .i64)] cdZ ⟨.h 0,[]⟩ cdZ (.sc) (fun a=>iC k a) (by kernel_rfl) fun a=>by kernel_rfl
def yaj (k:Nat):O Tryz.prog 89:=dP (tt:=tt) [⟨102,yai k⟩] .id Tryz.func89 [.one (.int .i64),.one (.int .i64)] (cdZ.p cdZ) ⟨.h 0,[]⟩ cdZ (.sc) (fun a=>ib k a.1 a.2) (by kernel_rfl) fun a=>by kernel_rfl
noncomputable def yak (k:Nat):Env:=iU (P:=Tryz.prog) tt [⟨89,yaj k⟩,⟨99,yah k⟩]
theorem yal (k:Nat):bY (yak k):=fun g=>bh _ g
noncomputable def yam:Code:=(Tryz.f90.body).getD .skip
noncomputable def yan:Code:=((aH 0 yam).getD 0 (0,.skip)).2
def yao:List Nat:=[0,1,5,6]
def yap:List (aM× Co):=[]
def yaq:Ex→List Nat
  |.exit j=>cond (Nat.beq j 0) [5] []
  |.ret=>[]
  |.normal=>[]
def yar:Ex→List (aM× Co)
  |.exit j=>cond (Nat.beq j 0) [] []
  |.ret=>[]
  |.normal=>[]
def yas (pv:(List Int× List Int)× (Int× Int)):St:={au:=[(0,.r [] (.sl (.int .i64) pv.1.1)),(1,.r [] (.sl (.int .i64) pv.1.2)),(5,.r [] (.int .i64 pv.2.1)),(6,.r [] (.int .i64 pv.2.2))],heap:=[],nid:=0,n:=33,gh:=[]}
def yat (nf:NF):Option ((List Int× List Int)× (Int× Int)):=match nf with
  |([.r [] (.sl (.int .i64) w0),.r [] (.sl (.int .i64) w1),.r [] (.int .i64 w2),.r [] (.int .i64 w3)],[],[])=>some ((w0,w1),(w2,w3))
  |_=>none
theorem yau (nf:NF) (v:(List Int× List Int)× (Int× Int)) (h:yat nf=some v):ak yao 33 nf=yas v:=by
  unfold yat at h
  split at h
  · cases h;rfl
  · cases h
def yav (p:List Int× List Int) (x:Int):St:={au:=[(5,.r [] (.int .i64 x))],heap:=[],nid:=0,n:=33,gh:=[]}
def yaw (ρ:Type) (k:Nat):Nat→Ev ρ→Ev ρ:=fun id f=>cond (Nat.beq id 0) (aT yao yap (fun n nf=>cond (Nat.beq n 33) (yat nf) none) fun pv K=>iter (fun v next=>gy k pv.1 v next (fun x=>K (.exit 0) (yav pv.1 x))) k pv.2) ((fun _ _ _ _=>none) id f)
theorem yax {ρ:Type} (k:Nat) (p:List Int× List Int) (v:Int× Int) (K K1:Ex→St→Option ρ):ev (yak k) (yaw ρ k) 0 yan (yas (p,v)) (fun e st'=>match e with
    |.normal=>(aS yao yap st').bind fun nf=>K1 .normal (ak yao st'.n nf)
    |e=>(aS (yaq e) (yar e) st').bind fun nf=>K e (ak (yaq e) st'.n nf))=gy k p v (fun v'=>K1 .normal (yas (p,v'))) (fun x=>K (.exit 0) (yav p x)):=by kernel_rfl
theorem yay {ρ:Type} (k:Nat):Sound Tryz.prog (.loop yan) (yaw ρ k 0 fun st K=>ev (yak k) (yaw ρ k) 0 yan st K):=
  aX (aE (yal k) yan 0 (av (by kernel_rfl))) yaq yar k (g:=fun p v next K=>gy k p v next (fun x=>K (.exit 0) (yav p x))) (bp yau) (fun p v K K1=>yax k p v K K1)
def yaz (k:Nat):O Tryz.prog 90:=⟨oP [.one (.sl (.int .i64)),.one (.sl (.int .i64))] ((cdL (.int .i64)).p (cdL (.int .i64))) ⟨.h 0,[]⟩ cdZ fun a=>tw k a.1 a.2,okP (LP:=yaw _ k) (yal k) Tryz.func90 (by kernel_rfl) (by kernel_rfl) (by kernel_rfl) (aF (l:=[(0,yan)]) (by kernel_rfl) ⟨yay k,trivial⟩) (.sc) fun a=>by kernel_rfl⟩
def yb0 (k:Nat):O Tryz.prog 117:=dP (tt:=tt) [] .id Tryz.func117 [.one (.int .i64),.one (.int .i64)] (cdZ.p cdZ) ⟨.h 0,[]⟩ cdZ (.sc) (fun a=>mW k a.1 a.2) (by kernel_rfl) fun a=>by kernel_rfl
def yb1 (k:Nat):O Tryz.prog 101:=dP (tt:=tt) [⟨102,yai k⟩,⟨117,yb0 k⟩] .id Tryz.func101 [.one (.int .i64),.one (.int .i64)] (cdZ.p cdZ) ⟨.h 0,[]⟩ cdZ (.sc) (fun a=>mX k a.1 a.2) (by kernel_rfl) fun a=>by kernel_rfl
def yb2 (k:Nat):O Tryz.prog 100:=dP (tt:=tt) [⟨102,yai k⟩,⟨116,yag k⟩] .id Tryz.func100 [.one (.int .i64),.one (.int .i64)] (cdZ.p cdZ) ⟨.h 0,[]⟩ cdZ (.sc) (fun a=>ic k a.1 a.2) (by kernel_rfl) fun a=>by kernel_rfl
def yb3 (k:Nat):O Tryz.prog 88:=dP (tt:=tt) [⟨99,yah k⟩,⟨100,yb2 k⟩,⟨101,yb1 k⟩] .id Tryz.func88 [.one (.int .i64),.one (.int .i64),.one (.int .i64),.one (.int .i64)] (cdZ.p (cdZ.p (cdZ.p cdZ))) ⟨.h 0,[]⟩ cdZ (.sc) (fun a=>jc k a.1 a.2.1 a.2.2.1 a.2.2.2) (by kernel_rfl) fun a=>by kernel_rfl
def yb4 (k:Nat):O Tryz.prog 103:=dP (tt:=tt) [⟨46,yu k⟩,⟨65,yv k⟩] .id Tryz.func103 [.agg [(.int .i64),(.int .i64),(.int .i64)],.one (.int .i64),.one (.int .i64),.one (.int .i64)] ((cdS .shape).p (cdZ.p (cdZ.p cdZ))) ⟨.h 0,[]⟩ cdZ (.sc) (fun a=>qq k a.1 a.2.1 a.2.2.1 a.2.2.2) (by kernel_rfl) fun a=>by kernel_rfl
def yb5 (k:Nat):O Tryz.prog 91:=dP (tt:=tt) [⟨36,y9y k⟩,⟨103,yb4 k⟩] .id Tryz.func91 [.agg [(.int .i64),(.int .i64),(.int .i64),(.sl (.int .i64))],.one (.int .i64),.one (.int .i64),.one (.int .i64)] ((cdS .bK).p (cdZ.p (cdZ.p cdZ))) ⟨.tup [.h 0,.h 1],[]⟩ (cdZ.p cdB) (.tup [.sc,.sc]) (fun a=>jM k a.1 a.2.1 a.2.2.1 a.2.2.2) (by kernel_rfl) fun a=>by kernel_rfl
noncomputable def yb6 (k:Nat):Env:=iU (P:=Tryz.prog) tt [⟨91,yb5 k⟩]
theorem yb7 (k:Nat):bY (yb6 k):=fun g=>bh _ g
noncomputable def yb8:Code:=(Tryz.f92.body).getD .skip
noncomputable def yb9:Code:=((aH 0 yb8).getD 0 (0,.skip)).2
noncomputable def yba:Code:=((aH 0 yb9).getD 0 (0,.skip)).2
def ybb:List Nat:=[2,3,4,5,6,11,12,13]
def ybc:List (aM× Co):=[]
def ybd:Ex→List Nat
  |.exit j=>cond (Nat.beq j 2) [2,3,4,5,6,11,12] []
  |.ret=>[]
  |.normal=>[]
def ybe:Ex→List (aM× Co)
  |.exit j=>cond (Nat.beq j 2) [] []
  |.ret=>[]
  |.normal=>[]
def ybf (pv:(Int× Int× Int× Int× Int× Int× Int× List Int× Int× Int× Int× Int× Int× Int× Int× List Int× List Int)× (Int× List Int)):St:={au:=[(2,.r [] (.int .i64 pv.1.1)),(3,.r [] (.int .i64 pv.1.2.1)),(4,.r [] (.int .i64 pv.1.2.2.1)),(5,.ptr 0 0 0),(6,.ptr 1 0 0),(11,.own 2),(12,.r [] (.int .i64 pv.1.2.2.2.1)),(13,.r [] (.int .i64 pv.2.1))],heap:=[(0,.box [.r [] (.int .i64 pv.1.2.2.2.2.1),.r [] (.int .i64 pv.1.2.2.2.2.2.1),.r [] (.int .i64 pv.1.2.2.2.2.2.2.1),.r [] (.sl (.int .i64) pv.1.2.2.2.2.2.2.2.1)]),(1,.box [.r [] (.int .i64 pv.1.2.2.2.2.2.2.2.2.1),.r [] (.int .i64 pv.1.2.2.2.2.2.2.2.2.2.1),.r [] (.int .i64 pv.1.2.2.2.2.2.2.2.2.2.2.1),.r [] (.int .i64 pv.1.2.2.2.2.2.2.2.2.2.2.2.1),.r [] (.int .i64 pv.1.2.2.2.2.2.2.2.2.2.2.2.2.1),.r [] (.int .i64 pv.1.2.2.2.2.2.2.2.2.2.2.2.2.2.1),.r [] (.int .i64 pv.1.2.2.2.2.2.2.2.2.2.2.2.2.2.2.1),.r [] (.sl (.int .i64) pv.1.2.2.2.2.2.2.2.2.2.2.2.2.2.2.2.1),.r [] (.sl (.int .i64) pv.1.2.2.2.2.2.2.2.2.2.2.2.2.2.2.2.2)]),(2,.arr none (.int .i64) pv.2.2)],nid:=3,n:=52,gh:=[]}
def ybg (nf:NF):Option ((Int× Int× Int× Int× Int× Int× Int× List Int× Int× Int× Int× Int× Int× Int× Int× List Int× List Int)× (Int× List Int)):=match nf with
  |([.r [] (.int .i64 w0),.r [] (.int .i64 w1),.r [] (.int .i64 w2),.ptr 0 0 0,.ptr 1 0 0,.own 2,.r [] (.int .i64 w3),.r [] (.int .i64 w4)],[.box [.r [] (.int .i64 w5),.r [] (.int .i64 w6),.r [] (.int .i64 w7),.r [] (.sl (.int .i64) w8)],.box [.r [] (.int .i64 w9),.r [] (.int .i64 w10),.r [] (.int .i64 w11),.r [] (.int .i64 w12),.r [] (.int .i64 w13),.r [] (.int .i64 w14),.r [] (.int .i64 w15),.r [] (.sl (.int .i64) w16),.r [] (.sl (.int .i64) w17)],.arr none (.int .i64) w18],[])=>some ((w0,w1,w2,w3,w5,w6,w7,w8,w9,w10,w11,w12,w13,w14,w15,w16,w17),(w4,w18))
  |_=>none
theorem ybh (nf:NF) (v:(Int× Int× Int× Int× Int× Int× Int× List Int× Int× Int× Int× Int× Int× Int× Int× List Int× List Int)× (Int× List Int)) (h:ybg nf=some v):ak ybb 52 nf=ybf v:=by
  unfold ybg at h
  split at h
  · cases h;rfl
  · cases h
def ybi (p:Int× Int× Int× Int× Int× Int× Int× List Int× Int× Int× Int× Int× Int× Int× Int× List Int× List Int) (x:List Int):St:={au:=[(2,.r [] (.int .i64 p.1)),(3,.r [] (.int .i64 p.2.1)),(4,.r [] (.int .i64 p.2.2.1)),(5,.ptr 0 0 0),(6,.ptr 1 0 0),(11,.own 2),(12,.r [] (.int .i64 p.2.2.2.1))],heap:=[(0,.box [.r [] (.int .i64 p.2.2.2.2.1),.r [] (.int .i64 p.2.2.2.2.2.1),.r [] (.int .i64 p.2.2.2.2.2.2.1),.r [] (.sl (.int .i64) p.2.2.2.2.2.2.2.1)]),(1,.box [.r [] (.int .i64 p.2.2.2.2.2.2.2.2.1),.r [] (.int .i64 p.2.2.2.2.2.2.2.2.2.1),.r [] (.int .i64 p.2.2.2.2.2.2.2.2.2.2.1),.r [] (.int .i64 p.2.2.2.2.2.2.2.2.2.2.2.1),.r [] (.int .i64 p.2.2.2.2.2.2.2.2.2.2.2.2.1),.r [] (.int .i64 p.2.2.2.2.2.2.2.2.2.2.2.2.2.1),.r [] (.int .i64 p.2.2.2.2.2.2.2.2.2.2.2.2.2.2.1),.r [] (.sl (.int .i64) p.2.2.2.2.2.2.2.2.2.2.2.2.2.2.2.1),.r [] (.sl (.int .i64) p.2.2.2.2.2.2.2.2.2.2.2.2.2.2.2.2)]),(2,.arr none (.int .i64) x)],nid:=3,n:=52,gh:=[]}
def ybj:List Nat:=[2,3,4,5,6,11,12]
def ybk:List (aM× Co):=[]
def ybl:Ex→List Nat
  |.exit j=>cond (Nat.beq j 0) [11] []
  |.ret=>[]
  |.normal=>[]
def ybm:Ex→List (aM× Co)
  |.exit j=>cond (Nat.beq j 0) [] []
  |.ret=>[]
  |.normal=>[]
def ybn (pv:(Int× Int× Int× Int× Int× Int× List Int× Int× Int× Int× Int× Int× Int× Int× List Int× List Int)× (Int× List Int)):St:={au:=[(2,.r [] (.int .i64 pv.1.1)),(3,.r [] (.int .i64 pv.1.2.1)),(4,.r [] (.int .i64 pv.1.2.2.1)),(5,.ptr 0 0 0),(6,.ptr 1 0 0),(11,.own 2),(12,.r [] (.int .i64 pv.2.1))],heap:=[(0,.box [.r [] (.int .i64 pv.1.2.2.2.1),.r [] (.int .i64 pv.1.2.2.2.2.1),.r [] (.int .i64 pv.1.2.2.2.2.2.1),.r [] (.sl (.int .i64) pv.1.2.2.2.2.2.2.1)]),(1,.box [.r [] (.int .i64 pv.1.2.2.2.2.2.2.2.1),.r [] (.int .i64 pv.1.2.2.2.2.2.2.2.2.1),.r [] (.int .i64 pv.1.2.2.2.2.2.2.2.2.2.1),.r [] (.int .i64 pv.1.2.2.2.2.2.2.2.2.2.2.1),.r [] (.int .i64 pv.1.2.2.2.2.2.2.2.2.2.2.2.1),.r [] (.int .i64 pv.1.2.2.2.2.2.2.2.2.2.2.2.2.1),.r [] (.int .i64 pv.1.2.2.2.2.2.2.2.2.2.2.2.2.2.1),.r [] (.sl (.int .i64) pv.1.2.2.2.2.2.2.2.2.2.2.2.2.2.2.1),.r [] (.sl (.int .i64) pv.1.2.2.2.2.2.2.2.2.2.2.2.2.2.2.2)]),(2,.arr none (.int .i64) pv.2.2)],nid:=3,n:=52,gh:=[]}
def ybo (nf:NF):Option ((Int× Int× Int× Int× Int× Int× List Int× Int× Int× Int× Int× Int× Int× Int× List Int× List Int)× (Int× List Int)):=match nf with
  |([.r [] (.int .i64 w0),.r [] (.int .i64 w1),.r [] (.int .i64 w2),.ptr 0 0 0,.ptr 1 0 0,.own 2,.r [] (.int .i64 w3)],[.box [.r [] (.int .i64 w4),.r [] (.int .i64 w5),.r [] (.int .i64 w6),.r [] (.sl (.int .i64) w7)],.box [.r [] (.int .i64 w8),.r [] (.int .i64 w9),.r [] (.int .i64 w10),.r [] (.int .i64 w11),.r [] (.int .i64 w12),.r [] (.int .i64 w13),.r [] (.int .i64 w14),.r [] (.sl (.int .i64) w15),.r [] (.sl (.int .i64) w16)],.arr none (.int .i64) w17],[])=>some ((w0,w1,w2,w4,w5,w6,w7,w8,w9,w10,w11,w12,w13,w14,w15,w16),(w3,w17))
  |_=>none
theorem ybp (nf:NF) (v:(Int× Int× Int× Int× Int× Int× List Int× Int× Int× Int× Int× Int× Int× Int× List Int× List Int)× (Int× List Int)) (h:ybo nf=some v):ak ybj 52 nf=ybn v:=by
  unfold ybo at h
  split at h
  · cases h;rfl
  · cases h
def ybq (p:Int× Int× Int× Int× Int× Int× List Int× Int× Int× Int× Int× Int× Int× Int× List Int× List Int) (x:List Int):St:={au:=[(11,.own 0)],heap:=[(0,.arr none (.int .i64) x)],nid:=1,n:=52,gh:=[]}
def ybr (ρ:Type) (k:Nat):Nat→Ev ρ→Ev ρ:=fun id f=>cond (Nat.beq id 0) (aT ybj ybk (fun n nf=>cond (Nat.beq n 52) (ybo nf) none) fun pv K=>iter (fun v next=>ey k pv.1 v next (fun x=>K (.exit 0) (ybq pv.1 x))) k pv.2) ((fun id f=>cond (Nat.beq id 2) (aT ybb ybc (fun n nf=>cond (Nat.beq n 52) (ybg nf) none) fun pv K=>iter (fun v next=>eu k pv.1 v next (fun x=>K (.exit 2) (ybi pv.1 x))) k pv.2) ((fun _ _ _ _=>none) id f)) id f)
theorem ybs {ρ:Type} (k:Nat) (p:Int× Int× Int× Int× Int× Int× Int× List Int× Int× Int× Int× Int× Int× Int× Int× List Int× List Int) (v:Int× List Int) (K K1:Ex→St→Option ρ):ev (yb6 k) (ybr ρ k) 2 yba (ybf (p,v)) (fun e st'=>match e with
    |.normal=>(aS ybb ybc st').bind fun nf=>K1 .normal (ak ybb st'.n nf)
    |e=>(aS (ybd e) (ybe e) st').bind fun nf=>K e (ak (ybd e) st'.n nf))=eu k p v (fun v'=>K1 .normal (ybf (p,v'))) (fun x=>K (.exit 2) (ybi p x)):=by kernel_rfl
theorem ybt {ρ:Type} (k:Nat):Sound Tryz.prog (.loop yba) (ybr ρ k 2 fun st K=>ev (yb6 k) (ybr ρ k) 2 yba st K):=
  aX (aE (yb7 k) yba 2 (av (by kernel_rfl))) ybd ybe k (g:=fun p v next K=>eu k p v next (fun x=>K (.exit 2) (ybi p x))) (bp ybh) (fun p v K K1=>ybs k p v K K1)
theorem ybu {ρ:Type} (k:Nat) (p:Int× Int× Int× Int× Int× Int× List Int× Int× Int× Int× Int× Int× Int× Int× List Int× List Int) (v:Int× List Int) (K K1:Ex→St→Option ρ):ev (yb6 k) (ybr ρ k) 0 yb9 (ybn (p,v)) (fun e st'=>match e with
    |.normal=>(aS ybj ybk st').bind fun nf=>K1 .normal (ak ybj st'.n nf)
    |e=>(aS (ybl e) (ybm e) st').bind fun nf=>K e (ak (ybl e) st'.n nf))=ey k p v (fun v'=>K1 .normal (ybn (p,v'))) (fun x=>K (.exit 0) (ybq p x)):=by kernel_rfl
theorem ybv {ρ:Type} (k:Nat):Sound Tryz.prog (.loop yb9) (ybr ρ k 0 fun st K=>ev (yb6 k) (ybr ρ k) 0 yb9 st K):=
  aX (aE (yb7 k) yb9 0 (aF (l:=[(2,yba)]) (by kernel_rfl) ⟨ybt k,trivial⟩)) ybl ybm k (g:=fun p v next K=>ey k p v next (fun x=>K (.exit 0) (ybq p x))) (bp ybp) (fun p v K K1=>ybu k p v K K1)
def ybw (k:Nat):O Tryz.prog 92:=⟨oP [.agg [(.int .i64),(.int .i64),(.int .i64),(.sl (.int .i64))],.agg [(.int .i64),(.int .i64),(.int .i64),(.int .i64),(.int .i64),(.int .i64),(.int .i64),(.sl (.int .i64)),(.sl (.int .i64))],.one (.int .i64),.one (.int .i64),.one (.int .i64)] ((cdS .bK).p ((cdS .aC).p (cdZ.p (cdZ.p cdZ)))) ⟨.own 0,[.arr none (.int .i64) 0]⟩ (cdL (.int .i64)) fun a=>gN k a.1 a.2.1 a.2.2.1 a.2.2.2.1 a.2.2.2.2,okP (LP:=ybr _ k) (yb7 k) Tryz.func92 (by kernel_rfl) (by kernel_rfl) (by kernel_rfl) (aF (l:=[(0,yb9)]) (by kernel_rfl) ⟨ybv k,trivial⟩) (.own (.int .i64)) fun a=>by kernel_rfl⟩
noncomputable def ybx (k:Nat):Env:=iU (P:=Tryz.prog) tt [⟨66,yw k⟩,⟨88,yb3 k⟩,⟨89,yaj k⟩,⟨90,yaz k⟩,⟨91,yb5 k⟩,⟨92,ybw k⟩]
theorem yby (k:Nat):bY (ybx k):=fun g=>bh _ g
noncomputable def ybz:Code:=(Tryz.f70.body).getD .skip
noncomputable def yc0:Code:=((aH 0 ybz).getD 0 (0,.skip)).2
noncomputable def yc1:Code:=((aH 1 yc0).getD 0 (0,.skip)).2
noncomputable def yc2:Code:=((aH 3 yc1).getD 0 (0,.skip)).2
noncomputable def yc3:Code:=((aH 0 ybz).getD 1 (0,.skip)).2
noncomputable def yc4:Code:=((aH 0 ybz).getD 2 (0,.skip)).2
def yc5:List Nat:=[2,3,4,5,6,11,13,14,15,16]
def yc6:List (aM× Co):=[]
def yc7:Ex→List Nat
  |.exit j=>cond (Nat.beq j 5) [2,3,4,5,6,11,13,14,15] []
  |.ret=>[]
  |.normal=>[]
def yc8:Ex→List (aM× Co)
  |.exit j=>cond (Nat.beq j 5) [] []
  |.ret=>[]
  |.normal=>[]
def yc9 (pv:(Int× Int× Int× Int× Int× Int× Int× Int× List Int× Int× Int× Int× Int× Int× Int× Int× List Int× List Int× Int× Int× Int)× (Int× Int)):St:={au:=[(2,.r [] (.int .i64 pv.1.1)),(3,.r [] (.int .i64 pv.1.2.1)),(4,.r [] (.int .i64 pv.1.2.2.1)),(5,.ptr 0 0 0),(6,.ptr 1 0 0),(11,.ptr 2 0 0),(13,.r [] (.int .i64 pv.2.1)),(14,.r [] (.int .i64 pv.1.2.2.2.1)),(15,.r [] (.int .i64 pv.1.2.2.2.2.1)),(16,.r [] (.int .i64 pv.2.2))],heap:=[(0,.box [.r [] (.int .i64 pv.1.2.2.2.2.2.1),.r [] (.int .i64 pv.1.2.2.2.2.2.2.1),.r [] (.int .i64 pv.1.2.2.2.2.2.2.2.1),.r [] (.sl (.int .i64) pv.1.2.2.2.2.2.2.2.2.1)]),(1,.box [.r [] (.int .i64 pv.1.2.2.2.2.2.2.2.2.2.1),.r [] (.int .i64 pv.1.2.2.2.2.2.2.2.2.2.2.1),.r [] (.int .i64 pv.1.2.2.2.2.2.2.2.2.2.2.2.1),.r [] (.int .i64 pv.1.2.2.2.2.2.2.2.2.2.2.2.2.1),.r [] (.int .i64 pv.1.2.2.2.2.2.2.2.2.2.2.2.2.2.1),.r [] (.int .i64 pv.1.2.2.2.2.2.2.2.2.2.2.2.2.2.2.1),.r [] (.int .i64 pv.1.2.2.2.2.2.2.2.2.2.2.2.2.2.2.2.1),.r [] (.sl (.int .i64) pv.1.2.2.2.2.2.2.2.2.2.2.2.2.2.2.2.2.1),.r [] (.sl (.int .i64) pv.1.2.2.2.2.2.2.2.2.2.2.2.2.2.2.2.2.2.1)]),(2,.box [.r [] (.int .i64 pv.1.2.2.2.2.2.2.2.2.2.2.2.2.2.2.2.2.2.2.1),.r [] (.int .i64 pv.1.2.2.2.2.2.2.2.2.2.2.2.2.2.2.2.2.2.2.2.1),.r [] (.int .i64 pv.1.2.2.2.2.2.2.2.2.2.2.2.2.2.2.2.2.2.2.2.2)])],nid:=3,n:=228,gh:=[]}
def yca (nf:NF):Option ((Int× Int× Int× Int× Int× Int× Int× Int× List Int× Int× Int× Int× Int× Int× Int× Int× List Int× List Int× Int× Int× Int)× (Int× Int)):=match nf with
  |([.r [] (.int .i64 w0),.r [] (.int .i64 w1),.r [] (.int .i64 w2),.ptr 0 0 0,.ptr 1 0 0,.ptr 2 0 0,.r [] (.int .i64 w3),.r [] (.int .i64 w4),.r [] (.int .i64 w5),.r [] (.int .i64 w6)],[.box [.r [] (.int .i64 w7),.r [] (.int .i64 w8),.r [] (.int .i64 w9),.r [] (.sl (.int .i64) w10)],.box [.r [] (.int .i64 w11),.r [] (.int .i64 w12),.r [] (.int .i64 w13),.r [] (.int .i64 w14),.r [] (.int .i64 w15),.r [] (.int .i64 w16),.r [] (.int .i64 w17),.r [] (.sl (.int .i64) w18),.r [] (.sl (.int .i64) w19)],.box [.r [] (.int .i64 w20),.r [] (.int .i64 w21),.r [] (.int .i64 w22)]],[])=>some ((w0,w1,w2,w4,w5,w7,w8,w9,w10,w11,w12,w13,w14,w15,w16,w17,w18,w19,w20,w21,w22),(w3,w6))
  |_=>none
theorem ycb (nf:NF) (v:(Int× Int× Int× Int× Int× Int× Int× Int× List Int× Int× Int× Int× Int× Int× Int× Int× List Int× List Int× Int× Int× Int)× (Int× Int)) (h:yca nf=some v):ak yc5 228 nf=yc9 v:=by
  unfold yca at h
  split at h
  · cases h;rfl
  · cases h
def ycc (p:Int× Int× Int× Int× Int× Int× Int× Int× List Int× Int× Int× Int× Int× Int× Int× Int× List Int× List Int× Int× Int× Int) (x:Int):St:={au:=[(2,.r [] (.int .i64 p.1)),(3,.r [] (.int .i64 p.2.1)),(4,.r [] (.int .i64 p.2.2.1)),(5,.ptr 0 0 0),(6,.ptr 1 0 0),(11,.ptr 2 0 0),(13,.r [] (.int .i64 x)),(14,.r [] (.int .i64 p.2.2.2.1)),(15,.r [] (.int .i64 p.2.2.2.2.1))],heap:=[(0,.box [.r [] (.int .i64 p.2.2.2.2.2.1),.r [] (.int .i64 p.2.2.2.2.2.2.1),.r [] (.int .i64 p.2.2.2.2.2.2.2.1),.r [] (.sl (.int .i64) p.2.2.2.2.2.2.2.2.1)]),(1,.box [.r [] (.int .i64 p.2.2.2.2.2.2.2.2.2.1),.r [] (.int .i64 p.2.2.2.2.2.2.2.2.2.2.1),.r [] (.int .i64 p.2.2.2.2.2.2.2.2.2.2.2.1),.r [] (.int .i64 p.2.2.2.2.2.2.2.2.2.2.2.2.1),.r [] (.int .i64 p.2.2.2.2.2.2.2.2.2.2.2.2.2.1),.r [] (.int .i64 p.2.2.2.2.2.2.2.2.2.2.2.2.2.2.1),.r [] (.int .i64 p.2.2.2.2.2.2.2.2.2.2.2.2.2.2.2.1),.r [] (.sl (.int .i64) p.2.2.2.2.2.2.2.2.2.2.2.2.2.2.2.2.1),.r [] (.sl (.int .i64) p.2.2.2.2.2.2.2.2.2.2.2.2.2.2.2.2.2.1)]),(2,.box [.r [] (.int .i64 p.2.2.2.2.2.2.2.2.2.2.2.2.2.2.2.2.2.2.1),.r [] (.int .i64 p.2.2.2.2.2.2.2.2.2.2.2.2.2.2.2.2.2.2.2.1),.r [] (.int .i64 p.2.2.2.2.2.2.2.2.2.2.2.2.2.2.2.2.2.2.2.2)])],nid:=3,n:=228,gh:=[]}
def ycd:List Nat:=[2,3,4,5,6,11,13,14,15]
def yce:List (aM× Co):=[]
def ycf:Ex→List Nat
  |.exit j=>cond (Nat.beq j 3) [2,3,4,5,6,11,13,14] []
  |.ret=>[]
  |.normal=>[]
def ycg:Ex→List (aM× Co)
  |.exit j=>cond (Nat.beq j 3) [] []
  |.ret=>[]
  |.normal=>[]
def ych (pv:(Int× Int× Int× Int× Int× Int× Int× List Int× Int× Int× Int× Int× Int× Int× Int× List Int× List Int× Int× Int× Int)× (Int× Int)):St:={au:=[(2,.r [] (.int .i64 pv.1.1)),(3,.r [] (.int .i64 pv.1.2.1)),(4,.r [] (.int .i64 pv.1.2.2.1)),(5,.ptr 0 0 0),(6,.ptr 1 0 0),(11,.ptr 2 0 0),(13,.r [] (.int .i64 pv.2.1)),(14,.r [] (.int .i64 pv.1.2.2.2.1)),(15,.r [] (.int .i64 pv.2.2))],heap:=[(0,.box [.r [] (.int .i64 pv.1.2.2.2.2.1),.r [] (.int .i64 pv.1.2.2.2.2.2.1),.r [] (.int .i64 pv.1.2.2.2.2.2.2.1),.r [] (.sl (.int .i64) pv.1.2.2.2.2.2.2.2.1)]),(1,.box [.r [] (.int .i64 pv.1.2.2.2.2.2.2.2.2.1),.r [] (.int .i64 pv.1.2.2.2.2.2.2.2.2.2.1),.r [] (.int .i64 pv.1.2.2.2.2.2.2.2.2.2.2.1),.r [] (.int .i64 pv.1.2.2.2.2.2.2.2.2.2.2.2.1),.r [] (.int .i64 pv.1.2.2.2.2.2.2.2.2.2.2.2.2.1),.r [] (.int .i64 pv.1.2.2.2.2.2.2.2.2.2.2.2.2.2.1),.r [] (.int .i64 pv.1.2.2.2.2.2.2.2.2.2.2.2.2.2.2.1),.r [] (.sl (.int .i64) pv.1.2.2.2.2.2.2.2.2.2.2.2.2.2.2.2.1),.r [] (.sl (.int .i64) pv.1.2.2.2.2.2.2.2.2.2.2.2.2.2.2.2.2.1)]),(2,.box [.r [] (.int .i64 pv.1.2.2.2.2.2.2.2.2.2.2.2.2.2.2.2.2.2.1),.r [] (.int .i64 pv.1.2.2.2.2.2.2.2.2.2.2.2.2.2.2.2.2.2.2.1),.r [] (.int .i64 pv.1.2.2.2.2.2.2.2.2.2.2.2.2.2.2.2.2.2.2.2)])],nid:=3,n:=228,gh:=[]}
def yci (nf:NF):Option ((Int× Int× Int× Int× Int× Int× Int× List Int× Int× Int× Int× Int× Int× Int× Int× List Int× List Int× Int× Int× Int)× (Int× Int)):=match nf with
  |([.r [] (.int .i64 w0),.r [] (.int .i64 w1),.r [] (.int .i64 w2),.ptr 0 0 0,.ptr 1 0 0,.ptr 2 0 0,.r [] (.int .i64 w3),.r [] (.int .i64 w4),.r [] (.int .i64 w5)],[.box [.r [] (.int .i64 w6),.r [] (.int .i64 w7),.r [] (.int .i64 w8),.r [] (.sl (.int .i64) w9)],.box [.r [] (.int .i64 w10),.r [] (.int .i64 w11),.r [] (.int .i64 w12),.r [] (.int .i64 w13),.r [] (.int .i64 w14),.r [] (.int .i64 w15),.r [] (.int .i64 w16),.r [] (.sl (.int .i64) w17),.r [] (.sl (.int .i64) w18)],.box [.r [] (.int .i64 w19),.r [] (.int .i64 w20),.r [] (.int .i64 w21)]],[])=>some ((w0,w1,w2,w4,w6,w7,w8,w9,w10,w11,w12,w13,w14,w15,w16,w17,w18,w19,w20,w21),(w3,w5))
  |_=>none
theorem ycj (nf:NF) (v:(Int× Int× Int× Int× Int× Int× Int× List Int× Int× Int× Int× Int× Int× Int× Int× List Int× List Int× Int× Int× Int)× (Int× Int)) (h:yci nf=some v):ak ycd 228 nf=ych v:=by
  unfold yci at h
  split at h
  · cases h;rfl
  · cases h
def yck (p:Int× Int× Int× Int× Int× Int× Int× List Int× Int× Int× Int× Int× Int× Int× Int× List Int× List Int× Int× Int× Int) (x:Int):St:={au:=[(2,.r [] (.int .i64 p.1)),(3,.r [] (.int .i64 p.2.1)),(4,.r [] (.int .i64 p.2.2.1)),(5,.ptr 0 0 0),(6,.ptr 1 0 0),(11,.ptr 2 0 0),(13,.r [] (.int .i64 x)),(14,.r [] (.int .i64 p.2.2.2.1))],heap:=[(0,.box [.r [] (.int .i64 p.2.2.2.2.1),.r [] (.int .i64 p.2.2.2.2.2.1),.r [] (.int .i64 p.2.2.2.2.2.2.1),.r [] (.sl (.int .i64) p.2.2.2.2.2.2.2.1)]),(1,.box [.r [] (.int .i64 p.2.2.2.2.2.2.2.2.1),.r [] (.int .i64 p.2.2.2.2.2.2.2.2.2.1),.r [] (.int .i64 p.2.2.2.2.2.2.2.2.2.2.1),.r [] (.int .i64 p.2.2.2.2.2.2.2.2.2.2.2.1),.r [] (.int .i64 p.2.2.2.2.2.2.2.2.2.2.2.2.1),.r [] (.int .i64 p.2.2.2.2.2.2.2.2.2.2.2.2.2.1),.r [] (.int .i64 p.2.2.2.2.2.2.2.2.2.2.2.2.2.2.1),.r [] (.sl (.int .i64) p.2.2.2.2.2.2.2.2.2.2.2.2.2.2.2.1),.r [] (.sl (.int .i64) p.2.2.2.2.2.2.2.2.2.2.2.2.2.2.2.2.1)]),(2,.box [.r [] (.int .i64 p.2.2.2.2.2.2.2.2.2.2.2.2.2.2.2.2.2.1),.r [] (.int .i64 p.2.2.2.2.2.2.2.2.2.2.2.2.2.2.2.2.2.2.1),.r [] (.int .i64 p.2.2.2.2.2.2.2.2.2.2.2.2.2.2.2.2.2.2.2)])],nid:=3,n:=228,gh:=[]}
def ycl:List Nat:=[2,3,4,5,6,11,13,14]
def ycm:List (aM× Co):=[]
def ycn:Ex→List Nat
  |.exit j=>cond (Nat.beq j 1) [4,6,13] []
  |.ret=>[]
  |.normal=>[]
def yco:Ex→List (aM× Co)
  |.exit j=>cond (Nat.beq j 1) [] []
  |.ret=>[]
  |.normal=>[]
def ycp (pv:(Int× Int× Int× Int× Int× Int× List Int× Int× Int× Int× Int× Int× Int× Int× List Int× List Int× Int× Int× Int)× (Int× Int)):St:={au:=[(2,.r [] (.int .i64 pv.1.1)),(3,.r [] (.int .i64 pv.1.2.1)),(4,.r [] (.int .i64 pv.1.2.2.1)),(5,.ptr 0 0 0),(6,.ptr 1 0 0),(11,.ptr 2 0 0),(13,.r [] (.int .i64 pv.2.1)),(14,.r [] (.int .i64 pv.2.2))],heap:=[(0,.box [.r [] (.int .i64 pv.1.2.2.2.1),.r [] (.int .i64 pv.1.2.2.2.2.1),.r [] (.int .i64 pv.1.2.2.2.2.2.1),.r [] (.sl (.int .i64) pv.1.2.2.2.2.2.2.1)]),(1,.box [.r [] (.int .i64 pv.1.2.2.2.2.2.2.2.1),.r [] (.int .i64 pv.1.2.2.2.2.2.2.2.2.1),.r [] (.int .i64 pv.1.2.2.2.2.2.2.2.2.2.1),.r [] (.int .i64 pv.1.2.2.2.2.2.2.2.2.2.2.1),.r [] (.int .i64 pv.1.2.2.2.2.2.2.2.2.2.2.2.1),.r [] (.int .i64 pv.1.2.2.2.2.2.2.2.2.2.2.2.2.1),.r [] (.int .i64 pv.1.2.2.2.2.2.2.2.2.2.2.2.2.2.1),.r [] (.sl (.int .i64) pv.1.2.2.2.2.2.2.2.2.2.2.2.2.2.2.1),.r [] (.sl (.int .i64) pv.1.2.2.2.2.2.2.2.2.2.2.2.2.2.2.2.1)]),(2,.box [.r [] (.int .i64 pv.1.2.2.2.2.2.2.2.2.2.2.2.2.2.2.2.2.1),.r [] (.int .i64 pv.1.2.2.2.2.2.2.2.2.2.2.2.2.2.2.2.2.2.1),.r [] (.int .i64 pv.1.2.2.2.2.2.2.2.2.2.2.2.2.2.2.2.2.2.2)])],nid:=3,n:=228,gh:=[]}
def ycq (nf:NF):Option ((Int× Int× Int× Int× Int× Int× List Int× Int× Int× Int× Int× Int× Int× Int× List Int× List Int× Int× Int× Int)× (Int× Int)):=match nf with
  |([.r [] (.int .i64 w0),.r [] (.int .i64 w1),.r [] (.int .i64 w2),.ptr 0 0 0,.ptr 1 0 0,.ptr 2 0 0,.r [] (.int .i64 w3),.r [] (.int .i64 w4)],[.box [.r [] (.int .i64 w5),.r [] (.int .i64 w6),.r [] (.int .i64 w7),.r [] (.sl (.int .i64) w8)],.box [.r [] (.int .i64 w9),.r [] (.int .i64 w10),.r [] (.int .i64 w11),.r [] (.int .i64 w12),.r [] (.int .i64 w13),.r [] (.int .i64 w14),.r [] (.int .i64 w15),.r [] (.sl (.int .i64) w16),.r [] (.sl (.int .i64) w17)],.box [.r [] (.int .i64 w18),.r [] (.int .i64 w19),.r [] (.int .i64 w20)]],[])=>some ((w0,w1,w2,w5,w6,w7,w8,w9,w10,w11,w12,w13,w14,w15,w16,w17,w18,w19,w20),(w3,w4))
  |_=>none
theorem ycr (nf:NF) (v:(Int× Int× Int× Int× Int× Int× List Int× Int× Int× Int× Int× Int× Int× Int× List Int× List Int× Int× Int× Int)× (Int× Int)) (h:ycq nf=some v):ak ycl 228 nf=ycp v:=by
  unfold ycq at h
  split at h
  · cases h;rfl
  · cases h
def ycs (p:Int× Int× Int× Int× Int× Int× List Int× Int× Int× Int× Int× Int× Int× Int× List Int× List Int× Int× Int× Int) (x:Int):St:={au:=[(4,.r [] (.int .i64 p.2.2.1)),(6,.ptr 0 0 0),(13,.r [] (.int .i64 x))],heap:=[(0,.box [.r [] (.int .i64 p.2.2.2.2.2.2.2.1),.r [] (.int .i64 p.2.2.2.2.2.2.2.2.1),.r [] (.int .i64 p.2.2.2.2.2.2.2.2.2.1),.r [] (.int .i64 p.2.2.2.2.2.2.2.2.2.2.1),.r [] (.int .i64 p.2.2.2.2.2.2.2.2.2.2.2.1),.r [] (.int .i64 p.2.2.2.2.2.2.2.2.2.2.2.2.1),.r [] (.int .i64 p.2.2.2.2.2.2.2.2.2.2.2.2.2.1),.r [] (.sl (.int .i64) p.2.2.2.2.2.2.2.2.2.2.2.2.2.2.1),.r [] (.sl (.int .i64) p.2.2.2.2.2.2.2.2.2.2.2.2.2.2.2.1)])],nid:=1,n:=228,gh:=[]}
def yct:List Nat:=[19,20,21]
def ycu:List (aM× Co):=[]
def ycv:Ex→List Nat
  |.exit j=>cond (Nat.beq j 7) [20] []
  |.ret=>[]
  |.normal=>[]
def ycw:Ex→List (aM× Co)
  |.exit j=>cond (Nat.beq j 7) [] []
  |.ret=>[]
  |.normal=>[]
def ycx (pv:(List Int)× (Int× Int)):St:={au:=[(19,.own 0),(20,.r [] (.int .i64 pv.2.1)),(21,.r [] (.int .i64 pv.2.2))],heap:=[(0,.arr none (.int .i64) pv.1)],nid:=1,n:=228,gh:=[]}
def ycy (nf:NF):Option ((List Int)× (Int× Int)):=match nf with
  |([.own 0,.r [] (.int .i64 w0),.r [] (.int .i64 w1)],[.arr none (.int .i64) w2],[])=>some (w2,(w0,w1))
  |_=>none
theorem ycz (nf:NF) (v:(List Int)× (Int× Int)) (h:ycy nf=some v):ak yct 228 nf=ycx v:=by
  unfold ycy at h
  split at h
  · cases h;rfl
  · cases h
def yd0 (p:List Int) (x:Int):St:={au:=[(20,.r [] (.int .i64 x))],heap:=[],nid:=0,n:=228,gh:=[]}
def yd1:List Nat:=[22,23,24]
def yd2:List (aM× Co):=[]
def yd3:Ex→List Nat
  |.exit j=>cond (Nat.beq j 9) [22,23] []
  |.ret=>[]
  |.normal=>[]
def yd4:Ex→List (aM× Co)
  |.exit j=>cond (Nat.beq j 9) [] []
  |.ret=>[]
  |.normal=>[]
def yd5 (pv:(List Int)× (Int× Int)):St:={au:=[(22,.own 0),(23,.r [] (.int .i64 pv.2.1)),(24,.r [] (.int .i64 pv.2.2))],heap:=[(0,.arr none (.int .i64) pv.1)],nid:=1,n:=228,gh:=[]}
def yd6 (nf:NF):Option ((List Int)× (Int× Int)):=match nf with
  |([.own 0,.r [] (.int .i64 w0),.r [] (.int .i64 w1)],[.arr none (.int .i64) w2],[])=>some (w2,(w0,w1))
  |_=>none
theorem yd7 (nf:NF) (v:(List Int)× (Int× Int)) (h:yd6 nf=some v):ak yd1 228 nf=yd5 v:=by
  unfold yd6 at h
  split at h
  · cases h;rfl
  · cases h
def yd8 (p:List Int) (x:Int):St:={au:=[(22,.own 0),(23,.r [] (.int .i64 x))],heap:=[(0,.arr none (.int .i64) p)],nid:=1,n:=228,gh:=[]}
def yd9 (ρ:Type) (k:Nat):Nat→Ev ρ→Ev ρ:=fun id f=>cond (Nat.beq id 9) (aT yd1 yd2 (fun n nf=>cond (Nat.beq n 228) (yd6 nf) none) fun pv K=>iter (fun v next=>eD k pv.1 v next (fun x=>K (.exit 9) (yd8 pv.1 x))) k pv.2) ((fun id f=>cond (Nat.beq id 7) (aT yct ycu (fun n nf=>cond (Nat.beq n 228) (ycy nf) none) fun pv K=>iter (fun v next=>eC k pv.1 v next (fun x=>K (.exit 7) (yd0 pv.1 x))) k pv.2) ((fun id f=>cond (Nat.beq id 1) (aT ycl ycm (fun n nf=>cond (Nat.beq n 228) (ycq nf) none) fun pv K=>iter (fun v next=>eB k pv.1 v next (fun x=>K (.exit 1) (ycs pv.1 x))) k pv.2) ((fun id f=>cond (Nat.beq id 3) (aT ycd yce (fun n nf=>cond (Nat.beq n 228) (yci nf) none) fun pv K=>iter (fun v next=>eA k pv.1 v next (fun x=>K (.exit 3) (yck pv.1 x))) k pv.2) ((fun id f=>cond (Nat.beq id 5) (aT yc5 yc6 (fun n nf=>cond (Nat.beq n 228) (yca nf) none) fun pv K=>iter (fun v next=>ez k pv.1 v next (fun x=>K (.exit 5) (ycc pv.1 x))) k pv.2) ((fun _ _ _ _=>none) id f)) id f)) id f)) id f)) id f)
theorem yda {ρ:Type} (k:Nat) (p:Int× Int× Int× Int× Int× Int× Int× Int× List Int× Int× Int× Int× Int× Int× Int× Int× List Int× List Int× Int× Int× Int) (v:Int× Int) (K K1:Ex→St→Option ρ):ev (ybx k) (yd9 ρ k) 5 yc2 (yc9 (p,v)) (fun e st'=>match e with
    |.normal=>(aS yc5 yc6 st').bind fun nf=>K1 .normal (ak yc5 st'.n nf)
    |e=>(aS (yc7 e) (yc8 e) st').bind fun nf=>K e (ak (yc7 e) st'.n nf))=ez k p v (fun v'=>K1 .normal (yc9 (p,v'))) (fun x=>K (.exit 5) (ycc p x)):=by kernel_rfl
theorem ydb {ρ:Type} (k:Nat):Sound Tryz.prog (.loop yc2) (yd9 ρ k 5 fun st K=>ev (ybx k) (yd9 ρ k) 5 yc2 st K):=
  aX (aE (yby k) yc2 5 (av (by kernel_rfl))) yc7 yc8 k (g:=fun p v next K=>ez k p v next (fun x=>K (.exit 5) (ycc p x))) (bp ycb) (fun p v K K1=>yda k p v K K1)
theorem ydc {ρ:Type} (k:Nat) (p:Int× Int× Int× Int× Int× Int× Int× List Int× Int× Int× Int× Int× Int× Int× Int× List Int× List Int× Int× Int× Int) (v:Int× Int) (K K1:Ex→St→Option ρ):ev (ybx k) (yd9 ρ k) 3 yc1 (ych (p,v)) (fun e st'=>match e with
    |.normal=>(aS ycd yce st').bind fun nf=>K1 .normal (ak ycd st'.n nf)
    |e=>(aS (ycf e) (ycg e) st').bind fun nf=>K e (ak (ycf e) st'.n nf))=eA k p v (fun v'=>K1 .normal (ych (p,v'))) (fun x=>K (.exit 3) (yck p x)):=by kernel_rfl
theorem ydd {ρ:Type} (k:Nat):Sound Tryz.prog (.loop yc1) (yd9 ρ k 3 fun st K=>ev (ybx k) (yd9 ρ k) 3 yc1 st K):=
  aX (aE (yby k) yc1 3 (aF (l:=[(5,yc2)]) (by kernel_rfl) ⟨ydb k,trivial⟩)) ycf ycg k (g:=fun p v next K=>eA k p v next (fun x=>K (.exit 3) (yck p x))) (bp ycj) (fun p v K K1=>ydc k p v K K1)
theorem yde {ρ:Type} (k:Nat) (p:Int× Int× Int× Int× Int× Int× List Int× Int× Int× Int× Int× Int× Int× Int× List Int× List Int× Int× Int× Int) (v:Int× Int) (K K1:Ex→St→Option ρ):ev (ybx k) (yd9 ρ k) 1 yc0 (ycp (p,v)) (fun e st'=>match e with
    |.normal=>(aS ycl ycm st').bind fun nf=>K1 .normal (ak ycl st'.n nf)
    |e=>(aS (ycn e) (yco e) st').bind fun nf=>K e (ak (ycn e) st'.n nf))=eB k p v (fun v'=>K1 .normal (ycp (p,v'))) (fun x=>K (.exit 1) (ycs p x)):=by kernel_rfl
theorem ydf {ρ:Type} (k:Nat):Sound Tryz.prog (.loop yc0) (yd9 ρ k 1 fun st K=>ev (ybx k) (yd9 ρ k) 1 yc0 st K):=
  aX (aE (yby k) yc0 1 (aF (l:=[(3,yc1)]) (by kernel_rfl) ⟨ydd k,trivial⟩)) ycn yco k (g:=fun p v next K=>eB k p v next (fun x=>K (.exit 1) (ycs p x))) (bp ycr) (fun p v K K1=>yde k p v K K1)
theorem ydg {ρ:Type} (k:Nat) (p:List Int) (v:Int× Int) (K K1:Ex→St→Option ρ):ev (ybx k) (yd9 ρ k) 7 yc3 (ycx (p,v)) (fun e st'=>match e with
    |.normal=>(aS yct ycu st').bind fun nf=>K1 .normal (ak yct st'.n nf)
    |e=>(aS (ycv e) (ycw e) st').bind fun nf=>K e (ak (ycv e) st'.n nf))=eC k p v (fun v'=>K1 .normal (ycx (p,v'))) (fun x=>K (.exit 7) (yd0 p x)):=by kernel_rfl
theorem ydh {ρ:Type} (k:Nat):Sound Tryz.prog (.loop yc3) (yd9 ρ k 7 fun st K=>ev (ybx k) (yd9 ρ k) 7 yc3 st K):=
  aX (aE (yby k) yc3 7 (av (by kernel_rfl))) ycv ycw k (g:=fun p v next K=>eC k p v next (fun x=>K (.exit 7) (yd0 p x))) (bp ycz) (fun p v K K1=>ydg k p v K K1)
theorem ydi {ρ:Type} (k:Nat) (p:List Int) (v:Int× Int) (K K1:Ex→St→Option ρ):ev (ybx k) (yd9 ρ k) 9 yc4 (yd5 (p,v)) (fun e st'=>match e with
    |.normal=>(aS yd1 yd2 st').bind fun nf=>K1 .normal (ak yd1 st'.n nf)
    |e=>(aS (yd3 e) (yd4 e) st').bind fun nf=>K e (ak (yd3 e) st'.n nf))=eD k p v (fun v'=>K1 .normal (yd5 (p,v'))) (fun x=>K (.exit 9) (yd8 p x)):=by kernel_rfl
theorem ydj {ρ:Type} (k:Nat):Sound Tryz.prog (.loop yc4) (yd9 ρ k 9 fun st K=>ev (ybx k) (yd9 ρ k) 9 yc4 st K):=
  aX (aE (yby k) yc4 9 (av (by kernel_rfl))) yd3 yd4 k (g:=fun p v next K=>eD k p v next (fun x=>K (.exit 9) (yd8 p x))) (bp yd7) (fun p v K K1=>ydi k p v K K1)
def ydk (k:Nat):O Tryz.prog 70:=⟨oP [.agg [(.int .i64),(.int .i64),(.int .i64),(.sl (.int .i64))],.agg [(.int .i64),(.int .i64),(.int .i64),(.int .i64),(.int .i64),(.int .i64),(.int .i64),(.sl (.int .i64)),(.sl (.int .i64))],.one (.int .i64),.one (.int .i64),.one (.int .i64)] ((cdS .bK).p ((cdS .aC).p (cdZ.p (cdZ.p cdZ)))) ⟨.h 0,[]⟩ cdZ fun a=>mY k a.1 a.2.1 a.2.2.1 a.2.2.2.1 a.2.2.2.2,okP (LP:=yd9 _ k) (yby k) Tryz.func70 (by kernel_rfl) (by kernel_rfl) (by kernel_rfl) (aF (l:=[(1,yc0),(7,yc3),(9,yc4)]) (by kernel_rfl) ⟨ydf k,⟨ydh k,⟨ydj k,trivial⟩⟩⟩) (.sc) fun a=>by kernel_rfl⟩
noncomputable def ydl (k:Nat):Env:=iU (P:=Tryz.prog) tt [⟨36,y9y k⟩,⟨69,y2v k⟩,⟨70,ydk k⟩]
theorem ydm (k:Nat):bY (ydl k):=fun g=>bh _ g
noncomputable def ydn:Code:=(Tryz.f38.body).getD .skip
noncomputable def ydo:Code:=((aH 0 ydn).getD 0 (0,.skip)).2
noncomputable def ydp:Code:=((aH 0 ydo).getD 0 (0,.skip)).2
noncomputable def ydq:Code:=((aH 2 ydp).getD 0 (0,.skip)).2
def ydr:List Nat:=[2,3,4,6,8,9,10,11]
def yds:List (aM× Co):=[]
def ydt:Ex→List Nat
  |.exit j=>cond (Nat.beq j 4) [2,3,4,6,8,9,10] []
  |.ret=>[]
  |.normal=>[]
def ydu:Ex→List (aM× Co)
  |.exit j=>cond (Nat.beq j 4) [] []
  |.ret=>[]
  |.normal=>[]
def ydv (pv:(Int× Int× Int× Int× Int× List Int× Int× Int× Int× Int× Int× Int× Int× List Int× List Int× Int× Int× Int× Int× Int× Int× Int× Int× Int)× (Int× List Int)):St:={au:=[(2,.ptr 0 0 0),(3,.ptr 1 0 0),(4,.ptr 2 0 0),(6,.ptr 3 0 0),(8,.ptr 4 0 0),(9,.r [] (.int .i64 pv.1.1)),(10,.r [] (.int .i64 pv.1.2.1)),(11,.r [] (.int .i64 pv.2.1))],heap:=[(0,.box [.r [] (.int .i64 pv.1.2.2.1),.r [] (.int .i64 pv.1.2.2.2.1),.r [] (.int .i64 pv.1.2.2.2.2.1),.r [] (.sl (.int .i64) pv.1.2.2.2.2.2.1)]),(1,.box [.r [] (.int .i64 pv.1.2.2.2.2.2.2.1),.r [] (.int .i64 pv.1.2.2.2.2.2.2.2.1),.r [] (.int .i64 pv.1.2.2.2.2.2.2.2.2.1),.r [] (.int .i64 pv.1.2.2.2.2.2.2.2.2.2.1),.r [] (.int .i64 pv.1.2.2.2.2.2.2.2.2.2.2.1),.r [] (.int .i64 pv.1.2.2.2.2.2.2.2.2.2.2.2.1),.r [] (.int .i64 pv.1.2.2.2.2.2.2.2.2.2.2.2.2.1),.r [] (.sl (.int .i64) pv.1.2.2.2.2.2.2.2.2.2.2.2.2.2.1),.r [] (.sl (.int .i64) pv.1.2.2.2.2.2.2.2.2.2.2.2.2.2.2.1)]),(2,.box [.r [] (.int .i64 pv.1.2.2.2.2.2.2.2.2.2.2.2.2.2.2.2.1),.r [] (.int .i64 pv.1.2.2.2.2.2.2.2.2.2.2.2.2.2.2.2.2.1),.r [] (.int .i64 pv.1.2.2.2.2.2.2.2.2.2.2.2.2.2.2.2.2.2.1),.bn]),(3,.box [.r [] (.int .i64 pv.1.2.2.2.2.2.2.2.2.2.2.2.2.2.2.2.2.2.2.1),.r [] (.int .i64 pv.1.2.2.2.2.2.2.2.2.2.2.2.2.2.2.2.2.2.2.2.1),.r [] (.int .i64 pv.1.2.2.2.2.2.2.2.2.2.2.2.2.2.2.2.2.2.2.2.2.1)]),(4,.box [.r [] (.int .i64 pv.1.2.2.2.2.2.2.2.2.2.2.2.2.2.2.2.2.2.2.2.2.2.1),.r [] (.int .i64 pv.1.2.2.2.2.2.2.2.2.2.2.2.2.2.2.2.2.2.2.2.2.2.2.1),.r [] (.int .i64 pv.1.2.2.2.2.2.2.2.2.2.2.2.2.2.2.2.2.2.2.2.2.2.2.2),.own 5]),(5,.arr none (.int .i64) pv.2.2)],nid:=6,n:=58,gh:=[]}
def ydw (nf:NF):Option ((Int× Int× Int× Int× Int× List Int× Int× Int× Int× Int× Int× Int× Int× List Int× List Int× Int× Int× Int× Int× Int× Int× Int× Int× Int)× (Int× List Int)):=match nf with
  |([.ptr 0 0 0,.ptr 1 0 0,.ptr 2 0 0,.ptr 3 0 0,.ptr 4 0 0,.r [] (.int .i64 w0),.r [] (.int .i64 w1),.r [] (.int .i64 w2)],[.box [.r [] (.int .i64 w3),.r [] (.int .i64 w4),.r [] (.int .i64 w5),.r [] (.sl (.int .i64) w6)],.box [.r [] (.int .i64 w7),.r [] (.int .i64 w8),.r [] (.int .i64 w9),.r [] (.int .i64 w10),.r [] (.int .i64 w11),.r [] (.int .i64 w12),.r [] (.int .i64 w13),.r [] (.sl (.int .i64) w14),.r [] (.sl (.int .i64) w15)],.box [.r [] (.int .i64 w16),.r [] (.int .i64 w17),.r [] (.int .i64 w18),.bn],.box [.r [] (.int .i64 w19),.r [] (.int .i64 w20),.r [] (.int .i64 w21)],.box [.r [] (.int .i64 w22),.r [] (.int .i64 w23),.r [] (.int .i64 w24),.own 5],.arr none (.int .i64) w25],[])=>some ((w0,w1,w3,w4,w5,w6,w7,w8,w9,w10,w11,w12,w13,w14,w15,w16,w17,w18,w19,w20,w21,w22,w23,w24),(w2,w25))
  |_=>none
theorem ydx (nf:NF) (v:(Int× Int× Int× Int× Int× List Int× Int× Int× Int× Int× Int× Int× Int× List Int× List Int× Int× Int× Int× Int× Int× Int× Int× Int× Int)× (Int× List Int)) (h:ydw nf=some v):ak ydr 58 nf=ydv v:=by
  unfold ydw at h
  split at h
  · cases h;rfl
  · cases h
def ydy (p:Int× Int× Int× Int× Int× List Int× Int× Int× Int× Int× Int× Int× Int× List Int× List Int× Int× Int× Int× Int× Int× Int× Int× Int× Int) (x:List Int):St:={au:=[(2,.ptr 0 0 0),(3,.ptr 1 0 0),(4,.ptr 2 0 0),(6,.ptr 3 0 0),(8,.ptr 4 0 0),(9,.r [] (.int .i64 p.1)),(10,.r [] (.int .i64 p.2.1))],heap:=[(0,.box [.r [] (.int .i64 p.2.2.1),.r [] (.int .i64 p.2.2.2.1),.r [] (.int .i64 p.2.2.2.2.1),.r [] (.sl (.int .i64) p.2.2.2.2.2.1)]),(1,.box [.r [] (.int .i64 p.2.2.2.2.2.2.1),.r [] (.int .i64 p.2.2.2.2.2.2.2.1),.r [] (.int .i64 p.2.2.2.2.2.2.2.2.1),.r [] (.int .i64 p.2.2.2.2.2.2.2.2.2.1),.r [] (.int .i64 p.2.2.2.2.2.2.2.2.2.2.1),.r [] (.int .i64 p.2.2.2.2.2.2.2.2.2.2.2.1),.r [] (.int .i64 p.2.2.2.2.2.2.2.2.2.2.2.2.1),.r [] (.sl (.int .i64) p.2.2.2.2.2.2.2.2.2.2.2.2.2.1),.r [] (.sl (.int .i64) p.2.2.2.2.2.2.2.2.2.2.2.2.2.2.1)]),(2,.box [.r [] (.int .i64 p.2.2.2.2.2.2.2.2.2.2.2.2.2.2.2.1),.r [] (.int .i64 p.2.2.2.2.2.2.2.2.2.2.2.2.2.2.2.2.1),.r [] (.int .i64 p.2.2.2.2.2.2.2.2.2.2.2.2.2.2.2.2.2.1),.bn]),(3,.box [.r [] (.int .i64 p.2.2.2.2.2.2.2.2.2.2.2.2.2.2.2.2.2.2.1),.r [] (.int .i64 p.2.2.2.2.2.2.2.2.2.2.2.2.2.2.2.2.2.2.2.1),.r [] (.int .i64 p.2.2.2.2.2.2.2.2.2.2.2.2.2.2.2.2.2.2.2.2.1)]),(4,.box [.r [] (.int .i64 p.2.2.2.2.2.2.2.2.2.2.2.2.2.2.2.2.2.2.2.2.2.1),.r [] (.int .i64 p.2.2.2.2.2.2.2.2.2.2.2.2.2.2.2.2.2.2.2.2.2.2.1),.r [] (.int .i64 p.2.2.2.2.2.2.2.2.2.2.2.2.2.2.2.2.2.2.2.2.2.2.2),.own 5]),(5,.arr none (.int .i64) x)],nid:=6,n:=58,gh:=[]}
def ydz:List Nat:=[2,3,4,6,8,9,10]
def ye0:List (aM× Co):=[]
def ye1:Ex→List Nat
  |.exit j=>cond (Nat.beq j 2) [2,3,4,6,8,9] []
  |.ret=>[]
  |.normal=>[]
def ye2:Ex→List (aM× Co)
  |.exit j=>cond (Nat.beq j 2) [] []
  |.ret=>[]
  |.normal=>[]
def ye3 (pv:(Int× Int× Int× Int× List Int× Int× Int× Int× Int× Int× Int× Int× List Int× List Int× Int× Int× Int× Int× Int× Int× Int× Int× Int)× (Int× List Int)):St:={au:=[(2,.ptr 0 0 0),(3,.ptr 1 0 0),(4,.ptr 2 0 0),(6,.ptr 3 0 0),(8,.ptr 4 0 0),(9,.r [] (.int .i64 pv.1.1)),(10,.r [] (.int .i64 pv.2.1))],heap:=[(0,.box [.r [] (.int .i64 pv.1.2.1),.r [] (.int .i64 pv.1.2.2.1),.r [] (.int .i64 pv.1.2.2.2.1),.r [] (.sl (.int .i64) pv.1.2.2.2.2.1)]),(1,.box [.r [] (.int .i64 pv.1.2.2.2.2.2.1),.r [] (.int .i64 pv.1.2.2.2.2.2.2.1),.r [] (.int .i64 pv.1.2.2.2.2.2.2.2.1),.r [] (.int .i64 pv.1.2.2.2.2.2.2.2.2.1),.r [] (.int .i64 pv.1.2.2.2.2.2.2.2.2.2.1),.r [] (.int .i64 pv.1.2.2.2.2.2.2.2.2.2.2.1),.r [] (.int .i64 pv.1.2.2.2.2.2.2.2.2.2.2.2.1),.r [] (.sl (.int .i64) pv.1.2.2.2.2.2.2.2.2.2.2.2.2.1),.r [] (.sl (.int .i64) pv.1.2.2.2.2.2.2.2.2.2.2.2.2.2.1)]),(2,.box [.r [] (.int .i64 pv.1.2.2.2.2.2.2.2.2.2.2.2.2.2.2.1),.r [] (.int .i64 pv.1.2.2.2.2.2.2.2.2.2.2.2.2.2.2.2.1),.r [] (.int .i64 pv.1.2.2.2.2.2.2.2.2.2.2.2.2.2.2.2.2.1),.bn]),(3,.box [.r [] (.int .i64 pv.1.2.2.2.2.2.2.2.2.2.2.2.2.2.2.2.2.2.1),.r [] (.int .i64 pv.1.2.2.2.2.2.2.2.2.2.2.2.2.2.2.2.2.2.2.1),.r [] (.int .i64 pv.1.2.2.2.2.2.2.2.2.2.2.2.2.2.2.2.2.2.2.2.1)]),(4,.box [.r [] (.int .i64 pv.1.2.2.2.2.2.2.2.2.2.2.2.2.2.2.2.2.2.2.2.2.1),.r [] (.int .i64 pv.1.2.2.2.2.2.2.2.2.2.2.2.2.2.2.2.2.2.2.2.2.2.1),.r [] (.int .i64 pv.1.2.2.2.2.2.2.2.2.2.2.2.2.2.2.2.2.2.2.2.2.2.2),.own 5]),(5,.arr none (.int .i64) pv.2.2)],nid:=6,n:=58,gh:=[]}
def ye4 (nf:NF):Option ((Int× Int× Int× Int× List Int× Int× Int× Int× Int× Int× Int× Int× List Int× List Int× Int× Int× Int× Int× Int× Int× Int× Int× Int)× (Int× List Int)):=match nf with
  |([.ptr 0 0 0,.ptr 1 0 0,.ptr 2 0 0,.ptr 3 0 0,.ptr 4 0 0,.r [] (.int .i64 w0),.r [] (.int .i64 w1)],[.box [.r [] (.int .i64 w2),.r [] (.int .i64 w3),.r [] (.int .i64 w4),.r [] (.sl (.int .i64) w5)],.box [.r [] (.int .i64 w6),.r [] (.int .i64 w7),.r [] (.int .i64 w8),.r [] (.int .i64 w9),.r [] (.int .i64 w10),.r [] (.int .i64 w11),.r [] (.int .i64 w12),.r [] (.sl (.int .i64) w13),.r [] (.sl (.int .i64) w14)],.box [.r [] (.int .i64 w15),.r [] (.int .i64 w16),.r [] (.int .i64 w17),.bn],.box [.r [] (.int .i64 w18),.r [] (.int .i64 w19),.r [] (.int .i64 w20)],.box [.r [] (.int .i64 w21),.r [] (.int .i64 w22),.r [] (.int .i64 w23),.own 5],.arr none (.int .i64) w24],[])=>some ((w0,w2,w3,w4,w5,w6,w7,w8,w9,w10,w11,w12,w13,w14,w15,w16,w17,w18,w19,w20,w21,w22,w23),(w1,w24))
  |_=>none
theorem ye5 (nf:NF) (v:(Int× Int× Int× Int× List Int× Int× Int× Int× Int× Int× Int× Int× List Int× List Int× Int× Int× Int× Int× Int× Int× Int× Int× Int)× (Int× List Int)) (h:ye4 nf=some v):ak ydz 58 nf=ye3 v:=by
  unfold ye4 at h
  split at h
  · cases h;rfl
  · cases h
def ye6 (p:Int× Int× Int× Int× List Int× Int× Int× Int× Int× Int× Int× Int× List Int× List Int× Int× Int× Int× Int× Int× Int× Int× Int× Int) (x:List Int):St:={au:=[(2,.ptr 0 0 0),(3,.ptr 1 0 0),(4,.ptr 2 0 0),(6,.ptr 3 0 0),(8,.ptr 4 0 0),(9,.r [] (.int .i64 p.1))],heap:=[(0,.box [.r [] (.int .i64 p.2.1),.r [] (.int .i64 p.2.2.1),.r [] (.int .i64 p.2.2.2.1),.r [] (.sl (.int .i64) p.2.2.2.2.1)]),(1,.box [.r [] (.int .i64 p.2.2.2.2.2.1),.r [] (.int .i64 p.2.2.2.2.2.2.1),.r [] (.int .i64 p.2.2.2.2.2.2.2.1),.r [] (.int .i64 p.2.2.2.2.2.2.2.2.1),.r [] (.int .i64 p.2.2.2.2.2.2.2.2.2.1),.r [] (.int .i64 p.2.2.2.2.2.2.2.2.2.2.1),.r [] (.int .i64 p.2.2.2.2.2.2.2.2.2.2.2.1),.r [] (.sl (.int .i64) p.2.2.2.2.2.2.2.2.2.2.2.2.1),.r [] (.sl (.int .i64) p.2.2.2.2.2.2.2.2.2.2.2.2.2.1)]),(2,.box [.r [] (.int .i64 p.2.2.2.2.2.2.2.2.2.2.2.2.2.2.1),.r [] (.int .i64 p.2.2.2.2.2.2.2.2.2.2.2.2.2.2.2.1),.r [] (.int .i64 p.2.2.2.2.2.2.2.2.2.2.2.2.2.2.2.2.1),.bn]),(3,.box [.r [] (.int .i64 p.2.2.2.2.2.2.2.2.2.2.2.2.2.2.2.2.2.1),.r [] (.int .i64 p.2.2.2.2.2.2.2.2.2.2.2.2.2.2.2.2.2.2.1),.r [] (.int .i64 p.2.2.2.2.2.2.2.2.2.2.2.2.2.2.2.2.2.2.2.1)]),(4,.box [.r [] (.int .i64 p.2.2.2.2.2.2.2.2.2.2.2.2.2.2.2.2.2.2.2.2.1),.r [] (.int .i64 p.2.2.2.2.2.2.2.2.2.2.2.2.2.2.2.2.2.2.2.2.2.1),.r [] (.int .i64 p.2.2.2.2.2.2.2.2.2.2.2.2.2.2.2.2.2.2.2.2.2.2),.own 5]),(5,.arr none (.int .i64) x)],nid:=6,n:=58,gh:=[]}
def ye7:List Nat:=[2,3,4,6,8,9]
def ye8:List (aM× Co):=[((.D0 8 3),(.mo false (.int .i64)))]
def ye9:Ex→List Nat
  |.exit j=>cond (Nat.beq j 0) [4,8] []
  |.ret=>[]
  |.normal=>[]
def yea:Ex→List (aM× Co)
  |.exit j=>cond (Nat.beq j 0) [] []
  |.ret=>[]
  |.normal=>[]
def yeb (pv:(Int× Int× Int× List Int× Int× Int× Int× Int× Int× Int× Int× List Int× List Int× Int× Int× Int× Int× Int× Int× Int× Int× Int)× (Int× List Int)):St:={au:=[(2,.ptr 0 0 0),(3,.ptr 1 0 0),(4,.ptr 2 0 0),(6,.ptr 3 0 0),(8,.ptr 4 0 0),(9,.r [] (.int .i64 pv.2.1))],heap:=[(0,.box [.r [] (.int .i64 pv.1.1),.r [] (.int .i64 pv.1.2.1),.r [] (.int .i64 pv.1.2.2.1),.r [] (.sl (.int .i64) pv.1.2.2.2.1)]),(1,.box [.r [] (.int .i64 pv.1.2.2.2.2.1),.r [] (.int .i64 pv.1.2.2.2.2.2.1),.r [] (.int .i64 pv.1.2.2.2.2.2.2.1),.r [] (.int .i64 pv.1.2.2.2.2.2.2.2.1),.r [] (.int .i64 pv.1.2.2.2.2.2.2.2.2.1),.r [] (.int .i64 pv.1.2.2.2.2.2.2.2.2.2.1),.r [] (.int .i64 pv.1.2.2.2.2.2.2.2.2.2.2.1),.r [] (.sl (.int .i64) pv.1.2.2.2.2.2.2.2.2.2.2.2.1),.r [] (.sl (.int .i64) pv.1.2.2.2.2.2.2.2.2.2.2.2.2.1)]),(2,.box [.r [] (.int .i64 pv.1.2.2.2.2.2.2.2.2.2.2.2.2.2.1),.r [] (.int .i64 pv.1.2.2.2.2.2.2.2.2.2.2.2.2.2.2.1),.r [] (.int .i64 pv.1.2.2.2.2.2.2.2.2.2.2.2.2.2.2.2.1),.bn]),(3,.box [.r [] (.int .i64 pv.1.2.2.2.2.2.2.2.2.2.2.2.2.2.2.2.2.1),.r [] (.int .i64 pv.1.2.2.2.2.2.2.2.2.2.2.2.2.2.2.2.2.2.1),.r [] (.int .i64 pv.1.2.2.2.2.2.2.2.2.2.2.2.2.2.2.2.2.2.2.1)]),(4,.box [.r [] (.int .i64 pv.1.2.2.2.2.2.2.2.2.2.2.2.2.2.2.2.2.2.2.2.1),.r [] (.int .i64 pv.1.2.2.2.2.2.2.2.2.2.2.2.2.2.2.2.2.2.2.2.2.1),.r [] (.int .i64 pv.1.2.2.2.2.2.2.2.2.2.2.2.2.2.2.2.2.2.2.2.2.2),.own 5]),(5,.arr none (.int .i64) pv.2.2)],nid:=6,n:=58,gh:=[]}
def yec (nf:NF):Option ((Int× Int× Int× List Int× Int× Int× Int× Int× Int× Int× Int× List Int× List Int× Int× Int× Int× Int× Int× Int× Int× Int× Int)× (Int× List Int)):=match nf with
  |([.ptr 0 0 0,.ptr 1 0 0,.ptr 2 0 0,.ptr 3 0 0,.ptr 4 0 0,.r [] (.int .i64 w0)],[.box [.r [] (.int .i64 w1),.r [] (.int .i64 w2),.r [] (.int .i64 w3),.r [] (.sl (.int .i64) w4)],.box [.r [] (.int .i64 w5),.r [] (.int .i64 w6),.r [] (.int .i64 w7),.r [] (.int .i64 w8),.r [] (.int .i64 w9),.r [] (.int .i64 w10),.r [] (.int .i64 w11),.r [] (.sl (.int .i64) w12),.r [] (.sl (.int .i64) w13)],.box [.r [] (.int .i64 w14),.r [] (.int .i64 w15),.r [] (.int .i64 w16),.bn],.box [.r [] (.int .i64 w17),.r [] (.int .i64 w18),.r [] (.int .i64 w19)],.box [.r [] (.int .i64 w20),.r [] (.int .i64 w21),.r [] (.int .i64 w22),.own 5],.arr none (.int .i64) w23],[])=>some ((w1,w2,w3,w4,w5,w6,w7,w8,w9,w10,w11,w12,w13,w14,w15,w16,w17,w18,w19,w20,w21,w22),(w0,w23))
  |_=>none
theorem yed (nf:NF) (v:(Int× Int× Int× List Int× Int× Int× Int× Int× Int× Int× Int× List Int× List Int× Int× Int× Int× Int× Int× Int× Int× Int× Int)× (Int× List Int)) (h:yec nf=some v):ak ye7 58 nf=yeb v:=by
  unfold yec at h
  split at h
  · cases h;rfl
  · cases h
def yee (p:Int× Int× Int× List Int× Int× Int× Int× Int× Int× Int× Int× List Int× List Int× Int× Int× Int× Int× Int× Int× Int× Int× Int) (x:List Int):St:={au:=[(4,.ptr 0 0 0),(8,.ptr 1 0 0)],heap:=[(0,.box [.r [] (.int .i64 p.2.2.2.2.2.2.2.2.2.2.2.2.2.1),.r [] (.int .i64 p.2.2.2.2.2.2.2.2.2.2.2.2.2.2.1),.r [] (.int .i64 p.2.2.2.2.2.2.2.2.2.2.2.2.2.2.2.1),.bn]),(1,.box [.r [] (.int .i64 p.2.2.2.2.2.2.2.2.2.2.2.2.2.2.2.2.2.2.2.1),.r [] (.int .i64 p.2.2.2.2.2.2.2.2.2.2.2.2.2.2.2.2.2.2.2.2.1),.r [] (.int .i64 p.2.2.2.2.2.2.2.2.2.2.2.2.2.2.2.2.2.2.2.2.2),.own 2]),(2,.arr none (.int .i64) x)],nid:=3,n:=58,gh:=[]}
def yef (ρ:Type) (k:Nat):Nat→Ev ρ→Ev ρ:=fun id f=>cond (Nat.beq id 0) (aT ye7 ye8 (fun n nf=>cond (Nat.beq n 58) (yec nf) none) fun pv K=>iter (fun v next=>dB k pv.1 v next (fun x=>K (.exit 0) (yee pv.1 x))) k pv.2) ((fun id f=>cond (Nat.beq id 2) (aT ydz ye0 (fun n nf=>cond (Nat.beq n 58) (ye4 nf) none) fun pv K=>iter (fun v next=>dA k pv.1 v next (fun x=>K (.exit 2) (ye6 pv.1 x))) k pv.2) ((fun id f=>cond (Nat.beq id 4) (aT ydr yds (fun n nf=>cond (Nat.beq n 58) (ydw nf) none) fun pv K=>iter (fun v next=>dz k pv.1 v next (fun x=>K (.exit 4) (ydy pv.1 x))) k pv.2) ((fun _ _ _ _=>none) id f)) id f)) id f)
theorem yeg {ρ:Type} (k:Nat) (p:Int× Int× Int× Int× Int× List Int× Int× Int× Int× Int× Int× Int× Int× List Int× List Int× Int× Int× Int× Int× Int× Int× Int× Int× Int) (v:Int× List Int) (K K1:Ex→St→Option ρ):ev (ydl k) (yef ρ k) 4 ydq (ydv (p,v)) (fun e st'=>match e with
    |.normal=>(aS ydr yds st').bind fun nf=>K1 .normal (ak ydr st'.n nf)
    |e=>(aS (ydt e) (ydu e) st').bind fun nf=>K e (ak (ydt e) st'.n nf))=dz k p v (fun v'=>K1 .normal (ydv (p,v'))) (fun x=>K (.exit 4) (ydy p x)):=by kernel_rfl
theorem yeh {ρ:Type} (k:Nat):Sound Tryz.prog (.loop ydq) (yef ρ k 4 fun st K=>ev (ydl k) (yef ρ k) 4 ydq st K):=
  aX (aE (ydm k) ydq 4 (av (by kernel_rfl))) ydt ydu k (g:=fun p v next K=>dz k p v next (fun x=>K (.exit 4) (ydy p x))) (bp ydx) (fun p v K K1=>yeg k p v K K1)
theorem yei {ρ:Type} (k:Nat) (p:Int× Int× Int× Int× List Int× Int× Int× Int× Int× Int× Int× Int× List Int× List Int× Int× Int× Int× Int× Int× Int× Int× Int× Int) (v:Int× List Int) (K K1:Ex→St→Option ρ):ev (ydl k) (yef ρ k) 2 ydp (ye3 (p,v)) (fun e st'=>match e with
    |.normal=>(aS ydz ye0 st').bind fun nf=>K1 .normal (ak ydz st'.n nf)
    |e=>(aS (ye1 e) (ye2 e) st').bind fun nf=>K e (ak (ye1 e) st'.n nf))=dA k p v (fun v'=>K1 .normal (ye3 (p,v'))) (fun x=>K (.exit 2) (ye6 p x)):=by kernel_rfl
theorem yej {ρ:Type} (k:Nat):Sound Tryz.prog (.loop ydp) (yef ρ k 2 fun st K=>ev (ydl k) (yef ρ k) 2 ydp st K):=
  aX (aE (ydm k) ydp 2 (aF (l:=[(4,ydq)]) (by kernel_rfl) ⟨yeh k,trivial⟩)) ye1 ye2 k (g:=fun p v next K=>dA k p v next (fun x=>K (.exit 2) (ye6 p x))) (bp ye5) (fun p v K K1=>yei k p v K K1)
theorem yek {ρ:Type} (k:Nat) (p:Int× Int× Int× List Int× Int× Int× Int× Int× Int× Int× Int× List Int× List Int× Int× Int× Int× Int× Int× Int× Int× Int× Int) (v:Int× List Int) (K K1:Ex→St→Option ρ):ev (ydl k) (yef ρ k) 0 ydo (yeb (p,v)) (fun e st'=>match e with
    |.normal=>(aS ye7 ye8 st').bind fun nf=>K1 .normal (ak ye7 st'.n nf)
    |e=>(aS (ye9 e) (yea e) st').bind fun nf=>K e (ak (ye9 e) st'.n nf))=dB k p v (fun v'=>K1 .normal (yeb (p,v'))) (fun x=>K (.exit 0) (yee p x)):=by kernel_rfl
theorem yel {ρ:Type} (k:Nat):Sound Tryz.prog (.loop ydo) (yef ρ k 0 fun st K=>ev (ydl k) (yef ρ k) 0 ydo st K):=
  aX (aE (ydm k) ydo 0 (aF (l:=[(2,ydp)]) (by kernel_rfl) ⟨yej k,trivial⟩)) ye9 yea k (g:=fun p v next K=>dB k p v next (fun x=>K (.exit 0) (yee p x))) (bp yed) (fun p v K K1=>yek k p v K K1)
def yem (k:Nat):O Tryz.prog 38:=⟨oP [.agg [(.int .i64),(.int .i64),(.int .i64),(.sl (.int .i64))],.agg [(.int .i64),(.int .i64),(.int .i64),(.int .i64),(.int .i64),(.int .i64),(.int .i64),(.sl (.int .i64)),(.sl (.int .i64))]] ((cdS .bK).p (cdS .aC)) ⟨.tup [.agg [.h 0,.h 1,.h 2,.own 0],.h 4],[.arr none (.int .i64) 3]⟩ ((cdS .bK).p cdB) fun a=>lk k a.1 a.2,okP (LP:=yef _ k) (ydm k) Tryz.func38 (by kernel_rfl) (by kernel_rfl) (by kernel_rfl) (aF (l:=[(0,ydo)]) (by kernel_rfl) ⟨yel k,trivial⟩) (.tup [.agg [.sc,.sc,.sc,.own (.int .i64)],.sc]) fun a=>by kernel_rfl⟩
noncomputable def yen (k:Nat):Env:=iU (P:=Tryz.prog) tt [⟨35,y9h k⟩,⟨36,y9y k⟩,⟨37,yaf k⟩,⟨38,yem k⟩]
theorem yeo (k:Nat):bY (yen k):=fun g=>bh _ g
noncomputable def yep:Code:=(Tryz.f8.body).getD .skip
noncomputable def yeq:Code:=((aH 0 yep).getD 0 (0,.skip)).2
def yer:List Nat:=[2,4,6,7]
def yet:List (aM× Co):=[]
def yeu:Ex→List Nat
  |.exit j=>cond (Nat.beq j 0) [4,6] []
  |.ret=>[]
  |.normal=>[]
def yev:Ex→List (aM× Co)
  |.exit j=>cond (Nat.beq j 0) [] []
  |.ret=>[]
  |.normal=>[]
def yew (pv:(Int× Int× Int× List ag× Int× Int× Int)× (Int× Int× Int× Int× List Int)):St:={au:=[(2,.ptr 0 0 0),(4,.ptr 1 0 0),(6,.ptr 2 0 0),(7,.r [] (.int .i64 pv.2.1))],heap:=[(0,.box [.r [] (.int .i64 pv.1.1),.r [] (.int .i64 pv.1.2.1),.r [] (.int .i64 pv.1.2.2.1),.r [] (.sl (.st .aC) pv.1.2.2.2.1)]),(1,.box [.r [] (.int .i64 pv.1.2.2.2.2.1),.r [] (.int .i64 pv.1.2.2.2.2.2.1),.r [] (.int .i64 pv.1.2.2.2.2.2.2),.bn]),(2,.box [.r [] (.int .i64 pv.2.2.1),.r [] (.int .i64 pv.2.2.2.1),.r [] (.int .i64 pv.2.2.2.2.1),.own 3]),(3,.arr none (.int .i64) pv.2.2.2.2.2)],nid:=4,n:=44,gh:=[]}
def yex (nf:NF):Option ((Int× Int× Int× List ag× Int× Int× Int)× (Int× Int× Int× Int× List Int)):=match nf with
  |([.ptr 0 0 0,.ptr 1 0 0,.ptr 2 0 0,.r [] (.int .i64 w0)],[.box [.r [] (.int .i64 w1),.r [] (.int .i64 w2),.r [] (.int .i64 w3),.r [] (.sl (.st .aC) w4)],.box [.r [] (.int .i64 w5),.r [] (.int .i64 w6),.r [] (.int .i64 w7),.bn],.box [.r [] (.int .i64 w8),.r [] (.int .i64 w9),.r [] (.int .i64 w10),.own 3],.arr none (.int .i64) w11],[])=>some ((w1,w2,w3,w4,w5,w6,w7),(w0,w8,w9,w10,w11))
  |_=>none
theorem yey (nf:NF) (v:(Int× Int× Int× List ag× Int× Int× Int)× (Int× Int× Int× Int× List Int)) (h:yex nf=some v):ak yer 44 nf=yew v:=by
  unfold yex at h
  split at h
  · cases h;rfl
  · cases h
def yez (p:Int× Int× Int× List ag× Int× Int× Int) (x:Int× Int× Int× List Int):St:={au:=[(4,.ptr 0 0 0),(6,.ptr 1 0 0)],heap:=[(0,.box [.r [] (.int .i64 p.2.2.2.2.1),.r [] (.int .i64 p.2.2.2.2.2.1),.r [] (.int .i64 p.2.2.2.2.2.2),.bn]),(1,.box [.r [] (.int .i64 x.1),.r [] (.int .i64 x.2.1),.r [] (.int .i64 x.2.2.1),.own 2]),(2,.arr none (.int .i64) x.2.2.2)],nid:=3,n:=44,gh:=[]}
def yf0 (ρ:Type) (k:Nat):Nat→Ev ρ→Ev ρ:=fun id f=>cond (Nat.beq id 0) (aT yer yet (fun n nf=>cond (Nat.beq n 44) (yex nf) none) fun pv K=>iter (fun v next=>cy k pv.1 v next (fun x=>K (.exit 0) (yez pv.1 x))) k pv.2) ((fun _ _ _ _=>none) id f)
theorem yf1 {ρ:Type} (k:Nat) (p:Int× Int× Int× List ag× Int× Int× Int) (v:Int× Int× Int× Int× List Int) (K K1:Ex→St→Option ρ):ev (yen k) (yf0 ρ k) 0 yeq (yew (p,v)) (fun e st'=>match e with
    |.normal=>(aS yer yet st').bind fun nf=>K1 .normal (ak yer st'.n nf)
    |e=>(aS (yeu e) (yev e) st').bind fun nf=>K e (ak (yeu e) st'.n nf))=cy k p v (fun v'=>K1 .normal (yew (p,v'))) (fun x=>K (.exit 0) (yez p x)):=by kernel_rfl
theorem yf2 {ρ:Type} (k:Nat):Sound Tryz.prog (.loop yeq) (yf0 ρ k 0 fun st K=>ev (yen k) (yf0 ρ k) 0 yeq st K):=
  aX (aE (yeo k) yeq 0 (av (by kernel_rfl))) yeu yev k (g:=fun p v next K=>cy k p v next (fun x=>K (.exit 0) (yez p x))) (bp yey) (fun p v K K1=>yf1 k p v K K1)
def yf3 (k:Nat):O Tryz.prog 8:=⟨oP [.agg [(.int .i64),(.int .i64),(.int .i64),(.sl (.st .aC))],.agg [(.int .i64),(.int .i64),(.int .i64),(.sl (.int .i64))]] ((cdS .model).p (cdS .bK)) ⟨.tup [.agg [.h 0,.h 1,.h 2,.own 0],.h 4],[.arr none (.int .i64) 3]⟩ ((cdS .bK).p cdB) fun a=>jO k a.1 a.2,okP (LP:=yf0 _ k) (yeo k) Tryz.func8 (by kernel_rfl) (by kernel_rfl) (by kernel_rfl) (aF (l:=[(0,yeq)]) (by kernel_rfl) ⟨yf2 k,trivial⟩) (.tup [.agg [.sc,.sc,.sc,.own (.int .i64)],.sc]) fun a=>by kernel_rfl⟩
def yf4 (k:Nat):O Tryz.prog 39:=dP (tt:=tt) [] .id Tryz.func39 [.agg [(.int .i64),(.int .i64),(.int .i64),(.sl (.st .aC)),(.int .i64),(.int .i64),(.int .i64),(.int .i64),(.sl (.int .i64)),(.int .i64)]] mN ⟨.h 0,[]⟩ cdB (.sc) (fun a=>bq k a) (by kernel_rfl) fun a=>by kernel_rfl
def yf5 (k:Nat):O Tryz.prog 9:=dP (tt:=tt) [⟨33,y8d k⟩,⟨39,yf4 k⟩] .id Tryz.func9 [.agg [(.int .i64),(.int .i64),(.int .i64),(.sl (.st .aC)),(.int .i64),(.int .i64),(.int .i64),(.int .i64),(.sl (.int .i64)),(.int .i64)]] mN ⟨.h 0,[]⟩ cdB (.sc) (fun a=>nc k a) (by kernel_rfl) fun a=>by kernel_rfl
def yf6 (k:Nat):O Tryz.prog 10:=dP (tt:=tt) [⟨33,y8d k⟩,⟨40,y7u k⟩] .id Tryz.func10 [.agg [(.int .i64),(.int .i64),(.int .i64),(.sl (.st .aC)),(.int .i64),(.int .i64),(.int .i64),(.int .i64),(.sl (.int .i64)),(.int .i64)]] mN ⟨.h 0,[]⟩ (cdL (.int .i64)) (.ro (.int .i64)) (fun a=>mZ k a) (by kernel_rfl) fun a=>by kernel_rfl
def yf7 (k:Nat):O Tryz.prog 18:=dP (tt:=tt) [⟨10,yf6 k⟩] .id Tryz.func18 [.agg [(.int .i64),(.int .i64),(.int .i64),(.sl (.st .aC)),(.int .i64),(.int .i64),(.int .i64),(.int .i64),(.sl (.int .i64)),(.int .i64)]] mN ⟨.h 0,[]⟩ cdZ (.sc) (fun a=>dC k a) (by kernel_rfl) fun a=>by kernel_rfl
def yf8 (k:Nat):O Tryz.prog 126:=dP (tt:=tt) [] .id Tryz.func126 [.one (.int .i64),.one (.int .i64),.one (.int .i64)] (cdZ.p (cdZ.p cdZ)) ⟨.h 0,[]⟩ cdZ (.sc) (fun a=>zZ k a.1 a.2.1 a.2.2) (by kernel_rfl) fun a=>by kernel_rfl
def yf9 (k:Nat):O Tryz.prog 122:=dP (tt:=tt) [⟨126,yf8 k⟩] .id Tryz.func122 [.one (.int .i64)] cdZ ⟨.h 0,[]⟩ cdZ (.sc) (fun a=>qt k a) (by kernel_rfl) fun a=>by kernel_rfl
def yfa (k:Nat):O Tryz.prog 125:=dP (tt:=tt) [⟨126,yf8 k⟩] .id Tryz.func125 [.one (.int .i64)] cdZ ⟨.h 0,[]⟩ cdZ (.sc) (fun a=>iD k a) (by kernel_rfl) fun a=>by kernel_rfl
def yfb (k:Nat):O Tryz.prog 121:=dP (tt:=tt) [⟨125,yfa k⟩] .id Tryz.func121 [.one (.int .i64),.one (.int .i64)] (cdZ.p cdZ) ⟨.h 0,[]⟩ cdZ (.sc) (fun a=>m7 k a.1 a.2) (by kernel_rfl) fun a=>by kernel_rfl
noncomputable def yfc (k:Nat):Env:=iU (P:=Tryz.prog) tt [⟨121,yfb k⟩,⟨122,yf9 k⟩]
theorem yfd (k:Nat):bY (yfc k):=fun g=>bh _ g
noncomputable def yfe:Code:=(Tryz.f119.body).getD .skip
noncomputable def yff:Code:=((aH 0 yfe).getD 0 (0,.skip)).2
def yfg:List Nat:=[0,1,5,11,12]
def yfh:List (aM× Co):=[]
def yfi:Ex→List Nat
  |.exit j=>cond (Nat.beq j 0) [5] []
  |.ret=>[]
  |.normal=>[]
def yfj:Ex→List (aM× Co)
  |.exit j=>cond (Nat.beq j 0) [] []
  |.ret=>[]
  |.normal=>[]
def yfk (pv:(List Int× List Int× Int)× (Int× Int)):St:={au:=[(0,.r [] (.sl (.int .i64) pv.1.1)),(1,.r [] (.sl (.int .i64) pv.1.2.1)),(5,.r [] (.int .i64 pv.2.1)),(11,.r [] (.int .i64 pv.1.2.2)),(12,.r [] (.int .i64 pv.2.2))],heap:=[],nid:=0,n:=30,gh:=[]}
def yfl (nf:NF):Option ((List Int× List Int× Int)× (Int× Int)):=match nf with
  |([.r [] (.sl (.int .i64) w0),.r [] (.sl (.int .i64) w1),.r [] (.int .i64 w2),.r [] (.int .i64 w3),.r [] (.int .i64 w4)],[],[])=>some ((w0,w1,w3),(w2,w4))
  |_=>none
theorem yfm (nf:NF) (v:(List Int× List Int× Int)× (Int× Int)) (h:yfl nf=some v):ak yfg 30 nf=yfk v:=by
  unfold yfl at h
  split at h
  · cases h;rfl
  · cases h
def yfn (p:List Int× List Int× Int) (x:Int):St:={au:=[(5,.r [] (.int .i64 x))],heap:=[],nid:=0,n:=30,gh:=[]}
def yfo (ρ:Type) (k:Nat):Nat→Ev ρ→Ev ρ:=fun id f=>cond (Nat.beq id 0) (aT yfg yfh (fun n nf=>cond (Nat.beq n 30) (yfl nf) none) fun pv K=>iter (fun v next=>gz k pv.1 v next (fun x=>K (.exit 0) (yfn pv.1 x))) k pv.2) ((fun _ _ _ _=>none) id f)
theorem yfp {ρ:Type} (k:Nat) (p:List Int× List Int× Int) (v:Int× Int) (K K1:Ex→St→Option ρ):ev (yfc k) (yfo ρ k) 0 yff (yfk (p,v)) (fun e st'=>match e with
    |.normal=>(aS yfg yfh st').bind fun nf=>K1 .normal (ak yfg st'.n nf)
    |e=>(aS (yfi e) (yfj e) st').bind fun nf=>K e (ak (yfi e) st'.n nf))=gz k p v (fun v'=>K1 .normal (yfk (p,v'))) (fun x=>K (.exit 0) (yfn p x)):=by kernel_rfl
theorem yfq {ρ:Type} (k:Nat):Sound Tryz.prog (.loop yff) (yfo ρ k 0 fun st K=>ev (yfc k) (yfo ρ k) 0 yff st K):=
  aX (aE (yfd k) yff 0 (av (by kernel_rfl))) yfi yfj k (g:=fun p v next K=>gz k p v next (fun x=>K (.exit 0) (yfn p x))) (bp yfm) (fun p v K K1=>yfp k p v K K1)
def yfr (k:Nat):O Tryz.prog 119:=⟨oP [.one (.sl (.int .i64)),.one (.sl (.int .i64))] ((cdL (.int .i64)).p (cdL (.int .i64))) ⟨.h 0,[]⟩ cdZ fun a=>tx k a.1 a.2,okP (LP:=yfo _ k) (yfd k) Tryz.func119 (by kernel_rfl) (by kernel_rfl) (by kernel_rfl) (aF (l:=[(0,yff)]) (by kernel_rfl) ⟨yfq k,trivial⟩) (.sc) fun a=>by kernel_rfl⟩
def yfs (k:Nat):O Tryz.prog 124:=dP (tt:=tt) [⟨125,yfa k⟩] .id Tryz.func124 [.one (.int .i64),.one (.int .i64)] (cdZ.p cdZ) ⟨.h 0,[]⟩ cdZ (.sc) (fun a=>m8 k a.1 a.2) (by kernel_rfl) fun a=>by kernel_rfl
def yft (k:Nat):O Tryz.prog 112:=dP (tt:=tt) [] .id Tryz.func112 [.one (.int .i64),.one (.int .i64)] (cdZ.p cdZ) ⟨.h 0,[]⟩ cdZ (.sc) (fun a=>jN k a.1 a.2) (by kernel_rfl) fun a=>by kernel_rfl
def yfu (k:Nat):O Tryz.prog 112:=dP (tt:=tt) [⟨112,yft k⟩] .id Tryz.func112 [.one (.int .i64),.one (.int .i64)] (cdZ.p cdZ) ⟨.h 0,[]⟩ cdZ (.sc) (fun a=>jd k a.1 a.2) (by kernel_rfl) fun a=>by kernel_rfl
def yfv (k:Nat):O Tryz.prog 123:=dP (tt:=tt) [⟨112,yfu k⟩,⟨125,yfa k⟩,⟨126,yf8 k⟩] .id Tryz.func123 [.one (.int .i64),.one (.int .i64)] (cdZ.p cdZ) ⟨.h 0,[]⟩ cdZ (.sc) (fun a=>ie k a.1 a.2) (by kernel_rfl) fun a=>by kernel_rfl
def yfw (k:Nat):O Tryz.prog 120:=dP (tt:=tt) [⟨122,yf9 k⟩,⟨123,yfv k⟩,⟨124,yfs k⟩] .id Tryz.func120 [.one (.int .i64),.one (.int .i64),.one (.int .i64),.one (.int .i64)] (cdZ.p (cdZ.p (cdZ.p cdZ))) ⟨.h 0,[]⟩ cdZ (.sc) (fun a=>m9 k a.1 a.2.1 a.2.2.1 a.2.2.2) (by kernel_rfl) fun a=>by kernel_rfl
def yfx (k:Nat):O Tryz.prog 109:=dP (tt:=tt) [⟨119,yfr k⟩,⟨120,yfw k⟩,⟨121,yfb k⟩] .id Tryz.func109 [.agg [(.int .i64),(.int .i64),(.int .i64),(.int .i64),(.int .i64),(.int .i64),(.int .i64),(.sl (.int .i64)),(.sl (.int .i64))],.one (.sl (.int .i64)),.one (.int .i64)] ((cdS .aC).p ((cdL (.int .i64)).p cdZ)) ⟨.h 0,[]⟩ cdZ (.sc) (fun a=>cZ k a.1 a.2.1 a.2.2) (by kernel_rfl) fun a=>by kernel_rfl
def yfy (k:Nat):O Tryz.prog 113:=dP (tt:=tt) [] .id Tryz.func113 [.agg [(.int .i64),(.int .i64),(.int .i64)],.one (.int .i64),.one (.int .i64),.one (.int .i64)] ((cdS .shape).p (cdZ.p (cdZ.p cdZ))) ⟨.h 0,[]⟩ cdZ (.sc) (fun a=>eS k a.1 a.2.1 a.2.2.1 a.2.2.2) (by kernel_rfl) fun a=>by kernel_rfl
noncomputable def yfz (k:Nat):Env:=iU (P:=Tryz.prog) tt [⟨113,yfy k⟩]
theorem yg0 (k:Nat):bY (yfz k):=fun g=>bh _ g
noncomputable def yg1:Code:=(Tryz.f110.body).getD .skip
noncomputable def yg2:Code:=((aH 0 yg1).getD 0 (0,.skip)).2
noncomputable def yg3:Code:=((aH 0 yg2).getD 0 (0,.skip)).2
def yg4:List Nat:=[2,3,4,5,6,11,12,17,18,22,23]
def yg5:List (aM× Co):=[]
def yg6:Ex→List Nat
  |.exit j=>cond (Nat.beq j 2) [2,3,4,5,6,11,17,18] []
  |.ret=>[]
  |.normal=>[]
def yg7:Ex→List (aM× Co)
  |.exit j=>cond (Nat.beq j 2) [] []
  |.ret=>[]
  |.normal=>[]
def yg8 (pv:(Int× Int× Int× Int× Int× Int× Int× Int× Int× Int× Int× Int× Int× Int× List Int× List Int× Int× Int× Int× List Int)× (Int× List Int)):St:={au:=[(2,.r [] (.int .i64 pv.1.1)),(3,.r [] (.int .i64 pv.1.2.1)),(4,.r [] (.int .i64 pv.1.2.2.1)),(5,.ptr 0 0 0),(6,.ptr 1 0 0),(11,.own 2),(12,.r [] (.int .i64 pv.1.2.2.2.1)),(17,.r [] (.int .i64 pv.1.2.2.2.2.1)),(18,.r [] (.int .i64 pv.1.2.2.2.2.2.1)),(22,.r [] (.int .i64 pv.1.2.2.2.2.2.2.1)),(23,.r [] (.int .i64 pv.2.1))],heap:=[(0,.box [.r [] (.int .i64 pv.1.2.2.2.2.2.2.2.1),.r [] (.int .i64 pv.1.2.2.2.2.2.2.2.2.1),.r [] (.int .i64 pv.1.2.2.2.2.2.2.2.2.2.1),.r [] (.int .i64 pv.1.2.2.2.2.2.2.2.2.2.2.1),.r [] (.int .i64 pv.1.2.2.2.2.2.2.2.2.2.2.2.1),.r [] (.int .i64 pv.1.2.2.2.2.2.2.2.2.2.2.2.2.1),.r [] (.int .i64 pv.1.2.2.2.2.2.2.2.2.2.2.2.2.2.1),.r [] (.sl (.int .i64) pv.1.2.2.2.2.2.2.2.2.2.2.2.2.2.2.1),.r [] (.sl (.int .i64) pv.1.2.2.2.2.2.2.2.2.2.2.2.2.2.2.2.1)]),(1,.box [.r [] (.int .i64 pv.1.2.2.2.2.2.2.2.2.2.2.2.2.2.2.2.2.1),.r [] (.int .i64 pv.1.2.2.2.2.2.2.2.2.2.2.2.2.2.2.2.2.2.1),.r [] (.int .i64 pv.1.2.2.2.2.2.2.2.2.2.2.2.2.2.2.2.2.2.2.1),.r [] (.sl (.int .i64) pv.1.2.2.2.2.2.2.2.2.2.2.2.2.2.2.2.2.2.2.2)]),(2,.arr none (.int .i64) pv.2.2)],nid:=3,n:=67,gh:=[]}
def yg9 (nf:NF):Option ((Int× Int× Int× Int× Int× Int× Int× Int× Int× Int× Int× Int× Int× Int× List Int× List Int× Int× Int× Int× List Int)× (Int× List Int)):=match nf with
  |([.r [] (.int .i64 w0),.r [] (.int .i64 w1),.r [] (.int .i64 w2),.ptr 0 0 0,.ptr 1 0 0,.own 2,.r [] (.int .i64 w3),.r [] (.int .i64 w4),.r [] (.int .i64 w5),.r [] (.int .i64 w6),.r [] (.int .i64 w7)],[.box [.r [] (.int .i64 w8),.r [] (.int .i64 w9),.r [] (.int .i64 w10),.r [] (.int .i64 w11),.r [] (.int .i64 w12),.r [] (.int .i64 w13),.r [] (.int .i64 w14),.r [] (.sl (.int .i64) w15),.r [] (.sl (.int .i64) w16)],.box [.r [] (.int .i64 w17),.r [] (.int .i64 w18),.r [] (.int .i64 w19),.r [] (.sl (.int .i64) w20)],.arr none (.int .i64) w21],[])=>some ((w0,w1,w2,w3,w4,w5,w6,w8,w9,w10,w11,w12,w13,w14,w15,w16,w17,w18,w19,w20),(w7,w21))
  |_=>none
theorem yga (nf:NF) (v:(Int× Int× Int× Int× Int× Int× Int× Int× Int× Int× Int× Int× Int× Int× List Int× List Int× Int× Int× Int× List Int)× (Int× List Int)) (h:yg9 nf=some v):ak yg4 67 nf=yg8 v:=by
  unfold yg9 at h
  split at h
  · cases h;rfl
  · cases h
def ygb (p:Int× Int× Int× Int× Int× Int× Int× Int× Int× Int× Int× Int× Int× Int× List Int× List Int× Int× Int× Int× List Int) (x:List Int):St:={au:=[(2,.r [] (.int .i64 p.1)),(3,.r [] (.int .i64 p.2.1)),(4,.r [] (.int .i64 p.2.2.1)),(5,.ptr 0 0 0),(6,.ptr 1 0 0),(11,.own 2),(17,.r [] (.int .i64 p.2.2.2.2.1)),(18,.r [] (.int .i64 p.2.2.2.2.2.1))],heap:=[(0,.box [.r [] (.int .i64 p.2.2.2.2.2.2.2.1),.r [] (.int .i64 p.2.2.2.2.2.2.2.2.1),.r [] (.int .i64 p.2.2.2.2.2.2.2.2.2.1),.r [] (.int .i64 p.2.2.2.2.2.2.2.2.2.2.1),.r [] (.int .i64 p.2.2.2.2.2.2.2.2.2.2.2.1),.r [] (.int .i64 p.2.2.2.2.2.2.2.2.2.2.2.2.1),.r [] (.int .i64 p.2.2.2.2.2.2.2.2.2.2.2.2.2.1),.r [] (.sl (.int .i64) p.2.2.2.2.2.2.2.2.2.2.2.2.2.2.1),.r [] (.sl (.int .i64) p.2.2.2.2.2.2.2.2.2.2.2.2.2.2.2.1)]),(1,.box [.r [] (.int .i64 p.2.2.2.2.2.2.2.2.2.2.2.2.2.2.2.2.1),.r [] (.int .i64 p.2.2.2.2.2.2.2.2.2.2.2.2.2.2.2.2.2.1),.r [] (.int .i64 p.2.2.2.2.2.2.2.2.2.2.2.2.2.2.2.2.2.2.1),.r [] (.sl (.int .i64) p.2.2.2.2.2.2.2.2.2.2.2.2.2.2.2.2.2.2.2)]),(2,.arr none (.int .i64) x)],nid:=3,n:=67,gh:=[]}
def ygc:List Nat:=[2,3,4,5,6,11,17,18]
def ygd:List (aM× Co):=[]
def yge:Ex→List Nat
  |.exit j=>cond (Nat.beq j 0) [11] []
  |.ret=>[]
  |.normal=>[]
def ygf:Ex→List (aM× Co)
  |.exit j=>cond (Nat.beq j 0) [] []
  |.ret=>[]
  |.normal=>[]
def ygg (pv:(Int× Int× Int× Int× Int× Int× Int× Int× Int× Int× Int× List Int× List Int× Int× Int× Int× List Int)× (Int× List Int)):St:={au:=[(2,.r [] (.int .i64 pv.1.1)),(3,.r [] (.int .i64 pv.1.2.1)),(4,.r [] (.int .i64 pv.1.2.2.1)),(5,.ptr 0 0 0),(6,.ptr 1 0 0),(11,.own 2),(17,.r [] (.int .i64 pv.1.2.2.2.1)),(18,.r [] (.int .i64 pv.2.1))],heap:=[(0,.box [.r [] (.int .i64 pv.1.2.2.2.2.1),.r [] (.int .i64 pv.1.2.2.2.2.2.1),.r [] (.int .i64 pv.1.2.2.2.2.2.2.1),.r [] (.int .i64 pv.1.2.2.2.2.2.2.2.1),.r [] (.int .i64 pv.1.2.2.2.2.2.2.2.2.1),.r [] (.int .i64 pv.1.2.2.2.2.2.2.2.2.2.1),.r [] (.int .i64 pv.1.2.2.2.2.2.2.2.2.2.2.1),.r [] (.sl (.int .i64) pv.1.2.2.2.2.2.2.2.2.2.2.2.1),.r [] (.sl (.int .i64) pv.1.2.2.2.2.2.2.2.2.2.2.2.2.1)]),(1,.box [.r [] (.int .i64 pv.1.2.2.2.2.2.2.2.2.2.2.2.2.2.1),.r [] (.int .i64 pv.1.2.2.2.2.2.2.2.2.2.2.2.2.2.2.1),.r [] (.int .i64 pv.1.2.2.2.2.2.2.2.2.2.2.2.2.2.2.2.1),.r [] (.sl (.int .i64) pv.1.2.2.2.2.2.2.2.2.2.2.2.2.2.2.2.2)]),(2,.arr none (.int .i64) pv.2.2)],nid:=3,n:=67,gh:=[]}
def ygh (nf:NF):Option ((Int× Int× Int× Int× Int× Int× Int× Int× Int× Int× Int× List Int× List Int× Int× Int× Int× List Int)× (Int× List Int)):=match nf with
  |([.r [] (.int .i64 w0),.r [] (.int .i64 w1),.r [] (.int .i64 w2),.ptr 0 0 0,.ptr 1 0 0,.own 2,.r [] (.int .i64 w3),.r [] (.int .i64 w4)],[.box [.r [] (.int .i64 w5),.r [] (.int .i64 w6),.r [] (.int .i64 w7),.r [] (.int .i64 w8),.r [] (.int .i64 w9),.r [] (.int .i64 w10),.r [] (.int .i64 w11),.r [] (.sl (.int .i64) w12),.r [] (.sl (.int .i64) w13)],.box [.r [] (.int .i64 w14),.r [] (.int .i64 w15),.r [] (.int .i64 w16),.r [] (.sl (.int .i64) w17)],.arr none (.int .i64) w18],[])=>some ((w0,w1,w2,w3,w5,w6,w7,w8,w9,w10,w11,w12,w13,w14,w15,w16,w17),(w4,w18))
  |_=>none
theorem ygi (nf:NF) (v:(Int× Int× Int× Int× Int× Int× Int× Int× Int× Int× Int× List Int× List Int× Int× Int× Int× List Int)× (Int× List Int)) (h:ygh nf=some v):ak ygc 67 nf=ygg v:=by
  unfold ygh at h
  split at h
  · cases h;rfl
  · cases h
def ygj (p:Int× Int× Int× Int× Int× Int× Int× Int× Int× Int× Int× List Int× List Int× Int× Int× Int× List Int) (x:List Int):St:={au:=[(11,.own 0)],heap:=[(0,.arr none (.int .i64) x)],nid:=1,n:=67,gh:=[]}
def ygk (ρ:Type) (k:Nat):Nat→Ev ρ→Ev ρ:=fun id f=>cond (Nat.beq id 0) (aT ygc ygd (fun n nf=>cond (Nat.beq n 67) (ygh nf) none) fun pv K=>iter (fun v next=>bD k pv.1 v next (fun x=>K (.exit 0) (ygj pv.1 x))) k pv.2) ((fun id f=>cond (Nat.beq id 2) (aT yg4 yg5 (fun n nf=>cond (Nat.beq n 67) (yg9 nf) none) fun pv K=>iter (fun v next=>bC k pv.1 v next (fun x=>K (.exit 2) (ygb pv.1 x))) k pv.2) ((fun _ _ _ _=>none) id f)) id f)
theorem ygl {ρ:Type} (k:Nat) (p:Int× Int× Int× Int× Int× Int× Int× Int× Int× Int× Int× Int× Int× Int× List Int× List Int× Int× Int× Int× List Int) (v:Int× List Int) (K K1:Ex→St→Option ρ):ev (yfz k) (ygk ρ k) 2 yg3 (yg8 (p,v)) (fun e st'=>match e with
    |.normal=>(aS yg4 yg5 st').bind fun nf=>K1 .normal (ak yg4 st'.n nf)
    |e=>(aS (yg6 e) (yg7 e) st').bind fun nf=>K e (ak (yg6 e) st'.n nf))=bC k p v (fun v'=>K1 .normal (yg8 (p,v'))) (fun x=>K (.exit 2) (ygb p x)):=by kernel_rfl
theorem ygm {ρ:Type} (k:Nat):Sound Tryz.prog (.loop yg3) (ygk ρ k 2 fun st K=>ev (yfz k) (ygk ρ k) 2 yg3 st K):=
  aX (aE (yg0 k) yg3 2 (av (by kernel_rfl))) yg6 yg7 k (g:=fun p v next K=>bC k p v next (fun x=>K (.exit 2) (ygb p x))) (bp yga) (fun p v K K1=>ygl k p v K K1)
theorem ygn {ρ:Type} (k:Nat) (p:Int× Int× Int× Int× Int× Int× Int× Int× Int× Int× Int× List Int× List Int× Int× Int× Int× List Int) (v:Int× List Int) (K K1:Ex→St→Option ρ):ev (yfz k) (ygk ρ k) 0 yg2 (ygg (p,v)) (fun e st'=>match e with
    |.normal=>(aS ygc ygd st').bind fun nf=>K1 .normal (ak ygc st'.n nf)
    |e=>(aS (yge e) (ygf e) st').bind fun nf=>K e (ak (yge e) st'.n nf))=bD k p v (fun v'=>K1 .normal (ygg (p,v'))) (fun x=>K (.exit 0) (ygj p x)):=by kernel_rfl
theorem ygo {ρ:Type} (k:Nat):Sound Tryz.prog (.loop yg2) (ygk ρ k 0 fun st K=>ev (yfz k) (ygk ρ k) 0 yg2 st K):=
  aX (aE (yg0 k) yg2 0 (aF (l:=[(2,yg3)]) (by kernel_rfl) ⟨ygm k,trivial⟩)) yge ygf k (g:=fun p v next K=>bD k p v next (fun x=>K (.exit 0) (ygj p x))) (bp ygi) (fun p v K K1=>ygn k p v K K1)
def ygp (k:Nat):O Tryz.prog 110:=⟨oP [.agg [(.int .i64),(.int .i64),(.int .i64),(.int .i64),(.int .i64),(.int .i64),(.int .i64),(.sl (.int .i64)),(.sl (.int .i64))],.agg [(.int .i64),(.int .i64),(.int .i64),(.sl (.int .i64))],.one (.int .i64),.one (.int .i64),.one (.int .i64)] ((cdS .aC).p ((cdS .bK).p (cdZ.p (cdZ.p cdZ)))) ⟨.own 0,[.arr none (.int .i64) 0]⟩ (cdL (.int .i64)) fun a=>bu k a.1 a.2.1 a.2.2.1 a.2.2.2.1 a.2.2.2.2,okP (LP:=ygk _ k) (yg0 k) Tryz.func110 (by kernel_rfl) (by kernel_rfl) (by kernel_rfl) (aF (l:=[(0,yg2)]) (by kernel_rfl) ⟨ygo k,trivial⟩) (.own (.int .i64)) fun a=>by kernel_rfl⟩
noncomputable def ygq (k:Nat):Env:=iU (P:=Tryz.prog) tt []
theorem ygr (k:Nat):bY (ygq k):=fun g=>bh _ g
noncomputable def ygs:Code:=(Tryz.f111.body).getD .skip
noncomputable def ygt:Code:=((aH 0 ygs).getD 0 (0,.skip)).2
def ygu:List Nat:=[0,3,4]
def ygv:List (aM× Co):=[]
def ygw:Ex→List Nat
  |.exit j=>cond (Nat.beq j 0) [3] []
  |.ret=>[]
  |.normal=>[]
def ygx:Ex→List (aM× Co)
  |.exit j=>cond (Nat.beq j 0) [] []
  |.ret=>[]
  |.normal=>[]
def ygy (pv:(List Int)× (Int× Int)):St:={au:=[(0,.r [] (.sl (.int .i64) pv.1)),(3,.r [] (.int .i64 pv.2.1)),(4,.r [] (.int .i64 pv.2.2))],heap:=[],nid:=0,n:=25,gh:=[]}
def ygz (nf:NF):Option ((List Int)× (Int× Int)):=match nf with
  |([.r [] (.sl (.int .i64) w0),.r [] (.int .i64 w1),.r [] (.int .i64 w2)],[],[])=>some (w0,(w1,w2))
  |_=>none
theorem yh0 (nf:NF) (v:(List Int)× (Int× Int)) (h:ygz nf=some v):ak ygu 25 nf=ygy v:=by
  unfold ygz at h
  split at h
  · cases h;rfl
  · cases h
def yh1 (p:List Int) (x:Int):St:={au:=[(3,.r [] (.int .i64 x))],heap:=[],nid:=0,n:=25,gh:=[]}
def yh2 (ρ:Type) (k:Nat):Nat→Ev ρ→Ev ρ:=fun id f=>cond (Nat.beq id 0) (aT ygu ygv (fun n nf=>cond (Nat.beq n 25) (ygz nf) none) fun pv K=>iter (fun v next=>br k pv.1 v next (fun x=>K (.exit 0) (yh1 pv.1 x))) k pv.2) ((fun _ _ _ _=>none) id f)
theorem yh3 {ρ:Type} (k:Nat) (p:List Int) (v:Int× Int) (K K1:Ex→St→Option ρ):ev (ygq k) (yh2 ρ k) 0 ygt (ygy (p,v)) (fun e st'=>match e with
    |.normal=>(aS ygu ygv st').bind fun nf=>K1 .normal (ak ygu st'.n nf)
    |e=>(aS (ygw e) (ygx e) st').bind fun nf=>K e (ak (ygw e) st'.n nf))=br k p v (fun v'=>K1 .normal (ygy (p,v'))) (fun x=>K (.exit 0) (yh1 p x)):=by kernel_rfl
theorem yh4 {ρ:Type} (k:Nat):Sound Tryz.prog (.loop ygt) (yh2 ρ k 0 fun st K=>ev (ygq k) (yh2 ρ k) 0 ygt st K):=
  aX (aE (ygr k) ygt 0 (av (by kernel_rfl))) ygw ygx k (g:=fun p v next K=>br k p v next (fun x=>K (.exit 0) (yh1 p x))) (bp yh0) (fun p v K K1=>yh3 k p v K K1)
def yh5 (k:Nat):O Tryz.prog 111:=⟨oP [.one (.sl (.int .i64))] (cdL (.int .i64)) ⟨.h 0,[]⟩ cdZ fun a=>cR k a,okP (LP:=yh2 _ k) (ygr k) Tryz.func111 (by kernel_rfl) (by kernel_rfl) (by kernel_rfl) (aF (l:=[(0,ygt)]) (by kernel_rfl) ⟨yh4 k,trivial⟩) (.sc) fun a=>by kernel_rfl⟩
noncomputable def yh6 (k:Nat):Env:=iU (P:=Tryz.prog) tt [⟨109,yfx k⟩,⟨110,ygp k⟩,⟨111,yh5 k⟩,⟨112,yfu k⟩,⟨113,yfy k⟩]
theorem yh7 (k:Nat):bY (yh6 k):=fun g=>bh _ g
noncomputable def yh8:Code:=(Tryz.f94.body).getD .skip
noncomputable def yh9:Code:=((aH 0 yh8).getD 0 (0,.skip)).2
def yha:List Nat:=[5,11,49,50,51]
def yhb:List (aM× Co):=[]
def yhc:Ex→List Nat
  |.exit j=>cond (Nat.beq j 1) [5,11] []
  |.ret=>[]
  |.normal=>[]
def yhd:Ex→List (aM× Co)
  |.exit j=>cond (Nat.beq j 1) [] []
  |.ret=>[]
  |.normal=>[]
def yhe (pv:(Int× Int× Int× Int× Int× Int× Int× Int× List Int× List Int× List Int)× (Int× Int)):St:={au:=[(5,.ptr 0 0 0),(11,.r [] (.int .i64 pv.2.1)),(49,.own 1),(50,.r [] (.int .i64 pv.1.1)),(51,.r [] (.int .i64 pv.2.2))],heap:=[(0,.box [.r [] (.int .i64 pv.1.2.1),.r [] (.int .i64 pv.1.2.2.1),.r [] (.int .i64 pv.1.2.2.2.1),.r [] (.int .i64 pv.1.2.2.2.2.1),.r [] (.int .i64 pv.1.2.2.2.2.2.1),.r [] (.int .i64 pv.1.2.2.2.2.2.2.1),.r [] (.int .i64 pv.1.2.2.2.2.2.2.2.1),.r [] (.sl (.int .i64) pv.1.2.2.2.2.2.2.2.2.1),.r [] (.sl (.int .i64) pv.1.2.2.2.2.2.2.2.2.2.1)]),(1,.arr none (.int .i64) pv.1.2.2.2.2.2.2.2.2.2.2)],nid:=2,n:=86,gh:=[]}
def yhf (nf:NF):Option ((Int× Int× Int× Int× Int× Int× Int× Int× List Int× List Int× List Int)× (Int× Int)):=match nf with
  |([.ptr 0 0 0,.r [] (.int .i64 w0),.own 1,.r [] (.int .i64 w1),.r [] (.int .i64 w2)],[.box [.r [] (.int .i64 w3),.r [] (.int .i64 w4),.r [] (.int .i64 w5),.r [] (.int .i64 w6),.r [] (.int .i64 w7),.r [] (.int .i64 w8),.r [] (.int .i64 w9),.r [] (.sl (.int .i64) w10),.r [] (.sl (.int .i64) w11)],.arr none (.int .i64) w12],[])=>some ((w1,w3,w4,w5,w6,w7,w8,w9,w10,w11,w12),(w0,w2))
  |_=>none
theorem yhg (nf:NF) (v:(Int× Int× Int× Int× Int× Int× Int× Int× List Int× List Int× List Int)× (Int× Int)) (h:yhf nf=some v):ak yha 86 nf=yhe v:=by
  unfold yhf at h
  split at h
  · cases h;rfl
  · cases h
def yhh (p:Int× Int× Int× Int× Int× Int× Int× Int× List Int× List Int× List Int) (x:Int):St:={au:=[(5,.ptr 0 0 0),(11,.r [] (.int .i64 x))],heap:=[(0,.box [.r [] (.int .i64 p.2.1),.r [] (.int .i64 p.2.2.1),.r [] (.int .i64 p.2.2.2.1),.r [] (.int .i64 p.2.2.2.2.1),.r [] (.int .i64 p.2.2.2.2.2.1),.r [] (.int .i64 p.2.2.2.2.2.2.1),.r [] (.int .i64 p.2.2.2.2.2.2.2.1),.r [] (.sl (.int .i64) p.2.2.2.2.2.2.2.2.1),.r [] (.sl (.int .i64) p.2.2.2.2.2.2.2.2.2.1)])],nid:=1,n:=86,gh:=[]}
def yhi (ρ:Type) (k:Nat):Nat→Ev ρ→Ev ρ:=fun id f=>cond (Nat.beq id 1) (aT yha yhb (fun n nf=>cond (Nat.beq n 86) (yhf nf) none) fun pv K=>iter (fun v next=>cL k pv.1 v next (fun x=>K (.exit 1) (yhh pv.1 x))) k pv.2) ((fun _ _ _ _=>none) id f)
theorem yhj {ρ:Type} (k:Nat) (p:Int× Int× Int× Int× Int× Int× Int× Int× List Int× List Int× List Int) (v:Int× Int) (K K1:Ex→St→Option ρ):ev (yh6 k) (yhi ρ k) 1 yh9 (yhe (p,v)) (fun e st'=>match e with
    |.normal=>(aS yha yhb st').bind fun nf=>K1 .normal (ak yha st'.n nf)
    |e=>(aS (yhc e) (yhd e) st').bind fun nf=>K e (ak (yhc e) st'.n nf))=cL k p v (fun v'=>K1 .normal (yhe (p,v'))) (fun x=>K (.exit 1) (yhh p x)):=by kernel_rfl
theorem yhk {ρ:Type} (k:Nat):Sound Tryz.prog (.loop yh9) (yhi ρ k 1 fun st K=>ev (yh6 k) (yhi ρ k) 1 yh9 st K):=
  aX (aE (yh7 k) yh9 1 (av (by kernel_rfl))) yhc yhd k (g:=fun p v next K=>cL k p v next (fun x=>K (.exit 1) (yhh p x))) (bp yhg) (fun p v K K1=>yhj k p v K K1)
def yhl (k:Nat):O Tryz.prog 94:=⟨oP [.agg [(.int .i64),(.int .i64),(.int .i64),(.int .i64),(.int .i64),(.int .i64),(.int .i64),(.sl (.int .i64)),(.sl (.int .i64))],.agg [(.int .i64),(.int .i64),(.int .i64),(.sl (.int .i64))],.one (.int .i64),.one (.int .i64),.one (.int .i64)] ((cdS .aC).p ((cdS .bK).p (cdZ.p (cdZ.p cdZ)))) ⟨.h 0,[]⟩ cdZ fun a=>ig k a.1 a.2.1 a.2.2.1 a.2.2.2.1 a.2.2.2.2,okP (LP:=yhi _ k) (yh7 k) Tryz.func94 (by kernel_rfl) (by kernel_rfl) (by kernel_rfl) (aF (l:=[(1,yh9)]) (by kernel_rfl) ⟨yhk k,trivial⟩) (.sc) fun a=>by kernel_rfl⟩
noncomputable def yhm (k:Nat):Env:=iU (P:=Tryz.prog) tt [⟨42,y7c k⟩,⟨93,y6t k⟩,⟨94,yhl k⟩]
theorem yhn (k:Nat):bY (yhm k):=fun g=>bh _ g
noncomputable def yho:Code:=(Tryz.f72.body).getD .skip
noncomputable def yhp:Code:=((aH 0 yho).getD 0 (0,.skip)).2
noncomputable def yhq:Code:=((aH 0 yhp).getD 0 (0,.skip)).2
noncomputable def yhr:Code:=((aH 2 yhq).getD 0 (0,.skip)).2
def yhs:List Nat:=[2,3,4,6,8,9,10,30,31,35,36,40,41]
def yht:List (aM× Co):=[]
def yhu:Ex→List Nat
  |.exit j=>cond (Nat.beq j 4) [2,3,4,6,8,9,30,31,35,36] []
  |.ret=>[]
  |.normal=>[]
def yhv:Ex→List (aM× Co)
  |.exit j=>cond (Nat.beq j 4) [] []
  |.ret=>[]
  |.normal=>[]
def yhw (pv:(Int× Int× Int× Int× Int× Int× Int× Int× Int× Int× List Int× Int× Int× Int× Int× Int× Int× Int× List Int× List Int× Int× Int× Int× Int× Int× Int× Int× Int× Int)× (Int× List Int)):St:={au:=[(2,.ptr 0 0 0),(3,.ptr 1 0 0),(4,.ptr 2 0 0),(6,.ptr 3 0 0),(8,.ptr 4 0 0),(9,.r [] (.int .i64 pv.1.1)),(10,.r [] (.int .i64 pv.1.2.1)),(30,.r [] (.int .i64 pv.1.2.2.1)),(31,.r [] (.int .i64 pv.1.2.2.2.1)),(35,.r [] (.int .i64 pv.1.2.2.2.2.1)),(36,.r [] (.int .i64 pv.1.2.2.2.2.2.1)),(40,.r [] (.int .i64 pv.1.2.2.2.2.2.2.1)),(41,.r [] (.int .i64 pv.2.1))],heap:=[(0,.box [.r [] (.int .i64 pv.1.2.2.2.2.2.2.2.1),.r [] (.int .i64 pv.1.2.2.2.2.2.2.2.2.1),.r [] (.int .i64 pv.1.2.2.2.2.2.2.2.2.2.1),.r [] (.sl (.int .i64) pv.1.2.2.2.2.2.2.2.2.2.2.1)]),(1,.box [.r [] (.int .i64 pv.1.2.2.2.2.2.2.2.2.2.2.2.1),.r [] (.int .i64 pv.1.2.2.2.2.2.2.2.2.2.2.2.2.1),.r [] (.int .i64 pv.1.2.2.2.2.2.2.2.2.2.2.2.2.2.1),.r [] (.int .i64 pv.1.2.2.2.2.2.2.2.2.2.2.2.2.2.2.1),.r [] (.int .i64 pv.1.2.2.2.2.2.2.2.2.2.2.2.2.2.2.2.1),.r [] (.int .i64 pv.1.2.2.2.2.2.2.2.2.2.2.2.2.2.2.2.2.1),.r [] (.int .i64 pv.1.2.2.2.2.2.2.2.2.2.2.2.2.2.2.2.2.2.1),.r [] (.sl (.int .i64) pv.1.2.2.2.2.2.2.2.2.2.2.2.2.2.2.2.2.2.2.1),.r [] (.sl (.int .i64) pv.1.2.2.2.2.2.2.2.2.2.2.2.2.2.2.2.2.2.2.2.1)]),(2,.box [.r [] (.int .i64 pv.1.2.2.2.2.2.2.2.2.2.2.2.2.2.2.2.2.2.2.2.2.1),.r [] (.int .i64 pv.1.2.2.2.2.2.2.2.2.2.2.2.2.2.2.2.2.2.2.2.2.2.1),.r [] (.int .i64 pv.1.2.2.2.2.2.2.2.2.2.2.2.2.2.2.2.2.2.2.2.2.2.2.1),.bn]),(3,.box [.r [] (.int .i64 pv.1.2.2.2.2.2.2.2.2.2.2.2.2.2.2.2.2.2.2.2.2.2.2.2.1),.r [] (.int .i64 pv.1.2.2.2.2.2.2.2.2.2.2.2.2.2.2.2.2.2.2.2.2.2.2.2.2.1),.r [] (.int .i64 pv.1.2.2.2.2.2.2.2.2.2.2.2.2.2.2.2.2.2.2.2.2.2.2.2.2.2.1)]),(4,.box [.r [] (.int .i64 pv.1.2.2.2.2.2.2.2.2.2.2.2.2.2.2.2.2.2.2.2.2.2.2.2.2.2.2.1),.r [] (.int .i64 pv.1.2.2.2.2.2.2.2.2.2.2.2.2.2.2.2.2.2.2.2.2.2.2.2.2.2.2.2.1),.r [] (.int .i64 pv.1.2.2.2.2.2.2.2.2.2.2.2.2.2.2.2.2.2.2.2.2.2.2.2.2.2.2.2.2),.own 5]),(5,.arr none (.int .i64) pv.2.2)],nid:=6,n:=59,gh:=[]}
def yhx (nf:NF):Option ((Int× Int× Int× Int× Int× Int× Int× Int× Int× Int× List Int× Int× Int× Int× Int× Int× Int× Int× List Int× List Int× Int× Int× Int× Int× Int× Int× Int× Int× Int)× (Int× List Int)):=match nf with
  |([.ptr 0 0 0,.ptr 1 0 0,.ptr 2 0 0,.ptr 3 0 0,.ptr 4 0 0,.r [] (.int .i64 w0),.r [] (.int .i64 w1),.r [] (.int .i64 w2),.r [] (.int .i64 w3),.r [] (.int .i64 w4),.r [] (.int .i64 w5),.r [] (.int .i64 w6),.r [] (.int .i64 w7)],[.box [.r [] (.int .i64 w8),.r [] (.int .i64 w9),.r [] (.int .i64 w10),.r [] (.sl (.int .i64) w11)],.box [.r [] (.int .i64 w12),.r [] (.int .i64 w13),.r [] (.int .i64 w14),.r [] (.int .i64 w15),.r [] (.int .i64 w16),.r [] (.int .i64 w17),.r [] (.int .i64 w18),.r [] (.sl (.int .i64) w19),.r [] (.sl (.int .i64) w20)],.box [.r [] (.int .i64 w21),.r [] (.int .i64 w22),.r [] (.int .i64 w23),.bn],.box [.r [] (.int .i64 w24),.r [] (.int .i64 w25),.r [] (.int .i64 w26)],.box [.r [] (.int .i64 w27),.r [] (.int .i64 w28),.r [] (.int .i64 w29),.own 5],.arr none (.int .i64) w30],[])=>some ((w0,w1,w2,w3,w4,w5,w6,w8,w9,w10,w11,w12,w13,w14,w15,w16,w17,w18,w19,w20,w21,w22,w23,w24,w25,w26,w27,w28,w29),(w7,w30))
  |_=>none
theorem yhy (nf:NF) (v:(Int× Int× Int× Int× Int× Int× Int× Int× Int× Int× List Int× Int× Int× Int× Int× Int× Int× Int× List Int× List Int× Int× Int× Int× Int× Int× Int× Int× Int× Int)× (Int× List Int)) (h:yhx nf=some v):ak yhs 59 nf=yhw v:=by
  unfold yhx at h
  split at h
  · cases h;rfl
  · cases h
def yhz (p:Int× Int× Int× Int× Int× Int× Int× Int× Int× Int× List Int× Int× Int× Int× Int× Int× Int× Int× List Int× List Int× Int× Int× Int× Int× Int× Int× Int× Int× Int) (x:List Int):St:={au:=[(2,.ptr 0 0 0),(3,.ptr 1 0 0),(4,.ptr 2 0 0),(6,.ptr 3 0 0),(8,.ptr 4 0 0),(9,.r [] (.int .i64 p.1)),(30,.r [] (.int .i64 p.2.2.1)),(31,.r [] (.int .i64 p.2.2.2.1)),(35,.r [] (.int .i64 p.2.2.2.2.1)),(36,.r [] (.int .i64 p.2.2.2.2.2.1))],heap:=[(0,.box [.r [] (.int .i64 p.2.2.2.2.2.2.2.1),.r [] (.int .i64 p.2.2.2.2.2.2.2.2.1),.r [] (.int .i64 p.2.2.2.2.2.2.2.2.2.1),.r [] (.sl (.int .i64) p.2.2.2.2.2.2.2.2.2.2.1)]),(1,.box [.r [] (.int .i64 p.2.2.2.2.2.2.2.2.2.2.2.1),.r [] (.int .i64 p.2.2.2.2.2.2.2.2.2.2.2.2.1),.r [] (.int .i64 p.2.2.2.2.2.2.2.2.2.2.2.2.2.1),.r [] (.int .i64 p.2.2.2.2.2.2.2.2.2.2.2.2.2.2.1),.r [] (.int .i64 p.2.2.2.2.2.2.2.2.2.2.2.2.2.2.2.1),.r [] (.int .i64 p.2.2.2.2.2.2.2.2.2.2.2.2.2.2.2.2.1),.r [] (.int .i64 p.2.2.2.2.2.2.2.2.2.2.2.2.2.2.2.2.2.1),.r [] (.sl (.int .i64) p.2.2.2.2.2.2.2.2.2.2.2.2.2.2.2.2.2.2.1),.r [] (.sl (.int .i64) p.2.2.2.2.2.2.2.2.2.2.2.2.2.2.2.2.2.2.2.1)]),(2,.box [.r [] (.int .i64 p.2.2.2.2.2.2.2.2.2.2.2.2.2.2.2.2.2.2.2.2.1),.r [] (.int .i64 p.2.2.2.2.2.2.2.2.2.2.2.2.2.2.2.2.2.2.2.2.2.1),.r [] (.int .i64 p.2.2.2.2.2.2.2.2.2.2.2.2.2.2.2.2.2.2.2.2.2.2.1),.bn]),(3,.box [.r [] (.int .i64 p.2.2.2.2.2.2.2.2.2.2.2.2.2.2.2.2.2.2.2.2.2.2.2.1),.r [] (.int .i64 p.2.2.2.2.2.2.2.2.2.2.2.2.2.2.2.2.2.2.2.2.2.2.2.2.1),.r [] (.int .i64 p.2.2.2.2.2.2.2.2.2.2.2.2.2.2.2.2.2.2.2.2.2.2.2.2.2.1)]),(4,.box [.r [] (.int .i64 p.2.2.2.2.2.2.2.2.2.2.2.2.2.2.2.2.2.2.2.2.2.2.2.2.2.2.1),.r [] (.int .i64 p.2.2.2.2.2.2.2.2.2.2.2.2.2.2.2.2.2.2.2.2.2.2.2.2.2.2.2.1),.r [] (.int .i64 p.2.2.2.2.2.2.2.2.2.2.2.2.2.2.2.2.2.2.2.2.2.2.2.2.2.2.2.2),.own 5]),(5,.arr none (.int .i64) x)],nid:=6,n:=59,gh:=[]}
def yi0:List Nat:=[2,3,4,6,8,9,30,31,35,36]
def yi1:List (aM× Co):=[]
def yi2:Ex→List Nat
  |.exit j=>cond (Nat.beq j 2) [2,3,4,6,8,30,31] []
  |.ret=>[]
  |.normal=>[]
def yi3:Ex→List (aM× Co)
  |.exit j=>cond (Nat.beq j 2) [] []
  |.ret=>[]
  |.normal=>[]
def yi4 (pv:(Int× Int× Int× Int× Int× Int× Int× List Int× Int× Int× Int× Int× Int× Int× Int× List Int× List Int× Int× Int× Int× Int× Int× Int× Int× Int× Int)× (Int× List Int)):St:={au:=[(2,.ptr 0 0 0),(3,.ptr 1 0 0),(4,.ptr 2 0 0),(6,.ptr 3 0 0),(8,.ptr 4 0 0),(9,.r [] (.int .i64 pv.1.1)),(30,.r [] (.int .i64 pv.1.2.1)),(31,.r [] (.int .i64 pv.1.2.2.1)),(35,.r [] (.int .i64 pv.1.2.2.2.1)),(36,.r [] (.int .i64 pv.2.1))],heap:=[(0,.box [.r [] (.int .i64 pv.1.2.2.2.2.1),.r [] (.int .i64 pv.1.2.2.2.2.2.1),.r [] (.int .i64 pv.1.2.2.2.2.2.2.1),.r [] (.sl (.int .i64) pv.1.2.2.2.2.2.2.2.1)]),(1,.box [.r [] (.int .i64 pv.1.2.2.2.2.2.2.2.2.1),.r [] (.int .i64 pv.1.2.2.2.2.2.2.2.2.2.1),.r [] (.int .i64 pv.1.2.2.2.2.2.2.2.2.2.2.1),.r [] (.int .i64 pv.1.2.2.2.2.2.2.2.2.2.2.2.1),.r [] (.int .i64 pv.1.2.2.2.2.2.2.2.2.2.2.2.2.1),.r [] (.int .i64 pv.1.2.2.2.2.2.2.2.2.2.2.2.2.2.1),.r [] (.int .i64 pv.1.2.2.2.2.2.2.2.2.2.2.2.2.2.2.1),.r [] (.sl (.int .i64) pv.1.2.2.2.2.2.2.2.2.2.2.2.2.2.2.2.1),.r [] (.sl (.int .i64) pv.1.2.2.2.2.2.2.2.2.2.2.2.2.2.2.2.2.1)]),(2,.box [.r [] (.int .i64 pv.1.2.2.2.2.2.2.2.2.2.2.2.2.2.2.2.2.2.1),.r [] (.int .i64 pv.1.2.2.2.2.2.2.2.2.2.2.2.2.2.2.2.2.2.2.1),.r [] (.int .i64 pv.1.2.2.2.2.2.2.2.2.2.2.2.2.2.2.2.2.2.2.2.1),.bn]),(3,.box [.r [] (.int .i64 pv.1.2.2.2.2.2.2.2.2.2.2.2.2.2.2.2.2.2.2.2.2.1),.r [] (.int .i64 pv.1.2.2.2.2.2.2.2.2.2.2.2.2.2.2.2.2.2.2.2.2.2.1),.r [] (.int .i64 pv.1.2.2.2.2.2.2.2.2.2.2.2.2.2.2.2.2.2.2.2.2.2.2.1)]),(4,.box [.r [] (.int .i64 pv.1.2.2.2.2.2.2.2.2.2.2.2.2.2.2.2.2.2.2.2.2.2.2.2.1),.r [] (.int .i64 pv.1.2.2.2.2.2.2.2.2.2.2.2.2.2.2.2.2.2.2.2.2.2.2.2.2.1),.r [] (.int .i64 pv.1.2.2.2.2.2.2.2.2.2.2.2.2.2.2.2.2.2.2.2.2.2.2.2.2.2),.own 5]),(5,.arr none (.int .i64) pv.2.2)],nid:=6,n:=59,gh:=[]}
def yi5 (nf:NF):Option ((Int× Int× Int× Int× Int× Int× Int× List Int× Int× Int× Int× Int× Int× Int× Int× List Int× List Int× Int× Int× Int× Int× Int× Int× Int× Int× Int)× (Int× List Int)):=match nf with
  |([.ptr 0 0 0,.ptr 1 0 0,.ptr 2 0 0,.ptr 3 0 0,.ptr 4 0 0,.r [] (.int .i64 w0),.r [] (.int .i64 w1),.r [] (.int .i64 w2),.r [] (.int .i64 w3),.r [] (.int .i64 w4)],[.box [.r [] (.int .i64 w5),.r [] (.int .i64 w6),.r [] (.int .i64 w7),.r [] (.sl (.int .i64) w8)],.box [.r [] (.int .i64 w9),.r [] (.int .i64 w10),.r [] (.int .i64 w11),.r [] (.int .i64 w12),.r [] (.int .i64 w13),.r [] (.int .i64 w14),.r [] (.int .i64 w15),.r [] (.sl (.int .i64) w16),.r [] (.sl (.int .i64) w17)],.box [.r [] (.int .i64 w18),.r [] (.int .i64 w19),.r [] (.int .i64 w20),.bn],.box [.r [] (.int .i64 w21),.r [] (.int .i64 w22),.r [] (.int .i64 w23)],.box [.r [] (.int .i64 w24),.r [] (.int .i64 w25),.r [] (.int .i64 w26),.own 5],.arr none (.int .i64) w27],[])=>some ((w0,w1,w2,w3,w5,w6,w7,w8,w9,w10,w11,w12,w13,w14,w15,w16,w17,w18,w19,w20,w21,w22,w23,w24,w25,w26),(w4,w27))
  |_=>none
theorem yi6 (nf:NF) (v:(Int× Int× Int× Int× Int× Int× Int× List Int× Int× Int× Int× Int× Int× Int× Int× List Int× List Int× Int× Int× Int× Int× Int× Int× Int× Int× Int)× (Int× List Int)) (h:yi5 nf=some v):ak yi0 59 nf=yi4 v:=by
  unfold yi5 at h
  split at h
  · cases h;rfl
  · cases h
def yi7 (p:Int× Int× Int× Int× Int× Int× Int× List Int× Int× Int× Int× Int× Int× Int× Int× List Int× List Int× Int× Int× Int× Int× Int× Int× Int× Int× Int) (x:List Int):St:={au:=[(2,.ptr 0 0 0),(3,.ptr 1 0 0),(4,.ptr 2 0 0),(6,.ptr 3 0 0),(8,.ptr 4 0 0),(30,.r [] (.int .i64 p.2.1)),(31,.r [] (.int .i64 p.2.2.1))],heap:=[(0,.box [.r [] (.int .i64 p.2.2.2.2.1),.r [] (.int .i64 p.2.2.2.2.2.1),.r [] (.int .i64 p.2.2.2.2.2.2.1),.r [] (.sl (.int .i64) p.2.2.2.2.2.2.2.1)]),(1,.box [.r [] (.int .i64 p.2.2.2.2.2.2.2.2.1),.r [] (.int .i64 p.2.2.2.2.2.2.2.2.2.1),.r [] (.int .i64 p.2.2.2.2.2.2.2.2.2.2.1),.r [] (.int .i64 p.2.2.2.2.2.2.2.2.2.2.2.1),.r [] (.int .i64 p.2.2.2.2.2.2.2.2.2.2.2.2.1),.r [] (.int .i64 p.2.2.2.2.2.2.2.2.2.2.2.2.2.1),.r [] (.int .i64 p.2.2.2.2.2.2.2.2.2.2.2.2.2.2.1),.r [] (.sl (.int .i64) p.2.2.2.2.2.2.2.2.2.2.2.2.2.2.2.1),.r [] (.sl (.int .i64) p.2.2.2.2.2.2.2.2.2.2.2.2.2.2.2.2.1)]),(2,.box [.r [] (.int .i64 p.2.2.2.2.2.2.2.2.2.2.2.2.2.2.2.2.2.1),.r [] (.int .i64 p.2.2.2.2.2.2.2.2.2.2.2.2.2.2.2.2.2.2.1),.r [] (.int .i64 p.2.2.2.2.2.2.2.2.2.2.2.2.2.2.2.2.2.2.2.1),.bn]),(3,.box [.r [] (.int .i64 p.2.2.2.2.2.2.2.2.2.2.2.2.2.2.2.2.2.2.2.2.1),.r [] (.int .i64 p.2.2.2.2.2.2.2.2.2.2.2.2.2.2.2.2.2.2.2.2.2.1),.r [] (.int .i64 p.2.2.2.2.2.2.2.2.2.2.2.2.2.2.2.2.2.2.2.2.2.2.1)]),(4,.box [.r [] (.int .i64 p.2.2.2.2.2.2.2.2.2.2.2.2.2.2.2.2.2.2.2.2.2.2.2.1),.r [] (.int .i64 p.2.2.2.2.2.2.2.2.2.2.2.2.2.2.2.2.2.2.2.2.2.2.2.2.1),.r [] (.int .i64 p.2.2.2.2.2.2.2.2.2.2.2.2.2.2.2.2.2.2.2.2.2.2.2.2.2),.own 5]),(5,.arr none (.int .i64) x)],nid:=6,n:=59,gh:=[]}
def yi8:List Nat:=[2,3,4,6,8,30,31]
def yi9:List (aM× Co):=[((.D0 8 3),(.mo false (.int .i64)))]
def yia:Ex→List Nat
  |.exit j=>cond (Nat.beq j 0) [4,8] []
  |.ret=>[]
  |.normal=>[]
def yib:Ex→List (aM× Co)
  |.exit j=>cond (Nat.beq j 0) [] []
  |.ret=>[]
  |.normal=>[]
def yic (pv:(Int× Int× Int× Int× List Int× Int× Int× Int× Int× Int× Int× Int× List Int× List Int× Int× Int× Int× Int× Int× Int× Int× Int× Int)× (Int× List Int)):St:={au:=[(2,.ptr 0 0 0),(3,.ptr 1 0 0),(4,.ptr 2 0 0),(6,.ptr 3 0 0),(8,.ptr 4 0 0),(30,.r [] (.int .i64 pv.1.1)),(31,.r [] (.int .i64 pv.2.1))],heap:=[(0,.box [.r [] (.int .i64 pv.1.2.1),.r [] (.int .i64 pv.1.2.2.1),.r [] (.int .i64 pv.1.2.2.2.1),.r [] (.sl (.int .i64) pv.1.2.2.2.2.1)]),(1,.box [.r [] (.int .i64 pv.1.2.2.2.2.2.1),.r [] (.int .i64 pv.1.2.2.2.2.2.2.1),.r [] (.int .i64 pv.1.2.2.2.2.2.2.2.1),.r [] (.int .i64 pv.1.2.2.2.2.2.2.2.2.1),.r [] (.int .i64 pv.1.2.2.2.2.2.2.2.2.2.1),.r [] (.int .i64 pv.1.2.2.2.2.2.2.2.2.2.2.1),.r [] (.int .i64 pv.1.2.2.2.2.2.2.2.2.2.2.2.1),.r [] (.sl (.int .i64) pv.1.2.2.2.2.2.2.2.2.2.2.2.2.1),.r [] (.sl (.int .i64) pv.1.2.2.2.2.2.2.2.2.2.2.2.2.2.1)]),(2,.box [.r [] (.int .i64 pv.1.2.2.2.2.2.2.2.2.2.2.2.2.2.2.1),.r [] (.int .i64 pv.1.2.2.2.2.2.2.2.2.2.2.2.2.2.2.2.1),.r [] (.int .i64 pv.1.2.2.2.2.2.2.2.2.2.2.2.2.2.2.2.2.1),.bn]),(3,.box [.r [] (.int .i64 pv.1.2.2.2.2.2.2.2.2.2.2.2.2.2.2.2.2.2.1),.r [] (.int .i64 pv.1.2.2.2.2.2.2.2.2.2.2.2.2.2.2.2.2.2.2.1),.r [] (.int .i64 pv.1.2.2.2.2.2.2.2.2.2.2.2.2.2.2.2.2.2.2.2.1)]),(4,.box [.r [] (.int .i64 pv.1.2.2.2.2.2.2.2.2.2.2.2.2.2.2.2.2.2.2.2.2.1),.r [] (.int .i64 pv.1.2.2.2.2.2.2.2.2.2.2.2.2.2.2.2.2.2.2.2.2.2.1),.r [] (.int .i64 pv.1.2.2.2.2.2.2.2.2.2.2.2.2.2.2.2.2.2.2.2.2.2.2),.own 5]),(5,.arr none (.int .i64) pv.2.2)],nid:=6,n:=59,gh:=[]}
def yid (nf:NF):Option ((Int× Int× Int× Int× List Int× Int× Int× Int× Int× Int× Int× Int× List Int× List Int× Int× Int× Int× Int× Int× Int× Int× Int× Int)× (Int× List Int)):=match nf with
  |([.ptr 0 0 0,.ptr 1 0 0,.ptr 2 0 0,.ptr 3 0 0,.ptr 4 0 0,.r [] (.int .i64 w0),.r [] (.int .i64 w1)],[.box [.r [] (.int .i64 w2),.r [] (.int .i64 w3),.r [] (.int .i64 w4),.r [] (.sl (.int .i64) w5)],.box [.r [] (.int .i64 w6),.r [] (.int .i64 w7),.r [] (.int .i64 w8),.r [] (.int .i64 w9),.r [] (.int .i64 w10),.r [] (.int .i64 w11),.r [] (.int .i64 w12),.r [] (.sl (.int .i64) w13),.r [] (.sl (.int .i64) w14)],.box [.r [] (.int .i64 w15),.r [] (.int .i64 w16),.r [] (.int .i64 w17),.bn],.box [.r [] (.int .i64 w18),.r [] (.int .i64 w19),.r [] (.int .i64 w20)],.box [.r [] (.int .i64 w21),.r [] (.int .i64 w22),.r [] (.int .i64 w23),.own 5],.arr none (.int .i64) w24],[])=>some ((w0,w2,w3,w4,w5,w6,w7,w8,w9,w10,w11,w12,w13,w14,w15,w16,w17,w18,w19,w20,w21,w22,w23),(w1,w24))
  |_=>none
theorem yie (nf:NF) (v:(Int× Int× Int× Int× List Int× Int× Int× Int× Int× Int× Int× Int× List Int× List Int× Int× Int× Int× Int× Int× Int× Int× Int× Int)× (Int× List Int)) (h:yid nf=some v):ak yi8 59 nf=yic v:=by
  unfold yid at h
  split at h
  · cases h;rfl
  · cases h
def yif (p:Int× Int× Int× Int× List Int× Int× Int× Int× Int× Int× Int× Int× List Int× List Int× Int× Int× Int× Int× Int× Int× Int× Int× Int) (x:List Int):St:={au:=[(4,.ptr 0 0 0),(8,.ptr 1 0 0)],heap:=[(0,.box [.r [] (.int .i64 p.2.2.2.2.2.2.2.2.2.2.2.2.2.2.1),.r [] (.int .i64 p.2.2.2.2.2.2.2.2.2.2.2.2.2.2.2.1),.r [] (.int .i64 p.2.2.2.2.2.2.2.2.2.2.2.2.2.2.2.2.1),.bn]),(1,.box [.r [] (.int .i64 p.2.2.2.2.2.2.2.2.2.2.2.2.2.2.2.2.2.2.2.2.1),.r [] (.int .i64 p.2.2.2.2.2.2.2.2.2.2.2.2.2.2.2.2.2.2.2.2.2.1),.r [] (.int .i64 p.2.2.2.2.2.2.2.2.2.2.2.2.2.2.2.2.2.2.2.2.2.2),.own 2]),(2,.arr none (.int .i64) x)],nid:=3,n:=59,gh:=[]}
def yig (ρ:Type) (k:Nat):Nat→Ev ρ→Ev ρ:=fun id f=>cond (Nat.beq id 0) (aT yi8 yi9 (fun n nf=>cond (Nat.beq n 59) (yid nf) none) fun pv K=>iter (fun v next=>dF k pv.1 v next (fun x=>K (.exit 0) (yif pv.1 x))) k pv.2) ((fun id f=>cond (Nat.beq id 2) (aT yi0 yi1 (fun n nf=>cond (Nat.beq n 59) (yi5 nf) none) fun pv K=>iter (fun v next=>dE k pv.1 v next (fun x=>K (.exit 2) (yi7 pv.1 x))) k pv.2) ((fun id f=>cond (Nat.beq id 4) (aT yhs yht (fun n nf=>cond (Nat.beq n 59) (yhx nf) none) fun pv K=>iter (fun v next=>dD k pv.1 v next (fun x=>K (.exit 4) (yhz pv.1 x))) k pv.2) ((fun _ _ _ _=>none) id f)) id f)) id f)
theorem yih {ρ:Type} (k:Nat) (p:Int× Int× Int× Int× Int× Int× Int× Int× Int× Int× List Int× Int× Int× Int× Int× Int× Int× Int× List Int× List Int× Int× Int× Int× Int× Int× Int× Int× Int× Int) (v:Int× List Int) (K K1:Ex→St→Option ρ):ev (yhm k) (yig ρ k) 4 yhr (yhw (p,v)) (fun e st'=>match e with
    |.normal=>(aS yhs yht st').bind fun nf=>K1 .normal (ak yhs st'.n nf)
    |e=>(aS (yhu e) (yhv e) st').bind fun nf=>K e (ak (yhu e) st'.n nf))=dD k p v (fun v'=>K1 .normal (yhw (p,v'))) (fun x=>K (.exit 4) (yhz p x)):=by kernel_rfl
theorem yii {ρ:Type} (k:Nat):Sound Tryz.prog (.loop yhr) (yig ρ k 4 fun st K=>ev (yhm k) (yig ρ k) 4 yhr st K):=
  aX (aE (yhn k) yhr 4 (av (by kernel_rfl))) yhu yhv k (g:=fun p v next K=>dD k p v next (fun x=>K (.exit 4) (yhz p x))) (bp yhy) (fun p v K K1=>yih k p v K K1)
theorem yij {ρ:Type} (k:Nat) (p:Int× Int× Int× Int× Int× Int× Int× List Int× Int× Int× Int× Int× Int× Int× Int× List Int× List Int× Int× Int× Int× Int× Int× Int× Int× Int× Int) (v:Int× List Int) (K K1:Ex→St→Option ρ):ev (yhm k) (yig ρ k) 2 yhq (yi4 (p,v)) (fun e st'=>match e with
    |.normal=>(aS yi0 yi1 st').bind fun nf=>K1 .normal (ak yi0 st'.n nf)
    |e=>(aS (yi2 e) (yi3 e) st').bind fun nf=>K e (ak (yi2 e) st'.n nf))=dE k p v (fun v'=>K1 .normal (yi4 (p,v'))) (fun x=>K (.exit 2) (yi7 p x)):=by kernel_rfl
theorem yik {ρ:Type} (k:Nat):Sound Tryz.prog (.loop yhq) (yig ρ k 2 fun st K=>ev (yhm k) (yig ρ k) 2 yhq st K):=
  aX (aE (yhn k) yhq 2 (aF (l:=[(4,yhr)]) (by kernel_rfl) ⟨yii k,trivial⟩)) yi2 yi3 k (g:=fun p v next K=>dE k p v next (fun x=>K (.exit 2) (yi7 p x))) (bp yi6) (fun p v K K1=>yij k p v K K1)
theorem yil {ρ:Type} (k:Nat) (p:Int× Int× Int× Int× List Int× Int× Int× Int× Int× Int× Int× Int× List Int× List Int× Int× Int× Int× Int× Int× Int× Int× Int× Int) (v:Int× List Int) (K K1:Ex→St→Option ρ):ev (yhm k) (yig ρ k) 0 yhp (yic (p,v)) (fun e st'=>match e with
    |.normal=>(aS yi8 yi9 st').bind fun nf=>K1 .normal (ak yi8 st'.n nf)
    |e=>(aS (yia e) (yib e) st').bind fun nf=>K e (ak (yia e) st'.n nf))=dF k p v (fun v'=>K1 .normal (yic (p,v'))) (fun x=>K (.exit 0) (yif p x)):=by kernel_rfl
theorem yim {ρ:Type} (k:Nat):Sound Tryz.prog (.loop yhp) (yig ρ k 0 fun st K=>ev (yhm k) (yig ρ k) 0 yhp st K):=
  aX (aE (yhn k) yhp 0 (aF (l:=[(2,yhq)]) (by kernel_rfl) ⟨yik k,trivial⟩)) yia yib k (g:=fun p v next K=>dF k p v next (fun x=>K (.exit 0) (yif p x))) (bp yie) (fun p v K K1=>yil k p v K K1)
def yin (k:Nat):O Tryz.prog 72:=⟨oP [.agg [(.int .i64),(.int .i64),(.int .i64),(.sl (.int .i64))],.agg [(.int .i64),(.int .i64),(.int .i64),(.int .i64),(.int .i64),(.int .i64),(.int .i64),(.sl (.int .i64)),(.sl (.int .i64))]] ((cdS .bK).p (cdS .aC)) ⟨.tup [.agg [.h 0,.h 1,.h 2,.own 0],.h 4],[.arr none (.int .i64) 3]⟩ ((cdS .bK).p cdB) fun a=>ll k a.1 a.2,okP (LP:=yig _ k) (yhn k) Tryz.func72 (by kernel_rfl) (by kernel_rfl) (by kernel_rfl) (aF (l:=[(0,yhp)]) (by kernel_rfl) ⟨yim k,trivial⟩) (.tup [.agg [.sc,.sc,.sc,.own (.int .i64)],.sc]) fun a=>by kernel_rfl⟩
noncomputable def yio (k:Nat):Env:=iU (P:=Tryz.prog) tt [⟨18,yf7 k⟩,⟨72,yin k⟩]
theorem yip (k:Nat):bY (yio k):=fun g=>bh _ g
noncomputable def yiq:Code:=(Tryz.f41.body).getD .skip
def yir (ρ:Type) (k:Nat):Nat→Ev ρ→Ev ρ:=fun _ _ _ _=>none
def yis (a:Job):List SV:=[.ptr 0 0 0]
def yit (a:Job):List Blk:=[.box [.r [] (.int .i64 a.model.inp.h),.r [] (.int .i64 a.model.inp.w),.r [] (.int .i64 a.model.inp.c),.own 1,.r [] (.int .i64 a.at_),.r [] (.int .i64 a.act.sh.h),.r [] (.int .i64 a.act.sh.w),.r [] (.int .i64 a.act.sh.c),.own 2,.r [] (.int .i64 a.cS)],.arr none (.st .aC) a.model.ai,.arr none (.int .i64) a.act.data]
def yiu (l:List SV) (b:List Blk):Option (Job):=match l,b with
  |[.ptr 0 0 0],[.box [.r [] (.int .i64 w0),.r [] (.int .i64 w1),.r [] (.int .i64 w2),.own 1,.r [] (.int .i64 w3),.r [] (.int .i64 w4),.r [] (.int .i64 w5),.r [] (.int .i64 w6),.own 2,.r [] (.int .i64 w7)],.arr none (.st .aC) w8,.arr none (.int .i64) w9]=>some (⟨(⟨(⟨w0,w1,w2⟩:Shape),w8⟩:Model),w3,(⟨(⟨w4,w5,w6⟩:Shape),w9⟩:al),w7⟩:Job)
  |_,_=>none
def yiv (a:Job) (r:Int× Int× Int× Int× List Int× Int):lI:=⟨.tup [],[some (.box [.r [] (.int .i64 a.model.inp.h),.r [] (.int .i64 a.model.inp.w),.r [] (.int .i64 a.model.inp.c),.own 3,.r [] (.int .i64 r.1),.r [] (.int .i64 r.2.1),.r [] (.int .i64 r.2.2.1),.r [] (.int .i64 r.2.2.2.1),.own 4,.r [] (.int .i64 r.2.2.2.2.2)]),none,some (.arr none (.int .i64) a.act.data)],[.arr none (.st .aC) a.model.ai,.arr none (.int .i64) r.2.2.2.2.1]⟩
def yiw (a:Job) (o:lI):Option (Int× Int× Int× Int× List Int× Int):=match o with
  |⟨.tup [],[some (.box [.r [] (.int .i64 z1),.r [] (.int .i64 z2),.r [] (.int .i64 z3),.own 3,.r [] (.int .i64 z4),.r [] (.int .i64 z5),.r [] (.int .i64 z6),.r [] (.int .i64 z7),.own 4,.r [] (.int .i64 z8)]),none,some (.arr none (.int .i64) z9)],[.arr none (.st .aC) z10,.arr none (.int .i64) z11]⟩=>cond (@dL Int _ z1 a.model.inp.h) (cond (@dL Int _ z2 a.model.inp.w) (cond (@dL Int _ z3 a.model.inp.c) (cond (@dL (List ag) _ z10 a.model.ai) (cond (@dL (List Int) _ z9 a.act.data) (some (z4,z5,z6,z7,z11,z8)) none) none) none) none) none
  |_=>none
def yix (k:Nat):MG:=fun _ l b K=>(yiu l b).bind fun a=>(bZ k a).bind fun r=>K (yiv a r)
theorem yiy (k:Nat) (a:Job):ev (yio k) (yir (Int× Int× Int× Int× List Int× Int) k) 0 yiq (D6 Tryz.f41 (yis a) (yit a)) (EP Tryz.prog Tryz.f41 (.tup []) [.box [.sc,.sc,.sc,.own (.st .aC),.sc,.sc,.sc,.sc,.own (.int .i64),.sc],.gone,.arr] (yiw a))=bZ k a:=by kernel_rfl
theorem yiz (k:Nat):EK Tryz.prog 41 (yix k):=
  qh (yip k) Tryz.func41 (by kernel_rfl) (by kernel_rfl) yis yit yiu
    (fun l b a h=>by unfold yiu at h;split at h<;>first|(cases h;exact⟨rfl,rfl⟩)|cases h) (fun a=>rfl) (av (by kernel_rfl)) (fun a r=>rfl)
    (fun a o r h=>by unfold yiw at h;split at h<;>first|(obtain⟨e0,e1,e2,e3,e4,hq⟩:=Dx h;clear h;subst e0;subst e1;subst e2;subst e3;subst e4;have h:=hq;clear hq;cases h;rfl)|cases h) (yiy k)
def yj0 (k:Nat):O Tryz.prog 41:=⟨yG [.cP] (yix k),uS (yiz k)⟩
noncomputable def yj1 (k:Nat):Env:={iU (P:=Tryz.prog) tt [⟨33,y8d k⟩,⟨34,y8y k⟩,⟨39,yf4 k⟩,⟨41,yj0 k⟩]with wr:=fun g=>mem g [41],wt:=true}
theorem yj2 (k:Nat):bY (yj1 k):=fun g=>bh _ g
noncomputable def yj3:Code:=(Tryz.f11.body).getD .skip
noncomputable def yj4:Code:=((aH 0 yj3).getD 0 (0,.skip)).2
def yj5:List Nat:=[2,4]
def yj6:List (aM× Co):=[]
def yj7:Ex→List Nat
  |.exit j=>cond (Nat.beq j 0) [2,4] []
  |.ret=>[]
  |.normal=>[]
def yj8:Ex→List (aM× Co)
  |.exit j=>cond (Nat.beq j 0) [] []
  |.ret=>[]
  |.normal=>[]
def yj9 (pv:(Int× Int× Int× Int× Int× Int× List ag)× (Int× Int× Int× Int× Int× List Int)):St:={au:=[(2,.ptr 0 0 0),(4,.ptr 1 0 0)],heap:=[(0,.box [.r [] (.int .i64 pv.1.1),.r [] (.int .i64 pv.1.2.1),.r [] (.int .i64 pv.1.2.2.1),.bn]),(1,.box [.r [] (.int .i64 pv.1.2.2.2.1),.r [] (.int .i64 pv.1.2.2.2.2.1),.r [] (.int .i64 pv.1.2.2.2.2.2.1),.own 2,.r [] (.int .i64 pv.2.1),.r [] (.int .i64 pv.2.2.1),.r [] (.int .i64 pv.2.2.2.1),.r [] (.int .i64 pv.2.2.2.2.1),.own 3,.r [] (.int .i64 pv.2.2.2.2.2.1)]),(2,.arr none (.st .aC) pv.1.2.2.2.2.2.2),(3,.arr none (.int .i64) pv.2.2.2.2.2.2)],nid:=4,n:=17,gh:=[]}
def yja (nf:NF):Option ((Int× Int× Int× Int× Int× Int× List ag)× (Int× Int× Int× Int× Int× List Int)):=match nf with
  |([.ptr 0 0 0,.ptr 1 0 0],[.box [.r [] (.int .i64 w0),.r [] (.int .i64 w1),.r [] (.int .i64 w2),.bn],.box [.r [] (.int .i64 w3),.r [] (.int .i64 w4),.r [] (.int .i64 w5),.own 2,.r [] (.int .i64 w6),.r [] (.int .i64 w7),.r [] (.int .i64 w8),.r [] (.int .i64 w9),.own 3,.r [] (.int .i64 w10)],.arr none (.st .aC) w11,.arr none (.int .i64) w12],[])=>some ((w0,w1,w2,w3,w4,w5,w11),(w6,w7,w8,w9,w10,w12))
  |_=>none
theorem yjb (nf:NF) (v:(Int× Int× Int× Int× Int× Int× List ag)× (Int× Int× Int× Int× Int× List Int)) (h:yja nf=some v):ak yj5 17 nf=yj9 v:=by
  unfold yja at h
  split at h
  · cases h;rfl
  · cases h
def yjc (p:Int× Int× Int× Int× Int× Int× List ag) (x:Int× Int× Int× Int× Int× List Int):St:={au:=[(2,.ptr 0 0 0),(4,.ptr 1 0 0)],heap:=[(0,.box [.r [] (.int .i64 p.1),.r [] (.int .i64 p.2.1),.r [] (.int .i64 p.2.2.1),.bn]),(1,.box [.r [] (.int .i64 p.2.2.2.1),.r [] (.int .i64 p.2.2.2.2.1),.r [] (.int .i64 p.2.2.2.2.2.1),.own 2,.r [] (.int .i64 x.1),.r [] (.int .i64 x.2.1),.r [] (.int .i64 x.2.2.1),.r [] (.int .i64 x.2.2.2.1),.own 3,.r [] (.int .i64 x.2.2.2.2.1)]),(2,.arr none (.st .aC) p.2.2.2.2.2.2),(3,.arr none (.int .i64) x.2.2.2.2.2)],nid:=4,n:=17,gh:=[]}
def yjd (ρ:Type) (k:Nat):Nat→Ev ρ→Ev ρ:=fun id f=>cond (Nat.beq id 0) (aT yj5 yj6 (fun n nf=>cond (Nat.beq n 17) (yja nf) none) fun pv K=>iter (fun v next=>cw k pv.1 v next (fun x=>K (.exit 0) (yjc pv.1 x))) k pv.2) ((fun _ _ _ _=>none) id f)
theorem yje {ρ:Type} (k:Nat) (p:Int× Int× Int× Int× Int× Int× List ag) (v:Int× Int× Int× Int× Int× List Int) (K K1:Ex→St→Option ρ):ev (yj1 k) (yjd ρ k) 0 yj4 (yj9 (p,v)) (fun e st'=>match e with
    |.normal=>(aS yj5 yj6 st').bind fun nf=>K1 .normal (ak yj5 st'.n nf)
    |e=>(aS (yj7 e) (yj8 e) st').bind fun nf=>K e (ak (yj7 e) st'.n nf))=cw k p v (fun v'=>K1 .normal (yj9 (p,v'))) (fun x=>K (.exit 0) (yjc p x)):=by kernel_rfl
theorem yjf {ρ:Type} (k:Nat):Sound Tryz.prog (.loop yj4) (yjd ρ k 0 fun st K=>ev (yj1 k) (yjd ρ k) 0 yj4 st K):=
  aX (aE (yj2 k) yj4 0 (av (by kernel_rfl))) yj7 yj8 k (g:=fun p v next K=>cw k p v next (fun x=>K (.exit 0) (yjc p x))) (bp yjb) (fun p v K K1=>yje k p v K K1)
def yjg (k:Nat):O Tryz.prog 11:=⟨oP [.agg [(.int .i64),(.int .i64),(.int .i64),(.sl (.st .aC)),(.int .i64),(.int .i64),(.int .i64),(.int .i64),(.sl (.int .i64)),(.int .i64)]] mN ⟨.tup [.agg [.h 0,.h 1,.h 2,.own 0],.h 4],[.arr none (.int .i64) 3]⟩ ((cdS .bK).p cdB) fun a=>dX k a,okP (LP:=yjd _ k) (yj2 k) Tryz.func11 (by kernel_rfl) (by kernel_rfl) (by kernel_rfl) (aF (l:=[(0,yj4)]) (by kernel_rfl) ⟨yjf k,trivial⟩) (.tup [.agg [.sc,.sc,.sc,.own (.int .i64)],.sc]) fun a=>by kernel_rfl⟩
noncomputable def yjh (k:Nat):Env:=iU (P:=Tryz.prog) tt []
theorem yji (k:Nat):bY (yjh k):=fun g=>bh _ g
noncomputable def yjj:Code:=(Tryz.f76.body).getD .skip
noncomputable def yjk:Code:=((aH 0 yjj).getD 0 (0,.skip)).2
def yjl:List Nat:=[0,1,12,13]
def yjm:List (aM× Co):=[]
def yjn:Ex→List Nat
  |.exit j=>cond (Nat.beq j 0) [] []
  |.ret=>[4]
  |.normal=>[]
def yjo:Ex→List (aM× Co)
  |.exit j=>cond (Nat.beq j 0) [] []
  |.ret=>[]
  |.normal=>[]
def yjp (pv:(List Int× List Int× Int)× (Int)):St:={au:=[(0,.r [] (.sl (.int .i64) pv.1.1)),(1,.r [] (.sl (.int .i64) pv.1.2.1)),(12,.r [] (.int .i64 pv.1.2.2)),(13,.r [] (.int .i64 pv.2))],heap:=[],nid:=0,n:=26,gh:=[]}
def yjq (nf:NF):Option ((List Int× List Int× Int)× (Int)):=match nf with
  |([.r [] (.sl (.int .i64) w0),.r [] (.sl (.int .i64) w1),.r [] (.int .i64 w2),.r [] (.int .i64 w3)],[],[])=>some ((w0,w1,w2),w3)
  |_=>none
theorem yjr (nf:NF) (v:(List Int× List Int× Int)× (Int)) (h:yjq nf=some v):ak yjl 26 nf=yjp v:=by
  unfold yjq at h
  split at h
  · cases h;rfl
  · cases h
def yjs (p:List Int× List Int× Int) (x:Unit):St:={au:=[],heap:=[],nid:=0,n:=26,gh:=[]}
def yjt (p:List Int× List Int× Int) (x:Bool):St:={au:=[(4,.r [] (.bool x))],heap:=[],nid:=0,n:=26,gh:=[]}
def yju (ρ:Type) (k:Nat):Nat→Ev ρ→Ev ρ:=fun id f=>cond (Nat.beq id 0) (aT yjl yjm (fun n nf=>cond (Nat.beq n 26) (yjq nf) none) fun pv K=>iter (fun v next=>bT k pv.1 v next (fun x=>K (.exit 0) (yjs pv.1 x)) (fun x=>K .ret (yjt pv.1 x))) k pv.2) ((fun _ _ _ _=>none) id f)
theorem yjv {ρ:Type} (k:Nat) (p:List Int× List Int× Int) (v:Int) (K K1:Ex→St→Option ρ):ev (yjh k) (yju ρ k) 0 yjk (yjp (p,v)) (fun e st'=>match e with
    |.normal=>(aS yjl yjm st').bind fun nf=>K1 .normal (ak yjl st'.n nf)
    |e=>(aS (yjn e) (yjo e) st').bind fun nf=>K e (ak (yjn e) st'.n nf))=bT k p v (fun v'=>K1 .normal (yjp (p,v'))) (fun x=>K (.exit 0) (yjs p x)) (fun x=>K .ret (yjt p x)):=by kernel_rfl
theorem yjw {ρ:Type} (k:Nat):Sound Tryz.prog (.loop yjk) (yju ρ k 0 fun st K=>ev (yjh k) (yju ρ k) 0 yjk st K):=
  aX (aE (yji k) yjk 0 (av (by kernel_rfl))) yjn yjo k (g:=fun p v next K=>bT k p v next (fun x=>K (.exit 0) (yjs p x)) (fun x=>K .ret (yjt p x))) (bp yjr) (fun p v K K1=>yjv k p v K K1)
def yjx (k:Nat):O Tryz.prog 76:=⟨oP [.one (.sl (.int .i64)),.one (.sl (.int .i64))] ((cdL (.int .i64)).p (cdL (.int .i64))) ⟨.h 0,[]⟩ cdB fun a=>di k a.1 a.2,okP (LP:=yju _ k) (yji k) Tryz.func76 (by kernel_rfl) (by kernel_rfl) (by kernel_rfl) (aF (l:=[(0,yjk)]) (by kernel_rfl) ⟨yjw k,trivial⟩) (.sc) fun a=>by kernel_rfl⟩
def yjy (k:Nat):O Tryz.prog 43:=dP (tt:=tt) [⟨76,yjx k⟩] .id Tryz.func43 [.agg [(.int .i64),(.int .i64),(.int .i64),(.sl (.int .i64))],.agg [(.int .i64),(.int .i64),(.int .i64),(.sl (.int .i64))]] ((cdS .bK).p (cdS .bK)) ⟨.h 0,[]⟩ cdB (.sc) (fun a=>gd k a.1 a.2) (by kernel_rfl) fun a=>by kernel_rfl
def yjz (k:Nat):O Tryz.prog 12:=dP (tt:=tt) [⟨42,y7c k⟩,⟨43,yjy k⟩] .id Tryz.func12 [.agg [(.int .i64),(.int .i64),(.int .i64),(.sl (.int .i64))],.agg [(.int .i64),(.int .i64),(.int .i64),(.sl (.int .i64))]] ((cdS .bK).p (cdS .bK)) ⟨.h 0,[]⟩ cdB (.sc) (fun a=>dp k a.1 a.2) (by kernel_rfl) fun a=>by kernel_rfl
def yk0 (k:Nat):O Tryz.prog 13:=dP (tt:=tt) [⟨40,y7u k⟩,⟨44,y8c k⟩] .id Tryz.func13 [.agg [(.int .i64),(.int .i64),(.int .i64),(.sl (.st .aC))]] (cdS .model) ⟨.h 0,[]⟩ cdZ (.sc) (fun a=>jK k a) (by kernel_rfl) fun a=>by kernel_rfl
def yk1 (k:Nat):O Tryz.prog 77:=dP (tt:=tt) [⟨66,yw k⟩,⟨69,y2v k⟩] .id Tryz.func77 [.agg [(.int .i64),(.int .i64),(.int .i64)],.agg [(.int .i64),(.int .i64),(.int .i64),(.int .i64),(.int .i64),(.int .i64),(.int .i64),(.sl (.int .i64)),(.sl (.int .i64))]] ((cdS .shape).p (cdS .aC)) ⟨.h 0,[]⟩ cdZ (.sc) (fun a=>pq k a.1 a.2) (by kernel_rfl) fun a=>by kernel_rfl
noncomputable def yk2 (k:Nat):Env:=iU (P:=Tryz.prog) tt [⟨45,y9g k⟩,⟨77,yk1 k⟩]
theorem yk3 (k:Nat):bY (yk2 k):=fun g=>bh _ g
noncomputable def yk4:Code:=(Tryz.f47.body).getD .skip
noncomputable def yk5:Code:=((aH 0 yk4).getD 0 (0,.skip)).2
def yk6:List Nat:=[1,3,4,6]
def yk7:List (aM× Co):=[]
def yk8:Ex→List Nat
  |.exit j=>cond (Nat.beq j 0) [3] []
  |.ret=>[]
  |.normal=>[]
def yk9:Ex→List (aM× Co)
  |.exit j=>cond (Nat.beq j 0) [] []
  |.ret=>[]
  |.normal=>[]
def yka (pv:(Int× Int× Int× List ag× List Shape)× (Int× List Int)):St:={au:=[(1,.ptr 0 0 0),(3,.own 1),(4,.own 2),(6,.r [] (.int .i64 pv.2.1))],heap:=[(0,.box [.r [] (.int .i64 pv.1.1),.r [] (.int .i64 pv.1.2.1),.r [] (.int .i64 pv.1.2.2.1),.r [] (.sl (.st .aC) pv.1.2.2.2.1)]),(1,.arr none (.int .i64) pv.2.2),(2,.arr none (.st .shape) pv.1.2.2.2.2)],nid:=3,n:=36,gh:=[]}
def ykb (nf:NF):Option ((Int× Int× Int× List ag× List Shape)× (Int× List Int)):=match nf with
  |([.ptr 0 0 0,.own 1,.own 2,.r [] (.int .i64 w0)],[.box [.r [] (.int .i64 w1),.r [] (.int .i64 w2),.r [] (.int .i64 w3),.r [] (.sl (.st .aC) w4)],.arr none (.int .i64) w5,.arr none (.st .shape) w6],[])=>some ((w1,w2,w3,w4,w6),(w0,w5))
  |_=>none
theorem ykc (nf:NF) (v:(Int× Int× Int× List ag× List Shape)× (Int× List Int)) (h:ykb nf=some v):ak yk6 36 nf=yka v:=by
  unfold ykb at h
  split at h
  · cases h;rfl
  · cases h
def ykd (p:Int× Int× Int× List ag× List Shape) (x:List Int):St:={au:=[(3,.own 0)],heap:=[(0,.arr none (.int .i64) x)],nid:=1,n:=36,gh:=[]}
def yke (ρ:Type) (k:Nat):Nat→Ev ρ→Ev ρ:=fun id f=>cond (Nat.beq id 0) (aT yk6 yk7 (fun n nf=>cond (Nat.beq n 36) (ykb nf) none) fun pv K=>iter (fun v next=>dj k pv.1 v next (fun x=>K (.exit 0) (ykd pv.1 x))) k pv.2) ((fun _ _ _ _=>none) id f)
theorem ykf {ρ:Type} (k:Nat) (p:Int× Int× Int× List ag× List Shape) (v:Int× List Int) (K K1:Ex→St→Option ρ):ev (yk2 k) (yke ρ k) 0 yk5 (yka (p,v)) (fun e st'=>match e with
    |.normal=>(aS yk6 yk7 st').bind fun nf=>K1 .normal (ak yk6 st'.n nf)
    |e=>(aS (yk8 e) (yk9 e) st').bind fun nf=>K e (ak (yk8 e) st'.n nf))=dj k p v (fun v'=>K1 .normal (yka (p,v'))) (fun x=>K (.exit 0) (ykd p x)):=by kernel_rfl
theorem ykg {ρ:Type} (k:Nat):Sound Tryz.prog (.loop yk5) (yke ρ k 0 fun st K=>ev (yk2 k) (yke ρ k) 0 yk5 st K):=
  aX (aE (yk3 k) yk5 0 (av (by kernel_rfl))) yk8 yk9 k (g:=fun p v next K=>dj k p v next (fun x=>K (.exit 0) (ykd p x))) (bp ykc) (fun p v K K1=>ykf k p v K K1)
def ykh (k:Nat):O Tryz.prog 47:=⟨oP [.agg [(.int .i64),(.int .i64),(.int .i64),(.sl (.st .aC))]] (cdS .model) ⟨.own 0,[.arr none (.int .i64) 0]⟩ (cdL (.int .i64)) fun a=>mV k a,okP (LP:=yke _ k) (yk3 k) Tryz.func47 (by kernel_rfl) (by kernel_rfl) (by kernel_rfl) (aF (l:=[(0,yk5)]) (by kernel_rfl) ⟨ykg k,trivial⟩) (.own (.int .i64)) fun a=>by kernel_rfl⟩
noncomputable def yki (k:Nat):Env:=iU (P:=Tryz.prog) tt [⟨36,y9y k⟩,⟨45,y9g k⟩,⟨46,yu k⟩,⟨47,ykh k⟩]
theorem ykj (k:Nat):bY (yki k):=fun g=>bh _ g
noncomputable def ykk:Code:=(Tryz.f14.body).getD .skip
noncomputable def ykl:Code:=((aH 0 ykk).getD 0 (0,.skip)).2
def ykm:List Nat:=[1,5,6,7]
def ykn:List (aM× Co):=[]
def yko:Ex→List Nat
  |.exit j=>cond (Nat.beq j 0) [1,6] []
  |.ret=>[]
  |.normal=>[]
def ykp:Ex→List (aM× Co)
  |.exit j=>cond (Nat.beq j 0) [] []
  |.ret=>[]
  |.normal=>[]
def ykq (pv:(Int× Int× Int× List ag× Int× Int× Int× Int× List Int× Int× List Int)× (Int× Int)):St:={au:=[(1,.ptr 0 0 0),(5,.own 1),(6,.r [] (.int .i64 pv.2.1)),(7,.r [] (.int .i64 pv.2.2))],heap:=[(0,.box [.r [] (.int .i64 pv.1.1),.r [] (.int .i64 pv.1.2.1),.r [] (.int .i64 pv.1.2.2.1),.r [] (.sl (.st .aC) pv.1.2.2.2.1),.r [] (.int .i64 pv.1.2.2.2.2.1),.r [] (.int .i64 pv.1.2.2.2.2.2.1),.r [] (.int .i64 pv.1.2.2.2.2.2.2.1),.r [] (.int .i64 pv.1.2.2.2.2.2.2.2.1),.r [] (.sl (.int .i64) pv.1.2.2.2.2.2.2.2.2.1),.r [] (.int .i64 pv.1.2.2.2.2.2.2.2.2.2.1)]),(1,.arr none (.int .i64) pv.1.2.2.2.2.2.2.2.2.2.2)],nid:=2,n:=62,gh:=[]}
def ykr (nf:NF):Option ((Int× Int× Int× List ag× Int× Int× Int× Int× List Int× Int× List Int)× (Int× Int)):=match nf with
  |([.ptr 0 0 0,.own 1,.r [] (.int .i64 w0),.r [] (.int .i64 w1)],[.box [.r [] (.int .i64 w2),.r [] (.int .i64 w3),.r [] (.int .i64 w4),.r [] (.sl (.st .aC) w5),.r [] (.int .i64 w6),.r [] (.int .i64 w7),.r [] (.int .i64 w8),.r [] (.int .i64 w9),.r [] (.sl (.int .i64) w10),.r [] (.int .i64 w11)],.arr none (.int .i64) w12],[])=>some ((w2,w3,w4,w5,w6,w7,w8,w9,w10,w11,w12),(w0,w1))
  |_=>none
theorem yks (nf:NF) (v:(Int× Int× Int× List ag× Int× Int× Int× Int× List Int× Int× List Int)× (Int× Int)) (h:ykr nf=some v):ak ykm 62 nf=ykq v:=by
  unfold ykr at h
  split at h
  · cases h;rfl
  · cases h
def ykt (p:Int× Int× Int× List ag× Int× Int× Int× Int× List Int× Int× List Int) (x:Int):St:={au:=[(1,.ptr 0 0 0),(6,.r [] (.int .i64 x))],heap:=[(0,.box [.r [] (.int .i64 p.1),.r [] (.int .i64 p.2.1),.r [] (.int .i64 p.2.2.1),.r [] (.sl (.st .aC) p.2.2.2.1),.r [] (.int .i64 p.2.2.2.2.1),.r [] (.int .i64 p.2.2.2.2.2.1),.r [] (.int .i64 p.2.2.2.2.2.2.1),.r [] (.int .i64 p.2.2.2.2.2.2.2.1),.r [] (.sl (.int .i64) p.2.2.2.2.2.2.2.2.1),.r [] (.int .i64 p.2.2.2.2.2.2.2.2.2.1)])],nid:=1,n:=62,gh:=[]}
def yku (ρ:Type) (k:Nat):Nat→Ev ρ→Ev ρ:=fun id f=>cond (Nat.beq id 0) (aT ykm ykn (fun n nf=>cond (Nat.beq n 62) (ykr nf) none) fun pv K=>iter (fun v next=>fu k pv.1 v next (fun x=>K (.exit 0) (ykt pv.1 x))) k pv.2) ((fun _ _ _ _=>none) id f)
theorem ykv {ρ:Type} (k:Nat) (p:Int× Int× Int× List ag× Int× Int× Int× Int× List Int× Int× List Int) (v:Int× Int) (K K1:Ex→St→Option ρ):ev (yki k) (yku ρ k) 0 ykl (ykq (p,v)) (fun e st'=>match e with
    |.normal=>(aS ykm ykn st').bind fun nf=>K1 .normal (ak ykm st'.n nf)
    |e=>(aS (yko e) (ykp e) st').bind fun nf=>K e (ak (yko e) st'.n nf))=fu k p v (fun v'=>K1 .normal (ykq (p,v'))) (fun x=>K (.exit 0) (ykt p x)):=by kernel_rfl
theorem ykw {ρ:Type} (k:Nat):Sound Tryz.prog (.loop ykl) (yku ρ k 0 fun st K=>ev (yki k) (yku ρ k) 0 ykl st K):=
  aX (aE (ykj k) ykl 0 (av (by kernel_rfl))) yko ykp k (g:=fun p v next K=>fu k p v next (fun x=>K (.exit 0) (ykt p x))) (bp yks) (fun p v K K1=>ykv k p v K K1)
def ykx (k:Nat):O Tryz.prog 14:=⟨oP [.agg [(.int .i64),(.int .i64),(.int .i64),(.sl (.st .aC)),(.int .i64),(.int .i64),(.int .i64),(.int .i64),(.sl (.int .i64)),(.int .i64)]] mN ⟨.h 0,[]⟩ cdB fun a=>tv k a,okP (LP:=yku _ k) (ykj k) Tryz.func14 (by kernel_rfl) (by kernel_rfl) (by kernel_rfl) (aF (l:=[(0,ykl)]) (by kernel_rfl) ⟨ykw k,trivial⟩) (.sc) fun a=>by kernel_rfl⟩
def FZ (k:Nat):O Tryz.prog 15:=dP (tt:=tt) [] .id Tryz.func15 [.one (.sl (.int .u8)),.one (.int .i64)] ((cdL (.int .u8)).p cdZ) ⟨.h 0,[]⟩ cdZ (.sc) (fun a=>F9 k a.1 a.2) (by kernel_rfl) fun a=>by kernel_rfl
noncomputable def yky (k:Nat):Env:={iU (P:=Tryz.prog) tt [⟨18,yf7 k⟩,⟨33,y8d k⟩,⟨34,y8y k⟩,⟨39,yf4 k⟩,⟨41,yj0 k⟩]with wr:=fun g=>mem g [41],wt:=true}
theorem ykz (k:Nat):bY (yky k):=fun g=>bh _ g
noncomputable def yl0:Code:=(Tryz.f16.body).getD .skip
noncomputable def yl1:Code:=((aH 0 yl0).getD 0 (0,.skip)).2
def yl2:List Nat:=[4,6,7]
def yl3:List (aM× Co):=[]
def yl4:Ex→List Nat
  |.exit j=>cond (Nat.beq j 0) [4,6,7] []
  |.ret=>[]
  |.normal=>[]
def yl5:Ex→List (aM× Co)
  |.exit j=>cond (Nat.beq j 0) [] []
  |.ret=>[]
  |.normal=>[]
def yl6 (pv:(Int× Int× Int× Int× Int× Int× Int× Int× Int× Int× Int× List ag)× (Int× Int× Int× Int× Int× Int× List Int)):St:={au:=[(4,.ptr 0 0 0),(6,.ptr 1 0 0),(7,.r [] (.int .i64 pv.2.1))],heap:=[(0,.box [.r [] (.int .i64 pv.1.1),.r [] (.int .i64 pv.1.2.1),.r [] (.int .i64 pv.1.2.2.1),.bn,.r [] (.int .i64 pv.1.2.2.2.1),.r [] (.int .i64 pv.1.2.2.2.2.1),.r [] (.int .i64 pv.1.2.2.2.2.2.1),.r [] (.int .i64 pv.1.2.2.2.2.2.2.1),.bn,.r [] (.int .i64 pv.1.2.2.2.2.2.2.2.1)]),(1,.box [.r [] (.int .i64 pv.1.2.2.2.2.2.2.2.2.1),.r [] (.int .i64 pv.1.2.2.2.2.2.2.2.2.2.1),.r [] (.int .i64 pv.1.2.2.2.2.2.2.2.2.2.2.1),.own 2,.r [] (.int .i64 pv.2.2.1),.r [] (.int .i64 pv.2.2.2.1),.r [] (.int .i64 pv.2.2.2.2.1),.r [] (.int .i64 pv.2.2.2.2.2.1),.own 3,.r [] (.int .i64 pv.2.2.2.2.2.2.1)]),(2,.arr none (.st .aC) pv.1.2.2.2.2.2.2.2.2.2.2.2),(3,.arr none (.int .i64) pv.2.2.2.2.2.2.2)],nid:=4,n:=33,gh:=[]}
def yl7 (nf:NF):Option ((Int× Int× Int× Int× Int× Int× Int× Int× Int× Int× Int× List ag)× (Int× Int× Int× Int× Int× Int× List Int)):=match nf with
  |([.ptr 0 0 0,.ptr 1 0 0,.r [] (.int .i64 w0)],[.box [.r [] (.int .i64 w1),.r [] (.int .i64 w2),.r [] (.int .i64 w3),.bn,.r [] (.int .i64 w4),.r [] (.int .i64 w5),.r [] (.int .i64 w6),.r [] (.int .i64 w7),.bn,.r [] (.int .i64 w8)],.box [.r [] (.int .i64 w9),.r [] (.int .i64 w10),.r [] (.int .i64 w11),.own 2,.r [] (.int .i64 w12),.r [] (.int .i64 w13),.r [] (.int .i64 w14),.r [] (.int .i64 w15),.own 3,.r [] (.int .i64 w16)],.arr none (.st .aC) w17,.arr none (.int .i64) w18],[])=>some ((w1,w2,w3,w4,w5,w6,w7,w8,w9,w10,w11,w17),(w0,w12,w13,w14,w15,w16,w18))
  |_=>none
theorem yl8 (nf:NF) (v:(Int× Int× Int× Int× Int× Int× Int× Int× Int× Int× Int× List ag)× (Int× Int× Int× Int× Int× Int× List Int)) (h:yl7 nf=some v):ak yl2 33 nf=yl6 v:=by
  unfold yl7 at h
  split at h
  · cases h;rfl
  · cases h
def yl9 (p:Int× Int× Int× Int× Int× Int× Int× Int× Int× Int× Int× List ag) (x:Int× Int× Int× Int× Int× Int× List Int):St:={au:=[(4,.ptr 0 0 0),(6,.ptr 1 0 0),(7,.r [] (.int .i64 x.1))],heap:=[(0,.box [.r [] (.int .i64 p.1),.r [] (.int .i64 p.2.1),.r [] (.int .i64 p.2.2.1),.bn,.r [] (.int .i64 p.2.2.2.1),.r [] (.int .i64 p.2.2.2.2.1),.r [] (.int .i64 p.2.2.2.2.2.1),.r [] (.int .i64 p.2.2.2.2.2.2.1),.bn,.r [] (.int .i64 p.2.2.2.2.2.2.2.1)]),(1,.box [.r [] (.int .i64 p.2.2.2.2.2.2.2.2.1),.r [] (.int .i64 p.2.2.2.2.2.2.2.2.2.1),.r [] (.int .i64 p.2.2.2.2.2.2.2.2.2.2.1),.own 2,.r [] (.int .i64 x.2.1),.r [] (.int .i64 x.2.2.1),.r [] (.int .i64 x.2.2.2.1),.r [] (.int .i64 x.2.2.2.2.1),.own 3,.r [] (.int .i64 x.2.2.2.2.2.1)]),(2,.arr none (.st .aC) p.2.2.2.2.2.2.2.2.2.2.2),(3,.arr none (.int .i64) x.2.2.2.2.2.2)],nid:=4,n:=33,gh:=[]}
def yla (ρ:Type) (k:Nat):Nat→Ev ρ→Ev ρ:=fun id f=>cond (Nat.beq id 0) (aT yl2 yl3 (fun n nf=>cond (Nat.beq n 33) (yl7 nf) none) fun pv K=>iter (fun v next=>dY k pv.1 v next (fun x=>K (.exit 0) (yl9 pv.1 x))) k pv.2) ((fun _ _ _ _=>none) id f)
theorem ylb {ρ:Type} (k:Nat) (p:Int× Int× Int× Int× Int× Int× Int× Int× Int× Int× Int× List ag) (v:Int× Int× Int× Int× Int× Int× List Int) (K K1:Ex→St→Option ρ):ev (yky k) (yla ρ k) 0 yl1 (yl6 (p,v)) (fun e st'=>match e with
    |.normal=>(aS yl2 yl3 st').bind fun nf=>K1 .normal (ak yl2 st'.n nf)
    |e=>(aS (yl4 e) (yl5 e) st').bind fun nf=>K e (ak (yl4 e) st'.n nf))=dY k p v (fun v'=>K1 .normal (yl6 (p,v'))) (fun x=>K (.exit 0) (yl9 p x)):=by kernel_rfl
theorem ylc {ρ:Type} (k:Nat):Sound Tryz.prog (.loop yl1) (yla ρ k 0 fun st K=>ev (yky k) (yla ρ k) 0 yl1 st K):=
  aX (aE (ykz k) yl1 0 (av (by kernel_rfl))) yl4 yl5 k (g:=fun p v next K=>dY k p v next (fun x=>K (.exit 0) (yl9 p x))) (bp yl8) (fun p v K K1=>ylb k p v K K1)
def yld (k:Nat):O Tryz.prog 16:=⟨oP [.agg [(.int .i64),(.int .i64),(.int .i64),(.sl (.st .aC)),(.int .i64),(.int .i64),(.int .i64),(.int .i64),(.sl (.int .i64)),(.int .i64)],.one (.int .i64)] (mN.p cdZ) ⟨.tup [.agg ([.h 0,.h 1,.h 2,.own 0]++hs 4 4++[.own 1,.h 9]),.h 10],[.arr none (.st .aC) 3,.arr none (.int .i64) 8]⟩ (mN.p cdZ) fun a=>pw k a.1 a.2,okP (LP:=yla _ k) (ykz k) Tryz.func16 (by kernel_rfl) (by kernel_rfl) (by kernel_rfl) (aF (l:=[(0,yl1)]) (by kernel_rfl) ⟨ylc k,trivial⟩) (.tup [.agg [.sc,.sc,.sc,.own (.st .aC),.sc,.sc,.sc,.sc,.own (.int .i64),.sc],.sc]) fun a=>by kernel_rfl⟩
def yle (k:Nat):O Tryz.prog 17:=dP (tt:=tt) [⟨33,y8d k⟩,⟨34,y8y k⟩,⟨39,yf4 k⟩,⟨41,yj0 k⟩] {f:=fun E=>{E with wr:=fun g=>mem g [41],wt:=true}} Tryz.func17 [.agg [(.int .i64),(.int .i64),(.int .i64),(.sl (.st .aC)),(.int .i64),(.int .i64),(.int .i64),(.int .i64),(.sl (.int .i64)),(.int .i64)]] mN ⟨.tup [.agg ([.h 0,.h 1,.h 2,.own 0]++hs 4 4++[.own 1,.h 9]),.h 10],[.arr none (.st .aC) 3,.arr none (.int .i64) 8]⟩ (mN.p cdB) (.tup [.agg [.sc,.sc,.sc,.own (.st .aC),.sc,.sc,.sc,.sc,.own (.int .i64),.sc],.sc]) (fun a=>na k a) (by kernel_rfl) fun a=>by kernel_rfl
noncomputable def ylf (k:Nat):Env:=iU (P:=Tryz.prog) tt [⟨5,y0 k⟩,⟨6,y4g k⟩,⟨7,y8z k⟩,⟨8,yf3 k⟩,⟨9,yf5 k⟩,⟨10,yf6 k⟩,⟨11,yjg k⟩,⟨12,yjz k⟩,⟨13,yk0 k⟩,⟨14,ykx k⟩,⟨15,FZ k⟩,⟨16,yld k⟩,⟨17,yle k⟩,⟨18,yf7 k⟩]
theorem ylg (k:Nat):bY (ylf k):=fun g=>bh _ g
noncomputable def ylh:Code:=(Tryz.f3.body).getD .skip
noncomputable def yli:Code:=((aH 0 ylh).getD 0 (0,.skip)).2
noncomputable def ylj:Code:=((aH 0 yli).getD 0 (0,.skip)).2
def ylk:List Nat:=[0,3,5,7,9,10,11,12]
def yll:List (aM× Co):=[]
def ylm:Ex→List Nat
  |.exit j=>cond (Nat.beq j 2) [0,3,5,7,9,10] []
  |.ret=>[]
  |.normal=>[]
def yln:Ex→List (aM× Co)
  |.exit j=>cond (Nat.beq j 2) [] []
  |.ret=>[]
  |.normal=>[]
def ylo (pv:(List Int× Int× List Int× Int× Int× Int× Int× Int× Int× Int× Int× Int× Int× Int× Int× Int× Int× List ag× List ag× List Int× List Int)× (Int× Int)):St:={au:=[(0,.r [] (.sl (.int .u8) pv.1.1)),(3,.ptr 0 0 0),(5,.ptr 1 0 0),(7,.ptr 2 0 0),(9,.r [] (.int .i64 pv.1.2.1)),(10,.r [] (.int .i64 pv.2.1)),(11,.r [4,5] (.sl (.int .i64) pv.1.2.2.1)),(12,.r [] (.int .i64 pv.2.2))],heap:=[(0,.box [.r [] (.int .i64 pv.1.2.2.2.1),.r [] (.int .i64 pv.1.2.2.2.2.1),.r [] (.int .i64 pv.1.2.2.2.2.2.1),.own 3]),(1,.box [.r [] (.int .i64 pv.1.2.2.2.2.2.2.1),.r [] (.int .i64 pv.1.2.2.2.2.2.2.2.1),.r [] (.int .i64 pv.1.2.2.2.2.2.2.2.2.1),.own 4,.r [] (.int .i64 pv.1.2.2.2.2.2.2.2.2.2.1),.r [] (.int .i64 pv.1.2.2.2.2.2.2.2.2.2.2.1),.r [] (.int .i64 pv.1.2.2.2.2.2.2.2.2.2.2.2.1),.r [] (.int .i64 pv.1.2.2.2.2.2.2.2.2.2.2.2.2.1),.own 5,.r [] (.int .i64 pv.1.2.2.2.2.2.2.2.2.2.2.2.2.2.1)]),(2,.box [.r [] (.int .i64 pv.1.2.2.2.2.2.2.2.2.2.2.2.2.2.2.1),.r [] (.int .i64 pv.1.2.2.2.2.2.2.2.2.2.2.2.2.2.2.2.1),.r [] (.int .i64 pv.1.2.2.2.2.2.2.2.2.2.2.2.2.2.2.2.2.1),.own 6]),(3,.arr none (.st .aC) pv.1.2.2.2.2.2.2.2.2.2.2.2.2.2.2.2.2.2.1),(4,.arr none (.st .aC) pv.1.2.2.2.2.2.2.2.2.2.2.2.2.2.2.2.2.2.2.1),(5,.arr none (.int .i64) pv.1.2.2.2.2.2.2.2.2.2.2.2.2.2.2.2.2.2.2.2.1),(6,.arr none (.int .i64) pv.1.2.2.2.2.2.2.2.2.2.2.2.2.2.2.2.2.2.2.2.2)],nid:=7,n:=152,gh:=[]}
def ylp (nf:NF):Option ((List Int× Int× List Int× Int× Int× Int× Int× Int× Int× Int× Int× Int× Int× Int× Int× Int× Int× List ag× List ag× List Int× List Int)× (Int× Int)):=match nf with
  |([.r [] (.sl (.int .u8) w0),.ptr 0 0 0,.ptr 1 0 0,.ptr 2 0 0,.r [] (.int .i64 w1),.r [] (.int .i64 w2),.r [4,5] (.sl (.int .i64) w3),.r [] (.int .i64 w4)],[.box [.r [] (.int .i64 w5),.r [] (.int .i64 w6),.r [] (.int .i64 w7),.own 3],.box [.r [] (.int .i64 w8),.r [] (.int .i64 w9),.r [] (.int .i64 w10),.own 4,.r [] (.int .i64 w11),.r [] (.int .i64 w12),.r [] (.int .i64 w13),.r [] (.int .i64 w14),.own 5,.r [] (.int .i64 w15)],.box [.r [] (.int .i64 w16),.r [] (.int .i64 w17),.r [] (.int .i64 w18),.own 6],.arr none (.st .aC) w19,.arr none (.st .aC) w20,.arr none (.int .i64) w21,.arr none (.int .i64) w22],[])=>some ((w0,w1,w3,w5,w6,w7,w8,w9,w10,w11,w12,w13,w14,w15,w16,w17,w18,w19,w20,w21,w22),(w2,w4))
  |_=>none
theorem ylq (nf:NF) (v:(List Int× Int× List Int× Int× Int× Int× Int× Int× Int× Int× Int× Int× Int× Int× Int× Int× Int× List ag× List ag× List Int× List Int)× (Int× Int)) (h:ylp nf=some v):ak ylk 152 nf=ylo v:=by
  unfold ylp at h
  split at h
  · cases h;rfl
  · cases h
def ylr (p:List Int× Int× List Int× Int× Int× Int× Int× Int× Int× Int× Int× Int× Int× Int× Int× Int× Int× List ag× List ag× List Int× List Int) (x:Int):St:={au:=[(0,.r [] (.sl (.int .u8) p.1)),(3,.ptr 0 0 0),(5,.ptr 1 0 0),(7,.ptr 2 0 0),(9,.r [] (.int .i64 p.2.1)),(10,.r [] (.int .i64 x))],heap:=[(0,.box [.r [] (.int .i64 p.2.2.2.1),.r [] (.int .i64 p.2.2.2.2.1),.r [] (.int .i64 p.2.2.2.2.2.1),.own 3]),(1,.box [.r [] (.int .i64 p.2.2.2.2.2.2.1),.r [] (.int .i64 p.2.2.2.2.2.2.2.1),.r [] (.int .i64 p.2.2.2.2.2.2.2.2.1),.own 4,.r [] (.int .i64 p.2.2.2.2.2.2.2.2.2.1),.r [] (.int .i64 p.2.2.2.2.2.2.2.2.2.2.1),.r [] (.int .i64 p.2.2.2.2.2.2.2.2.2.2.2.1),.r [] (.int .i64 p.2.2.2.2.2.2.2.2.2.2.2.2.1),.own 5,.r [] (.int .i64 p.2.2.2.2.2.2.2.2.2.2.2.2.2.1)]),(2,.box [.r [] (.int .i64 p.2.2.2.2.2.2.2.2.2.2.2.2.2.2.1),.r [] (.int .i64 p.2.2.2.2.2.2.2.2.2.2.2.2.2.2.2.1),.r [] (.int .i64 p.2.2.2.2.2.2.2.2.2.2.2.2.2.2.2.2.1),.own 6]),(3,.arr none (.st .aC) p.2.2.2.2.2.2.2.2.2.2.2.2.2.2.2.2.2.1),(4,.arr none (.st .aC) p.2.2.2.2.2.2.2.2.2.2.2.2.2.2.2.2.2.2.1),(5,.arr none (.int .i64) p.2.2.2.2.2.2.2.2.2.2.2.2.2.2.2.2.2.2.2.1),(6,.arr none (.int .i64) p.2.2.2.2.2.2.2.2.2.2.2.2.2.2.2.2.2.2.2.2)],nid:=7,n:=152,gh:=[]}
def yls:List Nat:=[0,3,5,7,9]
def ylt:List (aM× Co):=[]
def ylu:Ex→List Nat
  |.exit j=>cond (Nat.beq j 0) [5,7] []
  |.ret=>[2]
  |.normal=>[]
def ylv:Ex→List (aM× Co)
  |.exit j=>cond (Nat.beq j 0) [] []
  |.ret=>[]
  |.normal=>[]
def ylw (pv:(List Int× Int× Int× Int× Int× Int× Int× List ag× List Int)× (Int× Int× Int× Int× Int× Int× Int× Int× Int× List ag× List Int)):St:={au:=[(0,.r [] (.sl (.int .u8) pv.1.1)),(3,.ptr 0 0 0),(5,.ptr 1 0 0),(7,.ptr 2 0 0),(9,.r [] (.int .i64 pv.2.1))],heap:=[(0,.box [.r [] (.int .i64 pv.1.2.1),.r [] (.int .i64 pv.1.2.2.1),.r [] (.int .i64 pv.1.2.2.2.1),.own 3]),(1,.box [.r [] (.int .i64 pv.2.2.1),.r [] (.int .i64 pv.2.2.2.1),.r [] (.int .i64 pv.2.2.2.2.1),.own 4,.r [] (.int .i64 pv.2.2.2.2.2.1),.r [] (.int .i64 pv.2.2.2.2.2.2.1),.r [] (.int .i64 pv.2.2.2.2.2.2.2.1),.r [] (.int .i64 pv.2.2.2.2.2.2.2.2.1),.own 5,.r [] (.int .i64 pv.2.2.2.2.2.2.2.2.2.1)]),(2,.box [.r [] (.int .i64 pv.1.2.2.2.2.1),.r [] (.int .i64 pv.1.2.2.2.2.2.1),.r [] (.int .i64 pv.1.2.2.2.2.2.2.1),.own 6]),(3,.arr none (.st .aC) pv.1.2.2.2.2.2.2.2.1),(4,.arr none (.st .aC) pv.2.2.2.2.2.2.2.2.2.2.1),(5,.arr none (.int .i64) pv.2.2.2.2.2.2.2.2.2.2.2),(6,.arr none (.int .i64) pv.1.2.2.2.2.2.2.2.2)],nid:=7,n:=152,gh:=[]}
def ylx (nf:NF):Option ((List Int× Int× Int× Int× Int× Int× Int× List ag× List Int)× (Int× Int× Int× Int× Int× Int× Int× Int× Int× List ag× List Int)):=match nf with
  |([.r [] (.sl (.int .u8) w0),.ptr 0 0 0,.ptr 1 0 0,.ptr 2 0 0,.r [] (.int .i64 w1)],[.box [.r [] (.int .i64 w2),.r [] (.int .i64 w3),.r [] (.int .i64 w4),.own 3],.box [.r [] (.int .i64 w5),.r [] (.int .i64 w6),.r [] (.int .i64 w7),.own 4,.r [] (.int .i64 w8),.r [] (.int .i64 w9),.r [] (.int .i64 w10),.r [] (.int .i64 w11),.own 5,.r [] (.int .i64 w12)],.box [.r [] (.int .i64 w13),.r [] (.int .i64 w14),.r [] (.int .i64 w15),.own 6],.arr none (.st .aC) w16,.arr none (.st .aC) w17,.arr none (.int .i64) w18,.arr none (.int .i64) w19],[])=>some ((w0,w2,w3,w4,w13,w14,w15,w16,w19),(w1,w5,w6,w7,w8,w9,w10,w11,w12,w17,w18))
  |_=>none
theorem yly (nf:NF) (v:(List Int× Int× Int× Int× Int× Int× Int× List ag× List Int)× (Int× Int× Int× Int× Int× Int× Int× Int× Int× List ag× List Int)) (h:ylx nf=some v):ak yls 152 nf=ylw v:=by
  unfold ylx at h
  split at h
  · cases h;rfl
  · cases h
def ylz (p:List Int× Int× Int× Int× Int× Int× Int× List ag× List Int) (x:Int× Int× Int× Int× Int× Int× Int× Int× List ag× List Int):St:={au:=[(5,.ptr 0 0 0),(7,.ptr 1 0 0)],heap:=[(0,.box [.r [] (.int .i64 x.1),.r [] (.int .i64 x.2.1),.r [] (.int .i64 x.2.2.1),.own 2,.r [] (.int .i64 x.2.2.2.1),.r [] (.int .i64 x.2.2.2.2.1),.r [] (.int .i64 x.2.2.2.2.2.1),.r [] (.int .i64 x.2.2.2.2.2.2.1),.own 3,.r [] (.int .i64 x.2.2.2.2.2.2.2.1)]),(1,.box [.r [] (.int .i64 p.2.2.2.2.1),.r [] (.int .i64 p.2.2.2.2.2.1),.r [] (.int .i64 p.2.2.2.2.2.2.1),.own 4]),(2,.arr none (.st .aC) x.2.2.2.2.2.2.2.2.1),(3,.arr none (.int .i64) x.2.2.2.2.2.2.2.2.2),(4,.arr none (.int .i64) p.2.2.2.2.2.2.2.2)],nid:=5,n:=152,gh:=[]}
def ym0 (p:List Int× Int× Int× Int× Int× Int× Int× List ag× List Int) (x:Bool):St:={au:=[(2,.r [] (.bool x))],heap:=[],nid:=0,n:=152,gh:=[]}
def ym1 (ρ:Type) (k:Nat):Nat→Ev ρ→Ev ρ:=fun id f=>cond (Nat.beq id 0) (aT yls ylt (fun n nf=>cond (Nat.beq n 152) (ylx nf) none) fun pv K=>iter (fun v next=>fw k pv.1 v next (fun x=>K (.exit 0) (ylz pv.1 x)) (fun x=>K .ret (ym0 pv.1 x))) k pv.2) ((fun id f=>cond (Nat.beq id 2) (aT ylk yll (fun n nf=>cond (Nat.beq n 152) (ylp nf) none) fun pv K=>iter (fun v next=>cz k pv.1 v next (fun x=>K (.exit 2) (ylr pv.1 x))) k pv.2) ((fun _ _ _ _=>none) id f)) id f)
theorem ym2 {ρ:Type} (k:Nat) (p:List Int× Int× List Int× Int× Int× Int× Int× Int× Int× Int× Int× Int× Int× Int× Int× Int× Int× List ag× List ag× List Int× List Int) (v:Int× Int) (K K1:Ex→St→Option ρ):ev (ylf k) (ym1 ρ k) 2 ylj (ylo (p,v)) (fun e st'=>match e with
    |.normal=>(aS ylk yll st').bind fun nf=>K1 .normal (ak ylk st'.n nf)
    |e=>(aS (ylm e) (yln e) st').bind fun nf=>K e (ak (ylm e) st'.n nf))=cz k p v (fun v'=>K1 .normal (ylo (p,v'))) (fun x=>K (.exit 2) (ylr p x)):=by kernel_rfl
theorem ym3 {ρ:Type} (k:Nat):Sound Tryz.prog (.loop ylj) (ym1 ρ k 2 fun st K=>ev (ylf k) (ym1 ρ k) 2 ylj st K):=
  aX (aE (ylg k) ylj 2 (av (by kernel_rfl))) ylm yln k (g:=fun p v next K=>cz k p v next (fun x=>K (.exit 2) (ylr p x))) (bp ylq) (fun p v K K1=>ym2 k p v K K1)
theorem ym4 {ρ:Type} (k:Nat) (p:List Int× Int× Int× Int× Int× Int× Int× List ag× List Int) (v:Int× Int× Int× Int× Int× Int× Int× Int× Int× List ag× List Int) (K K1:Ex→St→Option ρ):ev (ylf k) (ym1 ρ k) 0 yli (ylw (p,v)) (fun e st'=>match e with
    |.normal=>(aS yls ylt st').bind fun nf=>K1 .normal (ak yls st'.n nf)
    |e=>(aS (ylu e) (ylv e) st').bind fun nf=>K e (ak (ylu e) st'.n nf))=fw k p v (fun v'=>K1 .normal (ylw (p,v'))) (fun x=>K (.exit 0) (ylz p x)) (fun x=>K .ret (ym0 p x)):=by kernel_rfl
theorem ym5 {ρ:Type} (k:Nat):Sound Tryz.prog (.loop yli) (ym1 ρ k 0 fun st K=>ev (ylf k) (ym1 ρ k) 0 yli st K):=
  aX (aE (ylg k) yli 0 (aF (l:=[(2,ylj)]) (by kernel_rfl) ⟨ym3 k,trivial⟩)) ylu ylv k (g:=fun p v next K=>fw k p v next (fun x=>K (.exit 0) (ylz p x)) (fun x=>K .ret (ym0 p x))) (bp yly) (fun p v K K1=>ym4 k p v K K1)
def ym6 (a:List Int):List Arg:=[.one (.sl (.int .u8) a)]
def ym7 (l:List Arg):Option (List Int):=match l with
  |[.one (.sl (.int .u8) b0)]=>some b0
  |_=>none
def ym8 (r:Bool):Out:=(.r [] (.bool r),[])
def ym9 (o:Out):Option (Bool):=match o with
  |(.r [] (.bool z1),[])=>some z1
  |_=>none
def yma (k:Nat):PG:=fun _ l K=>(ym7 l).bind fun a=>(nd k a).bind fun r=>K (ym8 r)
theorem ymb (k:Nat) (a:List Int):ev (ylf k) (ym1 (Bool) k) 0 ylh (st0 Tryz.f3 (ym6 a)) (fin Tryz.prog Tryz.f3 (.sc) ym9)=nd k a:=by kernel_rfl
theorem ymc (k:Nat):oH Tryz.prog 3 (yma k):=
  et (ylg k) Tryz.func3 (by kernel_rfl) (by kernel_rfl) ym6 ym7
    (fun l a h=>by unfold ym7 at h;split at h<;>first|(cases h;rfl)|cases h) (fun a=>rfl) (aF (l:=[(0,yli)]) (by kernel_rfl) ⟨ym5 k,trivial⟩)
    (fun o r h=>by unfold ym9 at h;split at h<;>first|(cases h;rfl)|cases h) (ymb k)
end
end Go.Proofs.Ev
