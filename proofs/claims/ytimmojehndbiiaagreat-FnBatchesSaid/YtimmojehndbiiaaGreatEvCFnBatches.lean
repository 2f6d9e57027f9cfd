/- Text of this claim. -/
import Derived.Test.YtimmojehndbiiaaGreatEvK7
import Derived.Test.YtimmojehndbiiaaGreatProg
import Derived.Test.YtimmojehndbiiaaGreatEvL1
set_option linter.unusedVariables false
set_option linter.unusedSimpArgs false
set_option linter.unusedSectionVars false
set_option maxRecDepth 100000
set_option maxHeartbeats 4000000
namespace Go.Proofs.Ev
noncomputable section
variable [Tok]
def tt:TT:=look [(2,(.int .i64)),(3,(.int .i64)),(4,.bool),(5,(.int .u8)),(6,(.int .u8)),(9,.str),(10,.str),(11,.str),(12,(.int .u64)),(21,(.int .i32)),(22,(.sl (.int .u8))),(24,(.sl (.st .av))),(27,(.st .shape)),(28,(.sl (.int .i64))),(30,(.st .av)),(37,(.sl (.st .aM))),(39,(.st .model)),(75,(.st .aM)),(81,(.sl (.st .shape))),(89,(.int .u64)),(117,(.int .u32)),(118,(.int .u8)),(119,(.int .u8)),(122,(.int .i32)),(123,(.int .i32))]
def y0 (k:Nat):=eY tt [] .id Tryz.func4 [.one (.sl (.int .u8))] (cdL (.int .u8)) ⟨.h 0,[]⟩ cdB (.sc) (G8 k)
def y1 (k:Nat):=Hr tt [] .id Tryz.func21 k [L1 0 false [0,3,4] [] (cdL (.int .u8)) (cdZ.p cdZ) ⟨[.h 0,.h 1,.h 2],[],[]⟩ ⟨2,[0,3],[],cdZ,⟨[.h 0,.h 1],[],[]⟩⟩ (kn k)] [.one (.sl (.int .u8))] ⟨[.h 0],[]⟩ (cdL (.int .u8)) ⟨.v (.ptr 0 0 0),[],[.box [.h 0,.h 1,.h 2]]⟩ (cdZ.p cdZ) (.ptr) [.box [.ro (.int .u8),.sc,.sc]] (jz k)
def ya (k:Nat):=Fo tt [] .id Tryz.func53 [.bK] ⟨[.v (.ptr 0 0 0)],[.box [.h 0,.h 1,.h 2]]⟩ ((cdL (.int .u8)).p (cdZ.p cdZ)) ⟨.h 3,[some (.box [.h 0,.h 4,.h 5])],[]⟩ (cdZ.p (cdZ.p cdZ)) (.sc) [.box [.ro (.int .u8),.sc,.sc]] (λa=>dX k a.1 a.2.1 a.2.2)
def yb (k:Nat):=Fo tt [⟨53,ya k⟩] (.w [53]) Tryz.func31 [.bK,.one (.int .i64)] ⟨[.v (.ptr 0 0 0),.h 3],[.box [.h 0,.h 1,.h 2]]⟩ ((cdL (.int .u8)).p (cdZ.p (cdZ.p cdZ))) ⟨.h 4,[some (.box [.h 0,.h 5,.h 6])],[]⟩ (cdZ.p (cdZ.p cdZ)) (.sc) [.box [.ro (.int .u8),.sc,.sc]] (λa=>ae k a.1 a.2.1 a.2.2.1 a.2.2.2)
def yc (k:Nat):=eY tt [] .id Tryz.func22 [.one (.int .i64),.one (.int .i64),.one (.int .i64)] (cdZ.p (cdZ.p cdZ)) ⟨.h 0,[]⟩ cdB (.sc) (λa=>bn k a.1 a.2.1 a.2.2)
def yd (k:Nat):=eY tt [⟨22,yc k⟩] .id Tryz.func42 [.agg [(.int .i64),(.int .i64),(.int .i64)]] (cdS .shape) ⟨.h 0,[]⟩ cdB (.sc) (fM k)
def ye (k:Nat):=eY tt [⟨42,yd k⟩] .id Tryz.func43 [.agg [(.int .i64),(.int .i64),(.int .i64)]] (cdS .shape) ⟨.h 0,[]⟩ cdZ (.sc) (aT k)
def yf (k:Nat):=Fo tt [⟨31,yb k⟩] (.w [31]) Tryz.func51 [.bK,.one (.sl (.int .i64))] ⟨[.v (.ptr 0 0 0),.h 3],[.box [.h 0,.h 1,.h 2]]⟩ ((cdL (.int .u8)).p (cdZ.p (cdZ.p (cdL (.int .i64))))) ⟨.h 4,[some (.box [.h 0,.h 5,.h 6])],[]⟩ (cdZ.p (cdZ.p cdZ)) (.sc) [.box [.ro (.int .u8),.sc,.sc]] (λa=>aJ k a.1 a.2.1 a.2.2.1 a.2.2.2)
def yg (k:Nat):=Fo tt [⟨31,yb k⟩,⟨51,yf k⟩] (.w [31,51]) Tryz.func54 [.bK] ⟨[.v (.ptr 0 0 0)],[.box [.h 0,.h 1,.h 2]]⟩ ((cdL (.int .u8)).p (cdZ.p cdZ)) ⟨.h 3,[some (.box [.h 0,.h 4,.h 5])],[]⟩ (cdZ.p (cdZ.p cdZ)) (.sc) [.box [.ro (.int .u8),.sc,.sc]] (λa=>dg k a.1 a.2.1 a.2.2)
def yh (k:Nat):=Hr tt [⟨43,ye k⟩,⟨54,yg k⟩] (.w [54]) Tryz.func32 k [L1 0 false [0,3,4,5,6] [((.Et 5 3),(.kO false (.int .i64)))] ((cdL (.int .u8)).p (cdZ.p (cdZ.p (cdZ.p (cdZ.p (cdZ.p (cdZ.p (cdZ.p (cdZ.p cdZ))))))))) (cdZ.p (cdZ.p (cdZ.p (cdL (.int .i64))))) ⟨[.v (.ptr 0 0 0),.v (.ptr 1 0 0),.v (.ptr 2 0 0),.v (.ptr 3 0 0),.h 10],[.box [.h 0,.h 11,.h 12],.box [.h 1,.h 2,.h 3],.box [.h 4,.h 5,.h 6,.v .bq],.box [.h 7,.h 8,.h 9,.own 4],.arr none (.int .i64) 13],[some 0]⟩ ⟨2,[4,5],[],(cdZ.p (cdZ.p (cdL (.int .i64)))),⟨[.v (.ptr 0 0 0),.v (.ptr 1 0 0)],[.box [.h 4,.h 5,.h 6,.v .bq],.box [.h 7,.h 8,.h 9,.own 3],.box [.h 0,.h 10,.h 11],.arr none (.int .i64) 12],[some 2]⟩⟩ (dz k)] [.bK,.agg [(.int .i64),(.int .i64),(.int .i64)]] ⟨[.v (.ptr 0 0 0),.agg [.h 3,.h 4,.h 5]],[.box [.h 0,.h 1,.h 2]]⟩ ((cdL (.int .u8)).p (cdZ.p (cdZ.p (cdS .shape)))) ⟨.agg [.h 6,.h 7,.h 8,.own 1],[some (.box [.h 0,.h 10,.h 11])],[.arr none (.int .i64) 9]⟩ ((cdS .av).p (cdZ.p cdZ)) (.agg [.sc,.sc,.sc,.own (.int .i64)]) [.box [.ro (.int .u8),.sc,.sc]] (λa=>bd k a.1 a.2.1 a.2.2.1 a.2.2.2)
def yi (k:Nat):=Fo tt [⟨31,yb k⟩] (.w [31]) Tryz.func33 [.bK,.one (.int .i64)] ⟨[.v (.ptr 0 0 0),.h 3],[.box [.h 0,.h 1,.h 2]]⟩ ((cdL (.int .u8)).p (cdZ.p (cdZ.p cdZ))) ⟨.h 4,[some (.box [.h 0,.h 5,.h 6])],[]⟩ (cdB.p (cdZ.p cdZ)) (.sc) [.box [.ro (.int .u8),.sc,.sc]] (λa=>cz k a.1 a.2.1 a.2.2.1 a.2.2.2)
def yj (k:Nat):=Fo tt [⟨31,yb k⟩] (.w [31]) Tryz.func55 [.bK,.one (.int .i64)] ⟨[.v (.ptr 0 0 0),.h 3],[.box [.h 0,.h 1,.h 2]]⟩ ((cdL (.int .u8)).p (cdZ.p (cdZ.p cdZ))) ⟨.agg [.h 4,.h 5,.h 6],[some (.box [.h 0,.h 7,.h 8])],[]⟩ ((cdS .shape).p (cdZ.p cdZ)) (.agg [.sc,.sc,.sc]) [.box [.ro (.int .u8),.sc,.sc]] (λa=>cF k a.1 a.2.1 a.2.2.1 a.2.2.2)
def yk (k:Nat):=Fo tt [⟨31,yb k⟩,⟨32,yh k⟩,⟨33,yi k⟩,⟨51,yf k⟩,⟨55,yj k⟩] (.w [31,32,33,51,55]) Tryz.func34 [.bK] ⟨[.v (.ptr 0 0 0)],[.box [.h 0,.h 1,.h 2]]⟩ ((cdL (.int .u8)).p (cdZ.p cdZ)) ⟨.agg [.h 3,.h 4,.h 5,.own 1],[some (.box [.h 0,.h 7,.h 8])],[.arr none (.int .i64) 6]⟩ ((cdS .av).p (cdZ.p cdZ)) (.agg [.sc,.sc,.sc,.own (.int .i64)]) [.box [.ro (.int .u8),.sc,.sc]] (λa=>cG k a.1 a.2.1 a.2.2)
def yl (k:Nat):=Hr tt [⟨31,yb k⟩,⟨32,yh k⟩,⟨33,yi k⟩,⟨34,yk k⟩] (.w [31,32,33,34]) Tryz.func20 k [L1 0 false [0,3,4,5] [] ((cdL (.int .u8)).p (cdZ.p (cdZ.p cdZ))) (cdZ.p (cdZ.p (cdZ.p (cdL (.st .av))))) ⟨[.v (.ptr 0 0 0),.own 1,.v (.ptr 2 0 0),.h 4],[.box [.h 0,.h 5,.h 6],.arr none (.st .av) 7,.box [.h 1,.h 2,.h 3]],[some 0]⟩ ⟨2,[0,3,4],[],(cdZ.p (cdZ.p (cdL (.st .av)))),⟨[.v (.ptr 0 0 0),.own 1,.v (.ptr 2 0 0)],[.box [.h 0,.h 4,.h 5],.arr none (.st .av) 6,.box [.h 1,.h 2,.h 3]],[some 0]⟩⟩ (cQ k),
 L1 2 false [0,3,4] [] ((cdL (.int .u8)).p (cdZ.p (cdZ.p cdZ))) (cdZ.p (cdZ.p (cdL (.st .av)))) ⟨[.v (.ptr 0 0 0),.own 1,.v (.ptr 2 0 0)],[.box [.h 0,.h 4,.h 5],.arr none (.st .av) 6,.box [.h 1,.h 2,.h 3]],[some 0]⟩ ⟨4,[3],[],((cdL (.st .av)).p (cdZ.p cdZ)),⟨[.own 0],[.arr none (.st .av) 4,.box [.h 0,.h 5,.h 6]],[some 1]⟩⟩ (b9 k)] [.bK] ⟨[.v (.ptr 0 0 0)],[.box [.h 0,.h 1,.h 2]]⟩ ((cdL (.int .u8)).p (cdZ.p cdZ)) ⟨.own 1,[some (.box [.h 0,.h 4,.h 5])],[.arr none (.st .av) 3]⟩ ((cdL (.st .av)).p (cdZ.p cdZ)) (.own (.st .av)) [.box [.ro (.int .u8),.sc,.sc]] (λa=>gW k a.1 a.2.1 a.2.2)
def ym (k:Nat):=eY tt [⟨20,yl k⟩,⟨21,y1 k⟩] (.w [20,21]) Tryz.func5 [.one (.sl (.int .u8))] (cdL (.int .u8)) ⟨.own 0,[.arr none (.st .av) 0]⟩ (cdL (.st .av)) (.own (.st .av)) (eO k)
def yn (k:Nat):=eY tt [⟨22,yc k⟩] .id Tryz.func44 [.one (.int .i64)] cdZ ⟨.h 0,[]⟩ cdB (.sc) (dD k)
def yo (k:Nat):=mq tt [⟨42,yd k⟩,⟨43,ye k⟩,⟨44,yn k⟩] .id Tryz.func23 k [L2 0 false [1,3] [] (cdZ.p (cdZ.p (cdZ.p (cdL (.int .i64))))) cdZ ⟨[.v (.ptr 0 0 0),.h 4],[.box (hs 0 4)],[]⟩ ⟨2,[],[],cdU,⟨[],[],[]⟩⟩ ⟨1,[2],[],cdB,⟨[.h 4],[],[]⟩⟩ (gd k)] [.agg [(.int .i64),(.int .i64),(.int .i64),(.sl (.int .i64))]] (cdS .av) ⟨.h 0,[]⟩ cdB (.sc) (fk k)
def yp (k:Nat):=mq tt [⟨22,yc k⟩,⟨23,yo k⟩] .id Tryz.func6 k [L1 2 false [0,2,4,5,6,7] [] ((cdL (.st .av)).p (cdZ.p (cdZ.p (cdZ.p (cdZ.p (cdZ.p (cdZ.p (cdZ.p (cdZ.p (cdZ.p (cdZ.p (cdL (.int .i64))))))))))))) (cdZ.p (cdL (.int .i64))) ⟨[.h 0,.v (.ptr 0 0 0),.v (.ptr 1 0 0),.h 1,.v (.ptr 2 0 0),.h 12],[.box [.h 2,.h 3,.h 4,.v .bq],.box [.h 5,.h 6,.h 7,.own 3],.box (hs 8 4),.arr none (.int .i64) 13],[]⟩ ⟨4,[0,2,4,5],[],(cdL (.int .i64)),⟨[.h 0,.v (.ptr 0 0 0),.v (.ptr 1 0 0),.h 1],[.box [.h 2,.h 3,.h 4,.v .bq],.box [.h 5,.h 6,.h 7,.own 2],.arr none (.int .i64) 12],[]⟩⟩ (fv k),
 L2 0 false [0,2,4,5] [((.Et 4 3),(.kO false (.int .i64)))] ((cdL (.st .av)).p (cdZ.p (cdZ.p (cdZ.p (cdZ.p (cdZ.p cdZ)))))) (cdZ.p (cdL (.int .i64))) ⟨[.h 0,.v (.ptr 0 0 0),.v (.ptr 1 0 0),.h 7],[.box [.h 1,.h 2,.h 3,.v .bq],.box [.h 4,.h 5,.h 6,.own 2],.arr none (.int .i64) 8],[]⟩ ⟨2,[0,2,4],[],(cdL (.int .i64)),⟨[.h 0,.v (.ptr 0 0 0),.v (.ptr 1 0 0)],[.box [.h 1,.h 2,.h 3,.v .bq],.box [.h 4,.h 5,.h 6,.own 2],.arr none (.int .i64) 7],[]⟩⟩ ⟨1,[2,3],[],(cdB.p (cdZ.p (cdZ.p cdZ))),⟨[.v (.ptr 0 0 0),.h 7],[.box [.h 8,.h 9,.h 10,.v .bq]],[]⟩⟩ (dE k)] [.one (.sl (.st .av))] (cdL (.st .av)) ⟨.tup [.agg [.h 0,.h 1,.h 2,.own 0],.h 4],[.arr none (.int .i64) 3]⟩ ((cdS .av).p cdB) (.tup [.agg [.sc,.sc,.sc,.own (.int .i64)],.sc]) (ke k)
def mD (k:Nat):=eY tt [] .id Tryz.func24 [.one (.int .i64),.one (.int .i64),.one (.int .i64)] (cdZ.p (cdZ.p cdZ)) ⟨.h 0,[]⟩ cdB (.sc) (λa=>uS k a.1 a.2.1 a.2.2)
def yq (k:Nat):=eY tt [⟨24,mD k⟩] .id Tryz.func45 [.agg [(.int .i64),(.int .i64),(.int .i64)]] (cdS .shape) ⟨.h 0,[]⟩ cdB (.sc) (jq k)
def yr (k:Nat):=eY tt [⟨45,yq k⟩] .id Tryz.func46 [.agg [(.int .i64),(.int .i64),(.int .i64)]] (cdS .shape) ⟨.h 0,[]⟩ cdZ (.sc) (fu k)
def yt (k:Nat):=eY tt [⟨24,mD k⟩] .id Tryz.func65 [.one (.int .i64)] cdZ ⟨.h 0,[]⟩ cdB (.sc) (kd k)
def yu (k:Nat):=mq tt [⟨65,yt k⟩] .id Tryz.func73 k [L2 0 false [0,1,7,8] [] ((cdL (.int .i64)).p cdZ) cdZ ⟨[.h 0,.fn 65 [] [],.h 1,.h 2],[],[]⟩ ⟨2,[],[],cdU,⟨[],[],[]⟩⟩ ⟨1,[4],[],cdZ,⟨[.h 2],[],[]⟩⟩ (aI k)] [.one (.sl (.int .i64)),.fn] (cdL (.int .i64)) ⟨.h 0,[]⟩ cdZ (.sc) (aU k) [65]
def yv (k:Nat):=eY tt [⟨73,yu k⟩] .id Tryz.func64 [.one (.sl (.int .i64)),.fn] (cdL (.int .i64)) ⟨.h 0,[]⟩ cdB (.sc) (aQ k) [65]
def yw (k:Nat):=eY tt [⟨64,yv k⟩] .id Tryz.func47 [.one (.sl (.int .i64))] (cdL (.int .i64)) ⟨.h 0,[]⟩ cdB (.sc) (jr k)
def yx (k:Nat):=eY tt [⟨45,yq k⟩,⟨46,yr k⟩,⟨47,yw k⟩] .id Tryz.func25 [.agg [(.int .i64),(.int .i64),(.int .i64),(.sl (.int .i64))]] (cdS .av) ⟨.h 0,[]⟩ cdB (.sc) (du k)
def yy (k:Nat):=mq tt [⟨24,mD k⟩,⟨25,yx k⟩] .id Tryz.func7 k [L2 0 false [2,4,21,22,23] [((.Et 4 3),(.kO false (.int .i64)))] ((cdL (.st .av)).p (cdZ.p (cdZ.p (cdZ.p (cdZ.p (cdZ.p (cdZ.p cdZ))))))) (cdZ.p (cdL (.int .i64))) ⟨[.v (.ptr 0 0 0),.v (.ptr 1 0 0),.h 0,.h 1,.h 8],[.box [.h 2,.h 3,.h 4,.v .bq],.box [.h 5,.h 6,.h 7,.own 2],.arr none (.int .i64) 9],[]⟩ ⟨2,[2,4],[],(cdL (.int .i64)),⟨[.v (.ptr 0 0 0),.v (.ptr 1 0 0)],[.box [.h 2,.h 3,.h 4,.v .bq],.box [.h 5,.h 6,.h 7,.own 2],.arr none (.int .i64) 8],[]⟩⟩ ⟨1,[2,3],[],(cdB.p (cdZ.p (cdZ.p cdZ))),⟨[.v (.ptr 0 0 0),.h 8],[.box [.h 9,.h 10,.h 11,.v .bq]],[]⟩⟩ (dF k)] [.one (.sl (.st .av))] (cdL (.st .av)) ⟨.tup [.agg [.h 0,.h 1,.h 2,.own 0],.h 4],[.arr none (.int .i64) 3]⟩ ((cdS .av).p cdB) (.tup [.agg [.sc,.sc,.sc,.own (.int .i64)],.sc]) (kf k)
def yz (k:Nat):=mq tt [] .id Tryz.func48 k [L2 0 false [0,1,12,13] [] ((cdL (.int .i64)).p ((cdL (.int .i64)).p cdZ)) cdZ ⟨(hs 0 4),[],[]⟩ ⟨2,[],[],cdU,⟨[],[],[]⟩⟩ ⟨1,[4],[],cdB,⟨[.h 3],[],[]⟩⟩ (eo k)] [.one (.sl (.int .i64)),.one (.sl (.int .i64))] ((cdL (.int .i64)).p (cdL (.int .i64))) ⟨.h 0,[]⟩ cdB (.sc) (λa=>dc k a.1 a.2)
def y14 (k:Nat):=eY tt [⟨48,yz k⟩] .id Tryz.func26 [.agg [(.int .i64),(.int .i64),(.int .i64),(.sl (.int .i64))],.agg [(.int .i64),(.int .i64),(.int .i64),(.sl (.int .i64))]] ((cdS .av).p (cdS .av)) ⟨.h 0,[]⟩ cdB (.sc) (λa=>gg k a.1 a.2)
def y16 (k:Nat):=eY tt [⟨25,yx k⟩,⟨26,y14 k⟩] .id Tryz.func8 [.agg [(.int .i64),(.int .i64),(.int .i64),(.sl (.int .i64))],.agg [(.int .i64),(.int .i64),(.int .i64),(.sl (.int .i64))]] ((cdS .av).p (cdS .av)) ⟨.h 0,[]⟩ cdB (.sc) (λa=>fR k a.1 a.2)
def y17 (k:Nat):=eY tt [] .id Tryz.func28 [.one (.sl (.int .i64))] (cdL (.int .i64)) ⟨.own 0,[.arr none (.int .i64) 0]⟩ (cdL (.int .i64)) (.own (.int .i64)) (bw k)
open Go Go.RowKit Go.Shelf
def y18:Code->Code
 |.seq a _=>a
 |c=>c
def y19:Code->Code
 |.seq _ b=>b
 |c=>c
def Eo:Code->Code
 |.block _ c=>c
 |.rangeFunc _ _ _ c=>c
 |c=>c
def y1a:Code->Array Oper
 |.region _ ops _=>ops
 |_=>#[]
noncomputable def spC:Code:=Tryz.f9.body.getD .skip
noncomputable def sp0:Code:=y18 spC
noncomputable def sp1:Code:=y18 (y19 spC)
noncomputable def sp2:Code:=y18 (y19 (y19 spC))
noncomputable def sp3:Code:=y18 (y18 (y19 (y19 (y19 spC))))
noncomputable def spR:Code:=Eo (y19 (y18 (y19 (y19 (y19 spC)))))
noncomputable def spE:Code:=y19 (y19 (y19 (y19 spC)))
noncomputable def spO:Array Oper:=y1a (Eo (Eo spR))
theorem y1b:Tryz.f9.body=some (.seq sp0 (.seq sp1 (.seq sp2 (.seq (.seq sp3 (.block 0 spR)) spE)))):=by kernel_rfl
theorem Ik:spR=.rangeFunc (.tmp 21) #[22] (.region 5 #[{dst:=some 5,op:=.assign (.tmp 22),type:=28,pos:= "l13_batch.go:35",after:=#[],guard:=none}] false) (.block 1 (.region 6 spO true)):=by kernel_rfl
noncomputable def AJ:RT:=.tup [.own (.st .av),.sc]
noncomputable def B6 (k:Nat):Env:=tq tt [⟨25,yx k⟩,⟨27,o_Chunk⟩,⟨28,y17 k⟩]
theorem y1c (k:Nat):iL (B6 k):=mT tt [⟨25,yx k⟩,⟨27,o_Chunk⟩,⟨28,y17 k⟩] .id
noncomputable def aSp (x:ab):List Arg:=[.agg [.int .i64 x.sh.h,.int .i64 x.sh.w,.int .i64 x.sh.c,.sl (.int .i64) x.data]]
noncomputable def y1d (x:ab):Blk:=.box [.i x.sh.h,.i x.sh.w,.i x.sh.c,.r [] (.sl (.int .i64) x.data)]
noncomputable def pS (x:ab):NF:=([.ptr 0 0 0,.ptr 1 0 0,.fn (.func 49) [] [.ptr 2 0 0,.ptr 3 0 0]],[y1d x,.box [.own 4],.box [.r [] (.sl (.int .i64) x.data)],.box [.i x.sh.c],.arr none (.st .av) []],[])
noncomputable def y1e (x:ab) (acc:List ab):List Blk:=[y1d x,.box [.own 2],.arr none (.st .av) acc]
noncomputable def Gc (x:ab) (acc:List ab):NF:=([.ptr 0 0 0,.ptr 1 0 0],y1e x acc,[some 0,some 1])
noncomputable def Ep (x:ab) (acc:List ab) (row:List Int):St:={aW:=[(1,.ptr 0 0 0),(4,.ptr 1 0 0),(5,.r [] (.sl (.int .i64) row))],heap:=newsH 0 (y1e x acc),nid:=3,n:=34,gh:=[some 0,some 1]}
noncomputable def AK (x:ab) (acc:List ab):St:={aW:=[(1,.ptr 0 0 0),(4,.ptr 1 0 0)],heap:=newsH 0 (y1e x acc),nid:=3,n:=34,gh:=[]}
noncomputable def vh:Ex->St->Option (NF⊕ Out)
 |.normal,st=>(norm [1,4,21] st).bind λnf=>some (.inl nf)
 |e,st=>fin Tryz.prog Tryz.f9 AJ (λo=>some (.inr o)) e st
noncomputable def oSp (l:List ab) (b:Bool):Out:=(.tup [.own 0,.r [] (.bool b)],[.arr none (.st .av) l])
theorem Il (k:Nat) (x:ab):ev (B6 k) (BA (NF⊕ Out)) 0 (.seq sp0 (.seq sp1 (.seq sp2 sp3))) (st0 Tryz.f9 (aSp x)) vh=
  (du k x).bind λr=>cond (!r) (some (.inr (oSp [] false))) (cond (x.sh.w !=1) (some (.inr (oSp [] false))) (cond (decide (1<=x.sh.c)) (some (.inl (pS x))) none)):=by kernel_rfl
theorem y1f (k:Nat) (x:ab) (acc:List ab) (row:List Int):oF (B6 k) spO.toList (Ep x acc row) (λst=>norm [1,4] st)=
  (bw k row).bind λr=>cond (Nat.ble (acc.length+[(⟨⟨1,1,x.sh.c⟩,r⟩:ab)].length) bJ) (some (Gc x (acc++[⟨⟨1,1,x.sh.c⟩,r⟩]))) none:=by kernel_rfl
theorem Im (k:Nat) (x:ab) (acc:List ab):ev (B6 k) (BA Out) 0 spE (AK x acc) (fin Tryz.prog Tryz.f9 AJ some)=some (oSp acc true):=by kernel_rfl
theorem y1g:Tryz.f9.ntmps=34:=by kernel_rfl
theorem y1h:pe spO.toList=true:=by kernel_rfl
theorem y1i {w:World} {H:Heap} {pl:Pl} {i:Nat} {u:Value} {cs:List SV} (hl:look H i=some (.box cs)) (h:SVRep w H pl (.ptr i 0 0) u):u=pl.hdr i:=by
 cases h with
 |ptrB _ _ _ b k _ hh=>rw[hh,Kz]
 |mG _ _ _ sh t xs b k n cap hl'=>rw[hl]at hl';exact nomatch hl'
theorem y1j {w:World} {H:Heap} {pl:Pl} {i:Nat} {cs:List SV} (hr:bj H pl w) (hl:look H i=some (.box cs)):SVRep w H pl (.ptr i 0 0) (pl.hdr i):=by
 obtain⟨b,o,h1,_,_⟩:=hr.blk i _ hl;have:=SVRep.ptrB (w:=w) (H:=H) (pl:=pl) i 0 cs b o hl h1;rw[h1];exact this
def FJ (x:ab) (bs:Cell->Prop) (W0:World) (ow:Cell->Prop) (h0 h1:Value) (acc:List ab) (W:World) (pl:Pl):Prop:=
 bj (newsH 0 (y1e x acc)) pl W/\pl.base=bs/\pl.hdr 0=h0/\pl.hdr 1=h1/\bz W0 W/\
 ∀p u,W0.at? p=some u->¬ow p->(∀i B,look (newsH 0 (y1e x acc)) i=some B->¬pl.fp i p)/\W.at? p=some u/\W.bQ p=W0.bQ p
theorem y1k (x:ab) (acc:List ab) {i:Nat} {B:Blk} (h:look (newsH 0 (y1e x acc)) i=some B):i<3:=by
 rw[aK,if_pos (Kw _),KK]at h;exact(J5.1 h).1
theorem y1l {k:Nat} {x:ab} {bs:Cell->Prop} {W0 W:World} {ow:Cell->Prop} {h0 h1:Value} {acc:List ab} {pl:Pl} {a:Act} {l n i:Nat} {Q:Exit->Act->World->Prop} (h:FJ x bs W0 ow h0 h1 acc W pl)
  (e1:a.tmps.getD 1 undef=h0) (e4:a.tmps.getD 4 undef=h1) (e5:SVRep W (newsH 0 (y1e x acc)) pl (.r [] (.sl (.int .i64) (rowAt x i))) (a.tmps.getD 5 undef)) (hsz:a.tmps.size=34) (hdf:a.defers=[])
  (hcl:bw k (rowAt x i)=some (rowAt x i)) (J3:acc.length+1<=bJ) (hQ:∀a w,¬Q .outgrown a w)
  (hK:∀a' W' pl',FJ x bs W0 ow h0 h1 (acc++[partAt x i]) W' pl'->bz W W'->(∀p u,W.at? p=some u->(∀i B,look (newsH 0 (y1e x acc)) i=some B->¬pl.fp i p)->W'.at? p=some u)->Q .normal a' W'):
  (Code.block 1 (.region 6 spO true)).wpIn (Fence.wide.inRound l) n Tryz.prog Q a W:=by
 obtain⟨hr,hb,p0,p1,hg,hf⟩:=h;have l0:look (newsH 0 (y1e x acc)) 0=some (y1d x):=rfl;have l1:look (newsH 0 (y1e x acc)) 1=some (.box [.own 2]):=rfl
 let g:G0:=⟨λp=>∃i B,look (newsH 0 (y1e x acc)) i=some B/\pl.fp i p,pl.hdr,λi=>(y1e x acc).getD i (.box []),[]⟩
 have hR:Rl W g bs 34 (Ep x acc (rowAt x i)) a W:=by
  refine⟨pl,⟨hr,λt v hv=>?_,hsz,hdf,λj hj=>?_,bz.refl W,λp u hp hno=>⟨λj B hB hfp=>hno ⟨j,B,hB,hfp⟩,hp,rfl⟩,λj m hm=>?_⟩,hb,rfl⟩
  ·simp only[Ep]at hv;rw[look_cons]at hv;by_cases c:1=t
   ·subst c;rw[if_pos rfl]at hv;cases hv;have:=y1j hr l0;rw[p0,<-e1]at this;exact this
   rw[if_neg c,look_cons]at hv;by_cases c:4=t
   ·subst c;rw[if_pos rfl]at hv;cases hv;have:=y1j hr l1;rw[p1,<-e4]at this;exact this
   rw[if_neg c,look_cons]at hv;by_cases c:5=t
   ·subst c;rw[if_pos rfl]at hv;cases hv;exact e5
   rw[if_neg c]at hv;exact nomatch hv
  ·cases hq:look (newsH 0 (y1e x acc)) j with
   |none=>exact hq
   |some B=>have:=y1k x acc hq;have hj:3<=j:=hj;omega
  ·have hm:([some 0,some 1]:List (Option Nat))[j]? =some (some m):=hm
   match j,hm with
   |0,hm=>simp at hm;subst hm;exact⟨by show 0<3;omega,λB hB=>by cases hB;exact⟨rfl,Blk.bg _⟩⟩
   |1,hm=>simp at hm;subst hm;exact⟨by show 1<3;omega,λB hB=>by cases hB;exact⟨rfl,Blk.bg _⟩⟩
   |j+2,hm=>simp at hm
 refine wpIn_block (Fp (E:=B6 k) (y1c k) (K:=λst=>norm [1,4] st) (out:=Gc x (acc++[partAt x i])) y1h (λa w=>?_) hR ?_ λst' a' W' hn hR'=>?_)
 ·show¬Exit.inBlock 1 Q .outgrown a w;exact hQ a w
 ·rw[y1f,hcl];simp only[Ki];rw[K2 (by simpa using J3)];rfl
 ·show Q .normal a' W';obtain⟨pl',hr',hb',_⟩:=re hR' hn;have q0:=(hr'.gk 0 0 rfl).2 (y1d x) rfl;have q1:=(hr'.gk 1 1 rfl).2 (.box [.own 2]) rfl;refine hK a' W' pl' ⟨hr'.hr,hb',q0.1.trans p0,q1.1.trans p1,hg.trans hr'.gr,λp u hp hno=>?_⟩ hr'.gr λp u hp hno=>(hr'.fr p u hp λ⟨j,B,hB,hfp⟩=>hno j B hB hfp).2.1;obtain⟨f1,f2,f3⟩:=hf p u hp hno;obtain⟨f4,f5,f6⟩:=hr'.fr p u f2 λ⟨j,B,hB,hfp⟩=>f1 j B hB hfp;exact⟨f4,f5,f6.trans f3⟩
theorem y1m {x:ab} {bs:Cell->Prop} {W0:World} {ow:Cell->Prop} {h0 h1:Value} {β:Type} {acc:β->List ab}:OwnFrom W0.heap.size λpre W=>∃pl,FJ x bs W0 ow h0 h1 (acc pre) W pl:=by
 rintro pre W W' row ⟨pl,hr,hb,p0,p1,hg,hf⟩ hgr xY
 have ha:=uN hgr λr e=>(xY r e).2;refine⟨pl,tu hr ha,hb,p0,p1,wJ hgr hg λr e=>(xY r e).1,λp u hp hno=>?_⟩;obtain⟨f1,f2,f3⟩:=hf p u hp hno;obtain⟨g1,g2⟩:=ha p u f2;exact⟨f1,g1,g2.trans f3⟩
def y1n (x:ab) (m:Nat) (pre:List (Fin m)):List ab:=pre.map λf=>partAt x (f.val*x.sh.c.toNat)
theorem y1o (x:ab) (m:Nat):y1n x m (List.finRange m)=(List.range m).map λj=>partAt x (j*x.sh.c.toNat):=by
 unfold y1n
 exact List.ext_getElem (by simp) λi h1 h2=>by simp
theorem y1p {k:Nat} {x:ab} (hs:ko k x=true) (hc1:1<=x.sh.c) {bs:Cell->Prop} {a:Act} {W0 w0:World} {g0:G0} (hR:Rl w0 g0 bs 34 (dx [1,4,21] 34 (pS x)) a W0) {Q:Exit->Act->World->Prop} (hQ:∀a w,¬Q .outgrown a w)
    (hK:∀W D pl,W0.heap.size<=D->W.heap[D]? =some (.deferred (some []))->bj (newsH 0 (y1e x ((List.range x.sh.h.toNat).map λj=>partAt x (j*x.sh.c.toNat)))) pl W->pl.base=bs->pl.hdr 0=a.tmps.getD 1 undef->pl.hdr 1=a.tmps.getD 4 undef->bz w0 W->
      (∀p u,w0.at? p=some u->¬g0.fp p->(∀i B,look (newsH 0 (y1e x ((List.range x.sh.h.toNat).map λj=>partAt x (j*x.sh.c.toNat)))) i=some B->¬pl.fp i p)/\W.at? p=some u/\W.bQ p=w0.bQ p)->
      Q .normal {a with defers:={target:=.collected D,args:=#[]}::a.defers} W):spR.wp Tryz.prog Q a W0:=by
  obtain⟨pl,hr,hb,hn⟩:=hR;have t1:=y1i rfl (hr.sl 1 (.ptr 0 0 0) rfl);have t4:=y1i rfl (hr.sl 4 (.ptr 1 0 0) rfl);have l2:look (newsH 0 (pS x).2.1) 2=some (.box [.r [] (.sl (.int .i64) x.data)]):=rfl;have l3:look (newsH 0 (pS x).2.1) 3=some (.box [.i x.sh.c]):=rfl
  have t21:a.tmps.getD 21 undef=.func (.func 49) #[] #[pl.hdr 2,pl.hdr 3]:=by
    have h:=hr.sl 21 (.fn (.func 49) [] [.ptr 2 0 0,.ptr 3 0 0]) rfl;generalize a.tmps.getD 21 undef=v at h
    cases h with
    | fn _ _ _ us vs hl h1 hl' h2 =>
      obtain⟨u,v,rfl⟩:=sp_two_us hl' rfl;have q0:u=pl.hdr 2:=y1i l2 (h2 0 _ u rfl rfl);have q1:v=pl.hdr 3:=y1i l3 (h2 1 _ v rfl rfl)
      have:us=#[]:=by apply Array.eq_empty_of_size_eq_zero;simpa using hl.symm
      rw[this,q0,q1]
  obtain⟨Bs,os,e2,fp2,c2⟩:=hr.hr.blk 2 _ l2;obtain⟨Bn,on,e3,fp3,c3⟩:=hr.hr.blk 3 _ l3;obtain⟨u2,a2,_,_,r2⟩:=c2 0 _ rfl;obtain⟨u3,a3,_,_,r3⟩:=c3 0 _ rfl
  obtain rfl:u3=.int .i64 x.sh.c:=by cases r3 with|r _ _ _ h=>cases h;rfl
  unfold ko at hs;simp only[J8,decide_eq_true_eq]at hs;obtain⟨_,hlen,hl1,hl2,vj⟩:=hs;obtain⟨c,hc⟩:∃c:Nat,x.sh.c=(c:Int):=⟨x.sh.c.toNat,by omega⟩
  have hct:x.sh.c.toNat=c:=by omega
  obtain⟨m,hm⟩:∃m:Nat,x.sh.h.toNat=m:=⟨_,rfl⟩;rw[hm,hct]at hlen;rw[hm]at hK
  cases r2 with
  |r _ _ _ hrep=>
  obtain⟨b,off,cap,rfl,hcap⟩:∃b off cap,u2=.slice (some ⟨b,off,none⟩) x.data.length cap/\x.data.length<=cap:=by
    cases hrep with
    | sl _ _ a cap b o vs hcap ha _ _ =>
      rcases ha with ha|ha
      · have ha:x.data=[]:=ha;rw[ha]at hl1;exact absurd hl1 (by decide)
      · subst ha;exact⟨b,o,cap,rfl,hcap⟩
  have J4:bj (newsH 0 (y1e x [])) (pl.out [0,1,4]) W0:=Ah hr.hr (L:=[0,1,4]) rfl rfl
  let ow:Cell->Prop:=λp=>∃i B,look (newsH 0 (y1e x [])) i=some B/\(pl.out [0,1,4]).fp i p
  have how:∀p,ow p->∃j B,(j=0\/j=1\/j=4)/\look (newsH 0 (pS x).2.1) j=some B/\pl.fp j p:=by
    rintro p ⟨i,B,hB,hf⟩
    have hi:=y1k x [] hB
    match i,hi with
    |0,_=>exact⟨0,_,.inl rfl,rfl,hf⟩
    |1,_=>exact⟨1,_,.inr (.inl rfl),rfl,hf⟩
    |2,_=>exact⟨4,_,.inr (.inr rfl),rfl,hf⟩
  have o2:¬ow (Bs,os):=λh=>by
    obtain⟨j,B,hj,hB,hf⟩:=how _ h;have:=hr.hr.dis j 2 _ _ _ hB l2 hf ((fp2 _).2 ⟨rfl,by simp,by simp⟩);omega
  have o3:¬ow (Bn,on):=λh=>by
    obtain⟨j,B,hj,hB,hf⟩:=how _ h;have:=hr.hr.dis j 3 _ _ _ hB l3 hf ((fp3 _).2 ⟨rfl,by simp,by simp⟩);omega
  have hcs:W0.cell? ⟨Bs,os,none⟩=some (.slice (some ⟨b,off,none⟩) (m*c) cap):=by rw[<-hlen];exact a2
  have hcn:W0.cell? ⟨Bn,on,none⟩=some (.int .i64 (c:Int)):=by rw[<-hc];exact a3
  have hfl:∀f:Fin m,f.val*c+c<=x.data.length:=λf=>by rw[hlen,<-KU];exact Kh c f.isLt
  refine(wpIn_wide (n:=10)).1 ?_;rw[Ik]
  refine wpIn_rangeFunc_ownF (n:=10) (F:=Fence.wide) rfl (by omega) (gf:=49) (lb:=#[.pointer (some ⟨Bs,os,none⟩),.pointer (some ⟨Bn,on,none⟩)]) (by show a.tmps.getD 21 undef=_;rw[t21,e2,e3]) trivial (enters_of Tryz.func49 (by kernel_rfl) (by kernel_rfl))
    (chunk_stops (10-1) Bs os Bn on b off m c cap (by omega) (by omega) (by omega) W0 hcs hcn) (λh g B o v hB hv=>g B o v hB (h B o v hB hv))
    (λW l ob ob' _ hl hcl _ B o v _ hv=>(uN (grownBy_putObj' W l ob') (λr e=>by cases e;exact⟨ob,hl,hcl⟩) (B,o) v hv).1) (Go.RowKit.Below.refl _ _) (λ_=>rfl)
    (λpre W=>∃plW,FJ x bs W0 ow (a.tmps.getD 1 undef) (a.tmps.getD 4 undef) (y1n x m pre) W plW) (λ_ _ _=>False) y1m (λ_ _ _ _ _ h _ _=>h)
    ⟨pl.out [0,1,4],J4,hb,t1.symm,t4.symm,bz.refl W0,λp u hp hno=>⟨λi B hB hf=>hno ⟨i,B,hB,hf⟩,hp,rfl⟩⟩
    (λf=>{tmps:=(a.tmps.setIfInBounds 22 (.slice (some ⟨b,off+f.val*c,none⟩) c c)).setIfInBounds 5 (.slice (some ⟨b,off+f.val*c,none⟩) c c),defers:=[]}) ?assign ?body ?done ?stop
  case assign=>
    intro l f W K hK
    have e:∀v:Value,Array.foldl (λ(t:Array Value) (x:Nat× Value)=>match x with|(p,v)=>t.setIfInBounds p v) a.tmps (#[22].zip #[v])=a.tmps.setIfInBounds 22 v:=λv=>by simp
    rw[e];refine wpIn_region_lit (wpListIn_plain rfl λK' hK'=>DJ rfl hK' (fW (u:=.slice (some ⟨b,off+f.val*c,none⟩) c c) (w':=W) ?_ ?_))
    · have hz:22<a.tmps.size:=by rw[hr.sz,hn];omega
      have:(a.tmps.setIfInBounds 22 (.slice (some ⟨b,off+f.val*c,none⟩) c c)).getD 22 undef=.slice (some ⟨b,off+f.val*c,none⟩) c c:=by
        rw[Kd,K3 hz];rfl
      rw[execOp];show Sem.run _ (pure (Next.value ((a.tmps.setIfInBounds 22 (.slice (some ⟨b,off+f.val*c,none⟩) c c)).getD 22 undef))) W=_;rw[this];rfl
    · exact hK
  case body=>
    rintro l pre f W ⟨plW,hI⟩ JD
    have hz:∀i,i<34->i<a.tmps.size:=λi hi=>by rw[hr.sz,hn];omega
    have p5:∀(i:Nat) (v w:Value),i≠22->i≠5->((a.tmps.setIfInBounds 22 v).setIfInBounds 5 w).getD i undef=a.tmps.getD i undef:=λi v w h1 h2=>by
      simp only[Kd];rw[Lh (Ne.symm h2),Lh (Ne.symm h1)]
    have hi:(f.val*c)+c<=x.data.length:=hfl f
    have xY:eC W0 (okd (newsH 0 (pS x).2.1) pl []) (.sl (.int .i64) (rowAt x (f.val*c))) (.slice (some ⟨b,off+f.val*c,none⟩) c c):=by
      have:=Fq (i:=f.val*c) (c:=c) hrep hi;unfold rowAt;rw[hct];rw[show(Ty.int .i64).sz=1 from rfl,Nat.mul_one]at this;exact this
    refine y1l (k:=k) (i:=f.val*c) hI (p5 1 _ _ (by omega) (by omega)) (p5 4 _ _ (by omega) (by omega)) ?_ (by simp only[Array.size_setIfInBounds];exact hr.sz.trans hn) rfl ?_ ?_ (λa w h=>h) λa' W' pl' q1 q2 q3=>⟨iS q2,λB o v hB hv=>?_,pl',?_⟩
    · have:((a.tmps.setIfInBounds 22 (Value.slice (some ⟨b,off+f.val*c,none⟩) c c)).setIfInBounds 5 (.slice (some ⟨b,off+f.val*c,none⟩) c c)).getD 5 undef=.slice (some ⟨b,off+f.val*c,none⟩) c c:=by
        rw[Kd,K3 (by rw[Array.size_setIfInBounds];exact hz 5 (by omega))];rfl
      rw[this];refine .r _ _ _ (xY.frame λp u hp hu=>?_)
      have hno:¬ow p:=λh=>by
        obtain⟨j,B,_,hB,hf⟩:=how p h;exact hp.2 j B hB (λe=>nomatch e) hf
      obtain⟨f1,f2,_⟩:=hI.2.2.2.2.2 p u hu hno;exact⟨⟨by rw[hI.2.1,<-hb];exact hp.1,λi B hB _=>f1 i B hB⟩,f2⟩
    · have:=KP.1 vj (f.val*c) (List.mem_range.2 (by omega));exact eq_of_beq this
    · have hM:bJ=274877906944:=rfl
      have:(y1n x m pre).length=pre.length:=by unfold y1n;rw[List.length_map]
      have hmc:m<=m*c:=Nat.le_mul_of_pos_right m (by omega);omega
    · have hv:W.at? (B,o)=some v:=hv;refine q3 (B,o) v hv ?_
      have ho:¬ow (B,o)/\∃u,W0.at? (B,o)=some u:=by
        rcases hB with⟨rfl,rfl⟩|⟨rfl,rfl⟩
        · exact⟨o2,_,a2⟩
        · exact⟨o3,_,a3⟩
      obtain⟨ho,u,hu⟩:=ho;exact(hI.2.2.2.2.2 _ u hu ho).1
    · have:y1n x m (pre++[f])=y1n x m pre++[partAt x (f.val*c)]:=by unfold y1n;rw[LB,hct];rfl
      rw[this];exact q1
  case done=>
    rintro D xs W hD rfl ⟨plW,hrW,hbW,p0,p1,hg,hf⟩ hdf
    rw[y1o]at hrW hf;refine hK W D plW hD hdf hrW hbW p0 p1 (hr.gr.trans hg) λp u hp hno=>?_;obtain⟨f1,f2,f3⟩:=hr.fr p u hp hno
    have ho:¬ow p:=λh=>by
      obtain⟨j,B,_,hB,hfp⟩:=how p h;exact f1 j B hB hfp
    obtain⟨f4,f5,f6⟩:=hf p u f2 ho;exact⟨f4,f5,f6.trans f3⟩
  case stop=>exactλD c' pre W _ _ h _=>h.elim
theorem y1q {k:Nat} {x:ab} {r:List ab× Bool} (h:dh k x=some r):gS Tryz.prog 9 (aSp x) (oSp r.1 r.2):=by
  refine⟨enters_of Tryz.func9 (by kernel_rfl) (by kernel_rfl),λw us ok hlen kG=>?_⟩;have hrel:=H9 (fn:=Tryz.f9) (args:=aSp x) (by rw[y1g];show 1<=34;omega) hlen kG
  obtain ⟨out, JD, ov⟩ : ∃ out, ev (B6 k) (BA (NF ⊕ Out)) 0 (.seq sp0 (.seq sp1 (.seq sp2 sp3))) (st0 Tryz.f9 (aSp x)) vh = some out /\
      (out=.inr (oSp r.1 r.2)\/out=.inl (pS x)/\1<=x.sh.c/\ko k x=true/\r=((List.range x.sh.h.toNat).map (λj=>partAt x (j*x.sh.c.toNat)),true)):=by
    rw[Il];unfold dh at h;rw[An]at h;obtain⟨t,ht,h⟩:=h;rw[ht,Ki]
    cases t with
    |false=>cases h;exact⟨_,rfl,.inl rfl⟩
    | true =>
      simp only[KJ,cond_false]at h⊢
      cases hw:x.sh.w !=1 with
      |true=>rw[hw]at h;cases h;exact⟨_,rfl,.inl rfl⟩
      | false =>
        rw[hw]at h;simp only[cond_false]at h⊢
        cases hs:ko k x with
        |false=>rw[hs]at h;exact nomatch h
        | true =>
          rw[hs]at h;cases h
          have hc:1<=x.sh.c:=by unfold ko at hs;simp only[J8,decide_eq_true_eq]at hs;exact hs.1
          exact⟨_,by rw[decide_eq_true hc];rfl,.inr ⟨rfl,hc,rfl,rfl⟩⟩
  refine callsIn_wide.1 (callsIn_of_wp_marks (n:=10) Tryz.func9 y1b trivial ((wpIn_wide (n:=10)).2 ?_) rfl)
  generalize hRR:(λ(e:Ending) (w':World)=>∃u pl,e=.returned u/\bj (newsH 0 (oSp r.1 r.2).2) pl w'/\SVRep w' (newsH 0 (oSp r.1 r.2).2) pl (oSp r.1 r.2).1 u/\pl.base=(λp=>ok p\/w.at? p=none)/\
      (∀p x,w.at? p=some x->w'.at? p=some x/\w'.bQ p=w.bQ p)/\(∀i B p,look (newsH 0 (oSp r.1 r.2).2) i=some B->pl.fp i p->w.at? p=none)/\bz w w')=RR
  generalize hQQ:bodyPostM Fence.wide 10 Tryz.prog Tryz.f9 RR=Q
  have hQo:∀a w,¬Q .outgrown a w:=λa w' hq=>by
    rw[<-hQQ]at hq;have hq:RR .outgrown w':=hq;rw[<-hRR]at hq;obtain⟨u,pl,e,_⟩:=hq;exact nomatch e
  have retA:∀e st a' w',e≠.normal->vh e st=some out->Rl w ⟨λ_=>False,λ_=>undef,λ_=>.box [],[]⟩ (λp=>ok p\/w.at? p=none) Tryz.f9.ntmps st a' w'->Q e.up a' w':=λe st a' w' hne hk hr=>by
    cases e with
    |normal=>exact absurd rfl hne
    |exit j=>exact nomatch hk
    | ret =>
      have hk:((De Tryz.prog Tryz.f9 st).bind λv=>(canon AJ st.heap v).bind λo=>some (Sum.inr o))=some out:=hk;rw[An]at hk;obtain⟨v,hv,hk⟩:=hk;rw[An]at hk;obtain⟨o,ho,hk⟩:=hk
      obtain rfl:o=oSp r.1 r.2:=by
        rcases ov with rfl|⟨rfl,_⟩
        · cases hk;rfl
        · exact nomatch hk
      obtain⟨pl,hr,hb,_⟩:=hr;obtain⟨u,pl',q1,q2,q3,q4,q5⟩:=Av hr.hr hr.sl hv ho;rw[<-hQQ];show LeavesInM Fence.wide 10 Tryz.prog Tryz.f9 a'.tmps RR a'.defers .returning w';rw[hr.df];refine⟨u,q1,?_⟩;rw[<-hRR];refine⟨u,pl',rfl,q2,q3,q4.trans hb,λp x hp=>(hr.fr p x hp id).2,λi B p hB hf=>?_,hr.gr⟩;obtain⟨j,B',h1,h2⟩:=q5 i B p hB hf
      cases hq:w.at? p with
      |none=>rfl
      |some x=>exact((hr.fr p x hq id).1 j B' h1 h2).elim
  have h0:ev (B6 k) (BA (NF⊕ Out)) 0 sp0 (st0 Tryz.f9 (aSp x)) (λe st=>match e with|.normal=>ev (B6 k) (BA (NF⊕ Out)) 0 (.seq sp1 (.seq sp2 sp3)) st vh|e=>vh e st)=some out:=JD;refine wp_seq (cO (y1c k) sp0 0 (da (by kernel_rfl)) w _ _ _ _ _ w _ out _ hrel h0 λe st1 a1 w1 h1 hr1=>?_)
  cases e with
  |exit j=>exact retA (.exit j) st1 a1 w1 (λe=>nomatch e) h1 hr1
  |ret=>exact retA .ret st1 a1 w1 (λe=>nomatch e) h1 hr1
  |normal=>
  have h1:ev (B6 k) (BA (NF⊕ Out)) 0 sp1 st1 (λe st=>match e with|.normal=>ev (B6 k) (BA (NF⊕ Out)) 0 (.seq sp2 sp3) st vh|e=>vh e st)=some out:=h1;refine wp_seq (cO (y1c k) sp1 0 (da (by kernel_rfl)) w _ _ _ _ _ w1 _ out _ hr1 h1 λe st2 a2 w2 h2 hr2=>?_)
  cases e with
  |exit j=>exact retA (.exit j) st2 a2 w2 (λe=>nomatch e) h2 hr2
  |ret=>exact retA .ret st2 a2 w2 (λe=>nomatch e) h2 hr2
  |normal=>
  have h2:ev (B6 k) (BA (NF⊕ Out)) 0 sp2 st2 (λe st=>match e with|.normal=>ev (B6 k) (BA (NF⊕ Out)) 0 sp3 st vh|e=>vh e st)=some out:=h2;refine wp_seq (cO (y1c k) sp2 0 (da (by kernel_rfl)) w _ _ _ _ _ w2 _ out _ hr2 h2 λe st3 a3 w3 h3 hr3=>?_)
  cases e with
  |exit j=>exact retA (.exit j) st3 a3 w3 (λe=>nomatch e) h3 hr3
  |ret=>exact retA .ret st3 a3 w3 (λe=>nomatch e) h3 hr3
  |normal=>
  refine wp_seq (wp_seq (cO (y1c k) sp3 0 (da (by kernel_rfl)) w _ _ _ _ _ w3 _ out _ hr3 h3 λe st4 a4 w4 h4 hr4=>?_))
  cases e with
  |exit j=>exact retA (.exit j) st4 a4 w4 (λe=>nomatch e) h4 hr4
  |ret=>exact retA .ret st4 a4 w4 (λe=>nomatch e) h4 hr4
  |normal=>
  have h4:((norm [1,4,21] st4).bind λnf=>some (Sum.inl nf))=some out:=h4;rw[An]at h4;obtain⟨nf,hnf,h4⟩:=h4;cases h4
  obtain⟨e4,hc1,hs,rfl⟩:nf=pS x/\1<=x.sh.c/\ko k x=true/\r=((List.range x.sh.h.toNat).map (λj=>partAt x (j*x.sh.c.toNat)),true):=by
    rcases ov with e|⟨e,h⟩
    · exact nomatch e
    · cases e;exact⟨rfl,h⟩
  subst e4;have hr5:=re hr4 hnf;rw[y1g]at hr5
  have hgw:w.heap.size<=w4.heap.size:=by
    obtain⟨pl,hr,_,_⟩:=hr5;exact(iS hr.gr).size
  have hdf4:a4.defers=[]:=by
    obtain⟨pl,hr,_,_⟩:=hr5;exact hr.df
  have hz4:a4.tmps.size=34:=by
    obtain⟨pl,hr,_,_⟩:=hr5;exact hr.sz
  refine wp_block (y1p hs hc1 hr5 (λa w h=>hQo a w h) λW D pl hD hdf hr hb p0 p1 hg hf=>?_);rw[hdf4]
  let parts:=(List.range x.sh.h.toNat).map λj=>partAt x (j*x.sh.c.toNat)
  let g:G0:=⟨λp=>∃i B,look (newsH 0 (y1e x parts)) i=some B/\pl.fp i p,pl.hdr,λi=>(y1e x parts).getD i (.box []),[{target:=.collected D,args:=#[]}]⟩
  have l0:look (newsH 0 (y1e x parts)) 0=some (y1d x):=rfl;have l1:look (newsH 0 (y1e x parts)) 1=some (.box [.own 2]):=rfl
  have hR:Rl W g (λp=>ok p\/w.at? p=none) 34 (AK x parts) {tmps:=a4.tmps,defers:=[{target:=.collected D,args:=#[]}]} W:=by
    refine⟨pl,⟨hr,λt v hv=>?_,hz4,rfl,λj hj=>?_,bz.refl W,λp u hp hno=>⟨λj B hB hfp=>hno ⟨j,B,hB,hfp⟩,hp,rfl⟩,λj m hm=>?_⟩,hb,rfl⟩
    · simp only[AK]at hv;rw[look_cons]at hv;by_cases c:1=t
      · subst c;rw[if_pos rfl]at hv;cases hv;have:=y1j hr l0;rw[p0]at this;exact this
      rw[if_neg c,look_cons]at hv;by_cases c:4=t
      · subst c;rw[if_pos rfl]at hv;cases hv;have:=y1j hr l1;rw[p1]at this;exact this
      rw[if_neg c]at hv;exact nomatch hv
    · cases hq:look (newsH 0 (y1e x parts)) j with
      |none=>exact hq
      |some B=>have:=y1k x parts hq;have hj:3<=j:=hj;omega
    · have hm:([]:List (Option Nat))[j]? =some (some m):=hm;simp at hm
  refine cO (y1c k) (LP:=BA Out) spE 0 (da (by kernel_rfl)) W g _ 34 (AK x parts) _ W _ (oSp parts true) Q hR (Im k x parts) λe st' a' w' hk hr'=>?_
  obtain⟨v,hv,hcn,he⟩:∃v,De Tryz.prog Tryz.f9 st'=some v/\canon AJ st'.heap v=some (oSp parts true)/\(e=.normal\/e=.ret):=by
    cases e with
    |exit j=>exact nomatch hk
    | normal =>
      simp only[fin,An]at hk;obtain⟨v,hv,o,ho,hk⟩:=hk
      cases hk;exact⟨v,hv,ho,.inl rfl⟩
    | ret =>
      simp only[fin,An]at hk;obtain⟨v,hv,o,ho,hk⟩:=hk;cases hk;exact⟨v,hv,ho,.inr rfl⟩
  obtain⟨pl',hr',hb',_⟩:=hr';have hD':w'.heap[D]? =some (.deferred (some [])):=(iS hr'.gr).same D _ hdf rfl;have hgb:=grownBy_putObj' w' D (.deferred none)
  have hal:Alike w' (w'.putObj D (.deferred none)):=uN hgb λr e=>by cases e;exact⟨_,hD',rfl⟩
  obtain⟨u,pl2,q1,q2,q3,q4,q5⟩:=Av (tu hr'.hr hal) (λt v hv=>(hr'.sl t v hv).oH (rk hal)) hv hcn
  have key:Q .ret a' w':=by
    rw[<-hQQ];show LeavesInM Fence.wide 10 Tryz.prog Tryz.f9 a'.tmps RR a'.defers .returning w';rw[hr'.df];refine⟨(λe=>nomatch e),.inl ⟨D,w'.putObj D (.deferred none),rfl,run_takeDeferred hD',u,q1,?_⟩⟩;rw[<-hRR];refine⟨u,pl2,rfl,q2,q3,q4.trans hb',λp y hp=>?_,λi B p hB hfp=>?_,wJ hgb (hg.trans hr'.gr) λr e=>by cases e;omega⟩
    · obtain⟨f1,f2,f3⟩:=hf p y hp id;obtain⟨f4,f5,f6⟩:=hr'.fr p y f2 λ⟨j,B,hB,hfp⟩=>f1 j B hB hfp;obtain⟨f7,f8⟩:=hal p y f5;exact⟨f7,f8.trans (f6.trans f3)⟩
    · obtain⟨j,B',h1,h2⟩:=q5 i B p hB hfp
      cases hq:w.at? p with
      |none=>rfl
      | some y =>
        obtain⟨f1,f2,f3⟩:=hf p y hq id;obtain⟨f4,f5,f6⟩:=hr'.fr p y f2 λ⟨j,B,hB,hfp⟩=>f1 j B hB hfp;exact(f4 j B' h1 h2).elim
  rcases he with rfl|rfl
  · rw[<-hQQ]at key⊢;exact key
  · exact key
def y1r (k:Nat):O Tryz.prog 9:=okH [.agg [(.int .i64),(.int .i64),(.int .i64),(.sl (.int .i64))]] [] (cdS .av) ⟨.tup [.own 0,.h 1],[.arr none (.st .av) 0]⟩ ((cdL (.st .av)).p cdB) (dh k) λa b h=>y1q h
def y1s (k:Nat):=mq tt [⟨8,y16 k⟩] .id Tryz.func29 k [L2 0 false [1,2,15,16,17] [] ((cdL (.st .av)).p ((cdL (.st .av)).p cdZ)) cdZ ⟨[.h 0,.fn 8 [] [],.h 1,.h 2,.h 3],[],[]⟩ ⟨2,[],[],cdU,⟨[],[],[]⟩⟩ ⟨1,[6],[],cdB,⟨[.h 3],[],[]⟩⟩ (ao k)] [.one (.sl (.st .av)),.one (.sl (.st .av)),.fn] ((cdL (.st .av)).p (cdL (.st .av))) ⟨.h 0,[]⟩ cdB (.sc) (λa=>ax k a.1 a.2) [8]
def y1t (k:Nat):=eY tt [⟨29,y1s k⟩] .id Tryz.func10 [.one (.sl (.st .av)),.one (.sl (.st .av))] ((cdL (.st .av)).p (cdL (.st .av))) ⟨.h 0,[]⟩ cdB (.sc) (λa=>bI k a.1 a.2)
def y1u (k:Nat):=mq tt [] .id Tryz.func12 k [L1 0 false [0,5,6] [] (cdL (.int .u8)) (cdZ.p (cdL (.int .u8))) ⟨[.h 0,.own 0,.h 1],[.arr none (.int .u8) 2],[]⟩ ⟨2,[5],[],(cdL (.int .u8)),⟨[.own 0],[.arr none (.int .u8) 1],[]⟩⟩ (uV k)] [.one (.sl (.int .u8)),.one (.int .i64)] ((cdL (.int .u8)).p cdZ) ⟨.own 0,[.arr none (.int .u8) 0]⟩ (cdL (.int .u8)) (.own (.int .u8)) (λa=>zo k a.1 a.2)
def y1v (k:Nat):=Hr tt [⟨22,yc k⟩,⟨31,yb k⟩,⟨43,ye k⟩,⟨51,yf k⟩,⟨54,yg k⟩] (.w [31,51,54]) Tryz.func74 k [L1 0 false [0,4,5,7,8] [((.Et 5 7),(.kO false (.int .i64)))] (cdZ.p ((cdL (.int .u8)).p (cdZ.p (cdZ.p (cdZ.p (cdZ.p (cdZ.p (cdZ.p (cdZ.p (cdZ.p (cdZ.p (cdZ.p (cdZ.p (cdZ.p (cdZ.p cdZ))))))))))))))) (cdZ.p (cdZ.p (cdZ.p (cdL (.int .i64))))) ⟨[.v (.ptr 0 0 0),.v (.ptr 1 0 0),.v (.ptr 2 0 0),.h 0,.h 16],[.box [.h 1,.h 17,.h 18],.box (hs 2 7++[.v .bq,.v .bq]),.box (hs 9 7++[.own 3,.v .bq]),.arr none (.int .i64) 19],[some 0]⟩ ⟨2,[0,4,5],[],(cdZ.p (cdZ.p (cdL (.int .i64)))),⟨[.v (.ptr 0 0 0),.v (.ptr 1 0 0),.v (.ptr 2 0 0)],[.box [.h 1,.h 16,.h 17],.box (hs 2 7++[.v .bq,.v .bq]),.box (hs 9 7++[.own 3,.v .bq]),.arr none (.int .i64) 18],[some 0]⟩⟩ (aZ k),
 L1 2 false [0,4,5,9] [((.Et 5 8),(.kO false (.int .i64)))] ((cdL (.int .u8)).p (cdZ.p (cdZ.p (cdZ.p (cdZ.p (cdZ.p (cdZ.p (cdZ.p (cdZ.p (cdZ.p (cdZ.p (cdZ.p (cdZ.p (cdZ.p (cdZ.p (cdL (.int .i64))))))))))))))))) (cdZ.p (cdZ.p (cdZ.p (cdL (.int .i64))))) ⟨[.v (.ptr 0 0 0),.v (.ptr 1 0 0),.v (.ptr 2 0 0),.h 16],[.box [.h 0,.h 17,.h 18],.box (hs 1 7++[.v .bq,.v .bq]),.box (hs 8 7++[.own 3,.own 4]),.arr none (.int .i64) 15,.arr none (.int .i64) 19],[some 0]⟩ ⟨4,[0,4,5],[],(cdZ.p (cdZ.p (cdL (.int .i64)))),⟨[.v (.ptr 0 0 0),.v (.ptr 1 0 0),.v (.ptr 2 0 0)],[.box [.h 0,.h 16,.h 17],.box (hs 1 7++[.v .bq,.v .bq]),.box (hs 8 7++[.own 3,.own 4]),.arr none (.int .i64) 15,.arr none (.int .i64) 18],[some 0]⟩⟩ (ba k)] [.bK,.agg [(.int .i64),(.int .i64),(.int .i64)]] ⟨[.v (.ptr 0 0 0),.agg [.h 3,.h 4,.h 5]],[.box [.h 0,.h 1,.h 2]]⟩ ((cdL (.int .u8)).p (cdZ.p (cdZ.p (cdS .shape)))) ⟨.agg (hs 6 7++[.own 1,.own 2]),[some (.box [.h 0,.h 15,.h 16])],[.arr none (.int .i64) 13,.arr none (.int .i64) 14]⟩ ((cdS .aM).p (cdZ.p cdZ)) (.agg [.sc,.sc,.sc,.sc,.sc,.sc,.sc,.own (.int .i64),.own (.int .i64)]) [.box [.ro (.int .u8),.sc,.sc]] (λa=>dM k a.1 a.2.1 a.2.2.1 a.2.2.2)
def y1w (k:Nat):=mq tt [⟨22,yc k⟩,⟨44,yn k⟩] .id Tryz.func85 k [L2 0 false [3,7] [] (cdZ.p (cdZ.p (cdZ.p (cdZ.p (cdZ.p (cdZ.p (cdZ.p ((cdL (.int .i64)).p (cdL (.int .i64)))))))))) cdZ ⟨[.v (.ptr 0 0 0),.h 9],[.box (hs 0 9)],[]⟩ ⟨2,[3],[],cdU,⟨[.v (.ptr 0 0 0)],[.box (hs 0 9)],[]⟩⟩ ⟨1,[6],[],cdB,⟨[.h 9],[],[]⟩⟩ (dv k),
 L2 2 false [3,8] [] (cdZ.p (cdZ.p (cdZ.p (cdZ.p (cdZ.p (cdZ.p (cdZ.p ((cdL (.int .i64)).p (cdL (.int .i64)))))))))) cdZ ⟨[.v (.ptr 0 0 0),.h 9],[.box (hs 0 9)],[]⟩ ⟨4,[],[],cdU,⟨[],[],[]⟩⟩ ⟨1,[6],[],cdB,⟨[.h 9],[],[]⟩⟩ (dw k)] [.agg [(.int .i64),(.int .i64),(.int .i64),(.int .i64),(.int .i64),(.int .i64),(.int .i64),(.sl (.int .i64)),(.sl (.int .i64))],.one .bool,.one .bool] ((cdS .aM).p (cdB.p cdB)) ⟨.h 0,[]⟩ cdB (.sc) (λa=>lV k a.1 a.2.1 a.2.2)
def y1x (k:Nat):=eY tt [⟨22,yc k⟩,⟨42,yd k⟩,⟨43,ye k⟩,⟨85,y1w k⟩] .id Tryz.func70 [.agg [(.int .i64),(.int .i64),(.int .i64)],.agg [(.int .i64),(.int .i64),(.int .i64),(.int .i64),(.int .i64),(.int .i64),(.int .i64),(.sl (.int .i64)),(.sl (.int .i64))]] ((cdS .shape).p (cdS .aM)) ⟨.tup [.agg [.h 0,.h 1,.h 2],.h 3],[]⟩ ((cdS .shape).p cdB) (.tup [.agg [.sc,.sc,.sc],.sc]) (λa=>fl k a.1 a.2)
def y1y (k:Nat):=Hr tt [⟨70,y1x k⟩,⟨74,y1v k⟩] (.w [74]) Tryz.func66 k [L1 0 false [0,2,4,6,7,8] [((.Et 7 3),(.kO false (.st .aM)))] (cdZ.p ((cdL (.int .u8)).p (cdZ.p (cdZ.p (cdZ.p (cdZ.p (cdZ.p cdZ))))))) (cdZ.p (cdZ.p (cdZ.p (cdZ.p (cdZ.p (cdZ.p (cdL (.st .aM)))))))) ⟨[.v (.ptr 0 0 0),.h 0,.v (.ptr 1 0 0),.v (.ptr 2 0 0),.v (.ptr 3 0 0),.h 8],[.box [.h 1,.h 9,.h 10],.box [.h 11,.h 12,.h 13],.box [.h 2,.h 3,.h 4,.v .bq],.box [.h 5,.h 6,.h 7,.own 4],.arr none (.st .aM) 14],[some 0]⟩ ⟨2,[6,7],[],(cdZ.p (cdZ.p (cdL (.st .aM)))),⟨[.v (.ptr 0 0 0),.v (.ptr 1 0 0)],[.box [.h 2,.h 3,.h 4,.v .bq],.box [.h 5,.h 6,.h 7,.own 3],.box [.h 1,.h 8,.h 9],.arr none (.st .aM) 10],[some 2]⟩⟩ (eM k)] [.bK,.agg [(.int .i64),(.int .i64),(.int .i64)],.one (.int .i64)] ⟨[.v (.ptr 0 0 0),.agg [.h 3,.h 4,.h 5],.h 6],[.box [.h 0,.h 1,.h 2]]⟩ ((cdL (.int .u8)).p (cdZ.p (cdZ.p ((cdS .shape).p cdZ)))) ⟨.agg [.h 7,.h 8,.h 9,.own 1],[some (.box [.h 0,.h 11,.h 12])],[.arr none (.st .aM) 10]⟩ ((cdS .model).p (cdZ.p cdZ)) (.agg [.sc,.sc,.sc,.own (.st .aM)]) [.box [.ro (.int .u8),.sc,.sc]] (λa=>eN k a.1 a.2.1 a.2.2.1 a.2.2.2.1 a.2.2.2.2)
def y1z (k:Nat):=Fo tt [⟨31,yb k⟩,⟨55,yj k⟩,⟨66,y1y k⟩] (.w [31,55,66]) Tryz.func50 [.bK] ⟨[.v (.ptr 0 0 0)],[.box [.h 0,.h 1,.h 2]]⟩ ((cdL (.int .u8)).p (cdZ.p cdZ)) ⟨.agg [.h 3,.h 4,.h 5,.own 1],[some (.box [.h 0,.h 7,.h 8])],[.arr none (.st .aM) 6]⟩ ((cdS .model).p (cdZ.p cdZ)) (.agg [.sc,.sc,.sc,.own (.st .aM)]) [.box [.ro (.int .u8),.sc,.sc]] (λa=>dN k a.1 a.2.1 a.2.2)
def y20 (k:Nat):=Fo tt [⟨31,yb k⟩,⟨51,yf k⟩] (.w [31,51]) Tryz.func52 [.bK,.bK] ⟨[.v (.ptr 0 0 0),.agg (hs 3 7++[.own 1,.own 2])],[.box [.h 0,.h 1,.h 2],.arr none (.int .i64) 10,.arr none (.int .i64) 11]⟩ ((cdL (.int .u8)).p (cdZ.p (cdZ.p (cdS .aM)))) ⟨.agg (hs 12 7++[.own 3,.own 4]),[some (.box [.h 0,.h 21,.h 22]),none,none],[.arr none (.int .i64) 19,.arr none (.int .i64) 20]⟩ ((cdS .aM).p (cdZ.p cdZ)) (.agg [.sc,.sc,.sc,.sc,.sc,.sc,.sc,.own (.int .i64),.own (.int .i64)]) [.box [.ro (.int .u8),.sc,.sc],.gone,.gone] (λa=>iI k a.1 a.2.1 a.2.2.1 a.2.2.2)
def y21 (k:Nat):=Hr tt [⟨31,yb k⟩,⟨33,yi k⟩,⟨50,y1z k⟩,⟨51,yf k⟩,⟨52,y20 k⟩] {f:=λE=>{E with wr:=λg=>mem g [31,33,50,51,52],wt:=true,tak:=true}} Tryz.func30 k [L1 1 false [0,2,3] [] ((cdL (.int .u8)).p (cdZ.p (cdZ.p (cdZ.p (cdZ.p (cdZ.p cdZ)))))) (cdZ.p (cdZ.p (cdL (.st .aM)))) ⟨[.v (.ptr 0 0 0),.v (.ptr 1 0 0),.v (.ptr 2 0 0)],[.box [.h 0,.h 7,.h 8],.box [.h 1,.h 2,.h 3,.v .bq],.box [.h 4,.h 5,.h 6,.own 3],.arr none (.st .aM) 9],[some 0]⟩ ⟨3,[2,3],[],(cdZ.p (cdZ.p (cdL (.st .aM)))),⟨[.v (.ptr 0 0 0),.v (.ptr 1 0 0)],[.box [.h 1,.h 2,.h 3,.v .bq],.box [.h 4,.h 5,.h 6,.own 3],.box [.h 0,.h 7,.h 8],.arr none (.st .aM) 9],[some 2]⟩⟩ (dY k)] [.bK] ⟨[.v (.ptr 0 0 0)],[.box [.h 0,.h 1,.h 2]]⟩ ((cdL (.int .u8)).p (cdZ.p cdZ)) ⟨.agg [.h 3,.h 4,.h 5,.own 1],[some (.box [.h 0,.h 7,.h 8])],[.arr none (.st .aM) 6]⟩ ((cdS .model).p (cdZ.p cdZ)) (.agg [.sc,.sc,.sc,.own (.st .aM)]) [.box [.ro (.int .u8),.sc,.sc]] (λa=>dO k a.1 a.2.1 a.2.2)
def y23 (k:Nat):=mq tt [⟨21,y1 k⟩,⟨30,y21 k⟩,⟨31,yb k⟩,⟨32,yh k⟩,⟨33,yi k⟩,⟨34,yk k⟩] (.w [21,30,31,32,33,34]) Tryz.func11 k [L1 0 false [2,4,5,6,7] [] (cdZ.p (cdZ.p (cdZ.p ((cdL (.int .u8)).p (cdZ.p (cdZ.p (cdZ.p (cdL (.st .aM))))))))) (cdZ.p (cdZ.p (cdZ.p (cdL (.st .av))))) ⟨[.v (.ptr 0 0 0),.v (.ptr 1 0 0),.v (.ptr 2 0 0),.own 3,.h 8],[.box [.h 0,.h 1,.h 2,.v .bq],.box [.h 3,.h 9,.h 10],.box [.h 4,.h 5,.h 6,.own 4],.arr none (.st .av) 11,.arr none (.st .aM) 7],[]⟩ ⟨2,[2,4,5,6],[],(cdZ.p (cdZ.p (cdL (.st .av)))),⟨[.v (.ptr 0 0 0),.v (.ptr 1 0 0),.v (.ptr 2 0 0),.own 3],[.box [.h 0,.h 1,.h 2,.v .bq],.box [.h 3,.h 8,.h 9],.box [.h 4,.h 5,.h 6,.own 4],.arr none (.st .av) 10,.arr none (.st .aM) 7],[]⟩⟩ (eP k)] [.one (.sl (.int .u8))] (cdL (.int .u8)) ⟨.tup [.agg [.h 0,.h 1,.h 2,.own 0],.own 1],[.arr none (.st .aM) 3,.arr none (.st .av) 4]⟩ ((cdS .model).p (cdL (.st .av))) (.tup [.agg [.sc,.sc,.sc,.own (.st .aM)],.own (.st .av)]) (bU k)
def y25 (k:Nat):=eY tt [] .id Tryz.func75 [.agg [(.int .i64),(.int .i64),(.int .i64),(.int .i64),(.int .i64),(.int .i64),(.int .i64),(.sl (.int .i64)),(.sl (.int .i64))]] (cdS .aM) ⟨.h 0,[]⟩ cdB (.sc) (cr k)
def y29 (k:Nat):=eY tt [⟨24,mD k⟩] .id Tryz.func91 [.one (.int .i64)] cdZ ⟨.h 0,[]⟩ cdB (.sc) (dU k)
def y2a (k:Nat):=mq tt [⟨91,y29 k⟩] .id Tryz.func73 k [L2 0 false [0,1,7,8] [] ((cdL (.int .i64)).p cdZ) cdZ ⟨[.h 0,.fn 91 [] [],.h 1,.h 2],[],[]⟩ ⟨2,[],[],cdU,⟨[],[],[]⟩⟩ ⟨1,[4],[],cdZ,⟨[.h 2],[],[]⟩⟩ (aD k)] [.one (.sl (.int .i64)),.fn] (cdL (.int .i64)) ⟨.h 0,[]⟩ cdZ (.sc) (aN k) [91]
def y2b (k:Nat):=eY tt [⟨73,y2a k⟩] .id Tryz.func64 [.one (.sl (.int .i64)),.fn] (cdL (.int .i64)) ⟨.h 0,[]⟩ cdB (.sc) (aE k) [91]
def y2c (k:Nat):=eY tt [⟨24,mD k⟩,⟨47,yw k⟩,⟨64,y2b k⟩] .id Tryz.func76 [.agg [(.int .i64),(.int .i64),(.int .i64),(.int .i64),(.int .i64),(.int .i64),(.int .i64),(.sl (.int .i64)),(.sl (.int .i64))],.one (.int .i64)] ((cdS .aM).p cdZ) ⟨.h 0,[]⟩ cdB (.sc) (λa=>cE k a.1 a.2)
def y2d (k:Nat):=eY tt [⟨24,mD k⟩] .id Tryz.func77 [.agg [(.int .i64),(.int .i64),(.int .i64),(.int .i64),(.int .i64),(.int .i64),(.int .i64),(.sl (.int .i64)),(.sl (.int .i64))],.agg [(.int .i64),(.int .i64),(.int .i64)]] ((cdS .aM).p (cdS .shape)) ⟨.h 0,[]⟩ cdB (.sc) (λa=>bX k a.1 a.2)
def y2e (k:Nat):=eY tt [] .id Tryz.func78 [.agg [(.int .i64),(.int .i64),(.int .i64),(.int .i64),(.int .i64),(.int .i64),(.int .i64),(.sl (.int .i64)),(.sl (.int .i64))],.agg [(.int .i64),(.int .i64),(.int .i64)],.one (.int .i64)] ((cdS .aM).p ((cdS .shape).p cdZ)) ⟨.agg [.h 0,.h 1,.h 2],[]⟩ (cdS .shape) (.agg [.sc,.sc,.sc]) (λa=>ct k a.1 a.2.1 a.2.2)
def y2f (k:Nat):=eY tt [] .id Tryz.func79 [.agg [(.int .i64),(.int .i64),(.int .i64),(.int .i64),(.int .i64),(.int .i64),(.int .i64),(.sl (.int .i64)),(.sl (.int .i64))]] (cdS .aM) ⟨.h 0,[]⟩ cdB (.sc) (cc k)
def y2g (k:Nat):=eY tt [⟨24,mD k⟩,⟨45,yq k⟩,⟨46,yr k⟩,⟨75,y25 k⟩,⟨76,y2c k⟩,⟨77,y2d k⟩,⟨78,y2e k⟩,⟨79,y2f k⟩] .id Tryz.func67 [.agg [(.int .i64),(.int .i64),(.int .i64)],.agg [(.int .i64),(.int .i64),(.int .i64),(.int .i64),(.int .i64),(.int .i64),(.int .i64),(.sl (.int .i64)),(.sl (.int .i64))]] ((cdS .shape).p (cdS .aM)) ⟨.tup [.agg [.h 0,.h 1,.h 2],.h 3],[]⟩ ((cdS .shape).p cdB) (.tup [.agg [.sc,.sc,.sc],.sc]) (λa=>gF k a.1 a.2)
def y2h (k:Nat):=mq tt [⟨67,y2g k⟩] .id Tryz.func59 k [L2 0 false [4,5,16,17,18] [] ((cdL (.st .aM)).p cdZ) (cdZ.p ((cdL (.st .shape)).p (cdZ.p (cdZ.p cdZ)))) ⟨[.own 0,.v (.ptr 1 0 0),.h 0,.h 1,.h 2],[.arr none (.st .shape) 3,.box [.h 4,.h 5,.h 6]],[]⟩ ⟨2,[4],[],(cdL (.st .shape)),⟨[.own 0],[.arr none (.st .shape) 2],[]⟩⟩ ⟨1,[2,3],[],cdB,⟨[.v .bq,.h 2],[],[]⟩⟩ (cu k)] [.agg [(.int .i64),(.int .i64),(.int .i64),(.sl (.st .aM))]] (cdS .model) ⟨.tup [.own 0,.h 1],[.arr none (.st .shape) 0]⟩ ((cdL (.st .shape)).p cdB) (.tup [.own (.st .shape),.sc]) (dI k)
def y2i (k:Nat):=eY tt [⟨24,mD k⟩,⟨59,y2h k⟩] .id Tryz.func37 [.agg [(.int .i64),(.int .i64),(.int .i64),(.sl (.st .aM))]] (cdS .model) ⟨.h 0,[]⟩ cdB (.sc) (jt k)
def y2j (k:Nat):=eY tt [] .id Tryz.func106 [.one (.int .i64),.one (.int .i64),.one (.int .i64)] (cdZ.p (cdZ.p cdZ)) ⟨.h 0,[]⟩ cdZ (.sc) (λa=>BI k a.1 a.2.1 a.2.2)
def y2k (k:Nat):=eY tt [⟨106,y2j k⟩] .id Tryz.func100 [.one (.int .i64)] cdZ ⟨.h 0,[]⟩ cdZ (.sc) (ru k)
def y2l (k:Nat):=eY tt [⟨106,y2j k⟩] .id Tryz.func103 [.one (.int .i64)] cdZ ⟨.h 0,[]⟩ cdZ (.sc) (iU k)
def y2m (k:Nat):=eY tt [⟨103,y2l k⟩] .id Tryz.func94 [.one (.int .i64),.one (.int .i64)] (cdZ.p cdZ) ⟨.h 0,[]⟩ cdZ (.sc) (λa=>nZ k a.1 a.2)
def y2n (k:Nat):=mq tt [⟨94,y2m k⟩,⟨100,y2k k⟩] .id Tryz.func92 k [L1 0 false [0,1,5,11,12] [] ((cdL (.int .i64)).p ((cdL (.int .i64)).p cdZ)) (cdZ.p cdZ) ⟨[.h 0,.h 1,.h 3,.h 2,.h 4],[],[]⟩ ⟨2,[5],[],cdZ,⟨[.h 3],[],[]⟩⟩ (lZ k)] [.one (.sl (.int .i64)),.one (.sl (.int .i64))] ((cdL (.int .i64)).p (cdL (.int .i64))) ⟨.h 0,[]⟩ cdZ (.sc) (λa=>uU k a.1 a.2)
def y2o (k:Nat):=eY tt [⟨103,y2l k⟩] .id Tryz.func102 [.one (.int .i64),.one (.int .i64)] (cdZ.p cdZ) ⟨.h 0,[]⟩ cdZ (.sc) (λa=>oa k a.1 a.2)
def y2p (k:Nat):=eY tt [] .id Tryz.func83 [.one (.int .i64),.one (.int .i64)] (cdZ.p cdZ) ⟨.h 0,[]⟩ cdZ (.sc) (λa=>kh k a.1 a.2)
def y2q (k:Nat):=eY tt [⟨83,y2p k⟩] .id Tryz.func83 [.one (.int .i64),.one (.int .i64)] (cdZ.p cdZ) ⟨.h 0,[]⟩ cdZ (.sc) (λa=>jx k a.1 a.2)
def y2r (k:Nat):=eY tt [⟨83,y2q k⟩,⟨103,y2l k⟩,⟨106,y2j k⟩] .id Tryz.func101 [.one (.int .i64),.one (.int .i64)] (cdZ.p cdZ) ⟨.h 0,[]⟩ cdZ (.sc) (λa=>iG k a.1 a.2)
def y2s (k:Nat):=eY tt [⟨100,y2k k⟩,⟨101,y2r k⟩,⟨102,y2o k⟩] .id Tryz.func93 [.one (.int .i64),.one (.int .i64),.one (.int .i64),.one (.int .i64)] (cdZ.p (cdZ.p (cdZ.p cdZ))) ⟨.h 0,[]⟩ cdZ (.sc) (λa=>oc k a.1 a.2.1 a.2.2.1 a.2.2.2)
def y2t (k:Nat):=eY tt [⟨92,y2n k⟩,⟨93,y2s k⟩,⟨94,y2m k⟩] .id Tryz.func80 [.agg [(.int .i64),(.int .i64),(.int .i64),(.int .i64),(.int .i64),(.int .i64),(.int .i64),(.sl (.int .i64)),(.sl (.int .i64))],.one (.sl (.int .i64)),.one (.int .i64)] ((cdS .aM).p ((cdL (.int .i64)).p cdZ)) ⟨.h 0,[]⟩ cdZ (.sc) (λa=>cK k a.1 a.2.1 a.2.2)
def y2u (k:Nat):=eY tt [] .id Tryz.func84 [.agg [(.int .i64),(.int .i64),(.int .i64)],.one (.int .i64),.one (.int .i64),.one (.int .i64)] ((cdS .shape).p (cdZ.p (cdZ.p cdZ))) ⟨.h 0,[]⟩ cdZ (.sc) (λa=>eK k a.1 a.2.1 a.2.2.1 a.2.2.2)
def y2v (k:Nat):=mq tt [⟨84,y2u k⟩] .id Tryz.func81 k [L1 2 false [2,3,4,5,6,11,12,17,18,22,23] [] (cdZ.p (cdZ.p (cdZ.p (cdZ.p (cdZ.p (cdZ.p (cdZ.p (cdZ.p (cdZ.p (cdZ.p (cdZ.p (cdZ.p (cdZ.p (cdZ.p ((cdL (.int .i64)).p ((cdL (.int .i64)).p (cdZ.p (cdZ.p (cdZ.p (cdL (.int .i64))))))))))))))))))))) (cdZ.p (cdL (.int .i64))) ⟨([.h 0,.h 1,.h 2,.v (.ptr 0 0 0),.v (.ptr 1 0 0),.own 2]++hs 3 4++[.h 20]),[.box (hs 7 9),.box (hs 16 4),.arr none (.int .i64) 21],[]⟩ ⟨4,[2,3,4,5,6,11,17,18],[],(cdL (.int .i64)),⟨[.h 0,.h 1,.h 2,.v (.ptr 0 0 0),.v (.ptr 1 0 0),.own 2,.h 4,.h 5],[.box (hs 7 9),.box (hs 16 4),.arr none (.int .i64) 20],[]⟩⟩ (bR k),
 L1 0 false [2,3,4,5,6,11,17,18] [] (cdZ.p (cdZ.p (cdZ.p (cdZ.p (cdZ.p (cdZ.p (cdZ.p (cdZ.p (cdZ.p (cdZ.p (cdZ.p ((cdL (.int .i64)).p ((cdL (.int .i64)).p (cdZ.p (cdZ.p (cdZ.p (cdL (.int .i64)))))))))))))))))) (cdZ.p (cdL (.int .i64))) ⟨[.h 0,.h 1,.h 2,.v (.ptr 0 0 0),.v (.ptr 1 0 0),.own 2,.h 3,.h 17],[.box (hs 4 9),.box (hs 13 4),.arr none (.int .i64) 18],[]⟩ ⟨2,[11],[],(cdL (.int .i64)),⟨[.own 0],[.arr none (.int .i64) 17],[]⟩⟩ (bS k)] [.agg [(.int .i64),(.int .i64),(.int .i64),(.int .i64),(.int .i64),(.int .i64),(.int .i64),(.sl (.int .i64)),(.sl (.int .i64))],.agg [(.int .i64),(.int .i64),(.int .i64),(.sl (.int .i64))],.one (.int .i64),.one (.int .i64),.one (.int .i64)] ((cdS .aM).p ((cdS .av).p (cdZ.p (cdZ.p cdZ)))) ⟨.own 0,[.arr none (.int .i64) 0]⟩ (cdL (.int .i64)) (.own (.int .i64)) (λa=>bh k a.1 a.2.1 a.2.2.1 a.2.2.2.1 a.2.2.2.2)
def y2w (k:Nat):=mq tt [] .id Tryz.func82 k [L1 0 false [0,3,4] [] (cdL (.int .i64)) (cdZ.p cdZ) ⟨[.h 0,.h 1,.h 2],[],[]⟩ ⟨2,[3],[],cdZ,⟨[.h 1],[],[]⟩⟩ (bW k)] [.one (.sl (.int .i64))] (cdL (.int .i64)) ⟨.h 0,[]⟩ cdZ (.sc) (cy k)
def y2x (k:Nat):=mq tt [⟨80,y2t k⟩,⟨81,y2v k⟩,⟨82,y2w k⟩,⟨83,y2q k⟩,⟨84,y2u k⟩] .id Tryz.func68 k [L1 1 false [5,11,49,50,51] [] (cdZ.p (cdZ.p (cdZ.p (cdZ.p (cdZ.p (cdZ.p (cdZ.p (cdZ.p ((cdL (.int .i64)).p ((cdL (.int .i64)).p (cdL (.int .i64)))))))))))) (cdZ.p cdZ) ⟨[.v (.ptr 0 0 0),.h 11,.own 1,.h 0,.h 12],[.box (hs 1 9),.arr none (.int .i64) 10],[]⟩ ⟨3,[5,11],[],cdZ,⟨[.v (.ptr 0 0 0),.h 11],[.box (hs 1 9)],[]⟩⟩ (eL k)] [.agg [(.int .i64),(.int .i64),(.int .i64),(.int .i64),(.int .i64),(.int .i64),(.int .i64),(.sl (.int .i64)),(.sl (.int .i64))],.agg [(.int .i64),(.int .i64),(.int .i64),(.sl (.int .i64))],.one (.int .i64),.one (.int .i64),.one (.int .i64)] ((cdS .aM).p ((cdS .av).p (cdZ.p (cdZ.p cdZ)))) ⟨.h 0,[]⟩ cdZ (.sc) (λa=>iH k a.1 a.2.1 a.2.2.1 a.2.2.2.1 a.2.2.2.2)
def y2y (k:Nat):=mq tt [⟨25,yx k⟩,⟨67,y2g k⟩,⟨68,y2x k⟩] .id Tryz.func56 k [L1 4 false [2,3,4,6,8,9,10,30,31,35,36,40,41] [] (cdZ.p (cdZ.p (cdZ.p (cdZ.p (cdZ.p (cdZ.p (cdZ.p (cdZ.p (cdZ.p (cdZ.p ((cdL (.int .i64)).p (cdZ.p (cdZ.p (cdZ.p (cdZ.p (cdZ.p (cdZ.p (cdZ.p ((cdL (.int .i64)).p ((cdL (.int .i64)).p (cdZ.p (cdZ.p (cdZ.p (cdZ.p (cdZ.p (cdZ.p (cdZ.p (cdZ.p cdZ)))))))))))))))))))))))))))) (cdZ.p (cdL (.int .i64))) ⟨([.v (.ptr 0 0 0),.v (.ptr 1 0 0),.v (.ptr 2 0 0),.v (.ptr 3 0 0),.v (.ptr 4 0 0)]++hs 0 7++[.h 29]),[.box (hs 7 4),.box (hs 11 9),.box [.h 20,.h 21,.h 22,.v .bq],.box [.h 23,.h 24,.h 25],.box [.h 26,.h 27,.h 28,.own 5],.arr none (.int .i64) 30],[]⟩ ⟨6,[2,3,4,6,8,9,30,31,35,36],[],(cdL (.int .i64)),⟨([.v (.ptr 0 0 0),.v (.ptr 1 0 0),.v (.ptr 2 0 0),.v (.ptr 3 0 0),.v (.ptr 4 0 0),.h 0]++hs 2 4),[.box (hs 7 4),.box (hs 11 9),.box [.h 20,.h 21,.h 22,.v .bq],.box [.h 23,.h 24,.h 25],.box [.h 26,.h 27,.h 28,.own 5],.arr none (.int .i64) 29],[]⟩⟩ (gm k),
 L1 2 false [2,3,4,6,8,9,30,31,35,36] [] (cdZ.p (cdZ.p (cdZ.p (cdZ.p (cdZ.p (cdZ.p (cdZ.p ((cdL (.int .i64)).p (cdZ.p (cdZ.p (cdZ.p (cdZ.p (cdZ.p (cdZ.p (cdZ.p ((cdL (.int .i64)).p ((cdL (.int .i64)).p (cdZ.p (cdZ.p (cdZ.p (cdZ.p (cdZ.p (cdZ.p (cdZ.p (cdZ.p cdZ))))))))))))))))))))))))) (cdZ.p (cdL (.int .i64))) ⟨([.v (.ptr 0 0 0),.v (.ptr 1 0 0),.v (.ptr 2 0 0),.v (.ptr 3 0 0),.v (.ptr 4 0 0)]++hs 0 4++[.h 26]),[.box (hs 4 4),.box (hs 8 9),.box [.h 17,.h 18,.h 19,.v .bq],.box [.h 20,.h 21,.h 22],.box [.h 23,.h 24,.h 25,.own 5],.arr none (.int .i64) 27],[]⟩ ⟨4,[2,3,4,6,8,30,31],[],(cdL (.int .i64)),⟨[.v (.ptr 0 0 0),.v (.ptr 1 0 0),.v (.ptr 2 0 0),.v (.ptr 3 0 0),.v (.ptr 4 0 0),.h 1,.h 2],[.box (hs 4 4),.box (hs 8 9),.box [.h 17,.h 18,.h 19,.v .bq],.box [.h 20,.h 21,.h 22],.box [.h 23,.h 24,.h 25,.own 5],.arr none (.int .i64) 26],[]⟩⟩ (gn k),
 L1 0 false [2,3,4,6,8,30,31] [((.Et 8 3),(.kO false (.int .i64)))] (cdZ.p (cdZ.p (cdZ.p (cdZ.p ((cdL (.int .i64)).p (cdZ.p (cdZ.p (cdZ.p (cdZ.p (cdZ.p (cdZ.p (cdZ.p ((cdL (.int .i64)).p ((cdL (.int .i64)).p (cdZ.p (cdZ.p (cdZ.p (cdZ.p (cdZ.p (cdZ.p (cdZ.p (cdZ.p cdZ)))))))))))))))))))))) (cdZ.p (cdL (.int .i64))) ⟨[.v (.ptr 0 0 0),.v (.ptr 1 0 0),.v (.ptr 2 0 0),.v (.ptr 3 0 0),.v (.ptr 4 0 0),.h 0,.h 23],[.box (hs 1 4),.box (hs 5 9),.box [.h 14,.h 15,.h 16,.v .bq],.box [.h 17,.h 18,.h 19],.box [.h 20,.h 21,.h 22,.own 5],.arr none (.int .i64) 24],[]⟩ ⟨2,[4,8],[],(cdL (.int .i64)),⟨[.v (.ptr 0 0 0),.v (.ptr 1 0 0)],[.box [.h 14,.h 15,.h 16,.v .bq],.box [.h 20,.h 21,.h 22,.own 2],.arr none (.int .i64) 23],[]⟩⟩ (gp k)] [.agg [(.int .i64),(.int .i64),(.int .i64),(.sl (.int .i64))],.agg [(.int .i64),(.int .i64),(.int .i64),(.int .i64),(.int .i64),(.int .i64),(.int .i64),(.sl (.int .i64)),(.sl (.int .i64))]] ((cdS .av).p (cdS .aM)) ⟨.tup [.agg [.h 0,.h 1,.h 2,.own 0],.h 4],[.arr none (.int .i64) 3]⟩ ((cdS .av).p cdB) (.tup [.agg [.sc,.sc,.sc,.own (.int .i64)],.sc]) (λa=>jy k a.1 a.2)
def y2z (k:Nat):=mq tt [⟨25,yx k⟩,⟨37,y2i k⟩,⟨56,y2y k⟩] .id Tryz.func35 k [L1 0 true [3,4,25,26,27] [] ((cdL (.st .aM)).p (cdZ.p (cdZ.p (cdZ.p cdZ)))) (cdZ.p (cdZ.p (cdZ.p (cdZ.p (cdL (.int .i64)))))) ⟨[.v (.ptr 0 0 0),.v (.ptr 1 0 0),.h 0,.h 1,.h 5],[.box [.h 6,.h 7,.h 8,.own 2],.box [.h 2,.h 3,.h 4,.v .bq],.arr none (.int .i64) 9],[]⟩ ⟨2,[3,4],[],(cdZ.p (cdZ.p (cdZ.p (cdL (.int .i64))))),⟨[.v (.ptr 0 0 0),.v (.ptr 1 0 0)],[.box [.h 5,.h 6,.h 7,.own 2],.box [.h 2,.h 3,.h 4,.v .bq],.arr none (.int .i64) 8],[]⟩⟩ (dK k)] [.agg [(.int .i64),(.int .i64),(.int .i64),(.sl (.st .aM))],.agg [(.int .i64),(.int .i64),(.int .i64),(.sl (.int .i64))]] ((cdS .model).p (cdS .av)) ⟨.tup [.agg [.h 0,.h 1,.h 2,.own 0],.h 4],[.arr none (.int .i64) 3]⟩ ((cdS .av).p cdB) (.tup [.agg [.sc,.sc,.sc,.own (.int .i64)],.sc]) (λa=>kj k a.1 a.2)
def y31 (k:Nat):=mq tt [⟨24,mD k⟩,⟨35,y2z k⟩] .id Tryz.func13 k [L2 0 false [2,6,16,17,18] [] ((cdL (.st .av)).p (cdZ.p (cdZ.p (cdZ.p (cdZ.p (cdL (.st .aM))))))) (cdZ.p (cdL (.st .av))) ⟨[.v (.ptr 0 0 0),.own 1,.h 0,.h 1,.h 6],[.box (hs 2 4),.arr none (.st .av) 7],[]⟩ ⟨2,[6],[],(cdL (.st .av)),⟨[.own 0],[.arr none (.st .av) 6],[]⟩⟩ ⟨1,[4,5],[],cdB,⟨[.v .bq,.h 6],[],[]⟩⟩ (fx k)] [.agg [(.int .i64),(.int .i64),(.int .i64),(.sl (.st .aM))],.one (.sl (.st .av))] ((cdS .model).p (cdL (.st .av))) ⟨.tup [.own 0,.h 1],[.arr none (.st .av) 0]⟩ ((cdL (.st .av)).p cdB) (.tup [.own (.st .av),.sc]) (λa=>dW k a.1 a.2)
def y32 (k:Nat):=mq tt [⟨22,yc k⟩,⟨42,yd k⟩,⟨70,y1x k⟩] .id Tryz.func60 k [L2 0 false [1,4,5] [] (cdZ.p (cdZ.p (cdZ.p (cdL (.st .aM))))) (cdZ.p (cdL (.st .shape))) ⟨[.v (.ptr 0 0 0),.own 1,.h 4],[.box (hs 0 4),.arr none (.st .shape) 5],[]⟩ ⟨2,[4],[],(cdL (.st .shape)),⟨[.own 0],[.arr none (.st .shape) 4],[]⟩⟩ ⟨1,[2,3],[],cdB,⟨[.v .bq,.h 4],[],[]⟩⟩ (dG k)] [.agg [(.int .i64),(.int .i64),(.int .i64),(.sl (.st .aM))]] (cdS .model) ⟨.tup [.own 0,.h 1],[.arr none (.st .shape) 0]⟩ ((cdL (.st .shape)).p cdB) (.tup [.own (.st .shape),.sc]) (gU k)
def y34 (k:Nat):=eY tt [⟨60,y32 k⟩] .id Tryz.func38 [.agg [(.int .i64),(.int .i64),(.int .i64),(.sl (.st .aM))]] (cdS .model) ⟨.h 0,[]⟩ cdB (.sc) (lu k)
def y36 (k:Nat):=mq tt [] .id Tryz.func69 k [L1 0 false [0,3,4] [] (cdL (.int .i64)) (cdZ.p (cdL (.int .i64))) ⟨[.h 0,.own 0,.h 1],[.arr none (.int .i64) 2],[]⟩ ⟨2,[3],[],(cdL (.int .i64)),⟨[.own 0],[.arr none (.int .i64) 1],[]⟩⟩ (fL k)] [.one (.sl (.int .i64))] (cdL (.int .i64)) ⟨.own 0,[.arr none (.int .i64) 0]⟩ (cdL (.int .i64)) (.own (.int .i64)) (nR k)
def y37 (k:Nat):=eY tt [⟨69,y36 k⟩] .id Tryz.func57 [.agg [(.int .i64),(.int .i64),(.int .i64),(.sl (.int .i64))]] (cdS .av) ⟨.agg [.h 0,.h 1,.h 2,.own 0],[.arr none (.int .i64) 3]⟩ (cdS .av) (.agg [.sc,.sc,.sc,.own (.int .i64)]) (nS k)
def y38 (k:Nat):=eY tt [] .id Tryz.func104 [.one (.int .i64),.one (.int .i64),.one (.int .i64)] (cdZ.p (cdZ.p cdZ)) ⟨.h 0,[]⟩ cdZ (.sc) (λa=>ju k a.1 a.2.1 a.2.2)
def y39 (k:Nat):=eY tt [⟨104,y38 k⟩] .id Tryz.func95 [.one (.int .i64)] cdZ ⟨.h 0,[]⟩ cdZ (.sc) (rq k)
def y3a (k:Nat):=eY tt [⟨104,y38 k⟩] .id Tryz.func98 [.one (.int .i64)] cdZ ⟨.h 0,[]⟩ cdZ (.sc) (iT k)
def y3b (k:Nat):=eY tt [⟨98,y3a k⟩] .id Tryz.func87 [.one (.int .i64),.one (.int .i64)] (cdZ.p cdZ) ⟨.h 0,[]⟩ cdZ (.sc) (λa=>ix k a.1 a.2)
def y3c (k:Nat):=mq tt [⟨87,y3b k⟩,⟨95,y39 k⟩] .id Tryz.func88 k [L1 0 false [0,1,5,6] [] ((cdL (.int .i64)).p (cdL (.int .i64))) (cdZ.p cdZ) ⟨(hs 0 4),[],[]⟩ ⟨2,[5],[],cdZ,⟨[.h 2],[],[]⟩⟩ (lX k)] [.one (.sl (.int .i64)),.one (.sl (.int .i64))] ((cdL (.int .i64)).p (cdL (.int .i64))) ⟨.h 0,[]⟩ cdZ (.sc) (λa=>uT k a.1 a.2)
def y3d (k:Nat):=eY tt [] .id Tryz.func105 [.one (.int .i64),.one (.int .i64)] (cdZ.p cdZ) ⟨.h 0,[]⟩ cdZ (.sc) (λa=>nW k a.1 a.2)
def y3e (k:Nat):=eY tt [⟨98,y3a k⟩,⟨105,y3d k⟩] .id Tryz.func97 [.one (.int .i64),.one (.int .i64)] (cdZ.p cdZ) ⟨.h 0,[]⟩ cdZ (.sc) (λa=>nX k a.1 a.2)
def y3f (k:Nat):=eY tt [⟨98,y3a k⟩,⟨104,y38 k⟩] .id Tryz.func96 [.one (.int .i64),.one (.int .i64)] (cdZ.p cdZ) ⟨.h 0,[]⟩ cdZ (.sc) (λa=>iy k a.1 a.2)
def y3g (k:Nat):=eY tt [⟨95,y39 k⟩,⟨96,y3f k⟩,⟨97,y3e k⟩] .id Tryz.func86 [.one (.int .i64),.one (.int .i64),.one (.int .i64),.one (.int .i64)] (cdZ.p (cdZ.p (cdZ.p cdZ))) ⟨.h 0,[]⟩ cdZ (.sc) (λa=>jv k a.1 a.2.1 a.2.2.1 a.2.2.2)
def y3h (k:Nat):=eY tt [⟨22,yc k⟩,⟨42,yd k⟩] .id Tryz.func99 [.agg [(.int .i64),(.int .i64),(.int .i64)],.one (.int .i64),.one (.int .i64),.one (.int .i64)] ((cdS .shape).p (cdZ.p (cdZ.p cdZ))) ⟨.h 0,[]⟩ cdZ (.sc) (λa=>rr k a.1 a.2.1 a.2.2.1 a.2.2.2)
def y3i (k:Nat):=eY tt [⟨23,yo k⟩,⟨99,y3h k⟩] .id Tryz.func89 [.agg [(.int .i64),(.int .i64),(.int .i64),(.sl (.int .i64))],.one (.int .i64),.one (.int .i64),.one (.int .i64)] ((cdS .av).p (cdZ.p (cdZ.p cdZ))) ⟨.tup [.h 0,.h 1],[]⟩ (cdZ.p cdB) (.tup [.sc,.sc]) (λa=>kg k a.1 a.2.1 a.2.2.1 a.2.2.2)
def y3j (k:Nat):=mq tt [⟨89,y3i k⟩] .id Tryz.func90 k [L1 2 false [2,3,4,5,6,11,12,13] [] (cdZ.p (cdZ.p (cdZ.p (cdZ.p (cdZ.p (cdZ.p (cdZ.p ((cdL (.int .i64)).p (cdZ.p (cdZ.p (cdZ.p (cdZ.p (cdZ.p (cdZ.p (cdZ.p ((cdL (.int .i64)).p (cdL (.int .i64)))))))))))))))))) (cdZ.p (cdL (.int .i64))) ⟨[.h 0,.h 1,.h 2,.v (.ptr 0 0 0),.v (.ptr 1 0 0),.own 2,.h 3,.h 17],[.box (hs 4 4),.box (hs 8 9),.arr none (.int .i64) 18],[]⟩ ⟨4,[2,3,4,5,6,11,12],[],(cdL (.int .i64)),⟨[.h 0,.h 1,.h 2,.v (.ptr 0 0 0),.v (.ptr 1 0 0),.own 2,.h 3],[.box (hs 4 4),.box (hs 8 9),.arr none (.int .i64) 17],[]⟩⟩ (iz k),
 L1 0 false [2,3,4,5,6,11,12] [] (cdZ.p (cdZ.p (cdZ.p (cdZ.p (cdZ.p (cdZ.p ((cdL (.int .i64)).p (cdZ.p (cdZ.p (cdZ.p (cdZ.p (cdZ.p (cdZ.p (cdZ.p ((cdL (.int .i64)).p (cdL (.int .i64))))))))))))))))) (cdZ.p (cdL (.int .i64))) ⟨[.h 0,.h 1,.h 2,.v (.ptr 0 0 0),.v (.ptr 1 0 0),.own 2,.h 16],[.box (hs 3 4),.box (hs 7 9),.arr none (.int .i64) 17],[]⟩ ⟨2,[11],[],(cdL (.int .i64)),⟨[.own 0],[.arr none (.int .i64) 16],[]⟩⟩ (iA k)] [.agg [(.int .i64),(.int .i64),(.int .i64),(.sl (.int .i64))],.agg [(.int .i64),(.int .i64),(.int .i64),(.int .i64),(.int .i64),(.int .i64),(.int .i64),(.sl (.int .i64)),(.sl (.int .i64))],.one (.int .i64),.one (.int .i64),.one (.int .i64)] ((cdS .av).p ((cdS .aM).p (cdZ.p (cdZ.p cdZ)))) ⟨.own 0,[.arr none (.int .i64) 0]⟩ (cdL (.int .i64)) (.own (.int .i64)) (λa=>gV k a.1 a.2.1 a.2.2.1 a.2.2.2.1 a.2.2.2.2)
def y3k (k:Nat):=mq tt [⟨43,ye k⟩,⟨86,y3g k⟩,⟨87,y3b k⟩,⟨88,y3c k⟩,⟨89,y3i k⟩,⟨90,y3j k⟩] .id Tryz.func71 k [L1 5 false [2,3,4,5,6,11,13,14,15,16] [] (cdZ.p (cdZ.p (cdZ.p (cdZ.p (cdZ.p (cdZ.p (cdZ.p (cdZ.p ((cdL (.int .i64)).p (cdZ.p (cdZ.p (cdZ.p (cdZ.p (cdZ.p (cdZ.p (cdZ.p ((cdL (.int .i64)).p ((cdL (.int .i64)).p (cdZ.p (cdZ.p cdZ)))))))))))))))))))) (cdZ.p cdZ) ⟨[.h 0,.h 1,.h 2,.v (.ptr 0 0 0),.v (.ptr 1 0 0),.v (.ptr 2 0 0),.h 21,.h 3,.h 4,.h 22],[.box (hs 5 4),.box (hs 9 9),.box [.h 18,.h 19,.h 20]],[]⟩ ⟨7,[2,3,4,5,6,11,13,14,15],[],cdZ,⟨[.h 0,.h 1,.h 2,.v (.ptr 0 0 0),.v (.ptr 1 0 0),.v (.ptr 2 0 0),.h 21,.h 3,.h 4],[.box (hs 5 4),.box (hs 9 9),.box [.h 18,.h 19,.h 20]],[]⟩⟩ (iB k),
 L1 3 false [2,3,4,5,6,11,13,14,15] [] (cdZ.p (cdZ.p (cdZ.p (cdZ.p (cdZ.p (cdZ.p (cdZ.p ((cdL (.int .i64)).p (cdZ.p (cdZ.p (cdZ.p (cdZ.p (cdZ.p (cdZ.p (cdZ.p ((cdL (.int .i64)).p ((cdL (.int .i64)).p (cdZ.p (cdZ.p cdZ))))))))))))))))))) (cdZ.p cdZ) ⟨[.h 0,.h 1,.h 2,.v (.ptr 0 0 0),.v (.ptr 1 0 0),.v (.ptr 2 0 0),.h 20,.h 3,.h 21],[.box (hs 4 4),.box (hs 8 9),.box [.h 17,.h 18,.h 19]],[]⟩ ⟨5,[2,3,4,5,6,11,13,14],[],cdZ,⟨[.h 0,.h 1,.h 2,.v (.ptr 0 0 0),.v (.ptr 1 0 0),.v (.ptr 2 0 0),.h 20,.h 3],[.box (hs 4 4),.box (hs 8 9),.box [.h 17,.h 18,.h 19]],[]⟩⟩ (iC k),
 L1 1 false [2,3,4,5,6,11,13,14] [] (cdZ.p (cdZ.p (cdZ.p (cdZ.p (cdZ.p (cdZ.p ((cdL (.int .i64)).p (cdZ.p (cdZ.p (cdZ.p (cdZ.p (cdZ.p (cdZ.p (cdZ.p ((cdL (.int .i64)).p ((cdL (.int .i64)).p (cdZ.p (cdZ.p cdZ)))))))))))))))))) (cdZ.p cdZ) ⟨[.h 0,.h 1,.h 2,.v (.ptr 0 0 0),.v (.ptr 1 0 0),.v (.ptr 2 0 0),.h 19,.h 20],[.box (hs 3 4),.box (hs 7 9),.box [.h 16,.h 17,.h 18]],[]⟩ ⟨3,[4,6,13],[],cdZ,⟨[.h 2,.v (.ptr 0 0 0),.h 19],[.box (hs 7 9)],[]⟩⟩ (iD k),
 L1 7 false [19,20,21] [] (cdL (.int .i64)) (cdZ.p cdZ) ⟨[.own 0,.h 1,.h 2],[.arr none (.int .i64) 0],[]⟩ ⟨9,[20],[],cdZ,⟨[.h 1],[],[]⟩⟩ (iE k),
 L1 9 false [22,23,24] [] (cdL (.int .i64)) (cdZ.p cdZ) ⟨[.own 0,.h 1,.h 2],[.arr none (.int .i64) 0],[]⟩ ⟨11,[22,23],[],cdZ,⟨[.own 0,.h 1],[.arr none (.int .i64) 0],[]⟩⟩ (iF k)] [.agg [(.int .i64),(.int .i64),(.int .i64),(.sl (.int .i64))],.agg [(.int .i64),(.int .i64),(.int .i64),(.int .i64),(.int .i64),(.int .i64),(.int .i64),(.sl (.int .i64)),(.sl (.int .i64))],.one (.int .i64),.one (.int .i64),.one (.int .i64)] ((cdS .av).p ((cdS .aM).p (cdZ.p (cdZ.p cdZ)))) ⟨.h 0,[]⟩ cdZ (.sc) (λa=>nY k a.1 a.2.1 a.2.2.1 a.2.2.2.1 a.2.2.2.2)
def y3l (k:Nat):=mq tt [⟨23,yo k⟩,⟨70,y1x k⟩,⟨71,y3k k⟩] .id Tryz.func58 k [L1 4 false [2,3,4,6,8,9,10,11] [] (cdZ.p (cdZ.p (cdZ.p (cdZ.p (cdZ.p ((cdL (.int .i64)).p (cdZ.p (cdZ.p (cdZ.p (cdZ.p (cdZ.p (cdZ.p (cdZ.p ((cdL (.int .i64)).p ((cdL (.int .i64)).p (cdZ.p (cdZ.p (cdZ.p (cdZ.p (cdZ.p (cdZ.p (cdZ.p (cdZ.p cdZ))))))))))))))))))))))) (cdZ.p (cdL (.int .i64))) ⟨[.v (.ptr 0 0 0),.v (.ptr 1 0 0),.v (.ptr 2 0 0),.v (.ptr 3 0 0),.v (.ptr 4 0 0),.h 0,.h 1,.h 24],[.box (hs 2 4),.box (hs 6 9),.box [.h 15,.h 16,.h 17,.v .bq],.box [.h 18,.h 19,.h 20],.box [.h 21,.h 22,.h 23,.own 5],.arr none (.int .i64) 25],[]⟩ ⟨6,[2,3,4,6,8,9,10],[],(cdL (.int .i64)),⟨[.v (.ptr 0 0 0),.v (.ptr 1 0 0),.v (.ptr 2 0 0),.v (.ptr 3 0 0),.v (.ptr 4 0 0),.h 0,.h 1],[.box (hs 2 4),.box (hs 6 9),.box [.h 15,.h 16,.h 17,.v .bq],.box [.h 18,.h 19,.h 20],.box [.h 21,.h 22,.h 23,.own 5],.arr none (.int .i64) 24],[]⟩⟩ (gi k),
 L1 2 false [2,3,4,6,8,9,10] [] (cdZ.p (cdZ.p (cdZ.p (cdZ.p ((cdL (.int .i64)).p (cdZ.p (cdZ.p (cdZ.p (cdZ.p (cdZ.p (cdZ.p (cdZ.p ((cdL (.int .i64)).p ((cdL (.int .i64)).p (cdZ.p (cdZ.p (cdZ.p (cdZ.p (cdZ.p (cdZ.p (cdZ.p (cdZ.p cdZ)))))))))))))))))))))) (cdZ.p (cdL (.int .i64))) ⟨[.v (.ptr 0 0 0),.v (.ptr 1 0 0),.v (.ptr 2 0 0),.v (.ptr 3 0 0),.v (.ptr 4 0 0),.h 0,.h 23],[.box (hs 1 4),.box (hs 5 9),.box [.h 14,.h 15,.h 16,.v .bq],.box [.h 17,.h 18,.h 19],.box [.h 20,.h 21,.h 22,.own 5],.arr none (.int .i64) 24],[]⟩ ⟨4,[2,3,4,6,8,9],[],(cdL (.int .i64)),⟨[.v (.ptr 0 0 0),.v (.ptr 1 0 0),.v (.ptr 2 0 0),.v (.ptr 3 0 0),.v (.ptr 4 0 0),.h 0],[.box (hs 1 4),.box (hs 5 9),.box [.h 14,.h 15,.h 16,.v .bq],.box [.h 17,.h 18,.h 19],.box [.h 20,.h 21,.h 22,.own 5],.arr none (.int .i64) 23],[]⟩⟩ (gj k),
 L1 0 false [2,3,4,6,8,9] [((.Et 8 3),(.kO false (.int .i64)))] (cdZ.p (cdZ.p (cdZ.p ((cdL (.int .i64)).p (cdZ.p (cdZ.p (cdZ.p (cdZ.p (cdZ.p (cdZ.p (cdZ.p ((cdL (.int .i64)).p ((cdL (.int .i64)).p (cdZ.p (cdZ.p (cdZ.p (cdZ.p (cdZ.p (cdZ.p (cdZ.p (cdZ.p cdZ))))))))))))))))))))) (cdZ.p (cdL (.int .i64))) ⟨[.v (.ptr 0 0 0),.v (.ptr 1 0 0),.v (.ptr 2 0 0),.v (.ptr 3 0 0),.v (.ptr 4 0 0),.h 22],[.box (hs 0 4),.box (hs 4 9),.box [.h 13,.h 14,.h 15,.v .bq],.box [.h 16,.h 17,.h 18],.box [.h 19,.h 20,.h 21,.own 5],.arr none (.int .i64) 23],[]⟩ ⟨2,[4,8],[],(cdL (.int .i64)),⟨[.v (.ptr 0 0 0),.v (.ptr 1 0 0)],[.box [.h 13,.h 14,.h 15,.v .bq],.box [.h 19,.h 20,.h 21,.own 2],.arr none (.int .i64) 22],[]⟩⟩ (gl k)] [.agg [(.int .i64),(.int .i64),(.int .i64),(.sl (.int .i64))],.agg [(.int .i64),(.int .i64),(.int .i64),(.int .i64),(.int .i64),(.int .i64),(.int .i64),(.sl (.int .i64)),(.sl (.int .i64))]] ((cdS .av).p (cdS .aM)) ⟨.tup [.agg [.h 0,.h 1,.h 2,.own 0],.h 4],[.arr none (.int .i64) 3]⟩ ((cdS .av).p cdB) (.tup [.agg [.sc,.sc,.sc,.own (.int .i64)],.sc]) (λa=>lY k a.1 a.2)
def y3m (k:Nat):=mq tt [⟨23,yo k⟩,⟨38,y34 k⟩,⟨57,y37 k⟩,⟨58,y3l k⟩] .id Tryz.func36 k [L1 0 false [2,4,6,7] [] (cdZ.p (cdZ.p (cdZ.p ((cdL (.st .aM)).p (cdZ.p (cdZ.p cdZ)))))) (cdZ.p (cdZ.p (cdZ.p (cdZ.p (cdL (.int .i64)))))) ⟨[.v (.ptr 0 0 0),.v (.ptr 1 0 0),.v (.ptr 2 0 0),.h 7],[.box (hs 0 4),.box [.h 4,.h 5,.h 6,.v .bq],.box [.h 8,.h 9,.h 10,.own 3],.arr none (.int .i64) 11],[]⟩ ⟨2,[4,6],[],(cdZ.p (cdZ.p (cdZ.p (cdL (.int .i64))))),⟨[.v (.ptr 0 0 0),.v (.ptr 1 0 0)],[.box [.h 4,.h 5,.h 6,.v .bq],.box [.h 7,.h 8,.h 9,.own 2],.arr none (.int .i64) 10],[]⟩⟩ (dJ k)] [.agg [(.int .i64),(.int .i64),(.int .i64),(.sl (.st .aM))],.agg [(.int .i64),(.int .i64),(.int .i64),(.sl (.int .i64))]] ((cdS .model).p (cdS .av)) ⟨.tup [.agg [.h 0,.h 1,.h 2,.own 0],.h 4],[.arr none (.int .i64) 3]⟩ ((cdS .av).p cdB) (.tup [.agg [.sc,.sc,.sc,.own (.int .i64)],.sc]) (λa=>ki k a.1 a.2)
def y3n (k:Nat):=mq tt [⟨22,yc k⟩,⟨36,y3m k⟩] .id Tryz.func14 k [L2 0 false [1,2,6,7] [] ((cdL (.st .av)).p (cdZ.p (cdZ.p (cdZ.p (cdL (.st .aM)))))) (cdZ.p (cdL (.st .av))) ⟨[.h 0,.v (.ptr 0 0 0),.own 1,.h 5],[.box (hs 1 4),.arr none (.st .av) 6],[]⟩ ⟨2,[6],[],(cdL (.st .av)),⟨[.own 0],[.arr none (.st .av) 5],[]⟩⟩ ⟨1,[4,5],[],cdB,⟨[.v .bq,.h 5],[],[]⟩⟩ (fw k)] [.agg [(.int .i64),(.int .i64),(.int .i64),(.sl (.st .aM))],.one (.sl (.st .av))] ((cdS .model).p (cdL (.st .av))) ⟨.tup [.own 0,.h 1],[.arr none (.st .av) 0]⟩ ((cdL (.st .av)).p cdB) (.tup [.own (.st .av),.sc]) (λa=>dV k a.1 a.2)
def y3o (k:Nat):=eY tt [⟨37,y2i k⟩,⟨59,y2h k⟩] .id Tryz.func62 [.agg [(.int .i64),(.int .i64),(.int .i64),(.sl (.st .aM))]] (cdS .model) ⟨.own 0,[.arr none (.st .shape) 0]⟩ (cdL (.st .shape)) (.own (.st .shape)) (lW k)
def y3p (k:Nat):=eY tt [⟨46,yr k⟩,⟨67,y2g k⟩] .id Tryz.func63 [.agg [(.int .i64),(.int .i64),(.int .i64)],.agg [(.int .i64),(.int .i64),(.int .i64),(.int .i64),(.int .i64),(.int .i64),(.int .i64),(.sl (.int .i64)),(.sl (.int .i64))]] ((cdS .shape).p (cdS .aM)) ⟨.h 0,[]⟩ cdZ (.sc) (λa=>qf k a.1 a.2)
def y3q (k:Nat):=mq tt [⟨62,y3o k⟩,⟨63,y3p k⟩] .id Tryz.func41 k [L1 0 false [1,3,8,9,10] [] (cdZ.p (cdZ.p (cdZ.p (cdZ.p ((cdL (.st .aM)).p (cdL (.st .shape))))))) (cdZ.p (cdL (.int .i64))) ⟨[.v (.ptr 0 0 0),.own 1,.own 2,.h 0,.h 6],[.box (hs 1 4),.arr none (.int .i64) 7,.arr none (.st .shape) 5],[]⟩ ⟨2,[3],[],(cdL (.int .i64)),⟨[.own 0],[.arr none (.int .i64) 6],[]⟩⟩ (fO k)] [.agg [(.int .i64),(.int .i64),(.int .i64),(.sl (.st .aM))]] (cdS .model) ⟨.own 0,[.arr none (.int .i64) 0]⟩ (cdL (.int .i64)) (.own (.int .i64)) (nU k)
def y3r (k:Nat):=mq tt [] .id Tryz.func40 k [L1 0 false [3,6,7,8] [] ((cdL (.int .i64)).p cdZ) (cdZ.p cdZ) ⟨[.h 2,.h 0,.h 1,.h 3],[],[]⟩ ⟨2,[3],[],cdZ,⟨[.h 2],[],[]⟩⟩ (nV k)] [.one (.sl (.int .i64))] (cdL (.int .i64)) ⟨.h 0,[]⟩ cdZ (.sc) (G7 k)
def y3s (k:Nat):=eY tt [⟨40,y3r k⟩,⟨41,y3q k⟩] .id Tryz.func19 [.agg [(.int .i64),(.int .i64),(.int .i64),(.sl (.st .aM))]] (cdS .model) ⟨.h 0,[]⟩ cdZ (.sc) (au k)
def y3t (k:Nat):=eY tt [⟨19,y3s k⟩,⟨24,mD k⟩,⟨37,y2i k⟩] .id Tryz.func15 [.agg [(.int .i64),(.int .i64),(.int .i64),(.sl (.st .aM))],.one (.int .i64)] ((cdS .model).p cdZ) ⟨.h 0,[]⟩ cdZ (.sc) (λa=>bM k a.1 a.2)
def y3u (k:Nat):=mq tt [⟨15,y3t k⟩,⟨19,y3s k⟩] .id Tryz.func16 k [L2 0 false [2,5,12,13,14] [] ((cdL (.int .i64)).p (cdZ.p (cdZ.p (cdZ.p (cdZ.p (cdL (.st .aM))))))) (cdZ.p cdZ) ⟨[.v (.ptr 0 0 0),.h 6,.h 0,.h 1,.h 7],[.box (hs 2 4)],[]⟩ ⟨2,[5],[],cdZ,⟨[.h 6],[],[]⟩⟩ ⟨1,[4],[],cdZ,⟨[.h 6],[],[]⟩⟩ (fQ k)] [.agg [(.int .i64),(.int .i64),(.int .i64),(.sl (.st .aM))],.one (.sl (.int .i64))] ((cdS .model).p (cdL (.int .i64))) ⟨.h 0,[]⟩ cdZ (.sc) (λa=>de k a.1 a.2)
def y3v (k:Nat):=eY tt [⟨43,ye k⟩,⟨70,y1x k⟩] .id Tryz.func72 [.agg [(.int .i64),(.int .i64),(.int .i64)],.agg [(.int .i64),(.int .i64),(.int .i64),(.int .i64),(.int .i64),(.int .i64),(.int .i64),(.sl (.int .i64)),(.sl (.int .i64))]] ((cdS .shape).p (cdS .aM)) ⟨.h 0,[]⟩ cdZ (.sc) (λa=>qe k a.1 a.2)
def y3w (k:Nat):=mq tt [⟨60,y32 k⟩,⟨72,y3v k⟩] .id Tryz.func61 k [L1 0 false [1,3,4,6] [] (cdZ.p (cdZ.p (cdZ.p ((cdL (.st .aM)).p (cdL (.st .shape)))))) (cdZ.p (cdL (.int .i64))) ⟨[.v (.ptr 0 0 0),.own 1,.own 2,.h 5],[.box (hs 0 4),.arr none (.int .i64) 6,.arr none (.st .shape) 4],[]⟩ ⟨2,[3],[],(cdL (.int .i64)),⟨[.own 0],[.arr none (.int .i64) 5],[]⟩⟩ (fN k)] [.agg [(.int .i64),(.int .i64),(.int .i64),(.sl (.st .aM))]] (cdS .model) ⟨.own 0,[.arr none (.int .i64) 0]⟩ (cdL (.int .i64)) (.own (.int .i64)) (nT k)
def y3x (k:Nat):=mq tt [⟨61,y3w k⟩] .id Tryz.func39 k [L1 0 false [3,4,5] [] (cdL (.int .i64)) (cdZ.p cdZ) ⟨[.h 1,.own 0,.h 2],[.arr none (.int .i64) 0],[]⟩ ⟨2,[3],[],cdZ,⟨[.h 1],[],[]⟩⟩ (dH k)] [.agg [(.int .i64),(.int .i64),(.int .i64),(.sl (.st .aM))]] (cdS .model) ⟨.h 0,[]⟩ cdZ (.sc) (fm k)
def y3y (k:Nat):=eY tt [⟨22,yc k⟩,⟨38,y34 k⟩,⟨39,y3x k⟩] .id Tryz.func17 [.agg [(.int .i64),(.int .i64),(.int .i64),(.sl (.st .aM))],.one (.int .i64)] ((cdS .model).p cdZ) ⟨.h 0,[]⟩ cdZ (.sc) (λa=>bL k a.1 a.2)
def y3z (k:Nat):=mq tt [⟨17,y3y k⟩,⟨39,y3x k⟩] .id Tryz.func18 k [L2 0 false [1,2,5,6] [] ((cdL (.int .i64)).p (cdZ.p (cdZ.p (cdZ.p (cdL (.st .aM)))))) (cdZ.p cdZ) ⟨[.h 0,.v (.ptr 0 0 0),.h 5,.h 6],[.box (hs 1 4)],[]⟩ ⟨2,[5],[],cdZ,⟨[.h 5],[],[]⟩⟩ ⟨1,[4],[],cdZ,⟨[.h 5],[],[]⟩⟩ (fP k)] [.agg [(.int .i64),(.int .i64),(.int .i64),(.sl (.st .aM))],.one (.sl (.int .i64))] ((cdS .model).p (cdL (.int .i64))) ⟨.h 0,[]⟩ cdZ (.sc) (λa=>dd k a.1 a.2)
noncomputable def y40 (k:Nat):Env:=tq (P:=Tryz.prog) tt [⟨4,y0 k⟩,⟨5,ym k⟩,⟨6,yp k⟩,⟨7,yy k⟩,⟨8,y16 k⟩,⟨9,y1r k⟩,⟨10,y1t k⟩,⟨11,y23 k⟩,⟨12,y1u k⟩,⟨13,y31 k⟩,⟨14,y3n k⟩,⟨15,y3t k⟩,⟨16,y3u k⟩,⟨17,y3y k⟩,⟨18,y3z k⟩,⟨19,y3s k⟩]
theorem y41 (k:Nat):iL (y40 k):=λg=>zd _ g
noncomputable def y42:Code:=(Tryz.f3.body).getD .skip
def y43 (ρ:Type) (k:Nat):Nat->Ev ρ->Ev ρ:=λ_ _ _ _=>none
def y44 (a:List Int):List Arg:=[.one (.sl (.int .u8) a)]
def y45 (l:List Arg):Option (List Int):=match l with
 |[.one (.sl (.int .u8) b0)]=>some b0
 |_=>none
def y46 (r:Bool):Out:=(.r [] (.bool r),[])
def y47 (o:Out):Option (Bool):=match o with
 |(.r [] (.bool z1),[])=>some z1
 |_=>none
def y48 (k:Nat):PG:=λ_ l K=>(y45 l).bind λa=>(gX k a).bind λr=>K (y46 r)
theorem y49 (k:Nat) (a:List Int):ev (y40 k) (y43 (Bool) k) 0 y42 (st0 Tryz.f3 (y44 a)) (fin Tryz.prog Tryz.f3 (.sc) y47)=gX k a:=by kernel_rfl
theorem y4a (k:Nat):Ae Tryz.prog 3 (y48 k):=
 pG (y41 k) Tryz.func3 (by kernel_rfl) (by kernel_rfl) y44 y45
  (λl a h=>by unfold y45 at h;split at h<;>first|(cases h;rfl)|cases h) (λa=>rfl) (da (by kernel_rfl))
  (λo r h=>by unfold y47 at h;split at h<;>first|(cases h;rfl)|cases h) (y49 k)
end
end Go.Proofs.Ev
