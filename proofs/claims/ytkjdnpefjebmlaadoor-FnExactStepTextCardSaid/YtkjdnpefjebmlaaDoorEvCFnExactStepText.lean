/- Text of this claim. -/
import Derived.Test.YtkjdnpefjebmlaaDoorEvK6
import Derived.Test.YtkjdnpefjebmlaaDoorProg
import Derived.Test.YtkjdnpefjebmlaaDoorEvD1
import Derived.Test.YtkjdnpefjebmlaaDoorEvD25
import Derived.Test.YtkjdnpefjebmlaaDoorEvHText
set_option linter.unusedVariables false
set_option linter.unusedSimpArgs false
set_option linter.unusedSectionVars false
set_option maxRecDepth 100000
set_option maxHeartbeats 4000000
namespace Go.Proofs.Ev
noncomputable section
variable [Tok]
def tt:TT:=look [(2,(.int .i64)),(3,(.int .i64)),(4,.bool),(5,(.int .u8)),(6,(.int .u8)),(9,.str),(10,.str),(11,.str),(12,(.int .u64)),(21,(.int .i32)),(22,(.sl (.int .u8))),(24,(.st .shape)),(25,(.sl (.int .i64))),(27,(.st .bY)),(29,(.st .step)),(32,(.st .shape)),(34,(.st .bY)),(36,(.st .step)),(72,(.int .u64)),(83,(.int .u32)),(85,(.int .u64)),(96,(.int .u8)),(97,(.int .u8)),(99,(.int .i32)),(100,(.int .i32))]
def y0 (k:Nat):=jj tt [] .id Tryd.func9 [.one (.sl (.int .u8)),.one (.int .i64)] ((cdL (.int .u8)).p cdZ) ⟨.h 0,[]⟩ cdZ (.sc) (λa=>fl k a.1 a.2)
def y8 (k:Nat):=jj tt [] .id Tryd.func22 [.one (.sl (.int .i64)),.one (.int .i64)] ((cdL (.int .i64)).p cdZ) ⟨.h 0,[]⟩ cdZ (.sc) (λa=>hY k a.1 a.2)
def y9 (k:Nat):=jj tt [⟨22,y8 k⟩] .id Tryd.func10 [.agg [(.int .i64),(.int .i64),(.int .i64),(.sl (.int .i64))],.one (.int .i64)] ((cdS .bY).p cdZ) ⟨.h 0,[]⟩ cdZ (.sc) (λa=>iQ k a.1 a.2)
def ya (k:Nat):=jj tt [⟨9,y0 k⟩,⟨10,y9 k⟩] .id Tryd.func4 [.agg [(.int .i64),(.int .i64),(.int .i64),(.sl (.int .u8)),(.int .i64),(.int .i64),(.int .i64),(.sl (.int .i64))],.one (.int .i64)] ((cdS .step).p cdZ) ⟨.h 0,[]⟩ cdZ (.sc) (λa=>mN k a.1 a.2)
def yb (k:Nat):=wc tt [] .id Tryd.func14 k [L1 0 false [0,3,4] [] (cdL (.int .u8)) (cdZ.p (cdL (.int .u8))) ⟨[.h 0,.own 0,.h 1],[.arr none (.int .u8) 2],[]⟩ ⟨2,[3],[],(cdL (.int .u8)),⟨[.own 0],[.arr none (.int .u8) 1],[]⟩⟩ (dI k)] [.one (.sl (.int .u8))] (cdL (.int .u8)) ⟨.own 0,[.arr none (.int .u8) 0]⟩ (cdL (.int .u8)) (.own (.int .u8)) (fm k)
def yc (k:Nat):=jj tt [] .id Tryd.func26 [.agg [(.int .i64),(.int .i64),(.int .i64)]] (cdS .shape) ⟨.agg [.h 0,.h 1,.h 2],[]⟩ (cdS .shape) (.agg [.sc,.sc,.sc]) (ky k)
def yd (k:Nat):=wc tt [] .id Tryd.func27 k [L1 0 false [0,3,4] [] (cdL (.int .i64)) (cdZ.p (cdL (.int .i64))) ⟨[.h 0,.own 0,.h 1],[.arr none (.int .i64) 2],[]⟩ ⟨2,[3],[],(cdL (.int .i64)),⟨[.own 0],[.arr none (.int .i64) 1],[]⟩⟩ (eE k)] [.one (.sl (.int .i64))] (cdL (.int .i64)) ⟨.own 0,[.arr none (.int .i64) 0]⟩ (cdL (.int .i64)) (.own (.int .i64)) (hZ k)
def ye (k:Nat):=jj tt [⟨26,yc k⟩,⟨27,yd k⟩] .id Tryd.func15 [.agg [(.int .i64),(.int .i64),(.int .i64),(.sl (.int .i64))]] (cdS .bY) ⟨.agg [.h 0,.h 1,.h 2,.own 0],[.arr none (.int .i64) 3]⟩ (cdS .bY) (.agg [.sc,.sc,.sc,.own (.int .i64)]) (fF k)
def yf (k:Nat):=jj tt [⟨14,yb k⟩,⟨15,ye k⟩] .id Tryd.func6 [.agg [(.int .i64),(.int .i64),(.int .i64),(.sl (.int .u8)),(.int .i64),(.int .i64),(.int .i64),(.sl (.int .i64))]] (cdS .step) ⟨.agg [.h 0,.h 1,.h 2,.own 0,.h 4,.h 5,.h 6,.own 1],[.arr none (.int .u8) 3,.arr none (.int .i64) 7]⟩ (cdS .step) (.agg [.sc,.sc,.sc,.own (.int .u8),.sc,.sc,.sc,.own (.int .i64)]) (fH k)
def yg (k:Nat):=wc tt [] .id Tryd.func11 k [L1 0 false [0,3,4] [] cdB (cdZ.p cdT) ⟨[.h 1,.h 2,.h 0],[],[]⟩ ⟨2,[3,4],[],cdT,⟨[.h 1,.h 0],[],[]⟩⟩ (dt k)] [.one (.int .i64)] cdZ ⟨.h 0,[]⟩ cdT (.sc) (cj k)
def yh (k:Nat):=jj tt [] .id Tryd.func37 [.one (.int .i64),.one (.int .i64),.one (.int .i64)] (cdZ.p (cdZ.p cdZ)) ⟨.h 0,[]⟩ cdB (.sc) (λa=>gx k a.1 a.2.1 a.2.2)
def yi (k:Nat):=jj tt [⟨37,yh k⟩] .id Tryd.func23 [.agg [(.int .i64),(.int .i64),(.int .i64)]] (cdS .shape) ⟨.h 0,[]⟩ cdB (.sc) (fj k)
def yj (k:Nat):=jj tt [⟨23,yi k⟩] .id Tryd.func24 [.agg [(.int .i64),(.int .i64),(.int .i64)]] (cdS .shape) ⟨.h 0,[]⟩ cdZ (.sc) (ju k)
def yk (k:Nat):=jj tt [⟨37,yh k⟩] .id Tryd.func25 [.one (.int .i64)] cdZ ⟨.h 0,[]⟩ cdB (.sc) (kz k)
def yl (k:Nat):=wc tt [⟨23,yi k⟩,⟨24,yj k⟩,⟨25,yk k⟩] .id Tryd.func12 k [L2 0 false [1,3] [] (cdZ.p (cdZ.p (cdZ.p (cdL (.int .i64))))) cdZ ⟨[.v (.ptr 0 0 0),.h 4],[.box (hs 0 4)],[]⟩ ⟨2,[],[],cdU,⟨[],[],[]⟩⟩ ⟨1,[2],[],cdB,⟨[.h 4],[],[]⟩⟩ (cW k)] [.agg [(.int .i64),(.int .i64),(.int .i64),(.sl (.int .i64))]] (cdS .bY) ⟨.h 0,[]⟩ cdB (.sc) (da k)
def ym (k:Nat):=wc tt [⟨11,yg k⟩,⟨12,yl k⟩] .id Tryd.func13 k [L1 0 false [1,3,4] [] (cdZ.p (cdZ.p (cdZ.p (cdL (.int .i64))))) (cdT.p cdZ) ⟨[.v (.ptr 0 0 0),.h 4,.h 5],[.box (hs 0 4)],[]⟩ ⟨2,[3],[],cdT,⟨[.h 4],[],[]⟩⟩ (bD k)] [.agg [(.int .i64),(.int .i64),(.int .i64),(.sl (.int .i64))]] (cdS .bY) ⟨.h 0,[]⟩ cdT (.sc) (cO k)
def yn (k:Nat):=jj tt [⟨11,yg k⟩,⟨12,yl k⟩,⟨13,ym k⟩] .id Tryd.func5 [.agg [(.int .i64),(.int .i64),(.int .i64),(.sl (.int .u8)),(.int .i64),(.int .i64),(.int .i64),(.sl (.int .i64))]] (cdS .step) ⟨.h 0,[]⟩ cdT (.sc) (fI k)
def wi (k:Nat):=jj tt [] .id Tryd.func40 [.one (.int .i64),.one (.int .i64),.one (.int .i64)] (cdZ.p (cdZ.p cdZ)) ⟨.h 0,[]⟩ cdB (.sc) (λa=>xp k a.1 a.2.1 a.2.2)
def yo (k:Nat):=jj tt [⟨40,wi k⟩] .id Tryd.func31 [.agg [(.int .i64),(.int .i64),(.int .i64)]] (cdS .shape) ⟨.h 0,[]⟩ cdB (.sc) (fk k)
def yp (k:Nat):=jj tt [⟨31,yo k⟩] .id Tryd.func32 [.agg [(.int .i64),(.int .i64),(.int .i64)]] (cdS .shape) ⟨.h 0,[]⟩ cdZ (.sc) (jv k)
def yq (k:Nat):=jj tt [⟨40,wi k⟩] .id Tryd.func42 [.one (.int .i64)] cdZ ⟨.h 0,[]⟩ cdB (.sc) (eF k)
def yr (k:Nat):=wc tt [⟨42,yq k⟩] .id Tryd.func48 k [L2 0 false [0,1,7,8] [] ((cdL (.int .i64)).p cdZ) cdZ ⟨[.h 0,.fn 42 [] [],.h 1,.h 2],[],[]⟩ ⟨2,[],[],cdU,⟨[],[],[]⟩⟩ ⟨1,[4],[],cdZ,⟨[.h 2],[],[]⟩⟩ (av k)] [.one (.sl (.int .i64)),.fn] (cdL (.int .i64)) ⟨.h 0,[]⟩ cdZ (.sc) (aB k) [42]
def yt (k:Nat):=jj tt [⟨48,yr k⟩] .id Tryd.func41 [.one (.sl (.int .i64)),.fn] (cdL (.int .i64)) ⟨.h 0,[]⟩ cdB (.sc) (aA k) [42]
def yu (k:Nat):=jj tt [⟨41,yt k⟩] .id Tryd.func33 [.one (.sl (.int .i64))] (cdL (.int .i64)) ⟨.h 0,[]⟩ cdB (.sc) (fG k)
def yv (k:Nat):=jj tt [⟨31,yo k⟩,⟨32,yp k⟩,⟨33,yu k⟩] .id Tryd.func18 [.agg [(.int .i64),(.int .i64),(.int .i64),(.sl (.int .i64))]] (cdS .bY) ⟨.h 0,[]⟩ cdB (.sc) (db k)
def yw (k:Nat):=jj tt [⟨16,o_strconv_Itoa k⟩] .id Tryd.func34 [.agg [(.int .i64),(.int .i64),(.int .i64)]] (cdS .shape) ⟨.h 0,[]⟩ cdT (.sc) (cX k)
def yx (k:Nat):=jj tt [⟨17,o_I_spaced k⟩,⟨18,yv k⟩,⟨34,yw k⟩] .id Tryd.func19 [.agg [(.int .i64),(.int .i64),(.int .i64),(.sl (.int .i64))]] (cdS .bY) ⟨.h 0,[]⟩ cdT (.sc) (cQ k)
def yy (k:Nat):=jj tt [⟨16,o_strconv_Itoa k⟩,⟨17,o_I_spaced k⟩,⟨18,yv k⟩,⟨19,yx k⟩] .id Tryd.func7 [.agg [(.int .i64),(.int .i64),(.int .i64),(.sl (.int .u8)),(.int .i64),(.int .i64),(.int .i64),(.sl (.int .i64))]] (cdS .step) ⟨.h 0,[]⟩ cdT (.sc) (fJ k)
def yz (k:Nat):=wc tt [] .id Tryd.func20 k [L2 0 false [0,1,5] [] ((cdL (.int .u8)).p (cdL (.int .u8))) cdZ ⟨[.h 0,.h 1,.h 2],[],[]⟩ ⟨2,[],[],cdU,⟨[],[],[]⟩⟩ ⟨1,[4],[],cdB,⟨[.h 2],[],[]⟩⟩ (jc k)] [.one (.sl (.int .u8)),.one (.sl (.int .u8))] ((cdL (.int .u8)).p (cdL (.int .u8))) ⟨.h 0,[]⟩ cdB (.sc) (λa=>ia k a.1 a.2)
def y10 (k:Nat):=jj tt [] .id Tryd.func35 [.agg [(.int .i64),(.int .i64),(.int .i64)],.agg [(.int .i64),(.int .i64),(.int .i64)]] ((cdS .shape).p (cdS .shape)) ⟨.h 0,[]⟩ cdB (.sc) (λa=>kA k a.1 a.2)
def y11 (k:Nat):=wc tt [] .id Tryd.func36 k [L2 0 false [0,1,5] [] ((cdL (.int .i64)).p (cdL (.int .i64))) cdZ ⟨[.h 0,.h 1,.h 2],[],[]⟩ ⟨2,[],[],cdU,⟨[],[],[]⟩⟩ ⟨1,[4],[],cdB,⟨[.h 2],[],[]⟩⟩ (kB k)] [.one (.sl (.int .i64)),.one (.sl (.int .i64))] ((cdL (.int .i64)).p (cdL (.int .i64))) ⟨.h 0,[]⟩ cdB (.sc) (λa=>jx k a.1 a.2)
def y12 (k:Nat):=jj tt [⟨35,y10 k⟩,⟨36,y11 k⟩] .id Tryd.func21 [.agg [(.int .i64),(.int .i64),(.int .i64),(.sl (.int .i64))],.agg [(.int .i64),(.int .i64),(.int .i64),(.sl (.int .i64))]] ((cdS .bY).p (cdS .bY)) ⟨.h 0,[]⟩ cdB (.sc) (λa=>iR k a.1 a.2)
def y13 (k:Nat):=jj tt [⟨20,yz k⟩,⟨21,y12 k⟩] .id Tryd.func8 [.agg [(.int .i64),(.int .i64),(.int .i64),(.sl (.int .u8)),(.int .i64),(.int .i64),(.int .i64),(.sl (.int .i64))],.agg [(.int .i64),(.int .i64),(.int .i64),(.sl (.int .u8)),(.int .i64),(.int .i64),(.int .i64),(.sl (.int .i64))]] ((cdS .step).p (cdS .step)) ⟨.h 0,[]⟩ cdB (.sc) (λa=>mO k a.1 a.2)
noncomputable def y14 (k:Nat):Env:=vp (P:=Tryd.prog) tt [⟨4,ya k⟩,⟨5,yn k⟩,⟨6,yf k⟩,⟨7,yy k⟩,⟨8,y13 k⟩]
theorem y15 (k:Nat):fN (y14 k):=λg=>pG _ g
noncomputable def y16:Code:=(Tryd.f3.body).getD .skip
def y17 (ρ:Type) (k:Nat):Nat->Ev ρ->Ev ρ:=λ_ _ _ _=>none
def y18 (a:Step):List Arg:=[.agg [.int .i64 a.kind,.int .i64 a.a,.int .i64 a.b,.sl (.int .u8) a.data,.int .i64 a.input.sh.h,.int .i64 a.input.sh.w,.int .i64 a.input.sh.c,.sl (.int .i64) a.input.data]]
def y19 (l:List Arg):Option (Step):=match l with
 |[.agg [.int .i64 b0_0,.int .i64 b0_1,.int .i64 b0_2,.sl (.int .u8) b0_3,.int .i64 b0_4,.int .i64 b0_5,.int .i64 b0_6,.sl (.int .i64) b0_7]]=>some (⟨b0_0,b0_1,b0_2,b0_3,(⟨(⟨b0_4,b0_5,b0_6⟩:Shape),b0_7⟩:aG)⟩:Step)
 |_=>none
def y1a (r:Bool):Out:=(.r [] (.bool r),[])
def y1b (o:Out):Option (Bool):=match o with
 |(.r [] (.bool z1),[])=>some z1
 |_=>none
def y1c (k:Nat):PG:=λ_ l K=>(y19 l).bind λa=>(bj k a).bind λr=>K (y1a r)
theorem y1d (k:Nat) (a:Step):ev (y14 k) (y17 (Bool) k) 0 y16 (st0 Tryd.f3 (y18 a)) (fin Tryd.prog Tryd.f3 (.sc) y1b)=bj k a:=by kernel_rfl
theorem y1e (k:Nat):qH Tryd.prog 3 (y1c k):=
 jb (y15 k) Tryd.func3 (by kernel_rfl) (by kernel_rfl) y18 y19
  (λl a h=>by unfold y19 at h;split at h<;>first|(cases h;rfl)|cases h) (λa=>rfl) (kj (by kernel_rfl))
  (λo r h=>by unfold y1b at h;split at h<;>first|(cases h;rfl)|cases h) (y1d k)
end
end Go.Proofs.Ev
