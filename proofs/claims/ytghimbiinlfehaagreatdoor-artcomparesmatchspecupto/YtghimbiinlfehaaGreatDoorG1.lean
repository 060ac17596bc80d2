/-
  Printed texts: Go functions as plain functions, and that they are. No statement of the seed is proved here.
-/
import Derived.Test.YtghimbiinlfehaaGreatDoorProg
import Derived.Test.YtghimbiinlfehaaGreatDoorE1
import Derived.Test.YtghimbiinlfehaaGreatDoorA1
import Derived.Test.YtghimbiinlfehaaGreatDoorA2
import Derived.Test.YtghimbiinlfehaaGreatDoorRows
import Derived.Shelf.SlGeneric
import Derived.Ground.SlsfProg
import Derived.Ground.SlgmProg
import Derived.Ground.GgzProg
set_option linter.defProp false
set_option linter.unusedVariables false
set_option linter.unusedSimpArgs false
set_option linter.unusedSectionVars false
set_option maxRecDepth 100000
set_option maxHeartbeats 40000000
namespace Go.Gk
open Go IntKind Go.Proofs
noncomputable abbrev bK:=Tryz.prog
abbrev c_(f:Nat)(l:Z aW)(w:aY)(R:aW->aY->Prop):Prop:=Calls bK f l.toArray w (eT R)
def wm(x:dM):=(x.Name,x.Kind,x.bG)
instance instGTPinType:GT dM:=GT.via wm
instance instKVPinType:KV dM:=instKVvia (λ(x:dM)=>(x.Name,x.Kind,x.bG))
def kL:Fd 0 (λx:dM=>x.Name):= .v wm<|.fst .self
def oq:Fd 1 (λx:dM=>x.Kind):= .v wm<|.snd<|.fst .self
def lV:Fd 2 (λx:dM=>x.bG):= .v wm<|.snd<|.snd<|.self
def yi(x:aS):=(x.Name,x.aT)
instance instGTPartType:GT aS:=GT.via yi
def kM:Fd 0 (λx:aS=>x.Name):= .v yi<|.fst .self
def iK:Fd 1 (λx:aS=>x.aT):= .v yi<|.snd<|.self
def Gu(x:Part):=(x.Name,x.jR)
instance instGTPart:GT Part:=GT.via Gu
instance instKVPart:KV Part:=instKVvia (λ(x:Part)=>(x.Name,x.jR))
def oV:Fd 0 (λx:Part=>x.Name):= .v Gu<|.fst .self
def uT:Fd 1 (λx:Part=>x.jR):= .v Gu<|.snd<|.self
def Bc(x:bC):=(x.Part,x.bC)
instance instGTPin:GT bC:=GT.via Bc
instance instKVPin:KV bC:=instKVvia (λ(x:bC)=>(x.Part,x.bC))
def nc:Fd 0 (λx:bC=>x.Part):= .v Bc<|.fst .self
def Dq:Fs 0 cD (λ(x:bC)y=>{x with Part:=y}):= .v Bc<|.fst .self
def qW:Fd 1 (λx:bC=>x.bC):= .v Bc<|.snd<|.self
def Dr:Fs 1 cD (λ(x:bC)y=>{x with bC:=y}):= .v Bc<|.snd<|.self
def F5(x:Net):=(x.Name,x.aT,x.uj)
instance instGTNet:GT Net:=GT.via F5
def qX:Fd 0 (λx:Net=>x.Name):= .v F5<|.fst .self
def lP:Fd 1 (λx:Net=>x.aT):= .v F5<|.snd<|.fst .self
def KS:Fd 2 (λx:Net=>x.uj):= .v F5<|.snd<|.snd<|.self
def Ab(x:cA):=(x.cR,x.bT)
instance instGTNetlist:GT cA:=GT.via Ab
def ji:Fd 0 (λx:cA=>x.cR):= .v Ab<|.fst .self
def eA:Fd 1 (λx:cA=>x.bT):= .v Ab<|.snd<|.self
def qY(x:aJ):=(x.X0,x.Y0,x.X1,x.Y1)
instance instGTRect:GT aJ:=GT.via qY
instance instKVRect:KV aJ:=instKVvia (λ(x:aJ)=>(x.X0,x.Y0,x.X1,x.Y1))
def eG:Fd 0 (λx:aJ=>x.X0):= .v qY<|.fst .self
def tf:Fs 0 Int (λ(x:aJ)y=>{x with X0:=y}):= .v qY<|.fst .self
def dX:Fd 1 (λx:aJ=>x.Y0):= .v qY<|.snd<|.fst .self
def uU:Fs 1 Int (λ(x:aJ)y=>{x with Y0:=y}):= .v qY<|.snd<|.fst .self
def fD:Fd 2 (λx:aJ=>x.X1):= .v qY<|.snd<|.snd<|.fst .self
def tg:Fs 2 Int (λ(x:aJ)y=>{x with X1:=y}):= .v qY<|.snd<|.snd<|.fst .self
def gJ:Fd 3 (λx:aJ=>x.Y1):= .v qY<|.snd<|.snd<|.snd<|.self
def uV:Fs 3 Int (λ(x:aJ)y=>{x with Y1:=y}):= .v qY<|.snd<|.snd<|.snd<|.self
def Ev(x:kF):=(x.X,x.Y)
instance instGTPoint:GT kF:=GT.via Ev
instance instKVPoint:KV kF:=instKVvia (λ(x:kF)=>(x.X,x.Y))
def rC:Fd 0 (λx:kF=>x.X):= .v Ev<|.fst .self
def rD:Fd 1 (λx:kF=>x.Y):= .v Ev<|.snd<|.self
def vh(x:cL):=(x.At,x.eC,x.dS,x.To,x.il)
instance instGTBore:GT cL:=GT.via vh
def uW:Fd 0 (λx:cL=>x.At):= .v vh<|.fst .self
def oW:Fd 2 (λx:cL=>x.eC):= .v vh<|.snd<|.fst .self
def N5:Fs 2 Int (λ(x:cL)y=>{x with eC:=y}):= .v vh<|.snd<|.fst .self
def mR:Fd 3 (λx:cL=>x.dS):= .v vh<|.snd<|.snd<|.fst .self
def oX:Fd 4 (λx:cL=>x.To):= .v vh<|.snd<|.snd<|.snd<|.fst .self
def uX:Fd 5 (λx:cL=>x.il):= .v vh<|.snd<|.snd<|.snd<|.snd<|.self
def Ac(x:eQ):=(x.Part,x.bC,x.dW,x.At)
instance instGTLand:GT eQ:=GT.via Ac
def oY:Fd 0 (λx:eQ=>x.Part):= .v Ac<|.fst .self
def rK:Fd 1 (λx:eQ=>x.bC):= .v Ac<|.snd<|.fst .self
def uY:Fd 2 (λx:eQ=>x.dW):= .v Ac<|.snd<|.snd<|.fst .self
def uZ:Fd 3 (λx:eQ=>x.At):= .v Ac<|.snd<|.snd<|.snd<|.self
def Ds(x:lj):=(x.aP,x.dF,x.aZ,x.bW)
instance instGTArt:GT lj:=GT.via Ds
def kn:Fd 0 (λx:lj=>x.aP):= .v Ds<|.fst .self
def xl:Fd 1 (λx:lj=>x.dF):= .v Ds<|.snd<|.fst .self
def iS:Fd 2 (λx:lj=>x.aZ):= .v Ds<|.snd<|.snd<|.fst .self
def kY:Fd 3 (λx:lj=>x.bW):= .v Ds<|.snd<|.snd<|.snd<|.self
def mo(x:aB):=(x.Y0,x.Y1,x.Xs)
instance instGTshape_Band:GT aB:=GT.via mo
def jk:Fd 0 (λx:aB=>x.Y0):= .v mo<|.fst .self
def zi:Fs 0 Int (λ(x:aB)y=>{x with Y0:=y}):= .v mo<|.fst .self
def gR:Fd 1 (λx:aB=>x.Y1):= .v mo<|.snd<|.fst .self
def t4:Fs 1 Int (λ(x:aB)y=>{x with Y1:=y}):= .v mo<|.snd<|.fst .self
def eW:Fd 2 (λx:aB=>x.Xs):= .v mo<|.snd<|.snd<|.self
def zj:Fs 2 (Z Int) (λ(x:aB)y=>{x with Xs:=y}):= .v mo<|.snd<|.snd<|.self
def l8(x:aL):=(x.dW,x.Set,x.jw)
instance instGTcopper_Piece:GT aL:=GT.via l8
def wo:Fd 0 (λx:aL=>x.dW):= .v l8<|.fst .self
def Dt:Fs 0 Int (λ(x:aL)y=>{x with dW:=y}):= .v l8<|.fst .self
def Du:Fs 1 (Z aB) (λ(x:aL)y=>{x with Set:=y}):= .v l8<|.snd<|.fst .self
def wq:Fd 2 (λx:aL=>x.jw):= .v l8<|.snd<|.snd<|.self
def Dv:Fs 2 (Z aJ) (λ(x:aL)y=>{x with jw:=y}):= .v l8<|.snd<|.snd<|.self
def Be(x:bG):=(x.jQ,x.aZ,x.aT)
instance instGTGroup:GT bG:=GT.via Be
def Gv:Fd 0 (λx:bG=>x.jQ):= .v Be<|.fst .self
def Mr:Fd 1 (λx:bG=>x.aZ):= .v Be<|.snd<|.fst .self
def Cy:Fd 2 (λx:bG=>x.aT):= .v Be<|.snd<|.snd<|.self
def Dw(x:ld):=(x.cL,x.Number)
instance instGTHop:GT ld:=GT.via Dw
instance instKVHop:KV ld:=instKVvia (λ(x:ld)=>(x.cL,x.Number))
def vj:Fd 0 (λx:ld=>x.cL):= .v Dw<|.fst .self
def KT:Fs 0 Bool (λ(x:ld)y=>{x with cL:=y}):= .v Dw<|.fst .self
def tJ:Fd 1 (λx:ld=>x.Number):= .v Dw<|.snd<|.self
def Dx:Fs 1 Int (λ(x:ld)y=>{x with Number:=y}):= .v Dw<|.snd<|.self
def th(x:cI):=(x.Kind,x.bT,x.aT)
instance instGTWrong:GT cI:=GT.via th
def Gw:Fd 0 (λx:cI=>x.Kind):= .v th<|.fst .self
def pS:Fs 0 Int (λ(x:cI)y=>{x with Kind:=y}):= .v th<|.fst .self
def Gx:Fd 1 (λx:cI=>x.bT):= .v th<|.snd<|.fst .self
def yj:Fs 1 (Z cD) (λ(x:cI)y=>{x with bT:=y}):= .v th<|.snd<|.fst .self
def Gy:Fd 2 (λx:cI=>x.aT):= .v th<|.snd<|.snd<|.self
def pT:Fs 2 (Z bC) (λ(x:cI)y=>{x with aT:=y}):= .v th<|.snd<|.snd<|.self
def iQ(x:aF):=(x.from_,x.to)
instance instGTetchhouseref1_span:GT aF:=GT.via iQ
instance instKVetchhouseref1_span:KV aF:=instKVvia (λ(x:aF)=>(x.from_,x.to))
def fE:Fd 0 (λx:aF=>x.from_):= .v iQ<|.fst .self
def nO:Fs 0 Int (λ(x:aF)y=>{x with from_:=y}):= .v iQ<|.fst .self
def fF:Fd 1 (λx:aF=>x.to):= .v iQ<|.snd<|.self
def nP:Fs 1 Int (λ(x:aF)y=>{x with to:=y}):= .v iQ<|.snd<|.self
def gO(x:aQ):=(x.from_,x.to,x.kG)
instance instGTetchhouseref1_band:GT aQ:=GT.via gO
def rL:Fd 0 (λx:aQ=>x.from_):= .v gO<|.fst .self
def rM:Fs 0 Int (λ(x:aQ)y=>{x with from_:=y}):= .v gO<|.fst .self
def nQ:Fd 1 (λx:aQ=>x.to):= .v gO<|.snd<|.fst .self
def nR:Fs 1 Int (λ(x:aQ)y=>{x with to:=y}):= .v gO<|.snd<|.fst .self
def iu:Fd 2 (λx:aQ=>x.kG):= .v gO<|.snd<|.snd<|.self
def rN:Fs 2 (Z aF) (λ(x:aQ)y=>{x with kG:=y}):= .v gO<|.snd<|.snd<|.self
def wt(M:fG):GT.ok M (#[(.int .i64 0),n_,n_]:bD aW).toList (⟨0,[],[]⟩:cI):=⟨[(.int .i64 0)],[n_,n_],rfl,(show GT.ok M [(.int .i64 0)] (0:Int)from rfl),⟨[n_],[n_],rfl,(show GT.ok M [n_] ([]:Z cD)from⟨_,rfl,none,0,0,rfl,rfl,cG _,by simp[maxLen],λ_ _ h=>by simp at h⟩),(show GT.ok M [n_] ([]:Z bC)from⟨_,rfl,none,0,0,rfl,rfl,cG _,by simp[maxLen],λ_ _ h=>by simp at h⟩)⟩⟩
def KU(M:fG):GT.ok M (#[(.string ⟨#[]⟩),(.string ⟨#[]⟩)]:bD aW).toList (⟨⟨[]⟩,⟨[]⟩⟩:bC):=⟨[(.string ⟨#[]⟩)],[(.string ⟨#[]⟩)],rfl,(show GT.ok M [(.string ⟨#[]⟩)] (⟨[]⟩:cD)from rfl),(show GT.ok M [(.string ⟨#[]⟩)] (⟨[]⟩:cD)from rfl)⟩
def yk(M:fG):GT.ok M (#[(.int .i64 0),(.int .i64 0),(.int .i64 0),(.int .i64 0)]:bD aW).toList (⟨0,0,0,0⟩:aJ):=⟨[(.int .i64 0)],[(.int .i64 0),(.int .i64 0),(.int .i64 0)],rfl,(show GT.ok M [(.int .i64 0)] (0:Int)from rfl),⟨[(.int .i64 0)],[(.int .i64 0),(.int .i64 0)],rfl,(show GT.ok M [(.int .i64 0)] (0:Int)from rfl),⟨[(.int .i64 0)],[(.int .i64 0)],rfl,(show GT.ok M [(.int .i64 0)] (0:Int)from rfl),(show GT.ok M [(.int .i64 0)] (0:Int)from rfl)⟩⟩⟩
def Rx(M:fG):GT.ok M (#[(.int .i64 0),(.int .i64 0)]:bD aW).toList (⟨0,0⟩:kF):=⟨[(.int .i64 0)],[(.int .i64 0)],rfl,(show GT.ok M [(.int .i64 0)] (0:Int)from rfl),(show GT.ok M [(.int .i64 0)] (0:Int)from rfl)⟩
def Td(M:fG):GT.ok M (#[(.int .i64 0),(.int .i64 0),(.int .i64 0),(.int .i64 0),(.int .i64 0),(.bool false)]:bD aW).toList (⟨⟨0,0⟩,0,0,0,false⟩:cL):=⟨[(.int .i64 0),(.int .i64 0)],[(.int .i64 0),(.int .i64 0),(.int .i64 0),(.bool false)],rfl,(show GT.ok M [(.int .i64 0),(.int .i64 0)] (⟨0,0⟩:kF)from Rx M),⟨[(.int .i64 0)],[(.int .i64 0),(.int .i64 0),(.bool false)],rfl,(show GT.ok M [(.int .i64 0)] (0:Int)from rfl),⟨[(.int .i64 0)],[(.int .i64 0),(.bool false)],rfl,(show GT.ok M [(.int .i64 0)] (0:Int)from rfl),⟨[(.int .i64 0)],[(.bool false)],rfl,(show GT.ok M [(.int .i64 0)] (0:Int)from rfl),(show GT.ok M [(.bool false)] (false:Bool)from rfl)⟩⟩⟩⟩
def IH(M:fG):GT.ok M (#[(.bool false),(.int .i64 0)]:bD aW).toList (⟨false,0⟩:ld):=⟨[(.bool false)],[(.int .i64 0)],rfl,(show GT.ok M [(.bool false)] (false:Bool)from rfl),(show GT.ok M [(.int .i64 0)] (0:Int)from rfl)⟩
def Dy(M:fG):GT.ok M (#[(.int .i64 0),(.int .i64 0),n_]:bD aW).toList (⟨0,0,[]⟩:aB):=⟨[(.int .i64 0)],[(.int .i64 0),n_],rfl,(show GT.ok M [(.int .i64 0)] (0:Int)from rfl),⟨[(.int .i64 0)],[n_],rfl,(show GT.ok M [(.int .i64 0)] (0:Int)from rfl),(show GT.ok M [n_] ([]:Z Int)from⟨_,rfl,none,0,0,rfl,rfl,cG _,by simp[maxLen],λ_ _ h=>by simp at h⟩)⟩⟩
def Gz(M:fG):GT.ok M (#[(.int .i64 0),n_,n_]:bD aW).toList (⟨0,[],[]⟩:aL):=⟨[(.int .i64 0)],[n_,n_],rfl,(show GT.ok M [(.int .i64 0)] (0:Int)from rfl),⟨[n_],[n_],rfl,(show GT.ok M [n_] ([]:Z aB)from⟨_,rfl,none,0,0,rfl,rfl,cG _,by simp[maxLen],λ_ _ h=>by simp at h⟩),(show GT.ok M [n_] ([]:Z aJ)from⟨_,rfl,none,0,0,rfl,rfl,cG _,by simp[maxLen],λ_ _ h=>by simp at h⟩)⟩⟩
def tK(M:fG):GT.ok M (#[(.int .i64 0),(.int .i64 0),n_]:bD aW).toList (⟨0,0,[]⟩:aQ):=⟨[(.int .i64 0)],[(.int .i64 0),n_],rfl,(show GT.ok M [(.int .i64 0)] (0:Int)from rfl),⟨[(.int .i64 0)],[n_],rfl,(show GT.ok M [(.int .i64 0)] (0:Int)from rfl),(show GT.ok M [n_] ([]:Z aF)from⟨_,rfl,none,0,0,rfl,rfl,cG _,by simp[maxLen],λ_ _ h=>by simp at h⟩)⟩⟩
def tL(M:fG):GT.ok M (#[(.int .i64 0),(.int .i64 0)]:bD aW).toList (⟨0,0⟩:aF):=⟨[(.int .i64 0)],[(.int .i64 0)],rfl,(show GT.ok M [(.int .i64 0)] (0:Int)from rfl),(show GT.ok M [(.int .i64 0)] (0:Int)from rfl)⟩
structure bH where
  jQ:Z Int
  aZ:Z Int
  aT:RV
  deriving Inhabited
def sg(x:bH):=(x.jQ,x.aZ,x.aT)
instance instGTGroup_r2:GT bH:=GT.via sg
def B5:Fd 0 (λx:bH=>x.jQ):= .v sg<|.fst .self
def H9:Fd 1 (λx:bH=>x.aZ):= .v sg<|.snd<|.fst .self
def Ia:Fd 2 (λx:bH=>x.aT):= .v sg<|.snd<|.snd<|.self
def Ib:Fs 2 RV (λ(x:bH)y=>{x with aT:=y}):= .v sg<|.snd<|.snd<|.self
def bN:XT bH bG:=⟨λu x=>u.jQ=x.jQ/\u.aZ=x.aZ,λM h u x=>(u.jQ=x.jQ/\u.aZ=x.aZ)/\Cl 55 M h u.aT.v x.aT,λ{M M' h u x}hk hh=>⟨hh.1,(own 55 u.aT.v x.aT).mono hk hh.2⟩,λh=>h.1⟩
def rO:XO bN 55 2 (λu=>u.aT) (λu r=>{u with aT:=r}) (λx=>x.aT) (λx y=>{x with aT:=y}):=⟨Ia,Ib,by decide,λh=>h.2,λhr ho=>⟨hr,ho⟩⟩
def Dz(M h:fG)(u:bH)(x:bG)(cs:Z aW)(hd:∀b o,h b=some o->M b=none)(hx:bN.ok M h u x)(hc:GT.ok M cs u):GT.ok (vW M h) cs x:=by
 obtain⟨⟨e0,e1⟩,ho⟩:=hx;obtain⟨c0,d0,hd0,a0,c1,d1,hd1,a1,a2⟩:=hc;exact⟨c0,d0,hd0,GT.mono (A7 M h) (show GT.ok M c0 x.jQ from e0▸(show GT.ok M c0 u.jQ from a0)),⟨c1,d1,hd1,GT.mono (A7 M h) (show GT.ok M c1 x.aZ from e1▸(show GT.ok M c1 u.aZ from a1)),⟨u.aT.v,a2,Cl.sl hd ho⟩⟩⟩
def DA:oh bK 26 true 2:=w8
def zy:oh bK 32 true 4:=w8
def Te:oh bK 22 false 1:=w8
def Ms:Tryz.prog.underlying 22=some (.slice 131):=by kernel_rfl
def Ew:zx bK 22 131 2:=H2
def Ad:oh bK 131 true 2:=w8
def Pz:Gf bK 131 2:=H7<|.agg #[(.string ⟨#[]⟩),n_]
def uv:oE bK 131 0 0:=qB
def lI:oh bK 9 false 1:=w8
def Cz:Tryz.prog.underlying 9=some (.string):=by kernel_rfl
def Pv(a:cD)(b:Int)(w:aY):(callFunc 244 [str a,(.int .u8 b)].toArray).run bK w = .ok (.value<|vi<|Lib.indexByte a.cY (Int.toNat b).toUInt8) w:=Gl Extern.BytealgIndexByte.indexByte Tryz.func244<|Lib.run_indexByteString _ _ w
def Sj:fB bK 225:=fO Tryz.func225
def PA:fB bK 177:=fO Tryz.func177
def Nr:fB bK 118:=fO Tryz.func118
def ru:oE bK 131 1 1:=qB
def zk:oh bK 129 false 1:=w8
def wu:Tryz.prog.underlying 129=some (.slice 133):=by kernel_rfl
def vk:zx bK 129 133 3:=H2
def tM:oh bK 133 true 3:=w8
def GA:Gf bK 133 3:=H7<|.agg #[(.string ⟨#[]⟩),(.int .i64 0),(.int .i64 0)]
def tz:oE bK 133 0 0:=qB
def yl:oE bK 133 1 1:=qB
def cT:oh bK 3 false 1:=w8
def uw:oE bK 133 2 2:=qB
def mixed:Tryz.prog.follows .mixedOrders=true:=by kernel_rfl
def vl:oE bK 26 0 0:=qB
def GB:oh bK 23 false 1:=w8
def KW:Tryz.prog.underlying 23=some (.slice 102):=by kernel_rfl
def FT:zx bK 23 102 2:=H2
def Ae:oh bK 102 true 2:=w8
def Ns:Gf bK 102 2:=H7<|.agg #[(.string ⟨#[]⟩),(.string ⟨#[]⟩)]
def tA:oE bK 102 0 0:=qB
def Bf:oE bK 102 1 1:=qB
def L9:Tryz.prog.underlying 3=some (.int .i64):=by kernel_rfl
def Fg:Tryz.prog.underlying 109=some (.int .u64):=by kernel_rfl
def Wg(a b:cD)(w:aY):(callFunc 148 [str a,str b].toArray).run bK w = .ok (.value<|vi<|Lib.compareBytes a.cY b.cY) w:=Gl Extern.BytealgCompare.compare Tryz.func148<|Lib.run_compareString _ _ w
def PB:fB bK 38:=fO Tryz.func38
def Tf:fB bK 73:=fO Tryz.func73
def FP(a:cD)(b:Int)(w:aY):(callFunc 247 [str a,(.int .u8 b)].toArray).run bK w = .ok (.value<|vi ((Lib.countByte a.cY (Int.toNat b).toUInt8:Nat):Int)) w:=Gl Extern.BytealgCount.count Tryz.func247<|Lib.run_countString _ _ w
def Sk:fB bK 229:=fO Tryz.func229
def Ry:w9 bK 38 9 1 16:=w9.of<|.string ⟨#[]⟩
def X3:Mi bK 9 (⟨[]⟩:cD):=Mi.of (.string ⟨#[]⟩)<|λM=>rfl
def CA:zx bK 38 9 1:=H2
def PC:fB bK 121:=fO Tryz.func121
def Ic:Tryz.prog.underlying 38=some (.slice 9):=by kernel_rfl
def Tg:fB bK 62:=fO Tryz.func62
def mJ:oE bK 26 1 1:=qB
def vX:oh bK 24 false 1:=w8
def GC:Tryz.prog.underlying 24=some (.slice 57):=by kernel_rfl
def zz:zx bK 24 57 3:=H2
def Ex:oh bK 57 true 3:=w8
def N6:Gf bK 57 3:=H7<|.agg #[(.string ⟨#[]⟩),n_,n_]
def wK:oE bK 57 0 0:=qB
def qN:oE bK 57 1 1:=qB
def qZ:oh bK 39 false 1:=w8
def q6:Tryz.prog.underlying 39=some (.slice 55):=by kernel_rfl
def ij:oh bK 55 true 2:=w8
def si:oE bK 55 0 0:=qB
def wL:oE bK 55 1 1:=qB
def n8:zx bK 39 55 2:=H2
def tN:Gf bK 55 2:=H7<|.agg #[(.string ⟨#[]⟩),(.string ⟨#[]⟩)]
def Rz:fB bK 14:=fO Tryz.func14
def Nt:S3 bK 55 bC:=⟨λM cs ds a b w ha hb=>by
  obtain⟨_,_,rfl,rfl,rfl⟩:=ha
  obtain⟨_,_,rfl,rfl,rfl⟩:=hb
  refine(s9 9999 Tryz.underlying55<|Mh.cons (by decide) (iZ lI rfl _) (iZ lI rfl _) (Cq Cz _ _ w)<|Mh.cons (by decide) (iZ lI rfl _) (iZ lI rfl _) (Cq Cz _ _ w) Mh.nil).trans ?_
  congr 1
  cases a;cases b;unfold Bc
  rw[fY]
  simp,by kernel_rfl⟩
def Sm:Ep bK 55 bC:=Ep.struct Tryz.underlying55 rfl Nt (λk=>(Sf.cons (by decide) (iZ lI rfl) (λb w=>MapKept.run_checkKey Cz (k:=Gk.str k.Part) trivial b 9998) (Sf.cons (by decide) (iZ lI rfl) (λb w=>MapKept.run_checkKey Cz (k:=Gk.str k.bC) trivial b 9998) Sf.nil))) (λk x hx=>by
  have hx:x∈[Sc.toV k.Part,Sc.toV k.bC]:=hx
  simp only[eJ,List.not_mem_nil,or_false]at hx
  rcases hx with rfl|rfl
  · exact MapKept.sameBits_self (d:= .string) (k:=Gk.str k.Part) trivial _
  · exact MapKept.sameBits_self (d:= .string) (k:=Gk.str k.bC) trivial _)
def PD:Jm bK 50 55 4 bC Bool (false:Bool):=⟨by kernel_rfl,Sm,F4 (.bool false)<|λM=>⟨_,rfl,rfl⟩⟩
def PE:oE bK 57 2 2:=qB
def RA:oh bK 38 false 1:=w8
def pU:oE bK 32 0 0:=qB
def t5:oh bK 27 false 1:=w8
def vm:Tryz.prog.underlying 27=some (.slice 28):=by kernel_rfl
def Jx:oE bK 32 1 1:=qB
def zA:oh bK 28 false 1:=w8
def qO:Tryz.prog.underlying 28=some (.slice 95):=by kernel_rfl
def Af:zx bK 27 28 1:=H2
def kz:zx bK 28 95 4:=H2
def jK:oh bK 95 true 4:=w8
def sj:Gf bK 95 4:=H7<|.agg #[(.int .i64 0),(.int .i64 0),(.int .i64 0),(.int .i64 0)]
def jq:oE bK 95 0 0:=qB
def II:fB bK 106:=fO Tryz.func106
def jf:oE bK 95 1 1:=qB
def kA:oE bK 95 2 2:=qB
def mK:oE bK 95 3 3:=qB
def Sn:fB bK 116:=fO Tryz.func116
def GD:w9 bK 28 95 4 32:=w9.of<|.agg #[(.int .i64 0),(.int .i64 0),(.int .i64 0),(.int .i64 0)]
def So:fB bK 108:=fO Tryz.func108
def Ut:V1 bK 66 [n_]:=⟨n_,λ_=>by kernel_rfl,rfl⟩
def gF:oh bK 66 false 1:=w8
def eR:zx bK 66 3 1:=H2
def Jy:Gf bK 3 1:=H7<|.int .i64 0
def vn:w9 bK 66 3 1 8:=w9.of<|.int .i64 0
def pd:Tryz.prog.underlying 66=some (.slice 3):=by kernel_rfl
def Uv:Mi bK 3 (0:Int):=Mi.of (.int .i64 0)<|λM=>rfl
def Sp:fB bK 174:=fO Tryz.func174
def Wo:Mi bK 95 (⟨0,0,0,0⟩:aJ):=Mi.of (.agg #[(.int .i64 0),(.int .i64 0),(.int .i64 0),(.int .i64 0)])<|λM=>yk M
def Sq:BE bK 182 [(0,1),(1,1),(2,1)] #[(.int .i64 0),(.int .i64 0),n_]:=BE.of (.agg #[(.int .i64 0),(.int .i64 0),n_]) Tryz.underlying182
def py:oE bK 182 2 2:=qB
def ry:oE bK 182 1 1:=qB
def ux:oE bK 182 0 0:=qB
def uk:Tryz.prog.underlying 137=some (.slice 182):=by kernel_rfl
def oH:zx bK 137 182 3:=H2
def DB:oh bK 182 true 3:=w8
def KX:Gf bK 182 3:=H7<|.agg #[(.int .i64 0),(.int .i64 0),n_]
def UD:w9 bK 137 182 3 40:=w9.of<|.agg #[(.int .i64 0),(.int .i64 0),n_]
def Sr:fB bK 114:=fO Tryz.func114
def PF:fB bK 58:=fO Tryz.func58
def KY:BE bK 95 [(0,1),(1,1),(2,1),(3,1)] #[(.int .i64 0),(.int .i64 0),(.int .i64 0),(.int .i64 0)]:=BE.of (.agg #[(.int .i64 0),(.int .i64 0),(.int .i64 0),(.int .i64 0)]) Tryz.underlying95
def PH:fB bK 127:=fO Tryz.func127
def PI:S3 bK 95 aJ:=⟨λM cs ds a b w ha hb=>by
  obtain⟨_,_,rfl,rfl,⟨_,_,rfl,rfl,⟨_,_,rfl,rfl,rfl⟩⟩⟩:=ha
  obtain⟨_,_,rfl,rfl,⟨_,_,rfl,rfl,⟨_,_,rfl,rfl,rfl⟩⟩⟩:=hb
  refine(s9 9999 Tryz.underlying95<|Mh.cons (by decide) (iZ cT rfl _) (iZ cT rfl _) (rA L9 _ _ w)<|Mh.cons (by decide) (iZ cT rfl _) (iZ cT rfl _) (rA L9 _ _ w)<|Mh.cons (by decide) (iZ cT rfl _) (iZ cT rfl _) (rA L9 _ _ w)<|Mh.cons (by decide) (iZ cT rfl _) (iZ cT rfl _) (rA L9 _ _ w) Mh.nil).trans ?_
  congr 1
  cases a;cases b;unfold qY
  rw[fY]
  simp,by kernel_rfl⟩
def UG:fB bK 66:=fO Tryz.func66
def jr:oE bK 32 2 2:=qB
def rE:oh bK 29 false 1:=w8
def CB:Tryz.prog.underlying 29=some (.slice 99):=by kernel_rfl
def vo:zx bK 29 99 6:=H2
def pf:oh bK 99 true 6:=w8
def Mt:Gf bK 99 6:=H7<|.agg #[(.int .i64 0),(.int .i64 0),(.int .i64 0),(.int .i64 0),(.int .i64 0),(.bool false)]
def wM:oE bK 99 1 2:=qB
def RB:fB bK 55:=fO Tryz.func55
def Ey:oE bK 99 0 0:=qB
def KZ:oh bK 75 true 2:=w8
def CC:oE bK 75 0 0:=qB
def CD:oE bK 75 1 1:=qB
def UH:fB bK 56:=fO Tryz.func56
def N7:fB bK 57:=fO Tryz.func57
def UJ:fB bK 30:=fO Tryz.func30
def t6:oE bK 99 2 3:=qB
def wN:oE bK 99 3 4:=qB
def ot:oE bK 32 3 3:=qB
def ym:oh bK 30 false 1:=w8
def Ie:Tryz.prog.underlying 30=some (.slice 77):=by kernel_rfl
def DC:zx bK 30 77 5:=H2
def t7:oh bK 77 true 5:=w8
def N8:Gf bK 77 5:=H7<|.agg #[(.string ⟨#[]⟩),(.string ⟨#[]⟩),(.int .i64 0),(.int .i64 0),(.int .i64 0)]
def wO:oE bK 77 0 0:=qB
def Ag:oE bK 77 1 1:=qB
def Ez:oE bK 77 2 2:=qB
def EA:oE bK 77 3 3:=qB
def RD:BE bK 55 [(0,1),(1,1)] #[(.string ⟨#[]⟩),(.string ⟨#[]⟩)]:=BE.of (.agg #[(.string ⟨#[]⟩),(.string ⟨#[]⟩)]) Tryz.underlying55
def N9:fB bK 18:=fO Tryz.func18
def Ss:fB bK 128:=fO Tryz.func128
def Wt:BE bK 69 [(0,4),(4,1),(5,1),(6,1),(7,1),(8,1),(9,1),(10,1),(11,1)] #[n_,n_,n_,n_,n_,n_,n_,n_,n_,n_,n_,n_]:=BE.of (.agg #[n_,n_,n_,n_,n_,n_,n_,n_,n_,n_,n_,n_]) Tryz.underlying69
def yn:oE bK 69 0 0:=qB
def PK:fB bK 129:=fO Tryz.func129
def PL:zx bK 62 137 1:=H2
def PM:Gf bK 137 1:=H7<|.slice none 0 0
def UK:Tryz.prog.underlying 62=some (.slice 137):=by kernel_rfl
def St:oh bK 137 false 1:=w8
def Su:fB bK 230:=fO Tryz.func230
def X4:Tryz.prog.underlying 4=some (.bool):=by kernel_rfl
def PN:oE bK 69 1 4:=qB
def UQ:oh bK 62 false 1:=w8
def UR:w9 bK 62 137 1 24:=w9.of<|.slice none 0 0
def PO:fB bK 188:=fO Tryz.func188
def GF:Jm bK 112 3 3 Int Int (0:Int):=⟨by kernel_rfl,Ep.int L9,F4 (.int .i64 0)<|λM=>⟨_,rfl,rfl⟩⟩
def Th:Gf bK 28 1:=H7<|.slice none 0 0
def PQ:w9 bK 27 28 1 24:=w9.of<|.slice none 0 0
def EB:oE bK 69 2 5:=qB
def Oa:oh bK 63 false 1:=w8
def UT:BE bK 196 [(0,1),(1,1),(2,1)] #[(.int .i64 0),n_,n_]:=BE.of (.agg #[(.int .i64 0),n_,n_]) Tryz.underlying196
def Ti:zx bK 63 196 3:=H2
def PR:Gf bK 196 3:=H7<|.agg #[(.int .i64 0),n_,n_]
def Wu:w9 bK 63 196 3 56:=w9.of<|.agg #[(.int .i64 0),n_,n_]
def RE:Tryz.prog.underlying 63=some (.slice 196):=by kernel_rfl
def Nu:oh bK 196 true 3:=w8
def EC:oE bK 99 4 5:=qB
def GG:oh bK 4 false 1:=w8
def Nv:oE bK 196 0 0:=qB
def Nw:oE bK 196 2 2:=qB
def Sv:fB bK 133:=fO Tryz.func133
def Mu:oE bK 69 3 6:=qB
def FU:oh bK 64 false 1:=w8
def GH:zx bK 64 66 1:=H2
def Tj:Gf bK 66 1:=H7<|.slice none 0 0
def Tk:w9 bK 64 66 1 24:=w9.of<|.slice none 0 0
def UX:BE bK 240 [(0,1)] #[n_]:=BE.of (.agg #[n_]) Tryz.underlying240
def uy:oE bK 240 0 0:=qB
def Ob:Tryz.prog.underlying 64=some (.slice 66):=by kernel_rfl
def PT:fB bK 189:=fO Tryz.func189
def Mv:oE bK 69 5 8:=qB
def Jz:oE bK 69 6 9:=qB
def Tl:V1 bK 71 [n_,n_,n_]:=⟨(.agg #[n_,n_,n_]),λ_=>by kernel_rfl,rfl⟩
def CE:oE bK 69 4 7:=qB
def uz:oh bK 65 false 1:=w8
def Oc:Tryz.prog.underlying 65=some (.slice 71):=by kernel_rfl
def yo:oE bK 71 0 0:=qB
def CF:oE bK 71 1 1:=qB
def K0:oh bK 71 true 3:=w8
def BH:zx bK 65 71 3:=H2
def RF:Gf bK 71 3:=H7<|.agg #[n_,n_,n_]
def Tm:w9 bK 65 71 3 72:=w9.of<|.agg #[n_,n_,n_]
def IJ:Gf bK 169 2:=H7<|.agg #[(.bool false),(.int .i64 0)]
def Sw:fB bK 190:=fO Tryz.func190
def IK:BE bK 169 [(0,1),(1,1)] #[(.bool false),(.int .i64 0)]:=BE.of (.agg #[(.bool false),(.int .i64 0)]) Tryz.underlying169
def sm:oh bK 169 true 2:=w8
def yp:oE bK 169 0 0:=qB
def wv:oE bK 169 1 1:=qB
def CG:oE bK 71 2 2:=qB
def zB:w9 bK 39 55 2 32:=w9.of<|.agg #[(.string ⟨#[]⟩),(.string ⟨#[]⟩)]
def Mw:oE bK 69 7 10:=qB
def PU:oE bK 69 8 11:=qB
def U4:oh bK 67 false 1:=w8
def Wx:zx bK 67 169 2:=H2
def Wy:w9 bK 67 169 2 16:=w9.of<|.agg #[(.bool false),(.int .i64 0)]
def RG:Jm bK 48 55 3 bC Int (0:Int):=⟨by kernel_rfl,Sm,F4 (.int .i64 0)<|λM=>⟨_,rfl,rfl⟩⟩
def U5:fB bK 10:=fO Tryz.func10
def WB:BE bK 52 [(0,2),(2,1),(3,1)] #[n_,n_,(.map none),(.map none)]:=BE.of (.agg #[n_,n_,(.map none),(.map none)]) Tryz.underlying52
def WC:V1 bK 52 [n_,n_,(.map none),(.map none)]:=⟨(.agg #[n_,n_,(.map none),(.map none)]),λ_=>by kernel_rfl,rfl⟩
def Tn:oh bK 52 true 4:=w8
def Mx:oE bK 52 2 3:=qB
def Tp:oh bK 50 false 1:=w8
def U6:fB bK 12:=fO Tryz.func12
def K1:BE bK 41 [(0,1),(1,1),(2,1)] #[(.int .i64 0),n_,n_]:=BE.of (.agg #[(.int .i64 0),n_,n_]) Tryz.underlying41
def Ig:zx bK 33 41 3:=H2
def Ih:Gf bK 41 3:=H7<|.agg #[(.int .i64 0),n_,n_]
def K2:w9 bK 33 41 3 56:=w9.of<|.agg #[(.int .i64 0),n_,n_]
def IL:Tryz.prog.underlying 111=some (.slice 39):=by kernel_rfl
def DD:zx bK 111 39 1:=H2
def U7:Gf bK 39 1:=H7<|.slice none 0 0
def Sx:w9 bK 111 39 1 24:=w9.of<|.slice none 0 0
def WJ:Mi bK 55 (⟨⟨[]⟩,⟨[]⟩⟩:bC):=Mi.of (.agg #[(.string ⟨#[]⟩),(.string ⟨#[]⟩)])<|λM=>KU M
def WN:Gf bK 9 1:=H7<|.string ⟨#[]⟩
def PV:oE bK 52 1 2:=qB
def U8:oh bK 48 false 1:=w8
def Tq:oE bK 52 0 0:=qB
def U9:Jm bK 114 9 4 cD Bool (false:Bool):=⟨by kernel_rfl,Ep.str Cz,F4 (.bool false)<|λM=>⟨_,rfl,rfl⟩⟩
def Va:Tryz.prog.underlying 114=some (.map 9 4):=by kernel_rfl
def PW:fB bK 152:=fO Tryz.func152
def PX:fB bK 151:=fO Tryz.func151
def Vb:fB bK 90:=fO Tryz.func90
def Vc:fB bK 91:=fO Tryz.func91
def B6:fB bK 160:=fO Tryz.func160
def Sy:fB bK 157:=fO Tryz.func157
def IM:fB bK 204:=fO Tryz.func204
def Sz:fB bK 164:=fO Tryz.func164
def SA:BE bK 255 [(0,1),(1,1)] #[(.int .i64 0),(.int .i64 0)]:=BE.of (.agg #[(.int .i64 0),(.int .i64 0)]) Tryz.underlying255
def B7:Tryz.prog.underlying 215=some (.slice 255):=by kernel_rfl
def sU:zx bK 215 255 2:=H2
def uA:oE bK 255 1 1:=qB
def uB:oE bK 255 0 0:=qB
def Ny:oh bK 255 true 2:=w8
def SB:Gf bK 255 2:=H7<|.agg #[(.int .i64 0),(.int .i64 0)]
def PY:w9 bK 215 255 2 16:=w9.of<|.agg #[(.int .i64 0),(.int .i64 0)]
def SC:fB bK 206:=fO Tryz.func206
def Nz:fB bK 166:=fO Tryz.func166
def SD:BE bK 218 [(0,1),(1,1),(2,1)] #[(.int .i64 0),(.int .i64 0),n_]:=BE.of (.agg #[(.int .i64 0),(.int .i64 0),n_]) Tryz.underlying218
def Bg:oE bK 218 2 2:=qB
def IP:oh bK 215 false 1:=w8
def SE:Tryz.prog.underlying 213=some (.slice 218):=by kernel_rfl
def DE:zx bK 213 218 3:=H2
def F6:oE bK 218 1 1:=qB
def NA:oE bK 218 0 0:=qB
def Tr:S3 bK 255 aF:=⟨λM cs ds a b w ha hb=>by
  obtain⟨_,_,rfl,rfl,rfl⟩:=ha
  obtain⟨_,_,rfl,rfl,rfl⟩:=hb
  refine(s9 9999 Tryz.underlying255<|Mh.cons (by decide) (iZ cT rfl _) (iZ cT rfl _) (rA L9 _ _ w)<|Mh.cons (by decide) (iZ cT rfl _) (iZ cT rfl _) (rA L9 _ _ w) Mh.nil).trans ?_
  congr 1
  cases a;cases b;unfold iQ
  rw[fY]
  simp,by kernel_rfl⟩
def Vk:oh bK 218 true 3:=w8
def Vl:Gf bK 218 3:=H7<|.agg #[(.int .i64 0),(.int .i64 0),n_]
def Vm:w9 bK 213 218 3 40:=w9.of<|.agg #[(.int .i64 0),(.int .i64 0),n_]
def SF:fB bK 165:=fO Tryz.func165
def SG:fB bK 167:=fO Tryz.func167
def PZ:fB bK 100:=fO Tryz.func100
def Vo:fB bK 95:=fO Tryz.func95
def P0:fB bK 97:=fO Tryz.func97
def SI:fB bK 159:=fO Tryz.func159
def Od:fB bK 47:=fO Tryz.func47
def SJ:fB bK 162:=fO Tryz.func162
def RH:fB bK 50:=fO Tryz.func50
def P3:fB bK 207:=fO Tryz.func207
def Vs:fB bK 48:=fO Tryz.func48
def P4:w9 bK 165 4 1 1:=w9.of<|.bool false
def W9:Mi bK 4 (false:Bool):=Mi.of (.bool false)<|λM=>rfl
def B8:zx bK 165 4 1:=H2
def Vv:fB bK 49:=fO Tryz.func49
def Xb:BE bK 88 [(0,4),(4,1),(5,1),(6,1),(7,1)] #[n_,n_,n_,n_,n_,n_,n_,n_]:=BE.of (.agg #[n_,n_,n_,n_,n_,n_,n_,n_]) Tryz.underlying88
def GI:oE bK 88 1 4:=qB
def Ah:oE bK 88 2 5:=qB
def yq:oE bK 88 4 7:=qB
def pV:oE bK 88 3 6:=qB
def Vw:BE bK 71 [(0,1),(1,1),(2,1)] #[n_,n_,n_]:=BE.of (.agg #[n_,n_,n_]) Tryz.underlying71
def GJ:fB bK 168:=fO Tryz.func168
def SK:fB bK 169:=fO Tryz.func169
def yr:oE bK 88 0 0:=qB
def SL:fB bK 170:=fO Tryz.func170
def SM:fB bK 104:=fO Tryz.func104
def SN:fB bK 105:=fO Tryz.func105
def Vy:fB bK 54:=fO Tryz.func54
def Vz:fB bK 22:=fO Tryz.func22
def VA:fB bK 25:=fO Tryz.func25
def Ts:Tryz.prog.underlying 33=some (.slice 41):=by kernel_rfl
def Oe:oh bK 41 true 3:=w8
def P5:oE bK 41 0 0:=qB
def P6:oE bK 41 1 1:=qB
def P7:oE bK 41 2 2:=qB
def Xm:BE bK 99 [(0,2),(2,1),(3,1),(4,1),(5,1)] #[(.int .i64 0),(.int .i64 0),(.int .i64 0),(.int .i64 0),(.int .i64 0),(.bool false)]:=BE.of (.agg #[(.int .i64 0),(.int .i64 0),(.int .i64 0),(.int .i64 0),(.int .i64 0),(.bool false)]) Tryz.underlying99
def gV(E:aY)(V:Z HP)(res:Z aJ)(v:aW)(w:aY):Prop:=Holds E w<|[own 95 v res]++V
def pW(E:aY)(V:Z HP)(res:Z Int)(v:aW)(w:aY):Prop:=Holds E w<|[own 3 v res]++V
def qC(E:aY)(V:Z HP)(res:Z aB)(v:aW)(w:aY):Prop:=Holds E w<|[own 182 v res]++V
def nS(E:aY)(V:Z HP)(res:Z bC)(v:aW)(w:aY):Prop:=Holds E w<|[own 55 v res]++V
def xm(E:aY)(V:Z HP)(res:Z cI×Int)(v:aW)(w:aY):Prop:=∃u0:aW,v = .tuple #[u0,vi res.2]/\Holds E w ([own 41 u0 res.1]++V)
def wP(E:aY)(V:Z HP)(res:aV (Z (Z aJ)×Z aJ×Z cL×Z eQ×Z (Z aB)×Z aL×Z (Z Int)×Z bG×Z Int×Z Int×Z Int×Z ld)×Int)(v:aW)(w:aY):Prop:=O8 res.1 (v = .tuple #[(.pointer none),vi res.2]/\Holds E w V) (λy=>∃(ub0:Nat)(y_ E_:aW)(F_ L_:aW)(G_ H_:aW)(B_ I_:aW)(M_ N_:aW)(O_ P_:aW),v = .tuple #[vp ub0 0,vi res.2]/\Holds E w ([bc 69 ub0 [y_,E_,F_,L_,G_,H_,B_,I_,M_,N_,O_,P_],rd y_ y.1,rd E_ y.2.1,rd F_ y.2.2.1,rd L_ y.2.2.2.1,own 137 G_ y.2.2.2.2.1,rd H_ y.2.2.2.2.2.1,rd B_ y.2.2.2.2.2.2.1,own 71 I_ y.2.2.2.2.2.2.2.1,rd M_ y.2.2.2.2.2.2.2.2.1,rd N_ y.2.2.2.2.2.2.2.2.2.1,own 3 O_ y.2.2.2.2.2.2.2.2.2.2.1,own 169 P_ y.2.2.2.2.2.2.2.2.2.2.2]++V))
def aD(E:aY)(V:Z HP)(res:Int)(v:aW)(w:aY):Prop:=v= vi res/\Holds E w V
def aN(E:aY)(V:Z HP)(res:Bool)(v:aW)(w:aY):Prop:=v= vb res/\Holds E w V
def eX(E:aY)(V:Z HP)(res:Int×Bool)(v:aW)(w:aY):Prop:=v = .tuple #[vi res.1,vb res.2]/\Holds E w V
def vq(E:aY)(V:Z HP)(res:Z cD)(v:aW)(w:aY):Prop:=Holds E w<|[own 9 v res]++V
def iH(E:aY)(V:Z HP)(b0:Nat)(d_ f_:aW)(a_ b_:aW)(h_ e_ g_:aW)(us0_6:Z bH)(r_:Z bG)(i_:aW)(res:Int)(v:aW)(w:aY):Prop:=v= vi res/\Holds E w ([bc 88 b0 [d_,f_,a_,b_,h_,e_,g_,i_],own 71 g_ us0_6,gU bN us0_6 r_ none]++V)
def j5(E:aY)(V:Z HP)(b0:Nat)(d_ f_:aW)(a_ b_:aW)(h_ e_:aW)(g_ i_:aW)(res:Int)(v:aW)(w:aY):Prop:=v= vi res/\Holds E w ([bc 88 b0 [d_,f_,a_,b_,h_,e_,g_,i_]]++V)
def sq(E:aY)(V:Z HP)(res:aJ)(v:aW)(w:aY):Prop:=Holds E w<|[rd v res]++V
def qP(E:aY)(V:Z HP)(res:Z Int)(v:aW)(w:aY):Prop:=Holds E w<|[rd v res]++V
def ou(E:aY)(V:Z HP)(res:Z aF)(v:aW)(w:aY):Prop:=Holds E w<|[own 255 v res]++V
def su(E:aY)(V:Z HP)(res:Z (Z aJ))(v:aW)(w:aY):Prop:=Holds E w<|[own 28 v res]++V
def BJ(H:Type)(d:DataW H):Nat:=YtghimbiinlfehaaGreatDoor.Rows.uptoBulk d
def VD(H:Type)(d:List (DataW H)):Nat:=YtghimbiinlfehaaGreatDoor.Rows.uptoBulkAll d
def fS:UB BJ VD where
  str:=λH b=>by simp[BJ,YtghimbiinlfehaaGreatDoor.Rows.uptoBulk]
  pos:=λH d=>by
    unfold BJ
    cases d with
    |lit l=>cases l <;> simp[YtghimbiinlfehaaGreatDoor.Rows.uptoBulk]
    |nil=>simp[YtghimbiinlfehaaGreatDoor.Rows.uptoBulk]
    |ptr d=>simp[YtghimbiinlfehaaGreatDoor.Rows.uptoBulk]
    |slice elems spare=>simp[YtghimbiinlfehaaGreatDoor.Rows.uptoBulk]
    |agg parts=>simp[YtghimbiinlfehaaGreatDoor.Rows.uptoBulk]
    |iface t d=>simp[YtghimbiinlfehaaGreatDoor.Rows.uptoBulk]
    |map entries=>simp[YtghimbiinlfehaaGreatDoor.Rows.uptoBulk]
    |held h=>simp[YtghimbiinlfehaaGreatDoor.Rows.uptoBulk]
  sl:=λH e s=>by simp[BJ,VD,YtghimbiinlfehaaGreatDoor.Rows.uptoBulk]
  ag:=λH l=>by simp[BJ,VD,YtghimbiinlfehaaGreatDoor.Rows.uptoBulk]
  nil:=λH=>by simp[VD,YtghimbiinlfehaaGreatDoor.Rows.uptoBulkAll]
  cons:=λH x l=>by simp[BJ,VD,YtghimbiinlfehaaGreatDoor.Rows.uptoBulkAll]
def Q9:kd BJ Tryz.prog 9 cD:=Oj fS (by kernel_rfl)
def Pa:kd BJ Tryz.prog 3 Int:=Oi fS (by kernel_rfl)
def VE:kd BJ Tryz.prog 133 dM:=j7 fS (λ(x:dM)=>(x.Name,x.Kind,x.bG)) (λb=>⟨b.1,b.2.1,b.2.2⟩) (λb=>rfl) Tryz.underlying133 (fK fS Q9<|fK fS Pa<|nV fS Pa) (λb=>by simp only[CH];omega)
def VF:kd BJ Tryz.prog 129 (Z dM):=nA (e:=133) fS VE
def VG:kd BJ Tryz.prog 131 aS:=j7 fS (λ(x:aS)=>(x.Name,x.aT)) (λb=>⟨b.1,b.2⟩) (λb=>rfl) Tryz.underlying131 (fK fS Q9<|nV fS VF) (λb=>by simp only[pX];omega)
def Xn:kd BJ Tryz.prog 22 (Z aS):=nA (e:=131) fS VG
def VH:kd BJ Tryz.prog 102 Part:=j7 fS (λ(x:Part)=>(x.Name,x.jR)) (λb=>⟨b.1,b.2⟩) (λb=>rfl) Tryz.underlying102 (fK fS Q9<|nV fS Q9) (λb=>by simp only[JF];omega)
def Xo:kd BJ Tryz.prog 23 (Z Part):=nA (e:=102) fS VH
def Xp:kd BJ Tryz.prog 55 bC:=j7 fS (λ(x:bC)=>(x.Part,x.bC)) (λb=>⟨b.1,b.2⟩) (λb=>rfl) Tryz.underlying55 (fK fS Q9<|nV fS Q9) (λb=>by simp only[Tt];omega)
def Xq:kd BJ Tryz.prog 39 (Z bC):=nA (e:=55) fS Xp
def Xr:kd BJ Tryz.prog 38 (Z cD):=nA (e:=9) fS Q9
def Xt:kd BJ Tryz.prog 57 Net:=j7 fS (λ(x:Net)=>(x.Name,x.aT,x.uj)) (λb=>⟨b.1,b.2.1,b.2.2⟩) (λb=>rfl) Tryz.underlying57 (fK fS Q9<|fK fS Xq<|nV fS Xr) (λb=>by simp only[GS];omega)
def Xu:kd BJ Tryz.prog 24 (Z Net):=nA (e:=57) fS Xt
def Xv:kd BJ Tryz.prog 26 cA:=j7 fS (λ(x:cA)=>(x.cR,x.bT)) (λb=>⟨b.1,b.2⟩) (λb=>rfl) Tryz.underlying26 (fK fS Xo<|nV fS Xu) (λb=>by simp only[yv];omega)
def Xw:kd BJ Tryz.prog 95 aJ:=j7 fS (λ(x:aJ)=>(x.X0,x.Y0,x.X1,x.Y1)) (λb=>⟨b.1,b.2.1,b.2.2.1,b.2.2.2⟩) (λb=>rfl) Tryz.underlying95 (fK fS Pa<|fK fS Pa<|fK fS Pa<|nV fS Pa) (λb=>by simp only[RK];omega)
def VI:kd BJ Tryz.prog 28 (Z aJ):=nA (e:=95) fS Xw
def Xx:kd BJ Tryz.prog 27 (Z<|Z aJ):=nA (e:=28) fS VI
def VJ:kd BJ Tryz.prog 75 kF:=j7 fS (λ(x:kF)=>(x.X,x.Y)) (λb=>⟨b.1,b.2⟩) (λb=>rfl) Tryz.underlying75 (fK fS Pa<|nV fS Pa) (λb=>by simp only[Qb];omega)
def Yb:kd BJ Tryz.prog 4 Bool:=MA fS (by kernel_rfl)
def Xy:kd BJ Tryz.prog 99 cL:=j7 fS (λ(x:cL)=>(x.At,x.eC,x.dS,x.To,x.il)) (λb=>⟨b.1,b.2.1,b.2.2.1,b.2.2.2.1,b.2.2.2.2⟩) (λb=>rfl) Tryz.underlying99 (fK fS VJ<|fK fS Pa<|fK fS Pa<|fK fS Pa<|nV fS Yb) (λb=>by simp only[RM];omega)
def Xz:kd BJ Tryz.prog 29 (Z cL):=nA (e:=99) fS Xy
def XA:kd BJ Tryz.prog 77 eQ:=j7 fS (λ(x:eQ)=>(x.Part,x.bC,x.dW,x.At)) (λb=>⟨b.1,b.2.1,b.2.2.1,b.2.2.2⟩) (λb=>rfl) Tryz.underlying77 (fK fS Q9<|fK fS Q9<|fK fS Pa<|nV fS VJ) (λb=>by simp only[NF];omega)
def XB:kd BJ Tryz.prog 30 (Z eQ):=nA (e:=77) fS XA
def XC:kd BJ Tryz.prog 32 lj:=j7 fS (λ(x:lj)=>(x.aP,x.dF,x.aZ,x.bW)) (λb=>⟨b.1,b.2.1,b.2.2.1,b.2.2.2⟩) (λb=>rfl) Tryz.underlying32 (fK fS Xx<|fK fS VI<|fK fS Xz<|nV fS XB) (λb=>by simp only[Qc];omega)
end Go.Gk
namespace Go.Proofs
open Go.Shelf Go.RowKit Go.Lib Go.Sort
theorem layq{α:Type _}{a b:α}(h:a=b:=by kernel_rfl):some a=some b:=congrArg some h
def Tryz.lay108_ren : Go.Shelf.Ren := ⟨fun|6=>108|15=>37|14=>172|28=>82|29=>83|20=>208|21=>209|22=>210|23=>211|24=>212|25=>213|26=>214|27=>215|46=>237|47=>144|48=>145|49=>238|50=>239|57=>250|n=>n,fun|22=>28|24=>95|25=>144|3=>3|39=>109|0=>0|53=>154|55=>156|4=>4|46=>148|45=>147|50=>104|5=>5|9=>9|66=>203|70=>207|76=>241|77=>242|n=>n,fun|n=>n⟩
section open Tryz
theorem Tryz.lay108:Go.Proofs.SlLaysF0.n6 Tryz.prog Tryz.lay108_ren:=⟨by kernel_rfl,⟨f108.name,by decide,func108.trans layq⟩,⟨f172.name,by decide,func172.trans layq⟩,func37.trans layq,⟨f208.name,by decide,func208.trans layq⟩,⟨f209.name,by decide,func209.trans layq⟩,⟨f210.name,by decide,func210.trans layq⟩,⟨f211.name,by decide,func211.trans layq⟩,⟨f212.name,by decide,func212.trans layq⟩,⟨f213.name,by decide,func213.trans layq⟩,⟨f214.name,by decide,func214.trans layq⟩,⟨f215.name,by decide,func215.trans layq⟩,func82.trans layq,func83.trans layq,⟨f237.name,by decide,func237.trans layq⟩,func144.trans layq,func145.trans layq,⟨f238.name,by decide,func238.trans layq⟩,⟨f239.name,by decide,func239.trans layq⟩,⟨f250.name,by decide,func250.trans layq⟩,underlying0,isAgg0,sizeOf0,zeroValue0,underlying3,isAgg3,sizeOf3,zeroValue3,underlying4,isAgg4,sizeOf4,zeroValue4,underlying5,isAgg5,sizeOf5,zeroValue5,underlying9,isAgg9,sizeOf9,zeroValue9,underlying28,isAgg28,sizeOf28,zeroValue28,underlying144,isAgg144,sizeOf144,zeroValue144,underlying109,isAgg109,sizeOf109,zeroValue109,underlying147,isAgg147,sizeOf147,zeroValue147,underlying148,isAgg148,sizeOf148,zeroValue148,underlying104,isAgg104,sizeOf104,zeroValue104,underlying154,isAgg154,sizeOf154,zeroValue154,underlying156,isAgg156,sizeOf156,zeroValue156,underlying203,isAgg203,sizeOf203,zeroValue203,underlying207,isAgg207,sizeOf207,zeroValue207,underlying241,isAgg241,sizeOf241,zeroValue241,underlying242,isAgg242,sizeOf242,zeroValue242⟩
end
def Tryz.lay110_ren : Go.Shelf.Ren := ⟨fun|5=>110|8=>37|7=>173|19=>82|20=>83|10=>216|11=>217|12=>218|13=>219|14=>220|15=>221|16=>222|17=>223|18=>224|30=>240|31=>144|32=>145|33=>241|34=>242|35=>243|40=>251|n=>n,fun|23=>66|25=>3|3=>3|32=>109|22=>66|0=>0|44=>154|46=>156|4=>4|36=>148|35=>147|41=>104|5=>5|9=>9|53=>203|57=>207|63=>241|64=>242|n=>n,fun|n=>n⟩
section open Tryz
theorem Tryz.lay110:Go.Proofs.SlLaysM.n5 Tryz.prog Tryz.lay110_ren:=⟨by kernel_rfl,⟨f110.name,by decide,func110.trans layq⟩,⟨f173.name,by decide,func173.trans layq⟩,func37.trans layq,⟨f216.name,by decide,func216.trans layq⟩,⟨f217.name,by decide,func217.trans layq⟩,⟨f218.name,by decide,func218.trans layq⟩,⟨f219.name,by decide,func219.trans layq⟩,⟨f220.name,by decide,func220.trans layq⟩,⟨f221.name,by decide,func221.trans layq⟩,⟨f222.name,by decide,func222.trans layq⟩,⟨f223.name,by decide,func223.trans layq⟩,⟨f224.name,by decide,func224.trans layq⟩,func82.trans layq,func83.trans layq,⟨f240.name,by decide,func240.trans layq⟩,func144.trans layq,func145.trans layq,⟨f241.name,by decide,func241.trans layq⟩,⟨f242.name,by decide,func242.trans layq⟩,⟨f243.name,by decide,func243.trans layq⟩,⟨f251.name,by decide,func251.trans layq⟩,underlying0,isAgg0,sizeOf0,zeroValue0,underlying3,isAgg3,sizeOf3,zeroValue3,underlying4,isAgg4,sizeOf4,zeroValue4,underlying5,isAgg5,sizeOf5,zeroValue5,underlying9,isAgg9,sizeOf9,zeroValue9,underlying66,isAgg66,sizeOf66,zeroValue66,underlying66,isAgg66,sizeOf66,zeroValue66,underlying3,isAgg3,sizeOf3,zeroValue3,underlying109,isAgg109,sizeOf109,zeroValue109,underlying147,isAgg147,sizeOf147,zeroValue147,underlying148,isAgg148,sizeOf148,zeroValue148,underlying104,isAgg104,sizeOf104,zeroValue104,underlying154,isAgg154,sizeOf154,zeroValue154,underlying156,isAgg156,sizeOf156,zeroValue156,underlying203,isAgg203,sizeOf203,zeroValue203,underlying207,isAgg207,sizeOf207,zeroValue207,underlying241,isAgg241,sizeOf241,zeroValue241,underlying242,isAgg242,sizeOf242,zeroValue242⟩
end
def Tryz.lay13_ren : Go.Shelf.Ren := ⟨fun|6=>13|15=>37|14=>36|28=>82|29=>83|20=>74|21=>75|22=>76|23=>77|24=>78|25=>79|26=>80|27=>81|46=>143|47=>144|48=>145|49=>146|50=>147|57=>191|n=>n,fun|22=>39|24=>55|25=>60|3=>3|39=>109|0=>0|53=>154|55=>156|4=>4|46=>148|45=>147|50=>104|5=>5|9=>9|66=>203|70=>207|76=>241|77=>242|n=>n,fun|n=>n⟩
section open Tryz
theorem Tryz.lay13:Go.Proofs.SlLaysF0.n6 Tryz.prog Tryz.lay13_ren:=⟨by kernel_rfl,⟨f13.name,by decide,func13.trans layq⟩,⟨f36.name,by decide,func36.trans layq⟩,func37.trans layq,⟨f74.name,by decide,func74.trans layq⟩,⟨f75.name,by decide,func75.trans layq⟩,⟨f76.name,by decide,func76.trans layq⟩,⟨f77.name,by decide,func77.trans layq⟩,⟨f78.name,by decide,func78.trans layq⟩,⟨f79.name,by decide,func79.trans layq⟩,⟨f80.name,by decide,func80.trans layq⟩,⟨f81.name,by decide,func81.trans layq⟩,func82.trans layq,func83.trans layq,⟨f143.name,by decide,func143.trans layq⟩,func144.trans layq,func145.trans layq,⟨f146.name,by decide,func146.trans layq⟩,⟨f147.name,by decide,func147.trans layq⟩,⟨f191.name,by decide,func191.trans layq⟩,underlying0,isAgg0,sizeOf0,zeroValue0,underlying3,isAgg3,sizeOf3,zeroValue3,underlying4,isAgg4,sizeOf4,zeroValue4,underlying5,isAgg5,sizeOf5,zeroValue5,underlying9,isAgg9,sizeOf9,zeroValue9,underlying39,isAgg39,sizeOf39,zeroValue39,underlying60,isAgg60,sizeOf60,zeroValue60,underlying109,isAgg109,sizeOf109,zeroValue109,underlying147,isAgg147,sizeOf147,zeroValue147,underlying148,isAgg148,sizeOf148,zeroValue148,underlying104,isAgg104,sizeOf104,zeroValue104,underlying154,isAgg154,sizeOf154,zeroValue154,underlying156,isAgg156,sizeOf156,zeroValue156,underlying203,isAgg203,sizeOf203,zeroValue203,underlying207,isAgg207,sizeOf207,zeroValue207,underlying241,isAgg241,sizeOf241,zeroValue241,underlying242,isAgg242,sizeOf242,zeroValue242⟩
end
def Tryz.lay41_ren : Go.Shelf.Ren := ⟨fun|7=>41|10=>88|n=>n,fun|23=>114|26=>9|3=>4|28=>117|0=>0|27=>116|33=>140|4=>4|n=>n,fun|n=>n⟩
section open Tryz
theorem Tryz.lay41:Go.Proofs.SlLaysZ.n7 Tryz.prog Tryz.lay41_ren:=⟨by kernel_rfl,⟨f41.name,by decide,func41.trans layq⟩,⟨f88.name,by decide,func88.trans layq⟩,underlying0,isAgg0,sizeOf0,zeroValue0,underlying4,isAgg4,sizeOf4,zeroValue4,underlying114,isAgg114,sizeOf114,zeroValue114,underlying9,isAgg9,sizeOf9,zeroValue9,underlying116,isAgg116,sizeOf116,zeroValue116,underlying117,isAgg117,sizeOf117,zeroValue117,underlying140,isAgg140,sizeOf140,zeroValue140⟩
end
def Tryz.lay40_ren : Go.Shelf.Ren := ⟨fun|6=>40|8=>86|9=>87|11=>149|13=>37|12=>150|23=>82|24=>83|14=>192|15=>193|16=>194|17=>195|18=>196|19=>197|20=>198|21=>199|22=>200|25=>233|26=>144|27=>145|28=>234|29=>235|30=>236|31=>249|n=>n,fun|26=>9|28=>117|24=>38|0=>0|3=>3|37=>109|48=>154|50=>156|4=>4|40=>148|39=>147|45=>104|5=>5|9=>9|51=>203|55=>207|57=>241|58=>242|33=>140|n=>n,fun|n=>n⟩
section open Tryz
theorem Tryz.lay40:Go.Proofs.SlLaysZ.n6 Tryz.prog Tryz.lay40_ren:=⟨by kernel_rfl,⟨f40.name,by decide,func40.trans layq⟩,⟨f86.name,by decide,func86.trans layq⟩,⟨f149.name,by decide,func149.trans layq⟩,underlying0,isAgg0,sizeOf0,zeroValue0,underlying38,isAgg38,sizeOf38,zeroValue38,underlying9,isAgg9,sizeOf9,zeroValue9,underlying117,isAgg117,sizeOf117,zeroValue117,by kernel_rfl⟩
end
def Tryz.lay87_ren : Go.Shelf.Ren := ⟨fun|6=>87|8=>37|9=>150|19=>82|20=>83|21=>192|22=>193|23=>194|24=>195|25=>196|26=>197|27=>198|28=>199|29=>200|36=>233|31=>144|32=>145|37=>234|38=>235|39=>236|41=>249|n=>n,fun|27=>38|29=>9|3=>3|32=>109|26=>38|0=>0|44=>154|46=>156|4=>4|36=>148|35=>147|41=>104|5=>5|9=>9|53=>203|57=>207|63=>241|64=>242|n=>n,fun|n=>n⟩
section open Tryz
theorem Tryz.lay87:Go.Proofs.SlLaysM.n6 Tryz.prog Tryz.lay87_ren:=⟨by kernel_rfl,⟨f87.name,by decide,func87.trans layq⟩,func37.trans layq,⟨f150.name,by decide,func150.trans layq⟩,func82.trans layq,func83.trans layq,⟨f192.name,by decide,func192.trans layq⟩,⟨f193.name,by decide,func193.trans layq⟩,⟨f194.name,by decide,func194.trans layq⟩,⟨f195.name,by decide,func195.trans layq⟩,⟨f196.name,by decide,func196.trans layq⟩,⟨f197.name,by decide,func197.trans layq⟩,⟨f198.name,by decide,func198.trans layq⟩,⟨f199.name,by decide,func199.trans layq⟩,⟨f200.name,by decide,func200.trans layq⟩,func144.trans layq,func145.trans layq,⟨f233.name,by decide,func233.trans layq⟩,⟨f234.name,by decide,func234.trans layq⟩,⟨f235.name,by decide,func235.trans layq⟩,⟨f236.name,by decide,func236.trans layq⟩,⟨f249.name,by decide,func249.trans layq⟩,underlying0,isAgg0,sizeOf0,zeroValue0,underlying3,isAgg3,sizeOf3,zeroValue3,underlying4,isAgg4,sizeOf4,zeroValue4,underlying5,isAgg5,sizeOf5,zeroValue5,underlying9,isAgg9,sizeOf9,zeroValue9,underlying38,isAgg38,sizeOf38,zeroValue38,underlying38,isAgg38,sizeOf38,zeroValue38,underlying9,isAgg9,sizeOf9,zeroValue9,underlying109,isAgg109,sizeOf109,zeroValue109,underlying147,isAgg147,sizeOf147,zeroValue147,underlying148,isAgg148,sizeOf148,zeroValue148,underlying104,isAgg104,sizeOf104,zeroValue104,underlying154,isAgg154,sizeOf154,zeroValue154,underlying156,isAgg156,sizeOf156,zeroValue156,underlying203,isAgg203,sizeOf203,zeroValue203,underlying207,isAgg207,sizeOf207,zeroValue207,underlying241,isAgg241,sizeOf241,zeroValue241,underlying242,isAgg242,sizeOf242,zeroValue242⟩
end
end Go.Proofs
namespace Go.Gk
open Go IntKind Go.Proofs
variable (N:Nat){E w:aY}{i0 i1 i2:Nat}{p1 p2 p3 res:Int}{v0 v1 v2:aW}{V:Z HP}
def q8{p0:cD}(o:Holds E w V)(j:kl N p0 p1=some res):c_ 225 [str p0,(.int .u8 p1)] w<|aD E V res:=by
 unfold kl at j;refine enter Tryz.func225 zr zr<|w_<|aH 0<|IS<|mv (str p0)<|mv (.int .u8 p1)<|ab0 (vi<|Lib.indexByte p0.cY (Int.toNat p1).toUInt8) zr [str p0,(.int .u8 p1)] zr (Pv p0 p1 w)<|aH (Lib.indexByte p0.cY (Int.toNat p1).toUInt8)<|AI ?_;exact Yj<|oi j▸bL ⟨rfl,o.drop 0⟩
def pY{p0:cD}(o:Holds E w V)(j:g9 N p0 p1=some res):c_ 177 [str p0,(.int .u8 p1)] w<|aD E V res:=by
 unfold g9 at j;exact enter Tryz.func177 zr zr<|w_<|aH 0<|IS<|mv (str p0)<|mv (.int .u8 p1)<|q_ j λaa ab j=>Yi Sj (q8 N (p0:=p0) (p1:=p1) o ab) λw o=>aH aa<|AI<|Yj<|oi j▸bL ⟨rfl,o.drop 0⟩
def pz{p0:cD}{res:Bool}(hw:Holds E w V)(o:i7 N p0=some res):c_ 118 [str p0] w<|aN E V res:=by
 unfold i7 at o;refine enter Tryz.func118 zr zr<|w_<|bV false<|OF<|w_<|mv (str p0)<|Zw p0 Cz<|aX 0<|AI<|Zd E V (λ(ag:Unit)=>[]) (λ_=>[(0,str p0)]) (λad _=>[(6,vi p0.cY.length),(7,vi ad)]) (λr=>jS bK 49 Tryz.f118 (aN E V r) .ret) o ?_ ?_ ?_ ?_;exact hw.sp 0 [];rintro hm ad ag fl _ w hk⟨O,rfl,hw⟩o;refine BY<|Yr<|aX (ad:Int)<|aH (ad:Int)<|IS<|mv (str p0)<|aX (ad:Int)<|q_ o λj ak o=>Z2 p0 (ad:Int) j zr zr zr Cz ak<|dG (.int .u8 (j.toNat:Int))<|OF ?_;refine q_ o λaf hj o=>Yo (λ(af:Bool)=>SH E V [(0,str p0),(6,vi p0.cY.length),(7,vi ad),(39,vb af)] []) af ?_ ?_;refine IN<|mv (.int .u8 (j.toNat:Int))<|ic ((j.toNat:Int)) 65<|eV (decide<|(j.toNat:Int)<65)<|Yp (.int .u8 (j.toNat:Int)) zr zr gm<|Yp (vb<|decide<|(j.toNat:Int)>90) zr zr (Au .gtr)<|YP (b:=decide<|(j.toNat:Int)<65) (v:=vb<|decide ((j.toNat:Int)<65)||decide ((j.toNat:Int)>90)) zt zr zr (qI true)<|eV (decide ((j.toNat:Int)<65)||decide ((j.toNat:Int)>90))<|Yp (.int .u8 (j.toNat:Int)) zr zr gm ?_;refine Yp (vb<|decide<|(j.toNat:Int)<97) zr zr (Au .lss)<|Yp (vb<|decide<|(j.toNat:Int)<97) zr zr gm<|YX (.int .u8 (j.toNat:Int)) zr zr gm<|YX (vb<|decide<|(j.toNat:Int)>122) zr zr (Au .gtr)<|Yp (vb<|decide ((j.toNat:Int)<97)||decide ((j.toNat:Int)>122)) zr zr Tc<|YP (b:=decide ((j.toNat:Int)<65)||decide ((j.toNat:Int)>90)) (v:=vb<|(decide ((j.toNat:Int)<65)||decide ((j.toNat:Int)>90))&&(decide ((j.toNat:Int)<97)||decide ((j.toNat:Int)>122))) zt zr zr (jX true)<|eV ((decide ((j.toNat:Int)<65)||decide ((j.toNat:Int)>90))&&(decide ((j.toNat:Int)<97)||decide ((j.toNat:Int)>122)))<|Yp (.int .u8 (j.toNat:Int)) zr zr gm<|Yp (vb<|decide<|(j.toNat:Int)<48) zr zr (Au .lss) ?_;refine Yp (vb<|decide<|(j.toNat:Int)<48) zr zr gm<|YX (.int .u8 (j.toNat:Int)) zr zr gm<|YX (vb<|decide<|(j.toNat:Int)>57) zr zr (Au .gtr)<|Yp (vb<|decide ((j.toNat:Int)<48)||decide ((j.toNat:Int)>57)) zr zr Tc<|YP (b:=(decide ((j.toNat:Int)<65)||decide ((j.toNat:Int)>90))&&(decide ((j.toNat:Int)<97)||decide ((j.toNat:Int)>122))) (v:=vb<|((decide ((j.toNat:Int)<65)||decide ((j.toNat:Int)>90))&&(decide ((j.toNat:Int)<97)||decide ((j.toNat:Int)>122)))&&(decide ((j.toNat:Int)<48)||decide ((j.toNat:Int)>57))) zt zr zr (jX true)<|eV (((decide ((j.toNat:Int)<65)||decide ((j.toNat:Int)>90))&&(decide ((j.toNat:Int)<97)||decide ((j.toNat:Int)>122)))&&(decide ((j.toNat:Int)<48)||decide ((j.toNat:Int)>57)))<|eE hj (λab hj=>?_) λab hj=>?_;refine U_ (.int .u8 (j.toNat:Int)) (cg ab)<|q_ hj λah al hj=>Yi (hg:=cg ab) PA (pY N (p0:=⟨[95,43,45,35]⟩) (p1:=(j.toNat:Int)) hw al) λw hw=>Y6 ah 0 (cg ab)<|eI ab (vb<|decide<|ah<0)<|By ?_;exact oi hj▸⟨rfl,hw.sp 0 []⟩;exact bB ab<|bB ab<|bB ab<|eI ab (vb false)<|By<|oi hj▸⟨rfl,hw.sp 0 []⟩;rintro _ w⟨O,rfl,hw⟩;refine aC<|cW o (λo=>?_) λo=>?_;exact w_<|bV false<|AI<|YI<|aU<|oi o▸⟨rfl,bL ⟨rfl,hw.drop 0⟩⟩;exact YB<|bE<|aC<|IN<|YL hk hm<|aX ((ad+1:Nat):Int)<|By<|oi o▸⟨rfl,hw.sp 0 []⟩;intro r U w o hK;exact aU<|oi o▸hK;rintro ag _ w o⟨O,rfl,hw⟩;refine aC<|w_<|mv (str p0)<|Zw p0 Cz<|ic ((p0.cY.length:Int)) 1<|eV (decide<|(p0.cY.length:Int)>=1)<|Yp (str p0) rfl rfl gm<|YQ true (decide<|(p0.cY.length:Int)>=1) (vi p0.cY.length) rfl rfl rfl (Ri (s:=p0) rfl (by exact z_ (str p0)) Cz)<|Yp (vb<|decide<|(p0.cY.length:Int)<=40) rfl rfl (Au .leq) ?_;exact YP (b:=decide<|(p0.cY.length:Int)>=1) (v:=vb<|decide ((p0.cY.length:Int)>=1)&&decide ((p0.cY.length:Int)<=40)) zt zr zr (jX true)<|bV (decide ((p0.cY.length:Int)>=1)&&decide ((p0.cY.length:Int)<=40))<|AI<|Yj<|oi o▸bL ⟨rfl,hw.drop 0⟩
def xn{p0 p1:dM}{res:Bool}(j:Holds E w V)(h0:V[i0]? =some (rd v0 p0))(h1:V[i1]? =some (pt v1 p1))(hb:iA N p0 p1=some res):c_ 179 [v0,v1] w<|aN E V res:=by
 unfold iA at hb;refine enter Tryz.func179 zr zr ?_;have j:=(j.dup (i0+0) h0).Cp (i:=i1+1) h1;refine w_<|YC 1 v0 j zr λaf w j=>?_;refine bV false<|OF<|q_ hb λae hj hb=>Yo (λ(ae:Bool)=>SH E V [(3,vb ae)] []) ae ?_ ?_;refine IN<|Yw 1 j zr uw lV λag j=>Yu p1.bG 0 j cT<|ic p1.bG 0<|eV (decide<|p1.bG>0)<|eE hj (λo hj=>?_) λo hj=>?_;refine AT (hg:=cg o) zr uw<|T_ (hg:=cg o) 1 j zr lV cT<|Yw (hg:=cg o) 2 j zr uw lV λah j=>Yu (hg:=cg o) p1.bG 0 j cT<|Y6 p0.bG p1.bG (cg o)<|eI o (vb<|p0.bG==p1.bG)<|eV (p0.bG==p1.bG)<|eE hj (λaa hj=>?_) λaa hj=>?_;refine AT (hg:=cg aa) zr yl<|T_ (hg:=cg aa) 2 j zr oq cT<|Yw (hg:=cg aa) 3 j zr yl oq λai j=>Yu (hg:=cg aa) p1.Kind 0 j cT<|Y6 p0.Kind p1.Kind (cg aa)<|eI aa (vb<|p0.Kind != p1.Kind)<|bV (p0.Kind != p1.Kind)<|By ?_;exact oi hj▸⟨rfl,j.sp 6 []⟩;exact bB aa<|bB aa<|bB aa<|bB aa<|bB aa<|eI aa (vb false)<|bV false<|By<|oi hj▸⟨rfl,j.sp 5 []⟩;refine bB o<|bB o<|bB o<|bB o<|bB o<|eI o (vb false)<|eV false<|l5<|l5<|l5<|l5<|l5<|YP (b:=false) (v:=vb false) zt zr zr zr<|bV false<|By ?_;exact oi hj▸⟨rfl,j.sp 4 []⟩;rintro _ w⟨O,rfl,j⟩;exact aC<|Yj<|oi hb▸bL ⟨rfl,j.drop 0⟩
def uC{p0:Z dM}{p1:dM->aV Bool}(o:Holds E w V)(h0:V[i0]? =some (rd v0 p0))(h1:Nc bK E V v1 p1 (λ(r:Bool)=>Value.bool r))(j:nu N p0 p1=some res):c_ 226 [v0,v1] w<|aD E V res:=by
 unfold nu at j;refine enter Tryz.func226 zr zr ?_;have o:=o.dup (i0+0) h0;refine w_<|aH 0<|OF<|w_<|mv v0<|S_ 0 p0 o wu<|aX 0<|AI<|Zd E V (λ(ab:Unit)=>[rd v0 p0]) (λ_=>[]) (λaa _=>[(0,v0),(1,v1),(7,vi p0.length),(8,vi aa)]) (λr=>jS bK 19 Tryz.f226 (aD E V r) .ret) j ?_ ?_ ?_ ?_;exact o.sp 1 [0];rintro hm aa ab fl _ w hk⟨O,rfl,o⟩j;refine BY<|Yr<|aX (aa:Int)<|aH (aa:Int)<|IS<|mv v1<|mv v0<|aX (aa:Int)<|q_ j λaf ag j=>IT 0 o vk ag λak o=>Yk 0 af o tM λal o=>?_;refine q_ j λan ah j=>ZR 0 o h1 3 ah λw o=>AI<|cW j (λj=>?_) λj=>?_;exact w_<|aX (aa:Int)<|aH (aa:Int)<|AI<|YI<|aU<|oi j▸⟨rfl,bL ⟨rfl,o.drop 3⟩⟩;exact YB<|bE<|aC<|IN<|YL hk hm<|aX ((aa+1:Nat):Int)<|By<|oi j▸⟨rfl,o.sp 3 [2]⟩;intro r U w j hK;exact aU<|oi j▸hK;rintro ab _ w j⟨O,rfl,o⟩;exact aC<|w_<|aH (-1)<|AI<|Yj<|oi j▸bL ⟨rfl,o.drop 1⟩
def tk{p0:Z dM}{p1:dM->aV Bool}{res:Bool}(j:Holds E w V)(h0:V[i0]? =some (rd v0 p0))(h1:Nc bK E V v1 p1 (λ(r:Bool)=>Value.bool r))(o:jP N p0 p1=some res):c_ 178 [v0,v1] w<|aN E V res:=by
 unfold jP at o;refine enter Tryz.func178 zr zr ?_;have j:=j.dup (i0+0) h0;refine w_<|bV false<|IS<|mv v0<|mv v1<|q_ o λaa ab o=>Yi (fO Tryz.func226) (uC N (i0:=0) j zr (h1.lift 1 zr) ab) λw j=>ic aa 0<|bV (decide<|aa>=0)<|AI<|Yj ?_;exact oi o▸bL ⟨rfl,j.drop 1⟩
def um(E:aY)(V:Z HP)(r:Int)(U:Nat->aW)(w:aY):Prop:=jS bK 71 Tryz.f119 (aD E V r) .ret U w
def Ak{p0:Z dM}(j:Holds E w V)(h0:V[i0]? =some (rd v0 p0))(o:mW N p0=some res):c_ 119 [v0] w<|aD E V res:=by
 unfold mW at o;refine enter Tryz.func119 zr zr ?_;have j:=j.dup (i0+0) h0;refine w_<|aH 0<|OF<|w_<|mv v0<|S_ 0 p0 j wu<|ic ((p0.length:Int)) 0<|AI<|cW o (λo=>?_) λo=>?_;exact w_<|aH 9<|AI<|YF<|oi o▸bL ⟨rfl,j.drop 1⟩;refine Ys<|w_<|mv v0<|S_ 0 p0 j wu<|ic ((p0.length:Int)) 200<|AI<|cW o (λo=>?_) λo=>?_;exact w_<|aH 2<|AI<|YF<|oi o▸bL ⟨rfl,j.drop 1⟩;refine Ys<|w_<|mv v0<|S_ 0 p0 j wu<|aX 0<|AI<|Zd E V (λ(an:Unit)=>[rd v0 p0]) (λ_=>[(0,v0)]) (λad _=>[(13,v0),(14,vi p0.length),(15,vi ad)]) (um E V) o ?_ ?_ ?_ ?_;exact j.sp 1 [0];rintro hm ad an fl _ w hk⟨O,rfl,j⟩o;refine BY<|Yr<|aX (ad:Int)<|q_ o λaa av o=>IT 0 j vk av λa2 j=>Yk 0 aa j tM λa3 j=>YN j GA.z λaf w j=>?_;refine aH (ad:Int)<|YH 0 j 1 zr tM λw j=>?_;refine AI<|Yr<|AT zr tz<|T_ 0 j zr kL lI<|q_ o λao aw o=>Yi Nr (pz N (p0:=aa.Name) j aw) λw j=>YU ao<|bV (!ao)<|AI<|cW o (λo=>?_) λo=>?_;exact w_<|aH 5<|AI<|YI<|eL<|aU<|oi o▸⟨rfl,bL ⟨rfl,j.drop 4⟩⟩;refine w_<|AT rfl yl<|T_ 0 j rfl oq cT<|ic aa.Kind 1<|eV (decide<|aa.Kind<1)<|YQ true (decide<|aa.Kind<1) (vp af 1) rfl rfl rfl (dL yl)<|YQ true (decide<|aa.Kind<1) (vi aa.Kind) rfl rfl rfl (bX 0 rfl j (by exact z_ (vp af 1)) rfl oq cT)<|Yp (vb<|decide<|aa.Kind>7) rfl rfl (Au .gtr)<|YP (b:=decide<|aa.Kind<1) (v:=vb<|decide (aa.Kind<1)||decide (aa.Kind>7)) trivial rfl rfl (qI true) ?_;refine bV (decide (aa.Kind<1)||decide (aa.Kind>7))<|AI<|cW o (λo=>?_) λo=>?_;exact w_<|aH 4<|AI<|YI<|eL<|aU<|oi o▸⟨rfl,bL ⟨rfl,j.drop 4⟩⟩;refine w_<|AT rfl uw<|T_ 0 j rfl lV cT<|ic aa.bG 0<|eV (decide<|aa.bG<0)<|YQ true (decide<|aa.bG<0) (vp af 2) rfl rfl rfl (dL uw)<|YQ true (decide<|aa.bG<0) (vi aa.bG) rfl rfl rfl (bX 0 rfl j (by exact z_ (vp af 2)) rfl lV cT)<|Yp (vb<|decide<|aa.bG>200) rfl rfl (Au .gtr)<|YP (b:=decide<|aa.bG<0) (v:=vb<|decide (aa.bG<0)||decide (aa.bG>200)) trivial rfl rfl (qI true) ?_;refine bV (decide (aa.bG<0)||decide (aa.bG>200))<|AI<|cW o (λo=>?_) λo=>?_;exact w_<|aH 1<|AI<|YI<|eL<|aU<|oi o▸⟨rfl,bL ⟨rfl,j.drop 4⟩⟩;refine BY<|q_ o λak hj o=>Yo (λ(ak:Bool)=>SH E V [(0,v0),(13,v0),(14,vi p0.length),(15,vi ad),(43,vb ak)] [rd v0 p0]) ak ?_ ?_;refine Zb mixed ?_;have j:=j.drew;refine Za<|aX (ad:Int)<|AS<|ic ((ad:Int)) 0<|AS<|eV (decide<|(ad:Int)>0)<|eE hj (λab hj=>?_) λab hj=>?_;refine AS<|AT (hg:=cg ab) zr tz<|AS<|T_ (hg:=cg ab) 0 j zr kL lI<|AS<|U_ v0 (cg ab)<|AS<|U_ (vi ad) (cg ab)<|AS<|W_ (hg:=cg ab) (ad:Int) 1<|AS ?_;refine q_ hj λag ax hj=>IT (hg:=cg ab) 3 j vk ax λa4 j=>AS<|Yw (hg:=cg ab) 0 j zr tz kL λa5 j=>AS<|Yu (hg:=cg ab) ag.Name 0 j lI<|AS<|Zm aa.Name ag.Name (cg ab)<|AS<|eI ab (vb<|aa.Name.mH ag.Name||aa.Name.kj ag.Name)<|AS<|bV (aa.Name.mH ag.Name||aa.Name.kj ag.Name)<|YZ ?_;exact oi hj▸⟨rfl,j.sp 6 [5]⟩;refine AS<|bB ab<|AS<|bB ab<|AS<|bB ab<|AS<|bB ab<|AS<|bB ab<|AS<|bB ab<|AS<|bB ab<|AS<|bB ab<|AS<|bB ab ?_;exact AS<|eI ab (vb false)<|AS<|bV false<|YZ<|oi hj▸⟨rfl,j.sp 4 [3]⟩;rintro _ w⟨O,rfl,j⟩;refine aC<|cW o (λo=>?_) λo=>?_;exact w_<|aH 8<|AI<|YI<|eL<|aU<|oi o▸⟨rfl,bL ⟨rfl,j.drop 1⟩⟩;exact YB<|bE<|bE<|aC<|IN<|YL hk hm<|aX ((ad+1:Nat):Int)<|By<|oi o▸⟨rfl,j.sp 1 [0]⟩;intro r U w o hK;exact aU<|oi o▸hK;rintro an _ w o⟨O,rfl,j⟩;refine aC<|BY<|w_<|mv v0<|S_ 0 p0 j wu<|aX 0<|AI<|Zd E V (λ(aq:Unit)=>[rd v0 p0]) (λ_=>[]) (λah _=>[(0,v0),(58,v0),(59,vi p0.length),(60,vi ah)]) (um E V) o ?_ ?_ ?_ ?_;exact j.sp 1 [0];rintro hm ah aq fl _ w hk⟨O,rfl,j⟩o;refine BY<|Yr<|aX (ah:Int)<|q_ o λay az o=>IT 0 j vk az λa6 j=>Yk 0 ay j tM λa7 j=>YN j GA.z λar w j=>?_;refine aH (ah:Int)<|YH 0 j 1 zr tM λw j=>?_;refine IS<|mv v0<|aX (ah:Int)<|q_ o λa8 a0 o=>Zr (hl:= .inr ⟨rfl,zr⟩) 3 j vk a0 λa9 j=>?_;have j:=j.kp (i:=1) rfl;refine ZW [vp ar 0] ?_;refine q_ o λba a1 o=>Yi (fO Tryz.func178) (tk N (i0:=0) j rfl ⟨179,[vp ar 0],rfl,(fO Tryz.func179),λw Γl v y0 r i j hi hr=>by exact iO (xn N (i0:=i) (i1:=Γl.length+1) j hi Cn hr) λ_ _ h=>h⟩ a1) λw j=>AI<|cW o (λo=>?_) λo=>?_;exact w_<|aH 12<|AI<|YI<|aU<|oi o▸⟨rfl,bL ⟨rfl,j.drop 5⟩⟩;exact YB<|bE<|aC<|IN<|YL hk hm<|aX ((ah+1:Nat):Int)<|By<|oi o▸⟨rfl,j.sp 5 [4]⟩;intro r U w o hK;exact aU<|oi o▸hK;rintro aq _ w o⟨O,rfl,j⟩;exact aC<|w_<|aH 0<|AI<|Yj<|oi o▸bL ⟨rfl,j.drop 1⟩
def zC{p0:Z aS}(j:Holds E w V)(h0:V[i0]? =some (rd v0 p0))(o:me N p0=some res):c_ 60 [v0] w<|aD E V res:=by
 unfold me at o;refine enter Tryz.func60 zr zr ?_;have j:=j.dup (i0+0) h0;refine w_<|aH 0<|OF<|w_<|mv v0<|S_ 0 p0 j Ms<|ic ((p0.length:Int)) 200<|AI<|cW o (λo=>?_) λo=>?_;exact w_<|aH 2<|AI<|YF<|oi o▸bL ⟨rfl,j.drop 1⟩;refine Ys<|w_<|mv v0<|S_ 0 p0 j Ms<|aX 0<|AI<|Zd E V (λ(ai:Unit)=>[rd v0 p0]) (λ_=>[]) (λab _=>[(0,v0),(9,v0),(10,vi p0.length),(11,vi ab)]) (λr=>jS bK 40 Tryz.f60 (aD E V r) .ret) o ?_ ?_ ?_ ?_;exact j.sp 1 [0];rintro hm ab ai fl _ w hk⟨O,rfl,j⟩o;refine BY<|Yr<|aX (ab:Int)<|q_ o λae al o=>IT 0 j Ew al λaw j=>Yk 0 ae j Ad λax j=>YN j Pz.z λay w j=>?_;refine aH (ab:Int)<|YH 0 j 1 zr Ad λw j=>?_;refine OF<|w_<|AT zr uv<|T_ 0 j zr kM lI<|q_ o λan ao o=>Yi Nr (pz N (p0:=ae.Name) j ao) λw j=>YU an<|AI<|cW o (λo=>?_) λo=>?_;exact w_<|aH 5<|AI<|YF<|eL<|aU<|oi o▸⟨rfl,bL ⟨rfl,j.drop 4⟩⟩;refine Ys<|w_<|AT zr ru<|Yt 0 j zr iK zk λaz j=>?_;refine q_ o λaf aq o=>Yi (fO Tryz.func119) (Ak N (i0:=0) j zr aq) λw j=>aH af<|IS<|aX af<|ic af 0<|AI<|cW o (λo=>?_) λo=>?_;exact w_<|aX af<|aH af<|AI<|YF<|eL<|aU<|oi o▸⟨rfl,bL ⟨rfl,j.drop 5⟩⟩;refine Ys<|q_ o λah hj o=>Yo (λ(ah:Bool)=>SH E V [(0,v0),(9,v0),(10,vi p0.length),(11,vi ab),(38,vb ah)] [rd v0 p0]) ah ?_ ?_;refine Zb mixed ?_;have j:=j.drew;refine Za<|aX (ab:Int)<|AS<|ic ((ab:Int)) 0<|AS<|eV (decide<|(ab:Int)>0)<|eE hj (λaa hj=>?_) λaa hj=>?_;refine AS<|AT (hg:=cg aa) zr uv<|AS<|T_ (hg:=cg aa) 1 j zr kM lI<|AS<|U_ v0 (cg aa)<|AS<|U_ (vi ab) (cg aa)<|AS<|W_ (hg:=cg aa) (ab:Int) 1<|AS ?_;refine q_ hj λag ar hj=>IT (hg:=cg aa) 4 j Ew ar λa0 j=>AS<|Yw (hg:=cg aa) 0 j zr uv kM λa1 j=>AS<|Yu (hg:=cg aa) ag.Name 0 j lI<|AS<|Zm ae.Name ag.Name (cg aa)<|AS<|eI aa (vb<|ae.Name.mH ag.Name||ae.Name.kj ag.Name)<|YZ ?_;exact oi hj▸⟨rfl,j.sp 7 [6]⟩;refine AS<|bB aa<|AS<|bB aa<|AS<|bB aa<|AS<|bB aa<|AS<|bB aa<|AS<|bB aa<|AS<|bB aa<|AS<|bB aa<|AS<|bB aa ?_;exact AS<|eI aa (vb false)<|YZ<|oi hj▸⟨rfl,j.sp 5 [4]⟩;rintro _ w⟨O,rfl,j⟩;refine aC<|cW o (λo=>?_) λo=>?_;exact w_<|aH 8<|AI<|YI<|aU<|oi o▸⟨rfl,bL ⟨rfl,j.drop 1⟩⟩;exact YB<|bE<|aC<|IN<|YL hk hm<|aX ((ab+1:Nat):Int)<|By<|oi o▸⟨rfl,j.sp 1 [0]⟩;intro r U w o hK;exact aU<|oi o▸hK;rintro ai _ w o⟨O,rfl,j⟩;exact aC<|w_<|aH 0<|AI<|Yj<|oi o▸bL ⟨rfl,j.drop 1⟩
def ox{p0:Z aS}{p1:cD}{p2:aS->cD->aV Int}{res:Int×Bool}(o:Holds E w V)(h0:V[i0]? =some (rd v0 p0))(h2:Pk bK E V v2 p2 (λ(r:Int)=>Value.int .i64 r))(hb:fJ N p0 p1 p2=some res):c_ 141 [v0,str p1,v2] w<|eX E V res:=by
 unfold fJ at hb;refine enter Tryz.func141 zr zr ?_;have o:=o.dup (i0+0) h0;refine w_<|aH 0<|bV false<|IS<|mv v0<|S_ 0 p0 o Ms<|aH (p0.length:Int)<|IS<|aX (p0.length:Int)<|aH 0<|aH (p0.length:Int)<|OF<|Zx E V (λ(j:Int×Int)=>[rd v0 p0]) (λj=>[(0,v0),(1,str p1),(2,v2),(8,vi p0.length),(9,vi j.1)]) (λj=>[(10,vi j.2)]) hb ?_ ?_ ?_;exact o.sp 1 [0];rintro j fl _ w⟨O,rfl,o⟩hb;refine BY<|w_<|aX j.1<|aX j.2<|ic j.1 j.2<|AI<|cW hb (λhb=>?_) λhb=>?_;refine Zi<|Yr<|aX j.1<|aX j.2<|W_ j.1 j.2<|ZM (cE<|j.1+j.2) ⟨_,L9⟩ Fg<|ZQ (v':=(.int .u64 1)) (.int .u64<|wrap .u64<|cE<|j.1+j.2) (.int .u64<|Int.fdiv (wrap .u64<|cE<|j.1+j.2) 2) zt zr zr zr<|ZM (Int.fdiv (wrap .u64<|cE<|j.1+j.2) 2) ⟨_,Fg⟩ L9<|aH (cE<|Int.fdiv (wrap .u64<|cE<|j.1+j.2) 2) ?_;refine IS<|mv v2<|mv v0<|aX (cE<|Int.fdiv (wrap .u64<|cE<|j.1+j.2) 2)<|q_ hb λah ai hb=>IT 0 o Ew ai λar o=>Yk 0 ah o Ad λau o=>mv (str p1) ?_;have o:=o.sc cD p1;refine q_ hb λaj ak hb=>ZG 1 0 zt o h2 4 ak λw o=>ic aj 0<|AI<|q_ hb λae hj hb=>Yo (λ(ae:Int×Int)=>SH E V [(0,v0),(1,str p1),(2,v2),(8,vi p0.length),(9,vi ae.1),(10,vi ae.2)] [rd v0 p0]) ae ?_ ?_;refine cW hj (λhj=>?_) λhj=>?_;refine IN<|aX (cE<|Int.fdiv (wrap .u64<|cE<|j.1+j.2) 2)<|W_ (cE<|Int.fdiv (wrap .u64<|cE<|j.1+j.2) 2) 1<|aH (cE<|cE (Int.fdiv (wrap .u64<|cE<|j.1+j.2) 2)+1)<|By ?_;exact oi hj▸⟨rfl,o.sp 4 [3]⟩;refine IN<|aX (cE<|Int.fdiv (wrap .u64<|cE<|j.1+j.2) 2)<|aH (cE<|Int.fdiv (wrap .u64<|cE<|j.1+j.2) 2)<|By ?_;exact oi hj▸⟨rfl,o.sp 4 [3]⟩;rintro _ w⟨O,rfl,o⟩;exact bE<|oi hb▸⟨rfl,o.sp 1 [0]⟩;exact YD<|oi hb▸⟨rfl,o.sp 1 [0]⟩;rintro j _ w hb⟨O,rfl,o⟩;refine aC<|BY<|q_ hb λaf hj hb=>Yo (λ(af:Bool)=>SH E V [(6,vi j.1),(7,vb af)] []) af ?_ ?_;refine IN<|aX j.1<|aX j.1<|aX (p0.length:Int)<|ic j.1 ((p0.length:Int))<|eV (decide<|j.1<(p0.length:Int))<|eE hj (λaa hj=>?_) λaa hj=>?_;refine U_ v2 (cg aa)<|U_ v0 (cg aa)<|U_ (vi j.1) (cg aa)<|q_ hj λal an hj=>IT (hg:=cg aa) 0 o Ew an λav o=>Yk (hg:=cg aa) 0 al o Ad λaw o=>U_ (str p1) (cg aa) ?_;have o:=o.sc cD p1;refine q_ hj λag ao hj=>ZG 1 0 (cg aa) o h2 4 ao λw o=>Y6 ag 0 (cg aa)<|eI aa (vb<|ag==0)<|aH j.1<|bV (ag==0)<|By ?_;exact oi hj▸⟨rfl,o.sp 4 []⟩;refine bB aa<|bB aa<|bB aa<|bB aa<|bB aa<|bB aa<|bB aa<|bB aa<|eI aa (vb false)<|aH j.1<|bV false<|By ?_;exact oi hj▸⟨rfl,o.sp 1 []⟩;rintro _ w⟨O,rfl,o⟩;exact aC<|Yj<|oi hb▸s8 ⟨rfl,o.drop 0⟩
def wR{p0 p1:cD}(o:Holds E w V)(j:o6 N p0 p1=some res):c_ 84 [str p0,str p1] w<|aD E V res:=by
 unfold o6 at j;refine enter Tryz.func84 zr zr<|w_<|aH 0<|IS<|mv (str p0)<|mv (str p1)<|ab0 (vi<|Lib.compareBytes p0.cY p1.cY) zr [str p0,str p1] zr (Wg p0 p1 w)<|aH (Lib.compareBytes p0.cY p1.cY)<|AI ?_;exact Yj<|oi j▸bL ⟨rfl,o.drop 0⟩
def mu{p0 p1:cD}(o:Holds E w V)(j:lE N p0 p1=some res):c_ 38 [str p0,str p1] w<|aD E V res:=by
 unfold lE at j;exact enter Tryz.func38 zr zr<|w_<|aH 0<|IS<|mv (str p0)<|mv (str p1)<|q_ j λaa ab j=>Yi (fO Tryz.func84) (wR N (p0:=p0) (p1:=p1) o ab) λw o=>aH aa<|AI<|Yj<|oi j▸bL ⟨rfl,o.drop 0⟩
def Am{p0:aS}{p1:cD}(j:Holds E w V)(h0:V[i0]? =some (rd v0 p0))(o:lk N p0 p1=some res):c_ 142 [v0,str p1] w<|aD E V res:=by
 unfold lk at o;refine enter Tryz.func142 zr zr ?_;have j:=j.dup (i0+0) h0;refine w_<|YC 0 v0 j zr λad w j=>?_;exact aH 0<|IS<|AT zr uv<|T_ 0 j zr kM lI<|mv (str p1)<|q_ o λaa ab o=>Yi PB (mu N (p0:=p0.Name) (p1:=p1) j ab) λw j=>aH aa<|AI<|Yj<|oi o▸bL ⟨rfl,j.drop 2⟩
def sw{p0:Z aS}{p1:cD}(hw:Holds E w V)(h0:V[i0]? =some (rd v0 p0))(hb:mf N p0 p1=some res):c_ 73 [v0,str p1] w<|aD E V res:=by
 unfold mf at hb;refine enter Tryz.func73 zr zr ?_;have hw:=hw.dup (i0+0) h0;refine w_<|aH 0<|IS<|mv v0<|mv (str p1) ?_;refine q_ hb λo ad hb=>Yi (fO Tryz.func141) (ox N (p1:=p1) (i0:=0) hw rfl ⟨142,[],rfl,(fO Tryz.func142),λw Γl v v' y0 y1 r i j hw hi hj hr=>by obtain rfl:=hw.FO (γ:=cD) hj;exact iO (Am N (p1:=y1) (i0:=i) hw hi hr) λ_ _ h=>h⟩ ad) λw hw=>mv (.tuple #[vi o.1,vb o.2])<|Y4 (vi o.1)<|Y4 (vb o.2)<|aH o.1<|bV o.2<|OF<|w_<|eV o.2 ?_;refine YU o.2<|AI<|cW hb (λhb=>?_) λhb=>?_;exact w_<|aH (-1)<|AI<|YF<|oi hb▸bL ⟨rfl,hw.drop 1⟩;exact Y7<|aX o.1<|aH o.1<|AI<|Yj<|oi hb▸bL ⟨rfl,hw.drop 1⟩
def zD{p0:Z aS}{p1:Z Part}{p2:cD->aV Bool}(j:Holds E w V)(h0:V[i0]? =some (rd v0 p0))(h1:V[i1]? =some (rd v1 p1))(h2:Nc bK E V v2 p2 (λ(r:Bool)=>Value.bool r))(o:mg N p0 p1 p2=some res):c_ 61 [v0,v1,v2] w<|aD E V res:=by
 unfold mg at o;refine enter Tryz.func61 zr zr ?_;have j:=(j.dup (i0+0) h0).dup (i1+1) h1;refine w_<|aH 0<|OF<|w_<|mv v1<|S_ 0 p1 j KW<|ic ((p1.length:Int)) 1000<|AI<|cW o (λo=>?_) λo=>?_;exact w_<|aH 2<|AI<|YF<|oi o▸bL ⟨rfl,j.drop 2⟩;refine Ys<|w_<|mv v1<|S_ 0 p1 j KW<|aX 0<|AI<|Zd E V (λ(ah:Unit)=>[rd v0 p0,rd v1 p1]) (λ_=>[]) (λab _=>[(0,v0),(1,v1),(2,v2),(12,v1),(13,vi p1.length),(14,vi ab)]) (λr=>jS bK 46 Tryz.f61 (aD E V r) .ret) o ?_ ?_ ?_ ?_;exact j.sp 2 [1,0];rintro hm ab ah fl _ w hk⟨O,rfl,j⟩o;refine BY<|Yr<|aX (ab:Int)<|q_ o λad an o=>IT 1 j FT an λaw j=>Yk 0 ad j Ae λax j=>YN j Ns.z λay w j=>?_;refine aH (ab:Int)<|YH 0 j 1 zr Ae λw j=>?_;refine AI<|Yr<|mv v2<|AT zr tA<|T_ 0 j zr oV lI ?_;have j:=j.sc cD ad.Name;refine q_ o λai ao o=>ZR 0 j h2 6 ao λw j=>YU ai<|bV (!ai)<|AI<|cW o (λo=>?_) λo=>?_;exact w_<|aH 5<|AI<|YI<|eL<|aU<|oi o▸⟨rfl,bL ⟨rfl,j.drop 6⟩⟩;refine w_<|mv v0<|AT zr Bf<|T_ 1 j zr uT lI<|q_ o λaj aq o=>Yi Tf (sw N (p1:=ad.jR) (i0:=4) j zr aq) λw j=>ic aj 0<|bV (decide<|aj<0)<|AI<|cW o (λo=>?_) λo=>?_;exact w_<|aH 9<|AI<|YI<|eL<|aU<|oi o▸⟨rfl,bL ⟨rfl,j.drop 6⟩⟩;refine BY<|q_ o λag hj o=>Yo (λ(ag:Bool)=>SH E V [(0,v0),(1,v1),(2,v2),(12,v1),(13,vi p1.length),(14,vi ab),(31,vb ag)] [rd v0 p0,rd v1 p1]) ag ?_ ?_;refine Zb mixed ?_;have j:=j.drew;refine Za<|aX (ab:Int)<|AS<|ic ((ab:Int)) 0<|AS<|eV (decide<|(ab:Int)>0)<|eE hj (λaa hj=>?_) λaa hj=>?_;refine AS<|AT (hg:=cg aa) zr tA<|AS<|T_ (hg:=cg aa) 1 j zr oV lI<|AS<|U_ v1 (cg aa)<|AS<|U_ (vi ab) (cg aa)<|AS<|W_ (hg:=cg aa) (ab:Int) 1<|AS ?_;refine q_ hj λaf ar hj=>IT (hg:=cg aa) 5 j FT ar λaz j=>AS<|Yw (hg:=cg aa) 0 j zr tA oV λa0 j=>AS<|Yu (hg:=cg aa) af.Name 0 j lI<|AS<|Zm ad.Name af.Name (cg aa)<|AS<|eI aa (vb<|ad.Name.mH af.Name||ad.Name.kj af.Name)<|AS<|bV (ad.Name.mH af.Name||ad.Name.kj af.Name)<|YZ ?_;exact oi hj▸⟨rfl,j.sp 8 [6,7]⟩;refine AS<|bB aa<|AS<|bB aa<|AS<|bB aa<|AS<|bB aa<|AS<|bB aa<|AS<|bB aa<|AS<|bB aa<|AS<|bB aa<|AS<|bB aa ?_;exact AS<|eI aa (vb false)<|AS<|bV false<|YZ<|oi hj▸⟨rfl,j.sp 6 [4,5]⟩;rintro _ w⟨O,rfl,j⟩;refine aC<|cW o (λo=>?_) λo=>?_;exact w_<|aH 8<|AI<|YI<|eL<|aU<|oi o▸⟨rfl,bL ⟨rfl,j.drop 2⟩⟩;exact YB<|bE<|bE<|aC<|IN<|YL hk hm<|aX ((ab+1:Nat):Int)<|By<|oi o▸⟨rfl,j.sp 2 [0,1]⟩;intro r U w o hK;exact aU<|oi o▸hK;rintro ah _ w o⟨O,rfl,j⟩;exact aC<|w_<|aH 0<|AI<|Yj<|oi o▸bL ⟨rfl,j.drop 2⟩
def Ao{p0 p1:cD}(o:Holds E w V)(j:mX N p0 p1=some res):c_ 248 [str p0,str p1] w<|aD E V res:=by
 unfold mX at j;refine enter Tryz.func248 zr zr<|w_<|aH 0<|IS<|mv (str p1)<|Zw p1 Cz<|aH (p1.cY.length:Int)<|OF<|Yr<|aX (p1.cY.length:Int)<|ic ((p1.cY.length:Int)) 0<|eV ((p1.cY.length:Int)==0)<|Yp (str p1) zr zr gm<|Yp (str p0) zr zr gm<|Yp (vb<|p1.kj p0) zr zr (gc .eql)<|YP (b:=(p1.cY.length:Int)==0) (v:=vb<|((p1.cY.length:Int)==0)||p1.kj p0) zt zr zr (qI true)<|bV (((p1.cY.length:Int)==0)||p1.kj p0)<|AI ?_;refine cW j (λj=>?_) λj=>?_;exact w_<|aH 0<|AI<|YI<|aU<|oi j▸bL ⟨rfl,o.drop 0⟩;refine w_<|aX (p1.cY.length:Int)<|ic ((p1.cY.length:Int)) 1<|bV ((p1.cY.length:Int)==1)<|AI<|cW j (λj=>?_) λj=>?_;exact w_<|mv (str p0)<|mv (str p1)<|q_ j λaa ab j=>Z2 p1 0 aa zr zr zr Cz ab<|q_ j λad ae j=>Yi Sj (q8 N (p0:=p0) (p1:=(aa.toNat:Int)) o ae) λw o=>aH ad<|AI<|YI<|aU<|oi j▸bL ⟨rfl,o.drop 0⟩;refine w_<|aX (p1.cY.length:Int)<|mv (str p0)<|Zw p0 Cz<|ic ((p1.cY.length:Int)) ((p0.cY.length:Int))<|bV (decide<|(p1.cY.length:Int)>=(p0.cY.length:Int))<|AI<|cW j (λj=>?_) λj=>?_;exact w_<|aH (-1)<|AI<|YI<|aU<|oi j▸bL ⟨rfl,o.drop 0⟩;cases j
def xo{p0 p1:cD}(o:Holds E w V)(j:oS N p0 p1=some res):c_ 229 [str p0,str p1] w<|aD E V res:=by
 unfold oS at j;exact enter Tryz.func229 zr zr<|w_<|aH 0<|IS<|mv (str p0)<|mv (str p1)<|q_ j λaa ab j=>Yi (fO Tryz.func248) (Ao N (p0:=p0) (p1:=p1) o ab) λw o=>aH aa<|AI<|Yj<|oi j▸bL ⟨rfl,o.drop 0⟩
def EF{p0 p1:cD}(hw:Holds E w V)(j:qU N p0 p1=some res):c_ 228 [str p0,str p1] w<|aD E V res:=by
 unfold qU at j;refine enter Tryz.func228 zr zr<|w_<|aH 0<|OF<|w_<|mv (str p1)<|Zw p1 Cz<|ic ((p1.cY.length:Int)) 0<|AI<|cW j (λj=>?_) λj=>?_;cases j;refine Ys<|w_<|mv (str p1)<|Zw p1 Cz<|ic ((p1.cY.length:Int)) 1<|AI<|cW j (λj=>?_) λj=>?_;exact w_<|mv (str p0)<|mv (str p1)<|q_ j λab ae j=>Z2 p1 0 ab zr zr zr Cz ae<|ab0 (vi ((Lib.countByte p0.cY (Int.toNat (ab.toNat:Int)).toUInt8:Nat):Int)) zr [str p0,(.int .u8 (ab.toNat:Int))] zr (FP p0 (ab.toNat:Int) w)<|aH ((Lib.countByte p0.cY (Int.toNat (ab.toNat:Int)).toUInt8:Nat):Int)<|AI<|YF<|oi j▸bL ⟨rfl,hw.drop 0⟩;refine Y7<|aH 0<|AI<|Zh E V (λ(o:cD×Int)=>[]) (λ_=>[(4,vi 0)]) (λo=>[(0,str o.1),(1,str p1),(5,vi o.2)]) (λr=>jS bK 34 Tryz.f228 (aD E V r) .ret) j ?_ ?_ ?_ ?_;exact hw.sp 0 [];rintro o fl _ w⟨O,rfl,hw⟩j;refine Yr<|mv (str o.1)<|mv (str p1)<|q_ j λad af j=>Yi Sk (xo N (p0:=o.1) (p1:=p1) hw af) λw hw=>aH ad<|OF<|w_<|aX ad<|ic ad ((-1))<|AI<|cW j (λj=>?_) λj=>?_;exact w_<|aX o.2<|aH o.2<|AI<|YF<|eL<|oi j▸⟨rfl,bL ⟨rfl,hw.drop 0⟩⟩;refine Y7<|aX o.2<|W_ o.2 1<|aH (cE<|o.2+1)<|AI<|IN<|mv (str o.1)<|aX ad<|mv (str p1) ?_;refine Zw p1 Cz<|W_ ad (p1.cY.length:Int)<|q_ j λag ah j=>ab2 o.1 zr zr Cz (.inl zr) (.inr ⟨rfl,zr⟩) ah<|dG (str ag)<|By<|bE ?_;exact oi j▸⟨rfl,hw.sp 0 []⟩;intro r U w j hK;exact oi j▸hK;rintro o _ w j⟨O,rfl,hw⟩;obtain rfl:=oi j;exact Km<|bL ⟨rfl,hw.drop 0⟩
def BK{p0 p1:cD}{res:Z cD}(o:Holds E w V)(j:qt N p0 p1 p2 p3=some res):c_ 181 [str p0,str p1,vi p2,vi p3] w<|vq E V res:=by
 unfold qt at j;refine enter Tryz.func181 zr zr<|w_<|dG n_<|OF<|w_<|aX p3<|ic p3 0<|AI<|cW j (λj=>?_) λj=>?_;refine w_<|dG n_<|AI<|YF ?_;obtain rfl:=oi j;have o:=o.cJ cD 9;exact bL<|o.pk 1 [0];refine Ys<|w_<|mv (str p1)<|Zm p1 ⟨[]⟩ zt<|AI<|cW j (λj=>?_) λj=>?_;cases j;refine Ys<|w_<|aX p3<|ic p3 0<|AI<|q_ j λaa hj j=>Yo (λ(aa:Int)=>SH E V [(0,str p0),(1,str p1),(2,vi p2),(3,vi aa)] []) aa ?_ ?_;refine cW hj (λhj=>?_) λhj=>?_;refine IN<|mv (str p0)<|mv (str p1)<|q_ hj λag aj hj=>Yi (fO Tryz.func228) (EF N (p0:=p0) (p1:=p1) o aj) λw o=>W_ ag 1<|aH (cE<|ag+1)<|By ?_;exact oi hj▸⟨rfl,o.sp 0 []⟩;exact YB<|oi hj▸⟨rfl,o.sp 0 []⟩;rintro _ w⟨O,rfl,o⟩;refine aC<|w_<|aX aa<|mv (str p0)<|Zw p0 Cz<|W_ (p0.cY.length:Int) 1<|Zy aa (cE<|(p0.cY.length:Int)+1)<|aH (if cE ((p0.cY.length:Int)+1)<aa then cE ((p0.cY.length:Int)+1)else aa)<|IS ?_;refine aX (if cE ((p0.cY.length:Int)+1)<aa then cE ((p0.cY.length:Int)+1)else aa)<|q_ j λaw ak j=>ZN (if cE ((p0.cY.length:Int)+1)<aa then cE ((p0.cY.length:Int)+1)else aa) o Ry X3 ak λaf w o=>?_;refine dG af<|IS<|aX (if cE ((p0.cY.length:Int)+1)<aa then cE ((p0.cY.length:Int)+1)else aa)<|W_ (if cE ((p0.cY.length:Int)+1)<aa then cE ((p0.cY.length:Int)+1)else aa) 1<|aH (cE<|(if cE ((p0.cY.length:Int)+1)<aa then cE ((p0.cY.length:Int)+1)else aa) - 1)<|IS<|aH 0<|OF<|Zx E V (λ(ab:cD×Z cD×Int)=>[own 9 af ab.2.1]) (λab=>[(0,str ab.1),(9,af),(10,vi ab.2.2)]) (λ_=>[(1,str p1),(2,vi p2),(3,vi<|cE<|(if cE ((p0.cY.length:Int)+1)<aa then cE ((p0.cY.length:Int)+1)else aa) - 1)]) j ?_ ?_ ?_;exact o.sp 1 [0];rintro ab fl _ w⟨O,rfl,o⟩j;refine BY<|w_<|aX ab.2.2<|aX (cE<|(if cE ((p0.cY.length:Int)+1)<aa then cE ((p0.cY.length:Int)+1)else aa) - 1)<|ic ab.2.2 (cE<|(if cE ((p0.cY.length:Int)+1)<aa then cE ((p0.cY.length:Int)+1)else aa) - 1)<|AI<|cW j (λj=>?_) λj=>?_;refine Zi<|Yr<|mv (str ab.1)<|mv (str p1)<|q_ j λae al j=>Yi Sk (xo N (p0:=ab.1) (p1:=p1) o al) λw o=>aH ae<|OF<|w_<|aX ae<|ic ae 0<|AI<|cW j (λj=>?_) λj=>?_;refine YD<|SZ (by decide) ?_;exact oi j▸⟨rfl,o.sp 1 [0]⟩;refine Y7<|mv af<|aX ab.2.2<|mv (str ab.1)<|aX ae<|aX p2<|W_ ae p2<|q_ j λan ao j=>ab2 ab.1 zr zr Cz (.inr ⟨rfl,zr⟩) (.inl zr) ao<|q_ j λay ah j=>YG 0 o zr zr CA ah ?_;have o:=o.sc cD an;refine Zs 1 0 o ah lI λw o=>?_;refine IS<|mv (str ab.1)<|aX ae<|mv (str p1)<|Zw p1 Cz<|W_ ae (p1.cY.length:Int)<|q_ j λaq ar j=>ab2 ab.1 zr zr Cz (.inl zr) (.inr ⟨rfl,zr⟩) ar<|dG (str aq)<|AI<|IN<|aX ab.2.2<|W_ ab.2.2 1<|aH (cE<|ab.2.2+1)<|By<|bE ?_;exact oi j▸⟨rfl,o.sp 2 [1]⟩;exact YD<|oi j▸⟨rfl,o.sp 1 [0]⟩;rintro ab _ w j⟨O,rfl,o⟩;refine aC<|w_<|mv af<|aX ab.2.2<|mv (str ab.1)<|q_ j λaz ai j=>YG 0 o zr zr CA ai ?_;have o:=o.sc cD ab.1;refine Zs 1 0 o ai lI λw o=>?_;refine IS<|mv af<|aX ab.2.2<|W_ ab.2.2 1<|q_ j λa0 au j=>aa4 1 zr o zr zr CA (.inr ⟨rfl,zr⟩) au λav o=>dG av<|AI<|Yj ?_;obtain rfl:=oi j;exact bL<|o.pk 2 [1]
def tm{p0 p1:cD}{res:Z cD}(o:Holds E w V)(j:nv N p0 p1=some res):c_ 121 [str p0,str p1] w<|vq E V res:=by
 unfold nv at j;refine enter Tryz.func121 zr zr<|w_<|dG n_<|IS<|mv (str p0)<|mv (str p1)<|q_ j λad aa j=>Yv (fO Tryz.func181) (BK N (p0:=p0) (p1:=p1) (p2:=0) (p3:=(-1)) o aa) λab w o=>dG ab<|AI<|Yj ?_;obtain rfl:=oi j;exact bL<|o.pk 1 [0]
def vu{p0:Z cD}{p1:cD->aV Bool}(j:Holds E w V)(h0:V[i0]? =some (rd v0 p0))(h1:Nc bK E V v1 p1 (λ(r:Bool)=>Value.bool r))(o:nJ N p0 p1=some res):c_ 180 [v0,v1] w<|aD E V res:=by
 unfold nJ at o;refine enter Tryz.func180 zr zr ?_;have j:=j.dup (i0+0) h0;refine w_<|aH 0<|OF<|w_<|mv v0<|S_ 0 p0 j Ic<|aX 0<|AI<|Zd E V (λ(ab:Unit)=>[rd v0 p0]) (λ_=>[]) (λaa _=>[(0,v0),(1,v1),(7,vi p0.length),(8,vi aa)]) (λr=>jS bK 19 Tryz.f180 (aD E V r) .ret) o ?_ ?_ ?_ ?_;exact j.sp 1 [0];rintro hm aa ab fl _ w hk⟨O,rfl,j⟩o;refine BY<|Yr<|aX (aa:Int)<|aH (aa:Int)<|IS<|mv v1<|mv v0<|aX (aa:Int)<|q_ o λad ag o=>IT 0 j CA ag λak j=>Yu ad 0 j lI ?_;have j:=j.sc cD ad;refine q_ o λal ah o=>ZR 0 j h1 3 ah λw j=>AI<|cW o (λo=>?_) λo=>?_;exact w_<|aX (aa:Int)<|aH (aa:Int)<|AI<|YI<|aU<|oi o▸⟨rfl,bL ⟨rfl,j.drop 3⟩⟩;exact YB<|bE<|aC<|IN<|YL hk hm<|aX ((aa+1:Nat):Int)<|By<|oi o▸⟨rfl,j.sp 3 [2]⟩;intro r U w o hK;exact aU<|oi o▸hK;rintro ab _ w o⟨O,rfl,j⟩;exact aC<|w_<|aH (-1)<|AI<|Yj<|oi o▸bL ⟨rfl,j.drop 1⟩
def tO{p0:Z cD}{p1:cD->aV Bool}{res:Bool}(j:Holds E w V)(h0:V[i0]? =some (rd v0 p0))(h1:Nc bK E V v1 p1 (λ(r:Bool)=>Value.bool r))(o:jZ N p0 p1=some res):c_ 120 [v0,v1] w<|aN E V res:=by
 unfold jZ at o;refine enter Tryz.func120 zr zr ?_;have j:=j.dup (i0+0) h0;refine w_<|bV false<|IS<|mv v0<|mv v1<|q_ o λaa ab o=>Yi (fO Tryz.func180) (vu N (i0:=0) j zr (h1.lift 1 zr) ab) λw j=>ic aa 0<|bV (decide<|aa>=0)<|AI<|Yj ?_;exact oi o▸bL ⟨rfl,j.drop 1⟩
def Ap{p0:cD}{res:Bool}(o:Holds E w V)(j:j3 N p0=some res):c_ 122 [str p0] w<|aN E V res:=by
 unfold j3 at j;exact enter Tryz.func122 zr zr<|w_<|bV false<|IS<|mv (str p0)<|q_ j λaa ab j=>Yi Nr (pz N (p0:=p0) o ab) λw o=>YU aa<|bV (!aa)<|AI<|Yj<|oi j▸bL ⟨rfl,o.drop 0⟩
def sA{p0:cD}{res:Bool}(j:Holds E w V)(hb:kR N p0=some res):c_ 62 [str p0] w<|aN E V res:=by
 unfold kR at hb;refine enter Tryz.func62 zr zr<|w_<|bV false<|OF<|q_ hb λad hj hb=>Yo (λ(ad:Bool)=>SH E V [(2,vb ad)] []) ad ?_ ?_;refine IN<|mv (str p0)<|Zw p0 Cz<|ic ((p0.cY.length:Int)) 200<|eV (decide<|(p0.cY.length:Int)<=200)<|eE hj (λo hj=>?_) λo hj=>?_;refine U_ (str p0) (cg o)<|q_ hj λah af hj=>Yv (hg:=cg o) PC (tm N (p0:=p0) (p1:=⟨[47]⟩) j af) λai w j=>?_;have j:=j.freeze 0;refine q_ hj λae ag hj=>Yi (hg:=cg o) (fO Tryz.func120) (tO N (i0:=0) j rfl ⟨122,[],rfl,(fO Tryz.func122),λw Γl v y0 r i j hi hr=>by obtain rfl:=j.FO (γ:=cD) hi;exact iO (Ap N (p0:=y0) j hr) λ_ _ h=>h⟩ ag) λw j=>YU (hg:=cg o) ae<|eI o (vb<|!ae)<|bV (!ae)<|By ?_;exact oi hj▸⟨rfl,j.sp 1 []⟩;exact bB o<|bB o<|bB o<|bB o<|eI o (vb false)<|bV false<|By<|oi hj▸⟨rfl,j.sp 0 []⟩;rintro _ w⟨O,rfl,j⟩;exact aC<|Yj<|oi hb▸bL ⟨rfl,j.drop 0⟩
def pZ{p0:Z Part}{p1:cD}{p2:Part->cD->aV Int}{res:Int×Bool}(o:Holds E w V)(h0:V[i0]? =some (rd v0 p0))(h2:Pk bK E V v2 p2 (λ(r:Int)=>Value.int .i64 r))(hb:gD N p0 p1 p2=some res):c_ 182 [v0,str p1,v2] w<|eX E V res:=by
 unfold gD at hb;refine enter Tryz.func182 zr zr ?_;have o:=o.dup (i0+0) h0;refine w_<|aH 0<|bV false<|IS<|mv v0<|S_ 0 p0 o KW<|aH (p0.length:Int)<|IS<|aX (p0.length:Int)<|aH 0<|aH (p0.length:Int)<|OF<|Zx E V (λ(j:Int×Int)=>[rd v0 p0]) (λj=>[(0,v0),(1,str p1),(2,v2),(8,vi p0.length),(9,vi j.1)]) (λj=>[(10,vi j.2)]) hb ?_ ?_ ?_;exact o.sp 1 [0];rintro j fl _ w⟨O,rfl,o⟩hb;refine BY<|w_<|aX j.1<|aX j.2<|ic j.1 j.2<|AI<|cW hb (λhb=>?_) λhb=>?_;refine Zi<|Yr<|aX j.1<|aX j.2<|W_ j.1 j.2<|ZM (cE<|j.1+j.2) ⟨_,L9⟩ Fg<|ZQ (v':=(.int .u64 1)) (.int .u64<|wrap .u64<|cE<|j.1+j.2) (.int .u64<|Int.fdiv (wrap .u64<|cE<|j.1+j.2) 2) zt zr zr zr<|ZM (Int.fdiv (wrap .u64<|cE<|j.1+j.2) 2) ⟨_,Fg⟩ L9<|aH (cE<|Int.fdiv (wrap .u64<|cE<|j.1+j.2) 2) ?_;refine IS<|mv v2<|mv v0<|aX (cE<|Int.fdiv (wrap .u64<|cE<|j.1+j.2) 2)<|q_ hb λah ai hb=>IT 0 o FT ai λar o=>Yk 0 ah o Ae λau o=>mv (str p1) ?_;have o:=o.sc cD p1;refine q_ hb λaj ak hb=>ZG 1 0 zt o h2 4 ak λw o=>ic aj 0<|AI<|q_ hb λae hj hb=>Yo (λ(ae:Int×Int)=>SH E V [(0,v0),(1,str p1),(2,v2),(8,vi p0.length),(9,vi ae.1),(10,vi ae.2)] [rd v0 p0]) ae ?_ ?_;refine cW hj (λhj=>?_) λhj=>?_;refine IN<|aX (cE<|Int.fdiv (wrap .u64<|cE<|j.1+j.2) 2)<|W_ (cE<|Int.fdiv (wrap .u64<|cE<|j.1+j.2) 2) 1<|aH (cE<|cE (Int.fdiv (wrap .u64<|cE<|j.1+j.2) 2)+1)<|By ?_;exact oi hj▸⟨rfl,o.sp 4 [3]⟩;refine IN<|aX (cE<|Int.fdiv (wrap .u64<|cE<|j.1+j.2) 2)<|aH (cE<|Int.fdiv (wrap .u64<|cE<|j.1+j.2) 2)<|By ?_;exact oi hj▸⟨rfl,o.sp 4 [3]⟩;rintro _ w⟨O,rfl,o⟩;exact bE<|oi hb▸⟨rfl,o.sp 1 [0]⟩;exact YD<|oi hb▸⟨rfl,o.sp 1 [0]⟩;rintro j _ w hb⟨O,rfl,o⟩;refine aC<|BY<|q_ hb λaf hj hb=>Yo (λ(af:Bool)=>SH E V [(6,vi j.1),(7,vb af)] []) af ?_ ?_;refine IN<|aX j.1<|aX j.1<|aX (p0.length:Int)<|ic j.1 ((p0.length:Int))<|eV (decide<|j.1<(p0.length:Int))<|eE hj (λaa hj=>?_) λaa hj=>?_;refine U_ v2 (cg aa)<|U_ v0 (cg aa)<|U_ (vi j.1) (cg aa)<|q_ hj λal an hj=>IT (hg:=cg aa) 0 o FT an λav o=>Yk (hg:=cg aa) 0 al o Ae λaw o=>U_ (str p1) (cg aa) ?_;have o:=o.sc cD p1;refine q_ hj λag ao hj=>ZG 1 0 (cg aa) o h2 4 ao λw o=>Y6 ag 0 (cg aa)<|eI aa (vb<|ag==0)<|aH j.1<|bV (ag==0)<|By ?_;exact oi hj▸⟨rfl,o.sp 4 []⟩;refine bB aa<|bB aa<|bB aa<|bB aa<|bB aa<|bB aa<|bB aa<|bB aa<|eI aa (vb false)<|aH j.1<|bV false<|By ?_;exact oi hj▸⟨rfl,o.sp 1 []⟩;rintro _ w⟨O,rfl,o⟩;exact aC<|Yj<|oi hb▸s8 ⟨rfl,o.drop 0⟩
def Aq{p0:Part}{p1:cD}(j:Holds E w V)(h0:V[i0]? =some (rd v0 p0))(o:ll N p0 p1=some res):c_ 183 [v0,str p1] w<|aD E V res:=by
 unfold ll at o;refine enter Tryz.func183 zr zr ?_;have j:=j.dup (i0+0) h0;refine w_<|YC 0 v0 j zr λad w j=>?_;exact aH 0<|IS<|AT zr tA<|T_ 0 j zr oV lI<|mv (str p1)<|q_ o λaa ab o=>Yi PB (mu N (p0:=p0.Name) (p1:=p1) j ab) λw j=>aH aa<|AI<|Yj<|oi o▸bL ⟨rfl,j.drop 2⟩
def DJ{p0:Z Part}{p1:cD}(hw:Holds E w V)(h0:V[i0]? =some (rd v0 p0))(hb:pN N p0 p1=some res):c_ 123 [v0,str p1] w<|aD E V res:=by
 unfold pN at hb;refine enter Tryz.func123 zr zr ?_;have hw:=hw.dup (i0+0) h0;refine w_<|aH 0<|IS<|mv v0<|mv (str p1) ?_;refine q_ hb λo ad hb=>Yi (fO Tryz.func182) (pZ N (p1:=p1) (i0:=0) hw rfl ⟨183,[],rfl,(fO Tryz.func183),λw Γl v v' y0 y1 r i j hw hi hj hr=>by obtain rfl:=hw.FO (γ:=cD) hj;exact iO (Aq N (p1:=y1) (i0:=i) hw hi hr) λ_ _ h=>h⟩ ad) λw hw=>mv (.tuple #[vi o.1,vb o.2])<|Y4 (vi o.1)<|Y4 (vb o.2)<|aH o.1<|bV o.2<|OF<|w_<|eV o.2 ?_;refine YU o.2<|AI<|cW hb (λhb=>?_) λhb=>?_;exact w_<|aH (-1)<|AI<|YF<|oi hb▸bL ⟨rfl,hw.drop 1⟩;exact Y7<|aX o.1<|aH o.1<|AI<|Yj<|oi hb▸bL ⟨rfl,hw.drop 1⟩
def oI{p0:Z dM}{p1:cD}{p2:dM->cD->aV Int}{res:Int×Bool}(o:Holds E w V)(h0:V[i0]? =some (rd v0 p0))(h2:Pk bK E V v2 p2 (λ(r:Int)=>Value.int .i64 r))(hb:fM N p0 p1 p2=some res):c_ 184 [v0,str p1,v2] w<|eX E V res:=by
 unfold fM at hb;refine enter Tryz.func184 zr zr ?_;have o:=o.dup (i0+0) h0;refine w_<|aH 0<|bV false<|IS<|mv v0<|S_ 0 p0 o wu<|aH (p0.length:Int)<|IS<|aX (p0.length:Int)<|aH 0<|aH (p0.length:Int)<|OF<|Zx E V (λ(j:Int×Int)=>[rd v0 p0]) (λj=>[(0,v0),(1,str p1),(2,v2),(8,vi p0.length),(9,vi j.1)]) (λj=>[(10,vi j.2)]) hb ?_ ?_ ?_;exact o.sp 1 [0];rintro j fl _ w⟨O,rfl,o⟩hb;refine BY<|w_<|aX j.1<|aX j.2<|ic j.1 j.2<|AI<|cW hb (λhb=>?_) λhb=>?_;refine Zi<|Yr<|aX j.1<|aX j.2<|W_ j.1 j.2<|ZM (cE<|j.1+j.2) ⟨_,L9⟩ Fg<|ZQ (v':=(.int .u64 1)) (.int .u64<|wrap .u64<|cE<|j.1+j.2) (.int .u64<|Int.fdiv (wrap .u64<|cE<|j.1+j.2) 2) zt zr zr zr<|ZM (Int.fdiv (wrap .u64<|cE<|j.1+j.2) 2) ⟨_,Fg⟩ L9<|aH (cE<|Int.fdiv (wrap .u64<|cE<|j.1+j.2) 2) ?_;refine IS<|mv v2<|mv v0<|aX (cE<|Int.fdiv (wrap .u64<|cE<|j.1+j.2) 2)<|q_ hb λah ai hb=>IT 0 o vk ai λar o=>Yk 0 ah o tM λau o=>mv (str p1) ?_;have o:=o.sc cD p1;refine q_ hb λaj ak hb=>ZG 1 0 zt o h2 4 ak λw o=>ic aj 0<|AI<|q_ hb λae hj hb=>Yo (λ(ae:Int×Int)=>SH E V [(0,v0),(1,str p1),(2,v2),(8,vi p0.length),(9,vi ae.1),(10,vi ae.2)] [rd v0 p0]) ae ?_ ?_;refine cW hj (λhj=>?_) λhj=>?_;refine IN<|aX (cE<|Int.fdiv (wrap .u64<|cE<|j.1+j.2) 2)<|W_ (cE<|Int.fdiv (wrap .u64<|cE<|j.1+j.2) 2) 1<|aH (cE<|cE (Int.fdiv (wrap .u64<|cE<|j.1+j.2) 2)+1)<|By ?_;exact oi hj▸⟨rfl,o.sp 4 [3]⟩;refine IN<|aX (cE<|Int.fdiv (wrap .u64<|cE<|j.1+j.2) 2)<|aH (cE<|Int.fdiv (wrap .u64<|cE<|j.1+j.2) 2)<|By ?_;exact oi hj▸⟨rfl,o.sp 4 [3]⟩;rintro _ w⟨O,rfl,o⟩;exact bE<|oi hb▸⟨rfl,o.sp 1 [0]⟩;exact YD<|oi hb▸⟨rfl,o.sp 1 [0]⟩;rintro j _ w hb⟨O,rfl,o⟩;refine aC<|BY<|q_ hb λaf hj hb=>Yo (λ(af:Bool)=>SH E V [(6,vi j.1),(7,vb af)] []) af ?_ ?_;refine IN<|aX j.1<|aX j.1<|aX (p0.length:Int)<|ic j.1 ((p0.length:Int))<|eV (decide<|j.1<(p0.length:Int))<|eE hj (λaa hj=>?_) λaa hj=>?_;refine U_ v2 (cg aa)<|U_ v0 (cg aa)<|U_ (vi j.1) (cg aa)<|q_ hj λal an hj=>IT (hg:=cg aa) 0 o vk an λav o=>Yk (hg:=cg aa) 0 al o tM λaw o=>U_ (str p1) (cg aa) ?_;have o:=o.sc cD p1;refine q_ hj λag ao hj=>ZG 1 0 (cg aa) o h2 4 ao λw o=>Y6 ag 0 (cg aa)<|eI aa (vb<|ag==0)<|aH j.1<|bV (ag==0)<|By ?_;exact oi hj▸⟨rfl,o.sp 4 []⟩;refine bB aa<|bB aa<|bB aa<|bB aa<|bB aa<|bB aa<|bB aa<|bB aa<|eI aa (vb false)<|aH j.1<|bV false<|By ?_;exact oi hj▸⟨rfl,o.sp 1 []⟩;rintro _ w⟨O,rfl,o⟩;exact aC<|Yj<|oi hb▸s8 ⟨rfl,o.drop 0⟩
def BL{p0:dM}{p1:cD}(j:Holds E w V)(h0:V[i0]? =some (rd v0 p0))(o:l7 N p0 p1=some res):c_ 185 [v0,str p1] w<|aD E V res:=by
 unfold l7 at o;refine enter Tryz.func185 zr zr ?_;have j:=j.dup (i0+0) h0;refine w_<|YC 0 v0 j zr λad w j=>?_;exact aH 0<|IS<|AT zr tz<|T_ 0 j zr kL lI<|mv (str p1)<|q_ o λaa ab o=>Yi PB (mu N (p0:=p0.Name) (p1:=p1) j ab) λw j=>aH aa<|AI<|Yj<|oi o▸bL ⟨rfl,j.drop 2⟩
def EG{p0:aS}{p1:cD}(o:Holds E w V)(h0:V[i0]? =some (rd v0 p0))(hb:qV N p0 p1=some res):c_ 124 [v0,str p1] w<|aD E V res:=by
 unfold qV at hb;refine enter Tryz.func124 zr zr ?_;have o:=o.dup (i0+0) h0;refine w_<|YC 0 v0 o zr λaf w o=>?_;refine aH 0<|IS<|AT zr ru<|Yt 0 o zr iK zk λag o=>mv (str p1) ?_;refine q_ hb λaa ad hb=>Yi (fO Tryz.func184) (oI N (p1:=p1) (i0:=0) o rfl ⟨185,[],rfl,(fO Tryz.func185),λw Γl v v' y0 y1 r i j o hi hj hr=>by obtain rfl:=o.FO (γ:=cD) hj;exact iO (BL N (p1:=y1) (i0:=i) o hi hr) λ_ _ h=>h⟩ ad) λw o=>mv (.tuple #[vi aa.1,vb aa.2])<|Y4 (vi aa.1)<|Y4 (vb aa.2)<|aH aa.1<|bV aa.2<|OF<|w_<|eV aa.2 ?_;refine YU aa.2<|AI<|cW hb (λhb=>?_) λhb=>?_;exact w_<|aH (-1)<|AI<|YF<|oi hb▸bL ⟨rfl,o.drop 3⟩;exact Y7<|aX aa.1<|aH aa.1<|AI<|Yj<|oi hb▸bL ⟨rfl,o.drop 3⟩
def DK{p0:Z aS}{p1:Z Part}{p2:bC}{res:Bool}(j:Holds E w V)(h0:V[i0]? =some (rd v0 p0))(h1:V[i1]? =some (rd v1 p1))(h2:V[i2]? =some (rd v2 p2))(hb:r8 N p0 p1 p2=some res):c_ 65 [v0,v1,v2] w<|aN E V res:=by
 unfold r8 at hb;refine enter Tryz.func65 zr zr ?_;have j:=((j.dup (i0+0) h0).dup (i1+1) h1).dup (i2+2) h2;refine w_<|YC 0 v2 j zr λag w j=>?_;refine bV false<|IS<|mv v1<|AT zr si<|T_ 0 j zr nc lI<|q_ hb λad ai hb=>Yi (fO Tryz.func123) (DJ N (p1:=p2.Part) (i0:=2) j zr ai) λw j=>aH ad<|OF<|q_ hb λae hj hb=>Yo (λ(ae:Bool)=>SH E V [(6,vb ae)] []) ae ?_ ?_;have j:=j.drew;refine ZH (λw=>Holds E w<|[bx 55 ag p2]++V) mixed [0,0,0,1,0,0,0,0,0,0,2,0,0,1,1,2,0,0,0] [0,1,2,3,4,5,6,7,8,9,13,14,10,11,12,15,16,17,18] (j.pk 4 [0])<|Yn zr zr<|aX ad<|bA zr<|ic ad 0<|bA zr<|eV (decide<|ad>=0)<|Yq<|eE hj (λo hj=>?_) λo hj=>?_;refine YE v0 zr (λw=>U_ v0 (cg o) Yz)<|Yn zr zr<|U_ v0 (cg o)<|bA zr<|U_ v1 (cg o)<|bA zr<|U_ (vi ad) (cg o)<|bA zr<|q_ hj λah aj hj=>IT (hg:=cg o) 2 j FT aj λaq j=>bA zr<|Yw (hg:=cg o) 0 j zr Bf uT λar j=>bA zr<|Yu (hg:=cg o) ah.jR 0 j lI<|Yq<|YE (vp ag 1) zr (λw=>AT (hg:=cg o) zr wL Yz)<|ZE (str p2.bC) zr (λw j=>T_ (hg:=cg o) 0 j zr qW lI Yz)<|Y5 zr zr ?_;refine q_ hj λau ak hj=>Yi (hg:=cg o) Tf (sw N (p1:=ah.jR) (i0:=5) j zr ak) λw j=>YV (j.pk 6 [2])<|Yn zr zr<|q_ hj λal an hj=>IT (hg:=cg o) 5 j Ew an λav j=>bA zr<|Yk (hg:=cg o) 0 al j Ad λaw j=>o9 zr<|q_ hj λaf ao hj=>Yi (hg:=cg o) (fO Tryz.func124) (EG N (p1:=p2.bC) (i0:=0) j zr ao) λw j=>YV (j.pk 8 [4])<|Yn zr zr<|Y6 af 0 (cg o)<|bA zr<|eI o (vb<|decide<|af>=0)<|bA zr<|bV (decide<|af>=0)<|Yq ?_;exact YM<|oi hj▸⟨rfl,j.sp 8 []⟩;refine YE undef zr (λw=>bB o Yz)<|Yn zr zr<|bB o<|bA zr<|bB o<|bA zr<|bB o<|bA zr<|bB o<|bA zr<|bB o<|bA zr<|bB o<|Yq<|YE undef zr (λw=>bB o Yz)<|YE undef zr (λw=>bB o Yz)<|Y5 zr zr<|bB o ?_;refine YV (j.pk 4 [0])<|Yn zr zr<|bB o<|bA zr<|bB o<|o9 zr<|bB o<|YV (j.pk 4 [0])<|Yn zr zr<|bB o<|bA zr<|eI o (vb false)<|bA zr<|bV false<|Yq<|YM ?_;exact oi hj▸⟨rfl,j.sp 4 []⟩;rintro _ w⟨O,rfl,j⟩;exact aC<|Yj<|oi hb▸bL ⟨rfl,j.drop 0⟩
def xp{p0:bC}{p1:Z aS}{p2:cA}{res:Bool}(j:Holds E w V)(h0:V[i0]? =some (rd v0 p0))(h1:V[i1]? =some (pt v1 p1))(h2:V[i2]? =some (pt v2 p2))(o:mY N p0 p1 p2=some res):c_ 64 [v0,v1,v2] w<|aN E V res:=by
 unfold mY at o;refine enter Tryz.func64 zr zr ?_;have j:=((j.dup (i0+0) h0).Cp (i:=i1+1) h1).Cp (i:=i2+2) h2;refine w_<|YC 2 v0 j zr λad w j=>?_;refine bV false<|IS<|Yk 2 p1 j Te λae j=>Yw 2 j zr vl ji λaf j=>Yk 0 p2.cR j GB λag j=>YA 3 j zr ij λah j=>?_;exact q_ o λaa ab o=>Yi (fO Tryz.func65) (DK N (i0:=3) (i1:=1) (i2:=0) j zr zr zr ab) λw j=>bV aa<|AI<|Yj<|oi o▸bL ⟨rfl,j.drop 8⟩
def lW{p0 p1:bC}(j:Holds E w V)(h0:V[i0]? =some (rd v0 p0))(h1:V[i1]? =some (rd v1 p1))(o:eM N p0 p1=some res):c_ 14 [v0,v1] w<|aD E V res:=by
 unfold eM at o;refine enter Tryz.func14 zr zr ?_;have j:=(j.dup (i0+0) h0).dup (i1+1) h1;refine w_<|YC 1 v0 j zr λaf w j=>?_;refine YC 1 v1 j zr λag w j=>?_;refine aH 0<|OF<|w_<|AT zr si<|T_ 1 j zr nc lI<|AT zr si<|T_ 0 j zr nc lI<|q_ o λaa ab o=>Yi PB (mu N (p0:=p0.Part) (p1:=p1.Part) j ab) λw j=>aH aa<|IS<|aX aa<|ic aa 0<|AI<|cW o (λo=>?_) λo=>?_;exact w_<|aX aa<|aH aa<|AI<|YF<|oi o▸bL ⟨rfl,j.drop 4⟩;exact Y7<|AT zr wL<|T_ 1 j zr qW lI<|AT zr wL<|T_ 0 j zr qW lI<|q_ o λad ae o=>Yi PB (mu N (p0:=p0.bC) (p1:=p1.bC) j ae) λw j=>aH ad<|AI<|Yj<|oi o▸bL ⟨rfl,j.drop 4⟩
def sB(E:aY)(V:Z HP)(v2:aW)(res:Int×Z (bC×Bool))(v:aW)(w:aY):Prop:=v= vi res.1/\Holds E w ([mp v2 res.2]++V)
def xq{p0:Z bC}{p1:bC->aV Bool}{p2:Z (bC×Bool)}{res:Int×Z (bC×Bool)}(j:Holds E w (mp v2 p2::V))(h0:V[i0]? =some (rd v0 p0))(h1:Nc bK E V v1 p1 (λ(r:Bool)=>Value.bool r))(o:kS N p0 p1 p2=some res):c_ 63 [v0,v1,v2] w<|sB E V v2 res:=by
 unfold kS at o;refine enter Tryz.func63 zr zr ?_;have j:=j.dup (i0+1) h0;refine w_<|aH 0<|OF<|w_<|mv v0<|S_ 0 p0 j q6<|ic ((p0.length:Int)) 500<|AI<|cW o (λo=>?_) λo=>?_;exact w_<|aH 2<|AI<|YF<|oi o▸bL ⟨rfl,j.pk 2 [1]⟩;refine Ys<|w_<|mv v0<|S_ 0 p0 j q6<|aX 0<|AI<|Zd E V (λ(al:Unit)=>[rd v0 p0,mp v2 p2]) (λ_=>[(0,v0),(2,v2)]) (λab _=>[(1,v1),(14,v0),(15,vi p0.length),(16,vi ab)]) (λr=>jS bK 53 Tryz.f63 (sB E V v2 r) .ret) o ?_ ?_ ?_ ?_;exact j.sp 2 [0,1];rintro hm ab al fl _ w hk⟨O,rfl,j⟩o;refine BY<|Yr<|aX (ab:Int)<|q_ o λae ar o=>IT 0 j n8 ar λa1 j=>Yk 0 ae j ij λa2 j=>YN j tN.z λan w j=>?_;refine aH (ab:Int)<|YH 0 j 1 zr ij λw j=>?_;refine AI<|Yr<|mv v1<|YA 0 j zr ij λa3 j=>?_;refine q_ o λao au o=>ZR 0 j h1 6 au λw j=>YU ao<|bV (!ao)<|AI<|cW o (λo=>?_) λo=>?_;exact w_<|aH 9<|AI<|YI<|eL<|aU<|oi o▸⟨rfl,bL ⟨rfl,j.pk 6 [5]⟩⟩;refine BY<|q_ o λah hj o=>Yo (λ(ah:Bool)=>SH E V [(0,v0),(1,v1),(2,v2),(8,vp an 0),(14,v0),(15,vi p0.length),(16,vi ab),(26,vb ah)] [rd v0 p0,mp v2 p2,bx 55 an ae]) ah ?_ ?_;refine Y8 mixed [0,0,0,0,0,0,0,0,0,2,0,0,0] [0,1,2,3,4,5,6,7,8,9,10,11,12] ?_;have j:=j.drew;refine Yn zr zr<|aX (ab:Int)<|bA zr<|ic ((ab:Int)) 0<|bA zr<|eV (decide<|(ab:Int)>0)<|Yq<|eE hj (λaa hj=>?_) λaa hj=>?_;refine Yn zr zr<|YA (hg:=cg aa) 1 j zr ij λa4 j=>bA zr<|U_ v0 (cg aa)<|bA zr<|U_ (vi ab) (cg aa)<|bA zr<|W_ (hg:=cg aa) (ab:Int) 1<|bA zr<|q_ hj λav aw hj=>IT (hg:=cg aa) 5 j n8 aw λa5 j=>bA zr<|Yk (hg:=cg aa) 0 av j ij λa6 j=>o9 zr ?_;refine q_ hj λai ax hj=>Yi (hg:=cg aa) Rz (lW N (i0:=2) (i1:=0) j zr zr ax) λw j=>sS zr<|Y6 ai 0 (cg aa)<|bA zr<|eI aa (vb<|decide<|ai<=0)<|bA zr<|bV (decide<|ai<=0)<|Yq<|YM ?_;exact oi hj▸⟨rfl,j.sp 9 [7,8,4]⟩;refine Yn zr zr<|bB aa<|bA zr<|bB aa<|bA zr<|bB aa<|bA zr<|bB aa<|bA zr<|bB aa<|bA zr<|bB aa<|o9 zr<|bB aa<|sS zr<|bB aa<|bA zr<|eI aa (vb false) ?_;exact bA zr<|bV false<|Yq<|YM<|oi hj▸⟨rfl,j.sp 6 [4,5,1]⟩;rintro _ w⟨O,rfl,j⟩;refine aC<|cW o (λo=>?_) λo=>?_;exact w_<|aH 8<|AI<|YI<|eL<|aU<|oi o▸⟨rfl,bL ⟨rfl,j.pk 3 [1]⟩⟩;refine w_<|mv v2<|YA 2 j zr ij λa7 j=>Z7 2 ae zr j zr (ve 0 j) zr PD<|bV (fP p2 ae (false:Bool))<|AI<|cW o (λo=>?_) λo=>?_;exact w_<|aH 7<|AI<|YI<|eL<|aU<|oi o▸⟨rfl,bL ⟨rfl,j.pk 4 [2]⟩⟩;exact YB<|bE<|bE<|aC<|IN<|YL hk hm<|aX ((ab+1:Nat):Int)<|By<|oi o▸⟨rfl,j.sp 4 [1,2]⟩;intro r U w o hK;exact aU<|oi o▸hK;rintro al _ w o⟨O,rfl,j⟩;refine aC<|BY<|w_<|mv v0<|S_ 0 p0 j q6<|aX 0<|AI<|ZI E V (λ(aj:Z (bC×Bool))=>[mp v2 aj,rd v0 p0]) (λ_=>[(2,v2)]) (λak _=>[(44,v0),(45,vi p0.length),(46,vi ak)]) o ?_ ?_ ?_;exact j.sp 2 [1,0];rintro hm ak aj s' _ w hk⟨O,rfl,j⟩o;refine BY<|Yr<|q_ o λaq az o=>IT 1 j n8 az λa8 j=>Yk 0 aq j ij λa9 j=>YN j tN.z λba w j=>?_;refine YH 0 j 1 zr ij λw j=>?_;refine AI<|IN<|mv v2<|YA 0 j zr ij λbb j=>?_;have j:=j.sc Bool true;exact ZT 5 0 aq j zr (ve 1 j) zr zr PD λw j=>By<|bE<|aC<|IN<|YL hk hm<|aX ((ak+1:Nat):Int)<|By<|oi o▸⟨rfl,j.sp 7 [5,6]⟩;rintro aj _ w o⟨O,rfl,j⟩;exact aC<|w_<|aH 0<|AI<|Yj<|oi o▸bL ⟨rfl,j.pk 2 [0]⟩
end Go.Gk
