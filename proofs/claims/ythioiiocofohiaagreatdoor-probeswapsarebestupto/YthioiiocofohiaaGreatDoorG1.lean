/-
  Printed texts: Go functions as plain functions, and that they are. No statement of the seed is proved here.
-/
import Derived.Test.YthioiiocofohiaaGreatDoorProg
import Derived.Test.YthioiiocofohiaaGreatDoorE1
import Derived.Test.YthioiiocofohiaaGreatDoorA1
import Derived.Test.YthioiiocofohiaaGreatDoorA2
import Derived.Test.YthioiiocofohiaaGreatDoorRows
import Derived.Shelf.SlGeneric
import Derived.Ground.SlsfProg
import Derived.Ground.SlgmProg
set_option linter.unusedVariables false
set_option linter.unusedSimpArgs false
set_option linter.unusedSectionVars false
set_option maxRecDepth 100000
set_option maxHeartbeats 40000000
namespace Go.Gk
open Go Go.Proofs
noncomputable abbrev bN:=Tryz.prog
def mN (x:aH):=(x.X0,x.Y0,x.X1,x.Y1)
instance instGTRect:GT aH:=GT.via mN
instance instKVRect:KV aH:=instKVvia (fun(x:aH)=>(x.X0,x.Y0,x.X1,x.Y1))
theorem fY:Fd 0 (fun x:aH=>x.X0):= .v mN (.fst .self)
theorem uq:Fs 0 Int (fun(x:aH) y=>{x with X0:=y}):= .v mN (.fst .self)
theorem gE:Fd 1 (fun x:aH=>x.Y0):= .v mN (.snd (.fst .self))
theorem xB:Fs 1 Int (fun(x:aH) y=>{x with Y0:=y}):= .v mN (.snd (.fst .self))
theorem gS:Fd 2 (fun x:aH=>x.X1):= .v mN (.snd (.snd (.fst .self)))
theorem rf:Fs 2 Int (fun(x:aH) y=>{x with X1:=y}):= .v mN (.snd (.snd (.fst .self)))
theorem kr:Fd 3 (fun x:aH=>x.Y1):= .v mN (.snd (.snd (.snd (.self))))
theorem uu:Fs 3 Int (fun(x:aH) y=>{x with Y1:=y}):= .v mN (.snd (.snd (.snd (.self))))
def xC (x:bH):=(x.X,x.Y)
instance instGTPoint:GT bH:=GT.via xC
instance instKVPoint:KV bH:=instKVvia (fun(x:bH)=>(x.X,x.Y))
theorem nX:Fd 0 (fun x:bH=>x.X):= .v xC (.fst .self)
theorem nY:Fd 1 (fun x:bH=>x.Y):= .v xC (.snd (.self))
def rh (x:cD):=(x.At,x.eP,x.cZ,x.To,x.iO)
instance instGTBore:GT cD:=GT.via rh
theorem xD:Fd 0 (fun x:cD=>x.At):= .v rh (.fst .self)
theorem ri:Fd 2 (fun x:cD=>x.eP):= .v rh (.snd (.fst .self))
theorem nZ:Fd 3 (fun x:cD=>x.cZ):= .v rh (.snd (.snd (.fst .self)))
theorem pC:Fd 4 (fun x:cD=>x.To):= .v rh (.snd (.snd (.snd (.fst .self))))
theorem uv:Fd 5 (fun x:cD=>x.iO):= .v rh (.snd (.snd (.snd (.snd (.self)))))
def pJ (x:dD):=(x.Part,x.fE,x.eV,x.At)
instance instGTLand:GT dD:=GT.via pJ
theorem Bg:Fd 0 (fun x:dD=>x.Part):= .v pJ (.fst .self)
theorem GJ:Fs 0 dO (fun(x:dD) y=>{x with Part:=y}):= .v pJ (.fst .self)
theorem Bh:Fd 1 (fun x:dD=>x.fE):= .v pJ (.snd (.fst .self))
theorem GK:Fs 1 dO (fun(x:dD) y=>{x with fE:=y}):= .v pJ (.snd (.fst .self))
theorem xE:Fd 2 (fun x:dD=>x.eV):= .v pJ (.snd (.snd (.fst .self)))
theorem rj:Fd 3 (fun x:dD=>x.At):= .v pJ (.snd (.snd (.snd (.self))))
def wu (x:fz):=(x.aI,x.cQ,x.aQ,x.bL)
instance instGTArt:GT fz:=GT.via wu
theorem rk:Fd 0 (fun x:fz=>x.aI):= .v wu (.fst .self)
theorem zj:Fd 1 (fun x:fz=>x.cQ):= .v wu (.snd (.fst .self))
theorem tu:Fd 2 (fun x:fz=>x.aQ):= .v wu (.snd (.snd (.fst .self)))
theorem pK:Fd 3 (fun x:fz=>x.bL):= .v wu (.snd (.snd (.snd (.self))))
def wv (x:fE):=(x.Part,x.fE)
instance instGTPin:GT fE:=GT.via wv
instance instKVPin:KV fE:=instKVvia (fun(x:fE)=>(x.Part,x.fE))
theorem DC:Fd 0 (fun x:fE=>x.Part):= .v wv (.fst .self)
theorem zk:Fs 0 dO (fun(x:fE) y=>{x with Part:=y}):= .v wv (.fst .self)
theorem DD:Fd 1 (fun x:fE=>x.fE):= .v wv (.snd (.self))
theorem zm:Fs 1 dO (fun(x:fE) y=>{x with fE:=y}):= .v wv (.snd (.self))
def zn (x:Test):=(x.A,x.B,x.Joined)
instance instGTTest:GT Test:=GT.via zn
theorem n0:Fd 0 (fun x:Test=>x.A):= .v zn (.fst .self)
theorem n7:Fd 2 (fun x:Test=>x.B):= .v zn (.snd (.fst .self))
def n8 (x:Touch):=(x.Test,x.nW,x.qy)
instance instGTTouch:GT Touch:=GT.via n8
instance instKVTouch:KV Touch:=instKVvia (fun(x:Touch)=>(x.Test,x.nW,x.qy))
theorem pL:Fd 0 (fun x:Touch=>x.Test):= .v n8 (.fst .self)
theorem zo:Fs 0 Int (fun(x:Touch) y=>{x with Test:=y}):= .v n8 (.fst .self)
theorem ET:Fd 1 (fun x:Touch=>x.nW):= .v n8 (.snd (.fst .self))
theorem zp:Fs 1 Bool (fun(x:Touch) y=>{x with nW:=y}):= .v n8 (.snd (.fst .self))
theorem EU:Fd 2 (fun x:Touch=>x.qy):= .v n8 (.snd (.snd (.self)))
theorem zq:Fs 2 Int (fun(x:Touch) y=>{x with qy:=y}):= .v n8 (.snd (.snd (.self)))
def jo (x:aA):=(x.Y0,x.Y1,x.Xs)
instance instGTshape_Band:GT aA:=GT.via jo
theorem gj:Fd 0 (fun x:aA=>x.Y0):= .v jo (.fst .self)
theorem sH:Fs 0 Int (fun(x:aA) y=>{x with Y0:=y}):= .v jo (.fst .self)
theorem eY:Fd 1 (fun x:aA=>x.Y1):= .v jo (.snd (.fst .self))
theorem oS:Fs 1 Int (fun(x:aA) y=>{x with Y1:=y}):= .v jo (.snd (.fst .self))
theorem dP:Fd 2 (fun x:aA=>x.Xs):= .v jo (.snd (.snd (.self)))
theorem sI:Fs 2 (List Int) (fun(x:aA) y=>{x with Xs:=y}):= .v jo (.snd (.snd (.self)))
def je (x:aJ):=(x.eV,x.Set,x.o4)
instance instGTcopper_Piece:GT aJ:=GT.via je
theorem qz:Fd 0 (fun x:aJ=>x.eV):= .v je (.fst .self)
theorem wx:Fs 0 Int (fun(x:aJ) y=>{x with eV:=y}):= .v je (.fst .self)
theorem wy:Fs 1 (List aA) (fun(x:aJ) y=>{x with Set:=y}):= .v je (.snd (.fst .self))
theorem qA:Fd 2 (fun x:aJ=>x.o4):= .v je (.snd (.snd (.self)))
theorem wz:Fs 2 (List aH) (fun(x:aJ) y=>{x with o4:=y}):= .v je (.snd (.snd (.self)))
def GL (x:cU):=(x.oQ,x.aQ,x.jC)
instance instGTGroup:GT cU:=GT.via GL
def rZ (x:fJ):=(x.cD,x.Number)
instance instGTHop:GT fJ:=GT.via rZ
instance instKVHop:KV fJ:=instKVvia (fun(x:fJ)=>(x.cD,x.Number))
theorem zu:Fd 0 (fun x:fJ=>x.cD):= .v rZ (.fst .self)
theorem H2:Fs 0 Bool (fun(x:fJ) y=>{x with cD:=y}):= .v rZ (.fst .self)
theorem pM:Fd 1 (fun x:fJ=>x.Number):= .v rZ (.snd (.self))
theorem DE:Fs 1 Int (fun(x:fJ) y=>{x with Number:=y}):= .v rZ (.snd (.self))
def nB (x:cE):=(x.e0,x.e1)
instance instGTArr2_Int:GT cE:=GT.via nB
instance instKVArr2_Int:KV cE:=instKVvia (fun(x:cE)=>(x.e0,x.e1))
theorem vg:Fd 0 (fun x:cE=>x.e0):= .v nB (.fst .self)
theorem AG:Fs 0 Int (fun(x:cE) y=>{x with e0:=y}):= .v nB (.fst .self)
theorem vh:Fd 1 (fun x:cE=>x.e1):= .v nB (.snd (.self))
theorem AH:Fs 1 Int (fun(x:cE) y=>{x with e1:=y}):= .v nB (.snd (.self))
theorem B9: ∀k:Fin 2,Fs (k.val*1) Int (fun(x:cE) y=>x.st k y)
  | ⟨0,_⟩=>AG
  | ⟨1,_⟩=>AH
theorem Ca (k:Fin 2):k.val*1+1<=2:=by have:=k.isLt;omega
def kX (x:aX):=(x.e0,x.e1)
instance instGTprobe_spots:GT aX:=GT.via kX
theorem xF:Fd 0 (fun x:aX=>x.e0):= .v kX (.fst .self)
theorem xG:Fs 0 bH (fun(x:aX) y=>{x with e0:=y}):= .v kX (.fst .self)
theorem xH:Fd 2 (fun x:aX=>x.e1):= .v kX (.snd (.self))
theorem xI:Fs 2 bH (fun(x:aX) y=>{x with e1:=y}):= .v kX (.snd (.self))
theorem oT: ∀k:Fin 2,Fd (k.val*2) (fun x:aX=>x.gt k)
  | ⟨0,_⟩=>xF
  | ⟨1,_⟩=>xH
def rl (x:lK):=(x.Open,x.fJ,x.A,x.B)
instance instGTFlaw:GT lK:=GT.via rl
theorem n9:Fd 0 (fun x:lK=>x.Open):= .v rl (.fst .self)
theorem pD:Fd 1 (fun x:lK=>x.fJ):= .v rl (.snd (.fst .self))
theorem uw:Fd 3 (fun x:lK=>x.A):= .v rl (.snd (.snd (.fst .self)))
theorem ux:Fd 4 (fun x:lK=>x.B):= .v rl (.snd (.snd (.snd (.self))))
def iB (x:bD):=(x.e0,x.e1)
instance instGTArr2_probe_spots:GT bD:=GT.via iB
theorem sQ:Fd 0 (fun x:bD=>x.e0):= .v iB (.fst .self)
theorem sR:Fs 0 aX (fun(x:bD) y=>{x with e0:=y}):= .v iB (.fst .self)
theorem sS:Fd 4 (fun x:bD=>x.e1):= .v iB (.snd (.self))
theorem sT:Fs 4 aX (fun(x:bD) y=>{x with e1:=y}):= .v iB (.snd (.self))
theorem oG: ∀k:Fin 2,Fd (k.val*4) (fun x:bD=>x.gt k)
  | ⟨0,_⟩=>sQ
  | ⟨1,_⟩=>sS
def r5 (x:aK):=(x.from_,x.to)
instance instGTetchhouseref1_span:GT aK:=GT.via r5
instance instKVetchhouseref1_span:KV aK:=instKVvia (fun(x:aK)=>(x.from_,x.to))
def r6 (x:bA):=(x.from_,x.to,x.ki)
instance instGTetchhouseref1_band:GT bA:=GT.via r6
def pN (x:kH):=(x.Pq,x.KA,x.speed,x.KB)
instance instGTetchhouseref11_machine:GT kH:=GT.via pN
theorem FT (M:dS):GT.ok M (#[(.bool false),(.int .i64 0)]:Array Value).toList (⟨false,0⟩:fJ):=⟨[(.bool false)],[(.int .i64 0)],rfl,(show GT.ok M [(.bool false)] (false:Bool) from rfl),(show GT.ok M [(.int .i64 0)] (0:Int) from rfl)⟩
theorem H3 (M:dS):GT.ok M (#[(.string ⟨#[]⟩),(.string ⟨#[]⟩)]:Array Value).toList (⟨⟨[]⟩,⟨[]⟩⟩:fE):=⟨[(.string ⟨#[]⟩)],[(.string ⟨#[]⟩)],rfl,(show GT.ok M [(.string ⟨#[]⟩)] (⟨[]⟩:dO) from rfl),(show GT.ok M [(.string ⟨#[]⟩)] (⟨[]⟩:dO) from rfl)⟩
theorem FU (M:dS):GT.ok M (#[(.int .i64 0),(.bool false),(.int .i64 0)]:Array Value).toList (⟨0,false,0⟩:Touch):=⟨[(.int .i64 0)],[(.bool false),(.int .i64 0)],rfl,(show GT.ok M [(.int .i64 0)] (0:Int) from rfl),⟨[(.bool false)],[(.int .i64 0)],rfl,(show GT.ok M [(.bool false)] (false:Bool) from rfl),(show GT.ok M [(.int .i64 0)] (0:Int) from rfl)⟩⟩
theorem vB (M:dS):GT.ok M (#[(.int .i64 0),(.int .i64 0),(.int .i64 0),(.int .i64 0)]:Array Value).toList (⟨0,0,0,0⟩:aH):=⟨[(.int .i64 0)],[(.int .i64 0),(.int .i64 0),(.int .i64 0)],rfl,(show GT.ok M [(.int .i64 0)] (0:Int) from rfl),⟨[(.int .i64 0)],[(.int .i64 0),(.int .i64 0)],rfl,(show GT.ok M [(.int .i64 0)] (0:Int) from rfl),⟨[(.int .i64 0)],[(.int .i64 0)],rfl,(show GT.ok M [(.int .i64 0)] (0:Int) from rfl),(show GT.ok M [(.int .i64 0)] (0:Int) from rfl)⟩⟩⟩
theorem Cb (M:dS):GT.ok M (#[(.int .i64 0),(.int .i64 0)]:Array Value).toList (⟨0,0⟩:bH):=⟨[(.int .i64 0)],[(.int .i64 0)],rfl,(show GT.ok M [(.int .i64 0)] (0:Int) from rfl),(show GT.ok M [(.int .i64 0)] (0:Int) from rfl)⟩
theorem Ly (M:dS):GT.ok M (#[(.string ⟨#[]⟩),(.string ⟨#[]⟩),(.int .i64 0),(.int .i64 0),(.int .i64 0)]:Array Value).toList (⟨⟨[]⟩,⟨[]⟩,0,⟨0,0⟩⟩:dD):=⟨[(.string ⟨#[]⟩)],[(.string ⟨#[]⟩),(.int .i64 0),(.int .i64 0),(.int .i64 0)],rfl,(show GT.ok M [(.string ⟨#[]⟩)] (⟨[]⟩:dO) from rfl),⟨[(.string ⟨#[]⟩)],[(.int .i64 0),(.int .i64 0),(.int .i64 0)],rfl,(show GT.ok M [(.string ⟨#[]⟩)] (⟨[]⟩:dO) from rfl),⟨[(.int .i64 0)],[(.int .i64 0),(.int .i64 0)],rfl,(show GT.ok M [(.int .i64 0)] (0:Int) from rfl),(show GT.ok M [(.int .i64 0),(.int .i64 0)] (⟨0,0⟩:bH) from Cb M)⟩⟩⟩
theorem qM (M:dS):GT.ok M (#[(.int .i64 0),(.int .i64 0),(.int .i64 0),(.int .i64 0)]:Array Value).toList (⟨⟨0,0⟩,⟨0,0⟩⟩:aX):=⟨[(.int .i64 0),(.int .i64 0)],[(.int .i64 0),(.int .i64 0)],rfl,(show GT.ok M [(.int .i64 0),(.int .i64 0)] (⟨0,0⟩:bH) from Cb M),(show GT.ok M [(.int .i64 0),(.int .i64 0)] (⟨0,0⟩:bH) from Cb M)⟩
theorem EV (M:dS):GT.ok M (#[(.int .i64 0),(.int .i64 0)]:Array Value).toList (⟨0,0⟩:cE):=⟨[(.int .i64 0)],[(.int .i64 0)],rfl,(show GT.ok M [(.int .i64 0)] (0:Int) from rfl),(show GT.ok M [(.int .i64 0)] (0:Int) from rfl)⟩
theorem pO (M:dS):GT.ok M (#[(.int .i64 0),(.int .i64 0),(.int .i64 0),(.int .i64 0),(.int .i64 0),(.int .i64 0),(.int .i64 0),(.int .i64 0)]:Array Value).toList (⟨⟨⟨0,0⟩,⟨0,0⟩⟩,⟨⟨0,0⟩,⟨0,0⟩⟩⟩:bD):=⟨[(.int .i64 0),(.int .i64 0),(.int .i64 0),(.int .i64 0)],[(.int .i64 0),(.int .i64 0),(.int .i64 0),(.int .i64 0)],rfl,(show GT.ok M [(.int .i64 0),(.int .i64 0),(.int .i64 0),(.int .i64 0)] (⟨⟨0,0⟩,⟨0,0⟩⟩:aX) from qM M),(show GT.ok M [(.int .i64 0),(.int .i64 0),(.int .i64 0),(.int .i64 0)] (⟨⟨0,0⟩,⟨0,0⟩⟩:aX) from qM M)⟩
theorem zv (M:dS):GT.ok M (#[(.int .i64 0),(.slice none 0 0),(.slice none 0 0)]:Array Value).toList (⟨0,[],[]⟩:aJ):=⟨[(.int .i64 0)],[(.slice none 0 0),(.slice none 0 0)],rfl,(show GT.ok M [(.int .i64 0)] (0:Int) from rfl),⟨[(.slice none 0 0)],[(.slice none 0 0)],rfl,(show GT.ok M [(.slice none 0 0)] ([]: (List aA)) from ⟨_,rfl,none,0,0,rfl,rfl,bJ _,by simp [maxLen],fun _ _ h=>by simp at h⟩),(show GT.ok M [(.slice none 0 0)] ([]: (List aH)) from ⟨_,rfl,none,0,0,rfl,rfl,bJ _,by simp [maxLen],fun _ _ h=>by simp at h⟩)⟩⟩
theorem wA (M:dS):GT.ok M (#[(.int .i64 0),(.int .i64 0),(.slice none 0 0)]:Array Value).toList (⟨0,0,[]⟩:aA):=⟨[(.int .i64 0)],[(.int .i64 0),(.slice none 0 0)],rfl,(show GT.ok M [(.int .i64 0)] (0:Int) from rfl),⟨[(.int .i64 0)],[(.slice none 0 0)],rfl,(show GT.ok M [(.int .i64 0)] (0:Int) from rfl),(show GT.ok M [(.slice none 0 0)] ([]: (List Int)) from ⟨_,rfl,none,0,0,rfl,rfl,bJ _,by simp [maxLen],fun _ _ h=>by simp at h⟩)⟩⟩
structure cF where
  oQ: (List Int)
  aQ: (List Int)
  jC:RV
  deriving Inhabited
def r7 (x:cF):=(x.oQ,x.aQ,x.jC)
instance instGTGroup_r2:GT cF:=GT.via r7
theorem AJ:Fd 2 (fun x:cF=>x.jC):= .v r7 (.snd (.snd (.self)))
theorem AK:Fs 2 RV (fun(x:cF) y=>{x with jC:=y}):= .v r7 (.snd (.snd (.self)))
def cC:XT cF cU:=⟨fun u x=>u.oQ=x.oQ/\u.aQ=x.aQ,fun M h u x=>(u.oQ=x.oQ/\u.aQ=x.aQ)/\vv 51 M h u.jC.v x.jC,fun{M M' h u x} hk hh=>⟨hh.1,(own 51 u.jC.v x.jC).mono hk hh.2⟩,fun h=>h.1⟩
theorem tv:XO cC 51 2 (fun u=>u.jC) (fun u r=>{u with jC:=r}) (fun x=>x.jC) (fun x y=>{x with jC:=y}):=⟨AJ,AK,by decide,fun h=>h.2,fun hr ho=>⟨hr,ho⟩⟩
theorem Cc (M h:dS) (u:cF) (x:cU) (cs:List Value) (hd: ∀b o,h b=some o->M b=none) (hx:cC.ok M h u x) (hc:GT.ok M cs u):GT.ok (qm M h) cs x:=by
  obtain⟨⟨e0,e1⟩,ho⟩:=hx
  obtain⟨c0,d0,hd0,a0,c1,d1,hd1,a1,a2⟩:=hc
  exact⟨c0,d0,hd0,GT.mono (uo M h) (show GT.ok M c0 x.oQ from e0▸(show GT.ok M c0 u.oQ from a0)),⟨c1,d1,hd1,GT.mono (uo M h) (show GT.ok M c1 x.aQ from e1▸(show GT.ok M c1 u.aQ from a1)),⟨u.jC.v,a2,vv.sl hd ho⟩⟩⟩
theorem mx:mJ bN 27 true 4:=uS
theorem xJ:nJ bN 27 0 0:=o5
theorem GM:mJ bN 22 false 1:=uS
theorem DF:Tryz.prog.underlying 22=some (.slice 23):=by kernel_rfl
theorem H4:nJ bN 27 1 1:=o5
theorem Cd:mJ bN 23 false 1:=uS
theorem tw:Tryz.prog.underlying 23=some (.slice 74):=by kernel_rfl
theorem EW:uQ bN 22 23 1:=B7
theorem nk:uQ bN 23 74 4:=B7
theorem jE:mJ bN 74 true 4:=uS
theorem qN:Az bN 74 4:=B8 (.agg #[(.int .i64 0),(.int .i64 0),(.int .i64 0),(.int .i64 0)])
theorem kN:nJ bN 74 0 0:=o5
theorem cW:mJ bN 3 false 1:=uS
theorem Mm:iY bN 135:=jv Tryz.func135
theorem Bi:iY bN 113:=jv Tryz.func113
theorem lZ:nJ bN 74 1 1:=o5
theorem l3:nJ bN 74 2 2:=o5
theorem pP:nJ bN 74 3 3:=o5
theorem Mn:iY bN 98:=jv Tryz.func98
theorem Om:iY bN 68:=jv Tryz.func68
theorem mixed:Tryz.prog.follows .mixedOrders=true:=by kernel_rfl
theorem GN:sF bN 23 74 4 32:=sF.of (.agg #[(.int .i64 0),(.int .i64 0),(.int .i64 0),(.int .i64 0)])
theorem On:iY bN 99:=jv Tryz.func99
theorem Mo:iY bN 101:=jv Tryz.func101
theorem KD:iY bN 100:=jv Tryz.func100
theorem Mp:Kw bN 87 [(.slice none 0 0)]:=⟨(.slice none 0 0),fun _=>by kernel_rfl,rfl⟩
theorem gx:mJ bN 87 false 1:=uS
theorem fI:uQ bN 87 3 1:=B7
theorem Hy:Az bN 3 1:=B8 (.int .i64 0)
theorem wB:sF bN 87 3 1 8:=sF.of (.int .i64 0)
theorem Mq:iY bN 102:=jv Tryz.func102
theorem nN:Tryz.prog.underlying 87=some (.slice 3):=by kernel_rfl
theorem L5:EE bN 3 (0:Int):=EE.of (.int .i64 0) (fun M=>rfl)
theorem Mr:iY bN 103:=jv Tryz.func103
theorem KE:iY bN 117:=jv Tryz.func117
theorem Oo:EE bN 74 (⟨0,0,0,0⟩:aH):=EE.of (.agg #[(.int .i64 0),(.int .i64 0),(.int .i64 0),(.int .i64 0)]) (fun M=>(vB M))
theorem Ms:iY bN 105:=jv Tryz.func105
theorem Mt:iY bN 104:=jv Tryz.func104
theorem Mu:iY bN 130:=jv Tryz.func130
theorem Mv:iY bN 107:=jv Tryz.func107
theorem KF:yF bN 187 [(0,1),(1,1),(2,1)] #[(.int .i64 0),(.int .i64 0),(.slice none 0 0)]:=yF.of (.agg #[(.int .i64 0),(.int .i64 0),(.slice none 0 0)]) Tryz.underlying187
theorem lH:nJ bN 187 2 2:=o5
theorem mV:nJ bN 187 1 1:=o5
theorem pr:nJ bN 187 0 0:=o5
theorem o6:Tryz.prog.underlying 132=some (.slice 187):=by kernel_rfl
theorem kY:uQ bN 132 187 3:=B7
theorem Mw:iY bN 129:=jv Tryz.func129
theorem wC:mJ bN 187 true 3:=uS
theorem DG:Az bN 187 3:=B8 (.agg #[(.int .i64 0),(.int .i64 0),(.slice none 0 0)])
theorem Mx:sF bN 132 187 3 40:=sF.of (.agg #[(.int .i64 0),(.int .i64 0),(.slice none 0 0)])
theorem KG:iY bN 106:=jv Tryz.func106
theorem H5:iY bN 70:=jv Tryz.func70
theorem GO:yF bN 74 [(0,1),(1,1),(2,1),(3,1)] #[(.int .i64 0),(.int .i64 0),(.int .i64 0),(.int .i64 0)]:=yF.of (.agg #[(.int .i64 0),(.int .i64 0),(.int .i64 0),(.int .i64 0)]) Tryz.underlying74
theorem Lz:iY bN 71:=jv Tryz.func71
theorem Hz:Tryz.prog.underlying 3=some (.int .i64):=by kernel_rfl
theorem My:Le bN 74 aH:=⟨fun M cs ds a b w ha hb=>by
  obtain⟨_,_,rfl,rfl,⟨_,_,rfl,rfl,⟨_,_,rfl,rfl,rfl⟩⟩⟩:=ha
  obtain⟨_,_,rfl,rfl,⟨_,_,rfl,rfl,⟨_,_,rfl,rfl,rfl⟩⟩⟩:=hb
  refine(ml 9999 Tryz.underlying74 (A7.cons (by decide) (eG cW _) (eG cW _) (kF Hz _ _ w) (A7.cons (by decide) (eG cW _) (eG cW _) (kF Hz _ _ w) (A7.cons (by decide) (eG cW _) (eG cW _) (kF Hz _ _ w) (A7.cons (by decide) (eG cW _) (eG cW _) (kF Hz _ _ w) A7.nil))))).trans ?_
  congr 1
  cases a;cases b;unfold mN
  rw [eI]
  simp,by kernel_rfl⟩
theorem Oq:iY bN 69:=jv Tryz.func69
theorem Mz:iY bN 46:=jv Tryz.func46
theorem oc:nJ bN 27 2 2:=o5
theorem xK:mJ bN 24 false 1:=uS
theorem zw:Tryz.prog.underlying 24=some (.slice 117):=by kernel_rfl
theorem Ce:uQ bN 24 117 6:=B7
theorem mD:mJ bN 117 true 6:=uS
theorem Bj:Az bN 117 6:=B8 (.agg #[(.int .i64 0),(.int .i64 0),(.int .i64 0),(.int .i64 0),(.int .i64 0),(.bool false)])
theorem wD:nJ bN 117 1 2:=o5
theorem JS:iY bN 73:=jv Tryz.func73
theorem Cf:nJ bN 117 0 0:=o5
theorem uT:mJ bN 76 true 2:=uS
theorem xL:nJ bN 76 0 0:=o5
theorem xM:nJ bN 76 1 1:=o5
theorem MA:iY bN 76:=jv Tryz.func76
theorem GP:iY bN 50:=jv Tryz.func50
theorem MB:iY bN 131:=jv Tryz.func131
theorem MC:iY bN 108:=jv Tryz.func108
theorem Ot:iY bN 72:=jv Tryz.func72
theorem r8:nJ bN 117 2 3:=o5
theorem uy:nJ bN 117 3 4:=o5
theorem Ou:iY bN 47:=jv Tryz.func47
theorem tx:nJ bN 27 3 3:=o5
theorem DH:mJ bN 25 false 1:=uS
theorem H6:Tryz.prog.underlying 25=some (.slice 78):=by kernel_rfl
theorem DI:uQ bN 25 78 5:=B7
theorem zx:mJ bN 78 true 5:=uS
theorem LA:Az bN 78 5:=B8 (.agg #[(.string ⟨#[]⟩),(.string ⟨#[]⟩),(.int .i64 0),(.int .i64 0),(.int .i64 0)])
theorem H7:nJ bN 78 0 0:=o5
theorem H8:mJ bN 9 false 1:=uS
theorem DJ:Tryz.prog.underlying 9=some (.string):=by kernel_rfl
theorem Ov (a:dO) (b:Int) (w:World): (callFunc 195 [(str a),(.int .u8 b)].toArray).run bN w = .ok (.value (vi ((Lib.countByte a.cP (Int.toNat b).toUInt8:Nat):Int))) w:=y9 Extern.BytealgCount.count Tryz.func195 (Lib.run_countString _ _ w)
theorem Ow (a:dO) (b:Int) (w:World): (callFunc 171 [(str a),(.int .u8 b)].toArray).run bN w = .ok (.value (vi (Lib.indexByte a.cP (Int.toNat b).toUInt8))) w:=y9 Extern.BytealgIndexByte.indexByte Tryz.func171 (Lib.run_indexByteString _ _ w)
theorem KH:iY bN 134:=jv Tryz.func134
theorem MD:iY bN 196:=jv Tryz.func196
theorem KI:iY bN 170:=jv Tryz.func170
theorem ME:iY bN 169:=jv Tryz.func169
theorem MF:sF bN 189 9 1 16:=sF.of (.string ⟨#[]⟩)
theorem PI:EE bN 9 (⟨[]⟩:dO):=EE.of (.string ⟨#[]⟩) (fun M=>rfl)
theorem FV:uQ bN 189 9 1:=B7
theorem MG:iY bN 133:=jv Tryz.func133
theorem MH:iY bN 110:=jv Tryz.func110
theorem MI:Tryz.prog.underlying 189=some (.slice 9):=by kernel_rfl
theorem MJ:iY bN 132:=jv Tryz.func132
theorem MK:iY bN 112:=jv Tryz.func112
theorem ML:iY bN 75:=jv Tryz.func75
theorem MM:iY bN 111:=jv Tryz.func111
theorem MN:iY bN 109:=jv Tryz.func109
theorem Ox:iY bN 74:=jv Tryz.func74
theorem H9:nJ bN 78 1 1:=o5
theorem EX:nJ bN 78 2 2:=o5
theorem zy:nJ bN 78 3 3:=o5
theorem MO:Az bN 51 2:=B8 (.agg #[(.string ⟨#[]⟩),(.string ⟨#[]⟩)])
theorem LB:yF bN 51 [(0,1),(1,1)] #[(.string ⟨#[]⟩),(.string ⟨#[]⟩)]:=yF.of (.agg #[(.string ⟨#[]⟩),(.string ⟨#[]⟩)]) Tryz.underlying51
theorem qo:mJ bN 51 true 2:=uS
theorem JT:iY bN 77:=jv Tryz.func77
theorem Ia:nJ bN 51 0 0:=o5
theorem eX (a b:dO) (w:World): (callFunc 139 [(str a),(str b)].toArray).run bN w = .ok (.value (vi (Lib.compareBytes a.cP b.cP))) w:=y9 Extern.BytealgCompare.compare Tryz.func139 (Lib.run_compareString _ _ w)
theorem MP:iY bN 119:=jv Tryz.func119
theorem MQ:iY bN 93:=jv Tryz.func93
theorem Ib:nJ bN 51 1 1:=o5
theorem GQ:iY bN 57:=jv Tryz.func57
theorem Oy:iY bN 48:=jv Tryz.func48
theorem MR:iY bN 78:=jv Tryz.func78
theorem Oz:iY bN 49:=jv Tryz.func49
theorem MS:yF bN 126 [(0,4),(4,1),(5,1),(6,1),(7,1),(8,1),(9,1),(10,1),(11,1)] #[(.slice none 0 0),(.slice none 0 0),(.slice none 0 0),(.slice none 0 0),(.slice none 0 0),(.slice none 0 0),(.slice none 0 0),(.slice none 0 0),(.slice none 0 0),(.slice none 0 0),(.slice none 0 0),(.slice none 0 0)]:=yF.of (.agg #[(.slice none 0 0),(.slice none 0 0),(.slice none 0 0),(.slice none 0 0),(.slice none 0 0),(.slice none 0 0),(.slice none 0 0),(.slice none 0 0),(.slice none 0 0),(.slice none 0 0),(.slice none 0 0),(.slice none 0 0)]) Tryz.underlying126
theorem mW:nJ bN 126 0 0:=o5
theorem LC:iY bN 79:=jv Tryz.func79
theorem DK:uQ bN 120 132 1:=B7
theorem Ic:Az bN 132 1:=B8 (.slice none 0 0)
theorem KJ:Tryz.prog.underlying 120=some (.slice 132):=by kernel_rfl
theorem KK:mJ bN 132 false 1:=uS
theorem KL:iY bN 136:=jv Tryz.func136
theorem N5:Tryz.prog.underlying 4=some (.bool):=by kernel_rfl
theorem MT:iY bN 137:=jv Tryz.func137
theorem MU:iY bN 115:=jv Tryz.func115
theorem MV:iY bN 114:=jv Tryz.func114
theorem OA:iY bN 80:=jv Tryz.func80
theorem OB:iY bN 81:=jv Tryz.func81
theorem FW:nJ bN 126 1 4:=o5
theorem KM:mJ bN 120 false 1:=uS
theorem KN:sF bN 120 132 1 24:=sF.of (.slice none 0 0)
theorem Ie:iY bN 116:=jv Tryz.func116
theorem yi:EM bN 147 3 3 Int Int (0:Int):=⟨by kernel_rfl,(za.int Hz),FJ (.int .i64 0) (fun M=>⟨_,rfl,rfl⟩)⟩
theorem MW:Az bN 23 1:=B8 (.slice none 0 0)
theorem OC:sF bN 22 23 1 24:=sF.of (.slice none 0 0)
theorem OD:iY bN 82:=jv Tryz.func82
theorem qB:nJ bN 126 2 5:=o5
theorem yj:mJ bN 121 false 1:=uS
theorem MX:yF bN 134 [(0,1),(1,1),(2,1)] #[(.int .i64 0),(.slice none 0 0),(.slice none 0 0)]:=yF.of (.agg #[(.int .i64 0),(.slice none 0 0),(.slice none 0 0)]) Tryz.underlying134
theorem Ig:uQ bN 121 134 3:=B7
theorem Ih:Az bN 134 3:=B8 (.agg #[(.int .i64 0),(.slice none 0 0),(.slice none 0 0)])
theorem MY:sF bN 121 134 3 56:=sF.of (.agg #[(.int .i64 0),(.slice none 0 0),(.slice none 0 0)])
theorem Bl:Tryz.prog.underlying 121=some (.slice 134):=by kernel_rfl
theorem OE:iY bN 51:=jv Tryz.func51
theorem OG:iY bN 85:=jv Tryz.func85
theorem FX:mJ bN 134 true 3:=uS
theorem yT:nJ bN 117 4 5:=o5
theorem yk:mJ bN 4 false 1:=uS
theorem FY:nJ bN 134 0 0:=o5
theorem FZ:nJ bN 134 2 2:=o5
theorem OH:iY bN 84:=jv Tryz.func84
theorem MZ:iY bN 83:=jv Tryz.func83
theorem yU:nJ bN 126 3 6:=o5
theorem F0:mJ bN 122 false 1:=uS
theorem zz:uQ bN 122 87 1:=B7
theorem M1:Az bN 87 1:=B8 (.slice none 0 0)
theorem KO:sF bN 122 87 1 24:=sF.of (.slice none 0 0)
theorem OI:iY bN 52:=jv Tryz.func52
theorem M3:yF bN 176 [(0,1)] #[(.slice none 0 0)]:=yF.of (.agg #[(.slice none 0 0)]) Tryz.underlying176
theorem pw:nJ bN 176 0 0:=o5
theorem M4:iY bN 61:=jv Tryz.func61
theorem F1:Tryz.prog.underlying 122=some (.slice 87):=by kernel_rfl
theorem GR:iY bN 64:=jv Tryz.func64
theorem M5:iY bN 63:=jv Tryz.func63
theorem Cg:nJ bN 126 5 8:=o5
theorem yV:nJ bN 126 6 9:=o5
theorem OJ:iY bN 86:=jv Tryz.func86
theorem M6:Kw bN 129 [(.slice none 0 0),(.slice none 0 0),(.slice none 0 0)]:=⟨(.agg #[(.slice none 0 0),(.slice none 0 0),(.slice none 0 0)]),fun _=>by kernel_rfl,rfl⟩
theorem uz:nJ bN 126 4 7:=o5
theorem Bm:mJ bN 123 false 1:=uS
theorem KP:Tryz.prog.underlying 123=some (.slice 129):=by kernel_rfl
theorem Ch:nJ bN 129 0 0:=o5
theorem Ci:nJ bN 129 1 1:=o5
theorem M7:mJ bN 129 true 3:=uS
theorem Ii:uQ bN 123 129 3:=B7
theorem M8:Az bN 129 3:=B8 (.agg #[(.slice none 0 0),(.slice none 0 0),(.slice none 0 0)])
theorem M9:sF bN 123 129 3 72:=sF.of (.agg #[(.slice none 0 0),(.slice none 0 0),(.slice none 0 0)])
theorem JU:Az bN 41 2:=B8 (.agg #[(.bool false),(.int .i64 0)])
theorem Na:iY bN 138:=jv Tryz.func138
theorem KQ:iY bN 118:=jv Tryz.func118
theorem JV:yF bN 41 [(0,1),(1,1)] #[(.bool false),(.int .i64 0)]:=yF.of (.agg #[(.bool false),(.int .i64 0)]) Tryz.underlying41
theorem uU:mJ bN 41 true 2:=uS
theorem OK:iY bN 87:=jv Tryz.func87
theorem EY:nJ bN 41 0 0:=o5
theorem vC:nJ bN 41 1 1:=o5
theorem OL:iY bN 88:=jv Tryz.func88
theorem F2:nJ bN 129 2 2:=o5
theorem KR:mJ bN 127 false 1:=uS
theorem Nb:uQ bN 127 51 2:=B7
theorem Nc:sF bN 127 51 2 32:=sF.of (.agg #[(.string ⟨#[]⟩),(.string ⟨#[]⟩)])
theorem Cj:nJ bN 126 7 10:=o5
theorem Ck:nJ bN 126 8 11:=o5
theorem Ij:mJ bN 124 false 1:=uS
theorem KS:uQ bN 124 41 2:=B7
theorem Nd:sF bN 124 41 2 16:=sF.of (.agg #[(.bool false),(.int .i64 0)])
theorem OM:iY bN 53:=jv Tryz.func53
theorem Nf:iY bN 26:=jv Tryz.func26
theorem vD:Tryz.prog.underlying 28=some (.slice 53):=by kernel_rfl
theorem AL:uQ bN 28 53 5:=B7
theorem qO:mJ bN 53 true 5:=uS
theorem Ng:Az bN 53 5:=B8 (.agg #[(.string ⟨#[]⟩),(.string ⟨#[]⟩),(.string ⟨#[]⟩),(.string ⟨#[]⟩),(.bool false)])
theorem vE:nJ bN 53 0 0:=o5
theorem KT:Tryz.prog.underlying 196=some (.int .u64):=by kernel_rfl
theorem ON:iY bN 92:=jv Tryz.func92
theorem OO:iY bN 91:=jv Tryz.func91
theorem DL:iY bN 56:=jv Tryz.func56
theorem vF:nJ bN 53 1 2:=o5
theorem OP:iY bN 94:=jv Tryz.func94
theorem Nh:iY bN 58:=jv Tryz.func58
theorem OQ:iY bN 28:=jv Tryz.func28
theorem PK:iY bN 9:=jv Tryz.func9
theorem Ik:iY bN 41:=jv Tryz.func41
theorem LD:iY bN 38:=jv Tryz.func38
theorem GS:uQ bN 35 4 1:=B7
theorem PL:Az bN 4 1:=B8 (.bool false)
theorem OR:sF bN 98 103 2 16:=sF.of (.agg #[(.int .i64 0),(.int .i64 0)])
theorem Ni:EE bN 103 (⟨0,0⟩:cE):=EE.of (.agg #[(.int .i64 0),(.int .i64 0)]) (fun M=>(EV M))
theorem OS:Tryz.prog.underlying 35=some (.slice 4):=by kernel_rfl
theorem Nj:Az bN 100 4:=B8 (.agg #[(.int .i64 0),(.int .i64 0),(.int .i64 0),(.int .i64 0)])
theorem LF:Az bN 76 2:=B8 (.agg #[(.int .i64 0),(.int .i64 0)])
theorem F3:Ky bN 100 2 76 2:=⟨by kernel_rfl,fun _=>by kernel_rfl⟩
theorem LG:Lp bN 100 2 ((.agg #[(.int .i64 0),(.int .i64 0),(.int .i64 0),(.int .i64 0)]):Value).cells:=Lp.of F3
theorem nT:mJ bN 100 true 4:=uS
theorem Cl:iY bN 39:=jv Tryz.func39
theorem Nk:iY bN 65:=jv Tryz.func65
theorem GU:iY bN 40:=jv Tryz.func40
theorem Il:uQ bN 98 103 2:=B7
theorem Im:Ky bN 103 2 3 1:=⟨by kernel_rfl,fun _=>by kernel_rfl⟩
theorem F4:Ln bN 103 0 0:=Im.at (k:=⟨0,by decide⟩) rfl
theorem F5:Ln bN 103 1 1:=Im.at (k:=⟨1,by decide⟩) rfl
theorem DM:Kw bN 100 [(.int .i64 0),(.int .i64 0),(.int .i64 0),(.int .i64 0)]:=⟨(.agg #[(.int .i64 0),(.int .i64 0),(.int .i64 0),(.int .i64 0)]),fun _=>by kernel_rfl,rfl⟩
theorem Nl:Kw bN 53 [(.string ⟨#[]⟩),(.string ⟨#[]⟩),(.string ⟨#[]⟩),(.string ⟨#[]⟩),(.bool false)]:=⟨(.agg #[(.string ⟨#[]⟩),(.string ⟨#[]⟩),(.string ⟨#[]⟩),(.string ⟨#[]⟩),(.bool false)]),fun _=>by kernel_rfl,rfl⟩
theorem Nm:yF bN 66 [(0,1),(1,1),(2,1)] #[(.int .i64 0),(.bool false),(.int .i64 0)]:=yF.of (.agg #[(.int .i64 0),(.bool false),(.int .i64 0)]) Tryz.underlying66
theorem Io:uQ bN 60 66 3:=B7
theorem Nn:Az bN 66 3:=B8 (.agg #[(.int .i64 0),(.bool false),(.int .i64 0)])
theorem Np:sF bN 60 66 3 24:=sF.of (.agg #[(.int .i64 0),(.bool false),(.int .i64 0)])
theorem OT:iY bN 22:=jv Tryz.func22
theorem Ip:Tryz.prog.underlying 60=some (.slice 66):=by kernel_rfl
theorem OU:yF bN 78 [(0,1),(1,1),(2,1),(3,2)] #[(.string ⟨#[]⟩),(.string ⟨#[]⟩),(.int .i64 0),(.int .i64 0),(.int .i64 0)]:=yF.of (.agg #[(.string ⟨#[]⟩),(.string ⟨#[]⟩),(.int .i64 0),(.int .i64 0),(.int .i64 0)]) Tryz.underlying78
theorem OV:yF bN 27 [(0,1),(1,1),(2,1),(3,1)] #[(.slice none 0 0),(.slice none 0 0),(.slice none 0 0),(.slice none 0 0)]:=yF.of (.agg #[(.slice none 0 0),(.slice none 0 0),(.slice none 0 0),(.slice none 0 0)]) Tryz.underlying27
theorem OW:Az bN 27 4:=B8 (.agg #[(.slice none 0 0),(.slice none 0 0),(.slice none 0 0),(.slice none 0 0)])
theorem Iq:Tryz.prog.underlying 29=some (.slice 43):=by kernel_rfl
theorem LH:mJ bN 68 false 1:=uS
theorem Ir:uQ bN 29 43 5:=B7
theorem AM:mJ bN 43 true 5:=uS
theorem LI:Az bN 43 5:=B8 (.agg #[(.bool false),(.bool false),(.int .i64 0),(.int .i64 0),(.int .i64 0)])
theorem vG:nJ bN 43 0 0:=o5
theorem Cm:nJ bN 43 2 3:=o5
theorem Cn:nJ bN 43 3 4:=o5
theorem xN:nJ bN 43 1 1:=o5
theorem Nq:Le bN 41 fJ:=⟨fun M cs ds a b w ha hb=>by
  obtain⟨_,_,rfl,rfl,rfl⟩:=ha
  obtain⟨_,_,rfl,rfl,rfl⟩:=hb
  refine(ml 9999 Tryz.underlying41 (A7.cons (by decide) (eG yk _) (eG yk _) (qw N5 _ _ w) (A7.cons (by decide) (eG cW _) (eG cW _) (kF Hz _ _ w) A7.nil))).trans ?_
  congr 1
  cases a;cases b;unfold rZ
  rw [eI]
  simp,by kernel_rfl⟩
theorem LJ:iY bN 59:=jv Tryz.func59
theorem Nr:Le bN 43 lK:=⟨fun M cs ds a b w ha hb=>by
  obtain⟨_,_,rfl,rfl,⟨_,_,rfl,⟨_,_,rfl,rfl,rfl⟩,⟨_,_,rfl,rfl,rfl⟩⟩⟩:=ha
  obtain⟨_,_,rfl,rfl,⟨_,_,rfl,⟨_,_,rfl,rfl,rfl⟩,⟨_,_,rfl,rfl,rfl⟩⟩⟩:=hb
  refine(ml 9999 Tryz.underlying43 (A7.cons (by decide) (eG yk _) (eG yk _) (qw N5 _ _ w) (A7.cons (by decide) (xy uU rfl _) (xy uU rfl _) (ml 9998 Tryz.underlying40 (A7.cons (by decide) (eG yk _) (eG yk _) (qw N5 _ _ w) (A7.cons (by decide) (eG cW _) (eG cW _) (kF Hz _ _ w) A7.nil))) (A7.cons (by decide) (eG cW _) (eG cW _) (kF Hz _ _ w) (A7.cons (by decide) (eG cW _) (eG cW _) (kF Hz _ _ w) A7.nil))))).trans ?_
  congr 1
  obtain⟨_,⟨_,_⟩,_,_⟩:=a;obtain⟨_,⟨_,_⟩,_,_⟩:=b;unfold rl rZ
  rw [eI]
  simp,by kernel_rfl⟩
theorem OX:iY bN 32:=jv Tryz.func32
theorem OY:iY bN 13:=jv Tryz.func13
theorem OZ:iY bN 30:=jv Tryz.func30
theorem Ns:Kw bN 143 [(.map none)]:=⟨(.map none),fun _=>by kernel_rfl,rfl⟩
theorem DN:mJ bN 143 false 1:=uS
theorem Nt:iY bN 60:=jv Tryz.func60
theorem F6:EM bN 143 3 4 Int Bool (false:Bool):=⟨by kernel_rfl,(za.int Hz),FJ (.bool false) (fun M=>⟨_,rfl,rfl⟩)⟩
theorem Nu:Kw bN 144 [(.pointer none)]:=⟨(.pointer none),fun _=>by kernel_rfl,rfl⟩
theorem DO:mJ bN 144 false 1:=uS
theorem Nv:iY bN 62:=jv Tryz.func62
theorem Nw:Tryz.prog.underlying 124=some (.slice 41):=by kernel_rfl
theorem O0:iY bN 36:=jv Tryz.func36
theorem O1:iY bN 29:=jv Tryz.func29
theorem LK:iY bN 10:=jv Tryz.func10
theorem Ny:sF bN 104 105 8 64:=sF.of (.agg #[(.int .i64 0),(.int .i64 0),(.int .i64 0),(.int .i64 0),(.int .i64 0),(.int .i64 0),(.int .i64 0),(.int .i64 0)])
theorem Nz:EE bN 105 (⟨⟨⟨0,0⟩,⟨0,0⟩⟩,⟨⟨0,0⟩,⟨0,0⟩⟩⟩:bD):=EE.of (.agg #[(.int .i64 0),(.int .i64 0),(.int .i64 0),(.int .i64 0),(.int .i64 0),(.int .i64 0),(.int .i64 0),(.int .i64 0)]) (fun M=>(pO M))
theorem Is:Ky bN 105 2 100 4:=⟨by kernel_rfl,fun _=>by kernel_rfl⟩
theorem LL:Lp bN 105 4 ((.agg #[(.int .i64 0),(.int .i64 0),(.int .i64 0),(.int .i64 0),(.int .i64 0),(.int .i64 0),(.int .i64 0),(.int .i64 0)]):Value).cells:=Lp.of Is
theorem It:uQ bN 104 105 8:=B7
theorem NA:mJ bN 105 true 8:=uS
theorem NB:sF bN 35 4 1 1:=sF.of (.bool false)
theorem Pv:EE bN 4 (false:Bool):=EE.of (.bool false) (fun M=>rfl)
theorem O2:iY bN 23:=jv Tryz.func23
theorem JW:mJ bN 66 true 3:=uS
theorem zA:nJ bN 66 0 0:=o5
theorem LM:nJ bN 66 1 1:=o5
theorem NC:Kw bN 66 [(.int .i64 0),(.bool false),(.int .i64 0)]:=⟨(.agg #[(.int .i64 0),(.bool false),(.int .i64 0)]),fun _=>by kernel_rfl,rfl⟩
theorem LN:nJ bN 66 2 2:=o5
theorem LO:iY bN 24:=jv Tryz.func24
def bV (E:World) (V:List HP) (res:Bool) (v:Value) (w:World):Prop:=v= (vb res)/\Holds E w V
def aS (E:World) (V:List HP) (res:Int) (v:Value) (w:World):Prop:=v= (vi res)/\Holds E w V
def mF (E:World) (V:List HP) (res: (List aH)) (v:Value) (w:World):Prop:=Holds E w ([own 74 v res]++V)
def l4 (E:World) (V:List HP) (res: (List Int)) (v:Value) (w:World):Prop:=Holds E w ([own 3 v res]++V)
def my (E:World) (V:List HP) (res: (List aA)) (v:Value) (w:World):Prop:=Holds E w ([own 187 v res]++V)
def qC (E:World) (V:List HP) (res:aH) (v:Value) (w:World):Prop:=Holds E w ([rd v res]++V)
def pQ (E:World) (V:List HP) (res: (List dO)) (v:Value) (w:World):Prop:=Holds E w ([own 9 v res]++V)
def jF (E:World) (V:List HP) (b0:Nat) (v0_0 v0_1:Value) (v0_2 v0_3:Value) (v0_4 v0_5:Value) (v0_6 v0_7:Value) (v0_8 v0_9:Value) (v0_10 v0_11:Value) (res:Int) (v:Value) (w:World):Prop:=v= (vi res)/\Holds E w ([bc 126 b0 [v0_0,v0_1,v0_2,v0_3,v0_4,v0_5,v0_6,v0_7,v0_8,v0_9,v0_10,v0_11]]++V)
def ov (E:World) (V:List HP) (res:Option ((List (List aH))×(List aH)×(List cD)×(List dD)×(List (List aA))×(List aJ)×(List (List Int))×(List cU)×(List Int)×(List Int)×(List Int)×(List fJ))×Int) (v:Value) (w:World):Prop:=HT res.1 (v = .tuple #[(.pointer none),(vi res.2)]/\Holds E w V) (fun y=>∃(ub0:Nat) (u0_0 u0_1:Value) (u0_2 u0_3:Value) (u0_4 u0_5:Value) (u0_6 u0_7:Value) (u0_8 u0_9:Value) (u0_10 u0_11:Value),v = .tuple #[vp ub0 0,(vi res.2)]/\Holds E w ([bc 126 ub0 [u0_0,u0_1,u0_2,u0_3,u0_4,u0_5,u0_6,u0_7,u0_8,u0_9,u0_10,u0_11],rd u0_0 y.1,rd u0_1 y.2.1,rd u0_2 y.2.2.1,rd u0_3 y.2.2.2.1,own 132 u0_4 y.2.2.2.2.1,rd u0_5 y.2.2.2.2.2.1,rd u0_6 y.2.2.2.2.2.2.1,own 129 u0_7 y.2.2.2.2.2.2.2.1,rd u0_8 y.2.2.2.2.2.2.2.2.1,rd u0_9 y.2.2.2.2.2.2.2.2.2.1,own 3 u0_10 y.2.2.2.2.2.2.2.2.2.2.1,own 41 u0_11 y.2.2.2.2.2.2.2.2.2.2.2]++V))
def vj (E:World) (V:List HP) (res: (List Touch)×Int) (v:Value) (w:World):Prop:=∃u0:Value,v = .tuple #[u0,(vi res.2)]/\Holds E w ([own 66 u0 res.1]++V)
def wE (E:World) (V:List HP) (res:Int×Int) (v:Value) (w:World):Prop:=v = .tuple #[(vi res.1),(vi res.2)]/\Holds E w V
end Go.Gk
namespace Go.Gk
open Go Go.Proofs
def xu (H:Type) (d:DataW H):Nat:=YthioiiocofohiaaGreatDoor.Rows.uptoBulk d
def NG (H:Type) (d:List (DataW H)):Nat:=YthioiiocofohiaaGreatDoor.Rows.uptoBulkAll d
theorem fX:UB xu NG where
  str:=fun H b=>by simp [xu,YthioiiocofohiaaGreatDoor.Rows.uptoBulk]
  pos:=fun H d=>by
    unfold xu
    cases d with
    | lit l=>cases l <;> simp [YthioiiocofohiaaGreatDoor.Rows.uptoBulk]
    | nil=>simp [YthioiiocofohiaaGreatDoor.Rows.uptoBulk]
    | ptr d=>simp [YthioiiocofohiaaGreatDoor.Rows.uptoBulk]
    | slice elems spare=>simp [YthioiiocofohiaaGreatDoor.Rows.uptoBulk]
    | agg parts=>simp [YthioiiocofohiaaGreatDoor.Rows.uptoBulk]
    | iface t d=>simp [YthioiiocofohiaaGreatDoor.Rows.uptoBulk]
    | map entries=>simp [YthioiiocofohiaaGreatDoor.Rows.uptoBulk]
    | held h=>simp [YthioiiocofohiaaGreatDoor.Rows.uptoBulk]
  sl:=fun H e s=>by simp [xu,NG,YthioiiocofohiaaGreatDoor.Rows.uptoBulk]
  ag:=fun H l=>by simp [xu,NG,YthioiiocofohiaaGreatDoor.Rows.uptoBulk]
  nil:=fun H=>by simp [NG,YthioiiocofohiaaGreatDoor.Rows.uptoBulkAll]
  cons:=fun H x l=>by simp [xu,NG,YthioiiocofohiaaGreatDoor.Rows.uptoBulkAll]
theorem F9:iC xu Tryz.prog 3 Int:=GZ fX (by kernel_rfl)
theorem O3:iC xu Tryz.prog 74 aH:=jY fX (fun(x:aH)=>(x.X0,x.Y0,x.X1,x.Y1)) (fun b=>⟨b.1,b.2.1,b.2.2.1,b.2.2.2⟩) (fun b=>rfl) Tryz.underlying74 (eR fX F9 (eR fX F9 (eR fX F9 (ng fX F9)))) (fun b=>by simp only [J3];omega)
theorem NH:iC xu Tryz.prog 23 (List aH):=oe (e:=74) fX O3
theorem O4:iC xu Tryz.prog 22 (List (List aH)):=oe (e:=23) fX NH
theorem NI:iC xu Tryz.prog 76 bH:=jY fX (fun(x:bH)=>(x.X,x.Y)) (fun b=>⟨b.1,b.2⟩) (fun b=>rfl) Tryz.underlying76 (eR fX F9 (ng fX F9)) (fun b=>by simp only [IC];omega)
theorem O5:iC xu Tryz.prog 4 Bool:=E1 fX (by kernel_rfl)
theorem NJ:iC xu Tryz.prog 117 cD:=jY fX (fun(x:cD)=>(x.At,x.eP,x.cZ,x.To,x.iO)) (fun b=>⟨b.1,b.2.1,b.2.2.1,b.2.2.2.1,b.2.2.2.2⟩) (fun b=>rfl) Tryz.underlying117 (eR fX NI (eR fX F9 (eR fX F9 (eR fX F9 (ng fX O5))))) (fun b=>by simp only [J4];omega)
theorem O6:iC xu Tryz.prog 24 (List cD):=oe (e:=117) fX NJ
theorem N6:iC xu Tryz.prog 9 dO:=G0 fX (by kernel_rfl)
theorem O7:iC xu Tryz.prog 78 dD:=jY fX (fun(x:dD)=>(x.Part,x.fE,x.eV,x.At)) (fun b=>⟨b.1,b.2.1,b.2.2.1,b.2.2.2⟩) (fun b=>rfl) Tryz.underlying78 (eR fX N6 (eR fX N6 (eR fX F9 (ng fX NI)))) (fun b=>by simp only [F8];omega)
theorem O8:iC xu Tryz.prog 25 (List dD):=oe (e:=78) fX O7
theorem O9:iC xu Tryz.prog 27 fz:=jY fX (fun(x:fz)=>(x.aI,x.cQ,x.aQ,x.bL)) (fun b=>⟨b.1,b.2.1,b.2.2.1,b.2.2.2⟩) (fun b=>rfl) Tryz.underlying27 (eR fX O4 (eR fX NH (eR fX O6 (ng fX O8)))) (fun b=>by simp only [ID];omega)
theorem NK:iC xu Tryz.prog 51 fE:=jY fX (fun(x:fE)=>(x.Part,x.fE)) (fun b=>⟨b.1,b.2⟩) (fun b=>rfl) Tryz.underlying51 (eR fX N6 (ng fX N6)) (fun b=>by simp only [LQ];omega)
theorem Pa:iC xu Tryz.prog 53 Test:=jY fX (fun(x:Test)=>(x.A,x.B,x.Joined)) (fun b=>⟨b.1,b.2.1,b.2.2⟩) (fun b=>rfl) Tryz.underlying53 (eR fX NK (eR fX NK (ng fX O5))) (fun b=>by simp only [J5];omega)
theorem Pb:iC xu Tryz.prog 28 (List Test):=oe (e:=53) fX Pa
theorem Pc:iC xu Tryz.prog 66 Touch:=jY fX (fun(x:Touch)=>(x.Test,x.nW,x.qy)) (fun b=>⟨b.1,b.2.1,b.2.2⟩) (fun b=>rfl) Tryz.underlying66 (eR fX F9 (eR fX O5 (ng fX F9))) (fun b=>by simp only [IE];omega)
theorem Pd:iC xu Tryz.prog 60 (List Touch):=oe (e:=66) fX Pc
end Go.Gk
namespace Go.Proofs
open Go.Shelf Go.RowKit Go.Lib Go.Sort
def Tryz.lay100_ren : Go.Shelf.Ren := ⟨fun | 6 => 100 | 15 => 127 | 14 => 126 | 28 => 157 | 29 => 158 | 20 => 149 | 21 => 150 | 22 => 151 | 23 => 152 | 24 => 153 | 25 => 154 | 26 => 155 | 27 => 156 | 46 => 184 | 47 => 185 | 48 => 186 | 49 => 187 | 50 => 188 | 57 => 202 | n => n, fun | 22 => 23 | 24 => 74 | 25 => 118 | 3 => 3 | 39 => 196 | 0 => 0 | 53 => 221 | 55 => 223 | 4 => 4 | 46 => 215 | 45 => 214 | 50 => 94 | 5 => 5 | 9 => 9 | 66 => 239 | 70 => 243 | 76 => 256 | 77 => 257 | n => n, fun | n => n⟩
theorem Tryz.lay100 : Go.Proofs.SlLaysF0.n6 Tryz.prog Tryz.lay100_ren := {
  mixed := by kernel_rfl
  f6 := ⟨Tryz.f100.name, by decide, Tryz.func100.trans (congrArg some (by kernel_rfl))⟩
  f14 := ⟨Tryz.f126.name, by decide, Tryz.func126.trans (congrArg some (by kernel_rfl))⟩
  f15 := Tryz.func127.trans (congrArg some (by kernel_rfl))
  f20 := ⟨Tryz.f149.name, by decide, Tryz.func149.trans (congrArg some (by kernel_rfl))⟩
  f21 := ⟨Tryz.f150.name, by decide, Tryz.func150.trans (congrArg some (by kernel_rfl))⟩
  f22 := ⟨Tryz.f151.name, by decide, Tryz.func151.trans (congrArg some (by kernel_rfl))⟩
  f23 := ⟨Tryz.f152.name, by decide, Tryz.func152.trans (congrArg some (by kernel_rfl))⟩
  f24 := ⟨Tryz.f153.name, by decide, Tryz.func153.trans (congrArg some (by kernel_rfl))⟩
  f25 := ⟨Tryz.f154.name, by decide, Tryz.func154.trans (congrArg some (by kernel_rfl))⟩
  f26 := ⟨Tryz.f155.name, by decide, Tryz.func155.trans (congrArg some (by kernel_rfl))⟩
  f27 := ⟨Tryz.f156.name, by decide, Tryz.func156.trans (congrArg some (by kernel_rfl))⟩
  f28 := Tryz.func157.trans (congrArg some (by kernel_rfl))
  f29 := Tryz.func158.trans (congrArg some (by kernel_rfl))
  f46 := ⟨Tryz.f184.name, by decide, Tryz.func184.trans (congrArg some (by kernel_rfl))⟩
  f47 := Tryz.func185.trans (congrArg some (by kernel_rfl))
  f48 := Tryz.func186.trans (congrArg some (by kernel_rfl))
  f49 := ⟨Tryz.f187.name, by decide, Tryz.func187.trans (congrArg some (by kernel_rfl))⟩
  f50 := ⟨Tryz.f188.name, by decide, Tryz.func188.trans (congrArg some (by kernel_rfl))⟩
  f57 := ⟨Tryz.f202.name, by decide, Tryz.func202.trans (congrArg some (by kernel_rfl))⟩
  t0 := Tryz.underlying0
  a0 := Tryz.isAgg0
  z0 := Tryz.sizeOf0
  v0 := Tryz.zeroValue0
  t3 := Tryz.underlying3
  a3 := Tryz.isAgg3
  z3 := Tryz.sizeOf3
  v3 := Tryz.zeroValue3
  t4 := Tryz.underlying4
  a4 := Tryz.isAgg4
  z4 := Tryz.sizeOf4
  v4 := Tryz.zeroValue4
  t5 := Tryz.underlying5
  a5 := Tryz.isAgg5
  z5 := Tryz.sizeOf5
  v5 := Tryz.zeroValue5
  t9 := Tryz.underlying9
  a9 := Tryz.isAgg9
  z9 := Tryz.sizeOf9
  v9 := Tryz.zeroValue9
  t22 := Tryz.underlying23
  a22 := Tryz.isAgg23
  z22 := Tryz.sizeOf23
  v22 := Tryz.zeroValue23
  t25 := Tryz.underlying118
  a25 := Tryz.isAgg118
  z25 := Tryz.sizeOf118
  v25 := Tryz.zeroValue118
  t39 := Tryz.underlying196
  a39 := Tryz.isAgg196
  z39 := Tryz.sizeOf196
  v39 := Tryz.zeroValue196
  t45 := Tryz.underlying214
  a45 := Tryz.isAgg214
  z45 := Tryz.sizeOf214
  v45 := Tryz.zeroValue214
  t46 := Tryz.underlying215
  a46 := Tryz.isAgg215
  z46 := Tryz.sizeOf215
  v46 := Tryz.zeroValue215
  t50 := Tryz.underlying94
  a50 := Tryz.isAgg94
  z50 := Tryz.sizeOf94
  v50 := Tryz.zeroValue94
  t53 := Tryz.underlying221
  a53 := Tryz.isAgg221
  z53 := Tryz.sizeOf221
  v53 := Tryz.zeroValue221
  t55 := Tryz.underlying223
  a55 := Tryz.isAgg223
  z55 := Tryz.sizeOf223
  v55 := Tryz.zeroValue223
  t66 := Tryz.underlying239
  a66 := Tryz.isAgg239
  z66 := Tryz.sizeOf239
  v66 := Tryz.zeroValue239
  t70 := Tryz.underlying243
  a70 := Tryz.isAgg243
  z70 := Tryz.sizeOf243
  v70 := Tryz.zeroValue243
  t76 := Tryz.underlying256
  a76 := Tryz.isAgg256
  z76 := Tryz.sizeOf256
  v76 := Tryz.zeroValue256
  t77 := Tryz.underlying257
  a77 := Tryz.isAgg257
  z77 := Tryz.sizeOf257
  v77 := Tryz.zeroValue257 }
def Tryz.lay102_ren : Go.Shelf.Ren := ⟨fun | 5 => 102 | 8 => 127 | 7 => 128 | 19 => 157 | 20 => 158 | 10 => 159 | 11 => 160 | 12 => 161 | 13 => 162 | 14 => 163 | 15 => 164 | 16 => 165 | 17 => 166 | 18 => 167 | 30 => 189 | 31 => 185 | 32 => 186 | 33 => 190 | 34 => 191 | 35 => 192 | 40 => 203 | n => n, fun | 23 => 87 | 25 => 3 | 3 => 3 | 32 => 196 | 22 => 87 | 0 => 0 | 44 => 221 | 46 => 223 | 4 => 4 | 36 => 215 | 35 => 214 | 41 => 94 | 5 => 5 | 9 => 9 | 53 => 239 | 57 => 243 | 63 => 256 | 64 => 257 | n => n, fun | n => n⟩
theorem Tryz.lay102 : Go.Proofs.SlLaysM.n5 Tryz.prog Tryz.lay102_ren := {
  mixed := by kernel_rfl
  f5 := ⟨Tryz.f102.name, by decide, Tryz.func102.trans (congrArg some (by kernel_rfl))⟩
  f7 := ⟨Tryz.f128.name, by decide, Tryz.func128.trans (congrArg some (by kernel_rfl))⟩
  f8 := Tryz.func127.trans (congrArg some (by kernel_rfl))
  f10 := ⟨Tryz.f159.name, by decide, Tryz.func159.trans (congrArg some (by kernel_rfl))⟩
  f11 := ⟨Tryz.f160.name, by decide, Tryz.func160.trans (congrArg some (by kernel_rfl))⟩
  f12 := ⟨Tryz.f161.name, by decide, Tryz.func161.trans (congrArg some (by kernel_rfl))⟩
  f13 := ⟨Tryz.f162.name, by decide, Tryz.func162.trans (congrArg some (by kernel_rfl))⟩
  f14 := ⟨Tryz.f163.name, by decide, Tryz.func163.trans (congrArg some (by kernel_rfl))⟩
  f15 := ⟨Tryz.f164.name, by decide, Tryz.func164.trans (congrArg some (by kernel_rfl))⟩
  f16 := ⟨Tryz.f165.name, by decide, Tryz.func165.trans (congrArg some (by kernel_rfl))⟩
  f17 := ⟨Tryz.f166.name, by decide, Tryz.func166.trans (congrArg some (by kernel_rfl))⟩
  f18 := ⟨Tryz.f167.name, by decide, Tryz.func167.trans (congrArg some (by kernel_rfl))⟩
  f19 := Tryz.func157.trans (congrArg some (by kernel_rfl))
  f20 := Tryz.func158.trans (congrArg some (by kernel_rfl))
  f30 := ⟨Tryz.f189.name, by decide, Tryz.func189.trans (congrArg some (by kernel_rfl))⟩
  f31 := Tryz.func185.trans (congrArg some (by kernel_rfl))
  f32 := Tryz.func186.trans (congrArg some (by kernel_rfl))
  f33 := ⟨Tryz.f190.name, by decide, Tryz.func190.trans (congrArg some (by kernel_rfl))⟩
  f34 := ⟨Tryz.f191.name, by decide, Tryz.func191.trans (congrArg some (by kernel_rfl))⟩
  f35 := ⟨Tryz.f192.name, by decide, Tryz.func192.trans (congrArg some (by kernel_rfl))⟩
  f40 := ⟨Tryz.f203.name, by decide, Tryz.func203.trans (congrArg some (by kernel_rfl))⟩
  t0 := Tryz.underlying0
  a0 := Tryz.isAgg0
  z0 := Tryz.sizeOf0
  v0 := Tryz.zeroValue0
  t3 := Tryz.underlying3
  a3 := Tryz.isAgg3
  z3 := Tryz.sizeOf3
  v3 := Tryz.zeroValue3
  t4 := Tryz.underlying4
  a4 := Tryz.isAgg4
  z4 := Tryz.sizeOf4
  v4 := Tryz.zeroValue4
  t5 := Tryz.underlying5
  a5 := Tryz.isAgg5
  z5 := Tryz.sizeOf5
  v5 := Tryz.zeroValue5
  t9 := Tryz.underlying9
  a9 := Tryz.isAgg9
  z9 := Tryz.sizeOf9
  v9 := Tryz.zeroValue9
  t22 := Tryz.underlying87
  a22 := Tryz.isAgg87
  z22 := Tryz.sizeOf87
  v22 := Tryz.zeroValue87
  t23 := Tryz.underlying87
  a23 := Tryz.isAgg87
  z23 := Tryz.sizeOf87
  v23 := Tryz.zeroValue87
  t25 := Tryz.underlying3
  a25 := Tryz.isAgg3
  z25 := Tryz.sizeOf3
  v25 := Tryz.zeroValue3
  t32 := Tryz.underlying196
  a32 := Tryz.isAgg196
  z32 := Tryz.sizeOf196
  v32 := Tryz.zeroValue196
  t35 := Tryz.underlying214
  a35 := Tryz.isAgg214
  z35 := Tryz.sizeOf214
  v35 := Tryz.zeroValue214
  t36 := Tryz.underlying215
  a36 := Tryz.isAgg215
  z36 := Tryz.sizeOf215
  v36 := Tryz.zeroValue215
  t41 := Tryz.underlying94
  a41 := Tryz.isAgg94
  z41 := Tryz.sizeOf94
  v41 := Tryz.zeroValue94
  t44 := Tryz.underlying221
  a44 := Tryz.isAgg221
  z44 := Tryz.sizeOf221
  v44 := Tryz.zeroValue221
  t46 := Tryz.underlying223
  a46 := Tryz.isAgg223
  z46 := Tryz.sizeOf223
  v46 := Tryz.zeroValue223
  t53 := Tryz.underlying239
  a53 := Tryz.isAgg239
  z53 := Tryz.sizeOf239
  v53 := Tryz.zeroValue239
  t57 := Tryz.underlying243
  a57 := Tryz.isAgg243
  z57 := Tryz.sizeOf243
  v57 := Tryz.zeroValue243
  t63 := Tryz.underlying256
  a63 := Tryz.isAgg256
  z63 := Tryz.sizeOf256
  v63 := Tryz.zeroValue256
  t64 := Tryz.underlying257
  a64 := Tryz.isAgg257
  z64 := Tryz.sizeOf257
  v64 := Tryz.zeroValue257 }
end Go.Proofs
namespace Go.Gk
open Go Go.Proofs
variable (N:Nat) {E w:World} {i0 i1 i2:Nat} {p0 p1 p2 res:Int} {v0 v1 v2:Value} {V:List HP}
theorem yJ {res:Bool} (o:Holds E w V) (j:rV N p0 p1 p2=some res):
    Calls bN 135 [(vi p0),(vi p1),(vi p2)].toArray w (iE (bV E V res)):=by
 unfold rV at j
 refine enter Tryz.func135 zr zr (RC.sr (aT (vb false) (RL.ns (mv (vi p0) (mv (vi p1) (ic p0 p1 (mv (vb (decide (p0>=p1))) (RL.gs true (decide (p0>=p1)) (vi p0) zr zr zr dW ?_))))))))
 refine RL.gs true (decide (p0>=p1)) (vi p2) rfl rfl rfl dW (RL.gs true (decide (p0>=p1)) (vb (decide (p0<=p2))) rfl rfl rfl (eN .leq .i64 p0 p2 rfl (fun h=>by exact(dG h:cv (true&&((decide (p0>=p1))==true)) (vi p0)= (vi p0))) (fun h=>by exact(dG h:cv (true&&((decide (p0>=p1))==true)) (vi p2)= (vi p2))) rfl) (RL.pick (decide (p0>=p1)) (vb ((decide (p0>=p1))&&(decide (p0<=p2)))) (kg true) (aT (vb ((decide (p0>=p1))&&(decide (p0<=p2)))) (RL.nt (RC.ret ?_)))))
 obtain rfl:=oi j
 exact cK ⟨rfl,o.drop 0⟩
theorem lr {res:Bool} (o:Holds E w V) (j:kI N p0=some res):
    Calls bN 113 [(vi p0)].toArray w (iE (bV E V res)):=by
 unfold kI at j
 refine enter Tryz.func113 zr zr (RC.sr (aT (vb false) (RL.ns (mv (vi p0) ?_))))
 obtain⟨aa,ab,j⟩:=bd j
 refine RL.call zt zr Mm [(vi p0),(vi (-1000000)),(vi 1000000)] zr (aF (yJ N (p0:=p0) (p1:=(-1000000)) (p2:=1000000) o ab) ?_)
 rintro _ w ⟨rfl,o⟩
 refine aT (vb aa) (RL.nt (RC.ret ?_))
 obtain rfl:=oi j
 exact cK ⟨rfl,o.drop 0⟩
theorem sJ {p0:aH} {res:Bool} (j:Holds E w V) (h0:V[i0]? =some (rd v0 p0)) (hb:mm N p0=some res):
    Calls bN 98 [v0].toArray w (iE (bV E V res)):=by
 unfold mm at hb
 refine enter Tryz.func98 zr zr ?_
 have j:=j.dup (i0+0) h0
 refine RC.sr (RL.dJ 0 v0 j zr fun aq w j=>?_)
 refine aT (vb false) (RL.nq ?_)
 obtain⟨af,o,hb⟩:=bd hb
 refine RC.jn (fun(af:Bool)=>SH E V [(2,vb af)] []) af ?_ ?_
 ·refine RC.region (RL.bO zr kN (RL.aR 0 j zr fY cW ?_))
  obtain⟨aj,ak,o⟩:=bd o
  refine RL.call zt zr Bi [(vi p0.X0)] zr (aF (lr N (p0:=p0.X0) j ak) ?_)
  rintro _ w ⟨rfl,j⟩
  refine mv (vb aj) (iA o (fun aa o=>?_) fun aa o=>?_)
  rotate_left
  ·refine cH aa (cH aa (cH aa (iF aa (vb false) (mv (vb false) (qY (qY (qY (RL.pick false (vb false) zr ?_))))))))
   refine mv (vb false) (qY (qY (qY (RL.pick false (vb false) zr (aT (vb false) (RL.nil ?_))))))
   obtain rfl:=oi o
   exact⟨rfl,j.sp 2 []⟩
  refine RL.bO (hg:=(cg aa)) zr lZ (RL.aR (hg:=(cg aa)) 0 j zr gE cW ?_)
  obtain⟨ag,al,o⟩:=bd o
  refine RL.call (cg aa) zr Bi [(vi p0.Y0)] zr (aF (lr N (p0:=p0.Y0) j al) ?_)
  rintro _ w ⟨rfl,j⟩
  refine iF aa (vb ag) (mv (vb ag) (iA o (fun ab o=>?_) fun ab o=>?_))
  rotate_left
  ·refine cH ab (cH ab (cH ab (iF ab (vb false) (mv (vb false) (qY (qY (qY (RL.pick false (vb false) zr ?_))))))))
   refine aT (vb false) (RL.nil ?_)
   obtain rfl:=oi o
   exact⟨rfl,j.sp 2 []⟩
  refine RL.bO (hg:=(cg ab)) zr l3 (RL.aR (hg:=(cg ab)) 0 j zr gS cW ?_)
  obtain⟨ah,an,o⟩:=bd o
  refine RL.call (cg ab) zr Bi [(vi p0.X1)] zr (aF (lr N (p0:=p0.X1) j an) ?_)
  rintro _ w ⟨rfl,j⟩
  refine iF ab (vb ah) (mv (vb ah) (iA o (fun ad o=>?_) fun ad o=>?_))
  rotate_left
  ·refine cH ad (cH ad (cH ad (iF ad (vb false) (aT (vb false) (RL.nil ?_)))))
   obtain rfl:=oi o
   exact⟨rfl,j.sp 2 []⟩
  refine RL.bO (hg:=(cg ad)) zr pP (RL.aR (hg:=(cg ad)) 0 j zr kr cW ?_)
  obtain⟨ai,ao,o⟩:=bd o
  refine RL.call (cg ad) zr Bi [(vi p0.Y1)] zr (aF (lr N (p0:=p0.Y1) j ao) ?_)
  rintro _ w ⟨rfl,j⟩
  refine iF ad (vb ai) (aT (vb ai) (RL.nil ?_))
  obtain rfl:=oi o
  exact⟨rfl,j.sp 2 []⟩
 rintro _ w ⟨O,rfl,j⟩
 refine aG (RC.ret ?_)
 obtain rfl:=oi hb
 exact cK ⟨rfl,j.drop 0⟩
def vJ (E:World) (V:List HP) (r:Int) (U:Nat->Value) (w:World):Prop:=nL bN 30 Tryz.f68 (aS E V r) .ret U w
theorem uV {p0: (List aH)} (o:Holds E w V) (h0:V[i0]? =some (rd v0 p0)) (hb:kj N p0=some res):
    Calls bN 68 [v0].toArray w (iE (aS E V res)):=by
 unfold kj at hb
 refine enter Tryz.func68 zr zr ?_
 have o:=o.dup (i0+0) h0
 refine RC.sr (aT (vi 0) (RL.nq (RC.sr (mv v0 (RL.bM 0 p0 o tw (ic ((p0.length:Int)) 2000 (RL.nt (fK hb (fun hc hb=>?_) fun hc hb=>?_))))))))
 ·refine RC.sr (aT (vi 2) (RL.nt (RC.rt ?_)))
  obtain rfl:=oi hb
  exact cK ⟨rfl,o.drop 1⟩
 refine RC.ss (RC.sr (mv v0 (RL.bM 0 p0 o tw (mv (vi 0) (RL.nt ?_)))))
 obtain⟨aq,hN,hb⟩:=bd hb
 refine RC.range (fun(ae:Nat) (af:Unit)=>SH E V [(8,v0),(9,vi p0.length),(10,vi ae)] [rd v0 p0]) (fun(af:Unit)=>SH E V [] [rd v0 p0]) (vJ E V) hN ?_ ?_ ?_ ?_ ?_
 ·exact o.sp 1 [0]
 ·rintro hm af _ w ⟨O,rfl,o⟩
  refine RC.sr (ic ((p0.length:Int)) ((p0.length:Int)) (RL.nq (RC.dC oE (RC.ex ?_))))
  exact⟨rfl,o.sp 1 [0]⟩
 ·rintro hm ae af fl _ w hk ⟨O,rfl,o⟩ hb
  refine RC.sr (ic ((ae:Int)) ((p0.length:Int)) (RL.nq (RC.dB (oD hk) (RC.ss (RC.bs ?_)))))
  obtain⟨j,aj,hb⟩:=bd hb
  refine RL.cJ 0 o nk aj fun au o=>(RL.bY 0 j o jE fun av o=>(RL.alloc o qN.z fun ab w o=>?_))
  refine RL.bW 0 o 1 zr jE fun w o=>?_
  refine RL.nq (RC.sr (RL.aV (f:=(fun x=>x)) 0 o zr Fd.self jE fun ak o=>?_))
  obtain⟨al,an,hb⟩:=bd hb
  refine RL.call zt zr Mn [ak] zr (aF (sJ N (i0:=0) o zr an) ?_)
  rintro _ w ⟨rfl,o⟩
  refine RL.not al (RL.nt (fK hb (fun hc hb=>?_) fun hc hb=>?_))
  ·refine RC.sr (aT (vi 1) (RL.nt (RC.rt (kh (bZ ?_)))))
   obtain rfl:=oi hb
   exact⟨rfl,cK ⟨rfl,o.drop 5⟩⟩
  refine RC.sx (RL.bO rfl l3 (RL.aR 1 o rfl gS cW (RL.bO rfl kN (RL.aR 1 o rfl fY cW (ic j.X1 j.X0 (mv (vb (decide (j.X1<=j.X0))) (RL.gs true (decide (j.X1<=j.X0)) (vp ab 3) rfl rfl rfl (eO pP) (RL.gs true (decide (j.X1<=j.X0)) (vi j.Y1) rfl rfl rfl (cG 1 rfl o (fun h=>by exact(dG h:cv (true&&((decide (j.X1<=j.X0))==false)) (vp ab 3)= (vp ab 3))) rfl kr cW) ?_))))))))
  refine RL.gs true (decide (j.X1<=j.X0)) (vp ab 1) rfl rfl rfl (eO lZ) (RL.gs true (decide (j.X1<=j.X0)) (vi j.Y0) rfl rfl rfl (cG 1 rfl o (fun h=>by exact(dG h:cv (true&&((decide (j.X1<=j.X0))==false)) (vp ab 1)= (vp ab 1))) rfl gE cW) (RL.gs true (decide (j.X1<=j.X0)) (vb (decide (j.Y1<=j.Y0))) rfl rfl rfl (eN .leq .i64 j.Y1 j.Y0 rfl (fun h=>by exact(dG h:cv (true&&((decide (j.X1<=j.X0))==false)) (vi j.Y1)= (vi j.Y1))) (fun h=>by exact(dG h:cv (true&&((decide (j.X1<=j.X0))==false)) (vi j.Y0)= (vi j.Y0))) rfl) (RL.pick (decide (j.X1<=j.X0)) (vb ((decide (j.X1<=j.X0))||(decide (j.Y1<=j.Y0)))) (oZ true) (RL.nt (fK hb (fun hc hb=>?_) fun hc hb=>?_)))))
  rotate_left
  ·refine RC.skip (cA (aG (RC.region (RL.inc hk hm (mv (vi ((ae+1:Nat):Int)) (RL.nil ?_))))))
   obtain rfl:=oi hb
   exact⟨rfl,o.sp 5 [4]⟩
  refine RC.sr (aT (vi 13) (RL.nt (RC.rb (bZ ?_))))
  obtain rfl:=oi hb
  exact⟨rfl,cK ⟨rfl,o.drop 5⟩⟩
 ·intro r U w e hK
  subst e
  refine bZ ?_
  obtain rfl:=oi hb
  exact hK
 rintro af _ w rfl ⟨O,rfl,o⟩
 rw [Fo.gm] at hb
 refine aG (RC.sr (aT (vi 0) (RL.nt (RC.ret ?_))))
 obtain rfl:=oi hb
 exact cK ⟨rfl,o.drop 1⟩
theorem tA {p0: (List aH)} {res: (List aH)} (j:Holds E w V) (h0:V[i0]? =some (rd v0 p0)) (o:iH N p0=some res):
    Calls bN 99 [v0].toArray w (iE (mF E V res)):=by
 unfold iH at o
 refine enter Tryz.func99 zr zr ?_
 have j:=j.dup (i0+0) h0
 refine RC.sr (aT (.slice none 0 0) (RL.nq (RC.sr (mv v0 (RL.Md (i:=0) zt zr j zr zr zr tw (RL.nt (RC.cond (b:=(JK v0)) zr (fun hc=>?_) (fun hc=>?_))))))))
 ·have hx:=j.Of (i:=0) rfl hc
  rw [hx] at o
  replace o:some ([]: (List aH))=_:=o
  refine RC.sr (aT (.slice none 0 0) (RL.nt (RC.rt ?_)))
  obtain rfl:=oi o
  have j:=j.eC aH 74
  exact cK (j.pk 2 [0])
 refine RC.sx (RL.fR ([]: (List aH)) j [] nk qN (fun M hs g=>zt) fun ae w j=>(mv v0 ?_))
 obtain⟨af,ab,o⟩:=bd o
 refine RL.app 0 1 j GN ab fun ad w j=>?_
 refine aT ad (RL.nt (RC.ret ?_))
 obtain rfl:=oi o
 exact cK (j.pk 2 [0])
theorem wH {p0 p1:aH} (j:Holds E w V) (h0:V[i0]? =some (rd v0 p0)) (h1:V[i1]? =some (rd v1 p1)) (o:jh N p0 p1=some res):
    Calls bN 101 [v0,v1].toArray w (iE (aS E V res)):=by
 unfold jh at o
 refine enter Tryz.func101 zr zr ?_
 have j:=(j.dup (i0+0) h0).dup (i1+1) h1
 refine RC.sr (RL.dJ 1 v0 j zr fun aa w j=>?_)
 refine RL.dJ 1 v1 j zr fun ab w j=>?_
 refine aT (vi 0) (RL.ns (RL.bO zr lZ (RL.aR 1 j zr gE cW (RL.bO zr lZ (RL.aR 0 j zr gE cW (RL.ja p0.Y0 p1.Y0 (aT (vi (IntKind.wrap .i64 (p0.Y0 - p1.Y0))) (RL.nt ?_))))))))
 refine RC.ret ?_
 obtain rfl:=oi o
 exact cK ⟨rfl,j.drop 4⟩
def tC (E:World) (V:List HP) (r: (List Int)) (U:Nat->Value) (w:World):Prop:=nL bN 61 Tryz.f103 (l4 E V r) .ret U w
theorem sU {p0: (List Int)} {res: (List Int)} (j:Holds E w (own 3 v0 p0::V)) (o:gr N p0=some res):
    Calls bN 103 [v0].toArray w (iE (l4 E V res)):=by
 unfold gr at o
 refine enter Tryz.func103 zr zr (RC.sr (aT (.slice none 0 0) (RL.nq (RC.sr (mv v0 (RL.gK 0 p0 j nN (ic ((p0.length:Int)) 2 (RL.nt ?_))))))))
 refine fK o (fun hc o=>?_) fun hc o=>?_
 ·refine RC.sr (mv v0 (aT v0 (RL.nt (RC.rt ?_))))
  obtain rfl:=oi o
  exact cK (j.pk 1 [0])
 refine RC.ss (RC.sr (aT (vi 1) (RL.nt ?_)))
 obtain⟨a2,hN,o⟩:=bd o
 refine RC.iter (fun(ab:Int)=>SH E V [(0,v0),(3,vi ab)] [own 3 v0 p0]) (fun(ab:Int)=>SH E V [(0,v0)] [own 3 v0 p0]) (tC E V) hN ?_ ?_ ?_ ?_
 ·exact j.sp 1 [0]
 ·rintro ab fl _ w ⟨O,rfl,j⟩ o
  refine RC.seq (RC.sr (mv (vi ab) (mv v0 (RL.gK 0 p0 j nN (ic ab ((p0.length:Int)) (RL.nt (fK o (fun hc o=>?_) fun hc o=>?_)))))))
  rotate_left
  ·refine RC.ex ?_
   obtain rfl:=oi o
   exact⟨rfl,j.sp 1 [0]⟩
  refine RC.ss (RC.block (RC.seq (RC.AA mixed ?_)))
  have j:=j.drew
  refine RO.go (mv v0 (RO.nx (mv (vi ab) (RO.nx ?_))))
  obtain⟨au,al,o⟩:=bd o
  refine RL.bU 0 j zr zr fI al (RO.nx (RL.dE (f:=(fun x=>x)) 0 j (jy 0 j al 0) (bC al).2.1 Fd.self cW (RO.nx (mv v0 (RO.nx (mv (vi ab) (RO.nx (RL.ja ab 1 ?_))))))))
  refine RO.nx ?_
  obtain⟨av,an,o⟩:=bd o
  refine RL.bU 0 j zr zr fI an (RO.nx (RL.dE (f:=(fun x=>x)) 0 j (jy 0 j an 0) (bC an).2.1 Fd.self cW (RO.nx (ic au av (RO.last (aG (fK o (fun hc o=>?_) fun hc o=>?_)))))))
  rotate_left
  ·refine RC.skip (cA (aG (RC.region (mv (vi ab) (RL.ja ab 1 (aT (vi (IntKind.wrap .i64 (ab+1))) (RL.nil ?_)))))))
   obtain rfl:=oi o
   exact⟨rfl,j.sp 1 [0]⟩
  refine RC.sr (mv v0 (mv (vi ab) ?_))
  obtain⟨a3,af,o⟩:=bd o
  refine RL.view 0 ab zr j zr zr fI af (aT (vw v0 (Int.toNat ab) 1) (RL.nq (RC.sr (aT (vi 1) (RL.nt ?_)))))
  obtain⟨a4,hN,o⟩:=bd o
  refine RC.iter (fun(aa: (List Int)×Int×Int)=>SH E V [(0,v0),(3,vi aa.2.1),(4,(vw v0 (Int.toNat ab) 1)),(5,vi aa.2.2)] [own 3 v0 aa.1]) (fun(aa: (List Int)×Int×Int)=>SH E V [(0,v0),(3,vi aa.2.1)] [own 3 v0 aa.1]) (fun(r:Empty) _ _=>r.elim) hN ?_ ?_ ?_ ?_
  ·exact j.sp 1 [0]
  ·rintro aa fl _ w ⟨O,rfl,j⟩ o
   refine RC.seq (RC.sr (mv (vi aa.2.2) (mv (vw v0 (Int.toNat ab) 1) (RL.Ll (i:=0) (l:=aa.1) zt zr j zr zr nN (ic aa.2.2 ((((aa.1.length - Int.toNat ab):Nat):Int)) (RL.nt (fK o (fun hc o=>?_) fun hc o=>?_)))))))
   rotate_left
   ·refine RC.ex ?_
    obtain rfl:=oi o
    exact⟨rfl,j.sp 1 [0]⟩
   refine RC.ss (RC.block (RC.seq (RC.AA mixed ?_)))
   have j:=j.drew
   refine RO.go (mv (vw v0 (Int.toNat ab) 1) (RO.nx (mv (vi aa.2.2) (RO.nx ?_))))
   obtain⟨aw,ag,o⟩:=bd o
   refine RL.HM 0 ab zr j zr zr zr fI (EP af) (jH ag).1 (jH ag).2 (RO.nx (RL.dE (f:=(fun x=>x)) 0 j (jy 0 j (jH ag).2 0) (bC (jH ag).2).2.1 Fd.self cW (RO.nx (mv (vw v0 (Int.toNat ab) 1) (RO.nx (mv (vi aa.2.2) (RO.nx (RL.ja aa.2.2 1 ?_))))))))
   refine RO.nx ?_
   obtain⟨ax,ah,o⟩:=bd o
   refine RL.HM 0 ab zr j zr zr zr fI (EP af) (jH ah).1 (jH ah).2 (RO.nx (RL.dE (f:=(fun x=>x)) 0 j (jy 0 j (jH ah).2 0) (bC (jH ah).2).2.1 Fd.self cW (RO.nx (ic aw ax (RO.last (aG ?_))))))
   obtain⟨ai,hj,o⟩:=bd o
   refine RC.jn (fun(ai: (List Int)×Int)=>SH E V [(0,v0),(3,vi ai.2),(4,(vw v0 (Int.toNat ab) 1)),(5,vi aa.2.2)] [own 3 v0 ai.1]) ai ?_ ?_
   ·refine fK hj (fun hc hj=>?_) fun hc hj=>?_
    rotate_left
    ·refine RC.skip ?_
     obtain rfl:=oi hj
     exact⟨rfl,j.sp 1 [0]⟩
    refine RC.sr (mv v0 (mv (vi aa.2.1) (mv (vw v0 (Int.toNat ab) 1) (mv (vi aa.2.2) ?_))))
    obtain⟨ay,aj,hj⟩:=bd hj
    refine RL.HM 0 ab zr j zr zr zr fI (EP af) (jH aj).1 (jH aj).2 (RL.dE (f:=(fun x=>x)) 0 j (jy 0 j (jH aj).2 0) (bC (jH aj).2).2.1 Fd.self cW ?_)
    obtain⟨a5,ao,hj⟩:=bd hj
    refine RL.bU 0 j zr zr fI ao ?_
    have j:=j.sc Int ay
    refine RL.fQ (f:=(fun _ y=>y)) 1 0 j (jy 1 j ao 0) (bC ao).2.1 zr Fs.self cW fun w j=>?_
    refine RL.nt (RC.region (mv (vi aa.2.1) (RL.ja aa.2.1 1 (aT (vi (IntKind.wrap .i64 (aa.2.1+1))) (RL.nil ?_)))))
    obtain rfl:=oi hj
    exact⟨rfl,j.sp 2 [1]⟩
   rintro _ w ⟨O,rfl,j⟩
   refine cA (aG (RC.region (mv (vi aa.2.2) (RL.ja aa.2.2 1 (aT (vi (IntKind.wrap .i64 (aa.2.2+1))) (RL.nil ?_))))))
   obtain rfl:=oi o
   exact⟨rfl,j.sp 1 [0]⟩
  ·intro r _ _ _ _
   exact r.elim
  rintro aa _ w rfl ⟨O,rfl,j⟩
  rw [Fo.gm] at o
  refine aG (RC.sr (mv v0 (mv (vi aa.2.1) ?_)))
  obtain⟨a6,aq,o⟩:=bd o
  refine RL.view 0 aa.2.1 zr j zr zr fI aq (RL.Di 0 zt j zr zr wB L5 (HN aq) fun w j=>(RL.ns (mv v0 (mv (vi aa.2.1) ?_))))
  obtain⟨a7,az,o⟩:=bd o
  refine RL.BS 0 zr j zr zr fI (.inr ⟨rfl,zr⟩) az fun a0 j=>(aT a0 (RL.nt (RC.rb (bZ ?_))))
  obtain rfl:=oi o
  exact⟨rfl,cK (j.pk 1 [0])⟩
 ·intro r U w e hK
  subst e
  refine bZ ?_
  obtain rfl:=oi o
  exact hK
 rintro ab _ w rfl ⟨O,rfl,j⟩
 rw [Fo.gm] at o
 refine aG (RC.sr (mv v0 (aT v0 (RL.nt (RC.ret ?_)))))
 obtain rfl:=oi o
 exact cK (j.pk 1 [0])
theorem wI {p0:aH} {p1: (List Int)} {res:Bool} (j:Holds E w V) (h0:V[i0]? =some (rd v0 p0)) (h1:V[i1]? =some (pt v1 p1)) (h2:V[i2]? =some (pt v2 p2)) (o:nu N p0 p1 p2=some res):
    Calls bN 105 [v0,v1,v2].toArray w (iE (bV E V res)):=by
 unfold nu at o
 refine enter Tryz.func105 zr zr ?_
 have j:=((j.dup (i0+0) h0).y7 (i:=i1+1) h1).y7 (i:=i2+2) h2
 refine RC.sr (RL.dJ 2 v0 j zr fun ad w j=>?_)
 refine aT (vb false) (RL.nq (RC.AA mixed ?_))
 have j:=j.drew
 refine RO.go (RL.bO zr pP (RO.nx (RL.aR 0 j zr kr cW (RO.nx (RL.bY 2 p1 j gx fun ae j=>(RO.nx (RL.cB p2 2 j cW (RO.nx ?_))))))))
 obtain⟨aa,ab,o⟩:=bd o
 refine RL.cJ 0 j fI ab fun af j=>(RO.nx (RL.cB aa 0 j cW (RO.nx (ic p0.Y1 aa (RO.nx (aT (vb (decide (p0.Y1<=aa))) (RO.last (aG ?_))))))))
 refine RC.ret ?_
 obtain rfl:=oi o
 exact cK ⟨rfl,j.drop 6⟩
def rp (E:World) (V:List HP) (r:Int) (U:Nat->Value) (w:World):Prop:=nL bN 19 Tryz.f117 (aS E V r) .ret U w
theorem qQ {p0: (List aH)} {p1:aH->Option Bool} (j:Holds E w V) (h0:V[i0]? =some (rd v0 p0)) (h1:Jt bN E V v1 p1 (fun(r:Bool)=>Value.bool r)) (o:lz N p0 p1=some res):
    Calls bN 117 [v0,v1].toArray w (iE (aS E V res)):=by
 unfold lz at o
 refine enter Tryz.func117 zr zr ?_
 have j:=j.dup (i0+0) h0
 refine RC.sr (aT (vi 0) (RL.nq (RC.sr (mv v0 (RL.bM 0 p0 j tw (mv (vi 0) (RL.nt ?_)))))))
 obtain⟨al,hN,o⟩:=bd o
 refine RC.range (fun(aa:Nat) (ab:Unit)=>SH E V [(0,v0),(1,v1),(7,vi p0.length),(8,vi aa)] [rd v0 p0]) (fun(ab:Unit)=>SH E V [] [rd v0 p0]) (rp E V) hN ?_ ?_ ?_ ?_ ?_
 ·exact j.sp 1 [0]
 ·rintro hm ab _ w ⟨O,rfl,j⟩
  refine RC.sr (ic ((p0.length:Int)) ((p0.length:Int)) (RL.nq (RC.dC oE (RC.ex ?_))))
  exact⟨rfl,j.sp 1 [0]⟩
 ·rintro hm aa ab fl _ w hk ⟨O,rfl,j⟩ o
  refine RC.sr (ic ((aa:Int)) ((p0.length:Int)) (RL.nq (RC.dB (oD hk) (RC.ss (RC.bs (mv (vi aa) (aT (vi aa) (RL.ns ?_))))))))
  refine mv v1 (mv v0 (mv (vi aa) ?_))
  obtain⟨ag,ah,o⟩:=bd o
  refine RL.cJ 0 j nk ah fun ao j=>(RL.bY 0 ag j jE fun aq j=>?_)
  obtain⟨ar,ai,o⟩:=bd o
  refine RL.BR 0 zr j zr h1 3 zr zr zr ai fun w j=>(RL.nt (fK o (fun hc o=>?_) fun hc o=>?_))
  rotate_left
  ·refine RC.skip (cA (aG (RC.region (RL.inc hk hm (mv (vi ((aa+1:Nat):Int)) (RL.nil ?_))))))
   obtain rfl:=oi o
   exact⟨rfl,j.sp 3 [2]⟩
  refine RC.sr (mv (vi aa) (aT (vi aa) (RL.nt (RC.rb (bZ ?_)))))
  obtain rfl:=oi o
  exact⟨rfl,cK ⟨rfl,j.drop 3⟩⟩
 ·intro r U w e hK
  subst e
  refine bZ ?_
  obtain rfl:=oi o
  exact hK
 rintro ab _ w rfl ⟨O,rfl,j⟩
 rw [Fo.gm] at o
 refine aG (RC.sr (aT (vi (-1)) (RL.nt (RC.ret ?_))))
 obtain rfl:=oi o
 exact cK ⟨rfl,j.drop 1⟩
def l5 (E:World) (V:List HP) (v0:Value) (p0: (List aH)) (res:Int) (v:Value) (w:World):Prop:=v= (vi res)/\Holds E w ([own 74 v0 p0]++V)
def pT (E:World) (V:List HP) (v0:Value) (p0: (List aH)) (r:Int) (U:Nat->Value) (w:World):Prop:=nL bN 19 Tryz.f117 (l5 E V v0 p0 r) .ret U w
theorem py {p0: (List aH)} {p1:aH->Option Bool} (o:Holds E w (own 74 v0 p0::V)) (h1:Jt bN E V v1 p1 (fun(r:Bool)=>Value.bool r)) (j:j7 N p0 p1=some res):
    Calls bN 117 [v0,v1].toArray w (iE (l5 E V v0 p0 res)):=by
 unfold j7 at j
 refine enter Tryz.func117 zr zr (RC.sr (aT (vi 0) (RL.nq (RC.sr (mv v0 (RL.gK 0 p0 o tw (mv (vi 0) (RL.nt ?_))))))))
 obtain⟨ak,hN,j⟩:=bd j
 refine RC.range (fun(aa:Nat) (ab:Unit)=>SH E V [(0,v0),(1,v1),(7,vi p0.length),(8,vi aa)] [own 74 v0 p0]) (fun(ab:Unit)=>SH E V [(0,v0)] [own 74 v0 p0]) (pT E V v0 p0) hN ?_ ?_ ?_ ?_ ?_
 ·exact o.sp 1 [0]
 ·rintro hm ab _ w ⟨O,rfl,o⟩
  refine RC.sr (ic ((p0.length:Int)) ((p0.length:Int)) (RL.nq (RC.dC oE (RC.ex ?_))))
  exact⟨rfl,o.sp 1 [0]⟩
 ·rintro hm aa ab fl _ w hk ⟨O,rfl,o⟩ j
  refine RC.sr (ic ((aa:Int)) ((p0.length:Int)) (RL.nq (RC.dB (oD hk) (RC.ss (RC.bs (mv (vi aa) (aT (vi aa) (RL.ns ?_))))))))
  refine mv v1 (mv v0 (mv (vi aa) ?_))
  obtain⟨an,ad,j⟩:=bd j
  refine RL.bU 0 o zr zr nk ad (RL.lG (f:=(fun x=>x)) 0 o (jy 0 o ad 0) (bC ad).2.1 Fd.self jE fun ao o=>?_)
  obtain⟨aq,ah,j⟩:=bd j
  refine RL.BR 0 zr o zr h1 2 zr zr zr ah fun w o=>(RL.nt (fK j (fun hc j=>?_) fun hc j=>?_))
  rotate_left
  ·refine RC.skip (cA (aG (RC.region (RL.inc hk hm (mv (vi ((aa+1:Nat):Int)) (RL.nil ?_))))))
   obtain rfl:=oi j
   exact⟨rfl,o.sp 2 [1]⟩
  refine RC.sr (mv (vi aa) (aT (vi aa) (RL.nt (RC.rb (bZ ?_)))))
  obtain rfl:=oi j
  exact⟨rfl,cK ⟨rfl,o.pk 2 [1]⟩⟩
 ·intro r U w e hK
  subst e
  refine bZ ?_
  obtain rfl:=oi j
  exact hK
 rintro ab _ w rfl ⟨O,rfl,o⟩
 rw [Fo.gm] at j
 refine aG (RC.sr (aT (vi (-1)) (RL.nt (RC.ret ?_))))
 obtain rfl:=oi j
 exact cK ⟨rfl,o.pk 1 [0]⟩
theorem qp {p0: (List aH)} {p1:aH->Option Bool} {res: (List aH)} (j:Holds E w (own 74 v0 p0::V)) (h1:Jt bN E V v1 p1 (fun(r:Bool)=>Value.bool r)) (o:gL N p0 p1=some res):
    Calls bN 104 [v0,v1].toArray w (iE (mF E V res)):=by
 unfold gL at o
 refine enter Tryz.func104 zr zr (RC.sr (aT (.slice none 0 0) (RL.ns (mv v0 (mv v1 ?_)))))
 have j:=j.pull 0
 obtain⟨ad,aj,o⟩:=bd o
 refine RL.call zt zr KE [v0,v1] zr (aF (py N j (h1.lift 1 zr) aj) ?_)
 rintro _ w ⟨rfl,j⟩
 refine aT (vi ad) (RL.nq (RC.sr (mv (vi ad) (ic ad ((-1)) (RL.nt (fK o (fun hc o=>?_) fun hc o=>?_))))))
 ·refine RC.sr (mv v0 (aT v0 (RL.nt (RC.rt ?_))))
  obtain rfl:=oi o
  exact cK (j.pk 2 [0])
 refine RC.ss (RC.sr (mv (vi ad) (RL.ja ad 1 (aT (vi (IntKind.wrap .i64 (ad+1))) (RL.nt ?_)))))
 obtain⟨ar,hN,o⟩:=bd o
 refine RC.iter (fun(aa: (List aH)×Int×Int)=>SH E V [(0,v0),(1,v1),(5,vi aa.2.1),(6,vi aa.2.2)] [own 74 v0 aa.1]) (fun(aa: (List aH)×Int×Int)=>SH E V [(0,v0),(5,vi aa.2.1)] [own 74 v0 aa.1]) (fun(r:Empty) _ _=>r.elim) hN ?_ ?_ ?_ ?_
 ·exact j.sp 2 [0]
 ·rintro aa fl _ w ⟨O,rfl,j⟩ o
  refine RC.seq (RC.sr (mv (vi aa.2.2) (mv v0 (RL.gK 0 aa.1 j tw (ic aa.2.2 ((aa.1.length:Int)) (RL.nt (fK o (fun hc o=>?_) fun hc o=>?_)))))))
  rotate_left
  ·refine RC.ex ?_
   obtain rfl:=oi o
   exact⟨rfl,j.sp 1 [0]⟩
  refine RC.ss (RC.bs (mv v0 (mv (vi aa.2.2) ?_)))
  obtain⟨av,ag,o⟩:=bd o
  refine RL.bU 0 j zr zr nk ag (RL.lG (f:=(fun x=>x)) 0 j (jy 0 j ag 0) (bC ag).2.1 Fd.self jE fun aw j=>?_)
  refine RL.alloc j qN.z fun ax w j=>?_
  refine RL.bW 0 j 1 zr jE fun w j=>?_
  refine RL.ns (mv v1 (RL.aV (f:=(fun x=>x)) 0 j zr Fd.self jE fun ay j=>?_))
  obtain⟨al,an,o⟩:=bd o
  refine RL.BR 0 zr j zr h1 4 zr zr zr an fun w j=>(RL.not al (RL.nt ?_))
  obtain⟨af,hj,o⟩:=bd o
  refine RC.jn (fun(af: (List aH)×Int)=>SH E V [(0,v0),(1,v1),(5,vi af.2),(6,vi aa.2.2)] [own 74 v0 af.1]) af ?_ ?_
  ·refine fK hj (fun hc hj=>?_) fun hc hj=>?_
   rotate_left
   ·refine RC.skip ?_
    obtain rfl:=oi hj
    exact⟨rfl,j.sp 4 [3]⟩
   refine RC.sr (mv v0 (mv (vi aa.2.1) (RL.aV (f:=(fun x=>x)) 1 j zr Fd.self jE fun az j=>?_)))
   obtain⟨a0,ah,hj⟩:=bd hj
   refine RL.bU 4 j zr zr nk ah (RL.fQ (f:=(fun _ y=>y)) 4 0 j (jy 4 j ah 0) (bC ah).2.1 zr Fs.self jE fun w j=>?_)
   refine RL.nt (RC.region (mv (vi aa.2.1) (RL.ja aa.2.1 1 (aT (vi (IntKind.wrap .i64 (aa.2.1+1))) (RL.nil ?_)))))
   obtain rfl:=oi hj
   exact⟨rfl,j.sp 5 [4]⟩
  rintro _ w ⟨O,rfl,j⟩
  refine cA (aG (RC.region (mv (vi aa.2.2) (RL.ja aa.2.2 1 (aT (vi (IntKind.wrap .i64 (aa.2.2+1))) (RL.nil ?_))))))
  obtain rfl:=oi o
  exact⟨rfl,j.sp 1 [0]⟩
 ·intro r _ _ _ _
  exact r.elim
 rintro aa _ w rfl ⟨O,rfl,j⟩
 rw [Fo.gm] at o
 refine aG (RC.sr (mv v0 (mv (vi aa.2.1) ?_)))
 obtain⟨a1,ai,o⟩:=bd o
 refine RL.view 0 aa.2.1 zr j zr zr nk ai (RL.Di 0 zt j zr zr GN Oo (HN ai) fun w j=>(RL.ns (mv v0 (mv (vi aa.2.1) ?_))))
 obtain⟨a2,ao,o⟩:=bd o
 refine RL.BS 0 zr j zr zr nk (.inr ⟨rfl,zr⟩) ao fun aq j=>(aT aq (RL.nt (RC.ret ?_)))
 obtain rfl:=oi o
 exact cK (j.pk 1 [0])
theorem sV {p0 p1:aH} (j:Holds E w V) (h0:V[i0]? =some (rd v0 p0)) (h1:V[i1]? =some (rd v1 p1)) (o:gu N p0 p1=some res):
    Calls bN 130 [v0,v1].toArray w (iE (aS E V res)):=by
 unfold gu at o
 refine enter Tryz.func130 zr zr ?_
 have j:=(j.dup (i0+0) h0).dup (i1+1) h1
 refine RC.sr (RL.dJ 1 v0 j zr fun aa w j=>?_)
 refine RL.dJ 1 v1 j zr fun ab w j=>?_
 refine aT (vi 0) (RL.ns (RL.bO zr kN (RL.aR 1 j zr fY cW (RL.bO zr kN (RL.aR 0 j zr fY cW (RL.ja p0.X0 p1.X0 (aT (vi (IntKind.wrap .i64 (p0.X0 - p1.X0))) (RL.nt ?_))))))))
 refine RC.ret ?_
 obtain rfl:=oi o
 exact cK ⟨rfl,j.drop 4⟩
def wJ (E:World) (V:List HP) (v0:Value) (res: (List Int)×(List aH)) (v:Value) (w:World):Prop:=Holds E w ([own 3 v res.1,own 74 v0 res.2]++V)
theorem vK {p0: (List aH)} {res: (List Int)×(List aH)} (j:Holds E w (own 74 v0 p0::V)) (hb:iP N p0=some res):
    Calls bN 107 [v0].toArray w (iE (wJ E V v0 res)):=by
 unfold iP at hb
 refine enter Tryz.func107 zr zr (RC.sr (aT (.slice none 0 0) (RL.ns (mv v0 ?_))))
 obtain⟨af,a1,hb⟩:=bd hb
 have j:=j.pull 0
 refine RL.call zt zr KD [v0,(.func (.func 130) #[] #[])] zr (aF (Ga Tryz.lay100 aH zr jE.JA jE.sz Mu (fun j hi o hr=>sV N j hi o hr) j a1) ?_)
 rintro _ w ⟨rfl,j⟩
 refine RL.ns (aT (.slice none 0 0) (RL.nq (RC.sr (mv v0 (RL.gK 0 af j tw (mv (vi 0) (RL.nt ?_)))))))
 have j:=j.eC Int 3
 obtain⟨aa,hN,hb⟩:=bd hb
 refine RC.fold (fun(ah:Nat) (aa: (List Int)) U w=>∃av:Value,SH E V [(0,v0),(3,av),(9,v0),(10,vi af.length),(11,vi ah)] [own 74 v0 af,own 3 av aa] U w) (fun(aa: (List Int)) U w=>∃ai:Value,SH E V [(0,v0),(3,ai)] [own 74 v0 af,own 3 ai aa] U w) hN ?_ ?_ ?_ ?_
 ·exact⟨(.slice none 0 0),j.sp 3 [1,0]⟩
 ·rintro hm aa _ w ⟨a3,O,rfl,j⟩
  refine RC.sr (ic ((af.length:Int)) ((af.length:Int)) (RL.nq (RC.dC oE (RC.ex ?_))))
  exact⟨rfl,a3,j.sp 2 [0,1]⟩
 ·rintro hm ah aa s' _ w hk ⟨ag,O,rfl,j⟩ hb
  refine RC.sr (ic ((ah:Int)) ((af.length:Int)) (RL.nq (RC.dB (oD hk) (RC.ss (RC.bs ?_)))))
  obtain⟨ae,ak,hb⟩:=bd hb
  refine RL.bU 0 j zr zr nk ak (RL.lG (f:=(fun x=>x)) 0 j (jy 0 j ak 0) (bC ak).2.1 Fd.self jE fun a6 j=>?_)
  refine RL.alloc j qN.z fun ay w j=>?_
  refine RL.bW 0 j 1 zr jE fun w j=>?_
  refine RL.ns (mv ag (RL.gK 3 aa j nN (RL.ja (aa.length:Int) 1 (aT (vi (IntKind.wrap .i64 ((aa.length:Int) - 1))) (RL.nq ?_)))))
  obtain⟨al,o,hb⟩:=bd hb
  refine RC.jn (fun(al:Bool)=>SH E V [(0,v0),(3,ag),(5,vp ay 0),(6,(vi (IntKind.wrap .i64 ((aa.length:Int) - 1)))),(9,v0),(10,vi af.length),(11,vi ah),(28,vb al)] [own 74 v0 af,own 3 ag aa,bx 74 ay ae]) al ?_ ?_
  ·refine RC.AA mixed ?_
   have j:=j.drew
   refine RO.go (mv (vi (IntKind.wrap .i64 ((aa.length:Int) - 1))) (RO.nx (ic ((IntKind.wrap .i64 ((aa.length:Int) - 1))) 0 (RO.nx (mv (vb (decide ((IntKind.wrap .i64 ((aa.length:Int) - 1))>=0))) (iA o (fun ab o=>?_) fun ab o=>?_))))))
   rotate_left
   ·refine RO.nx (cH ab (RO.nx (cH ab (RO.nx (cH ab (RO.nx (cH ab (RO.nx ?_))))))))
    refine cH ab (RO.nx (cH ab (RO.nx (cH ab (RO.nx (iF ab (vb false) (RO.last ?_)))))))
    obtain rfl:=oi o
    exact⟨rfl,j.sp 4 [2,3,0]⟩
   refine RO.nx (RL.bO (hg:=(cg ab)) zr kN (RO.nx (RL.aR (hg:=(cg ab)) 0 j zr fY cW (RO.nx (RL.move ag (cg ab) (RO.nx (RL.move (vi (IntKind.wrap .i64 ((aa.length:Int) - 1))) (cg ab) (RO.nx ?_))))))))
   obtain⟨az,an,o⟩:=bd o
   refine RL.bU (hg:=(cg ab)) 3 j zr zr fI an (RO.nx (RL.dE (hg:=(cg ab)) (f:=(fun x=>x)) 3 j (jy 3 j an 0) (bC an).2.1 Fd.self cW (RO.nx (RL.lN ae.X0 az (cg ab) (RO.nx (iF ab (vb (decide (ae.X0<=az))) (RO.last ?_)))))))
   obtain rfl:=oi o
   exact⟨rfl,j.sp 4 [2,3,0]⟩
  rintro _ w ⟨O,rfl,j⟩
  refine aG ?_
  obtain⟨ao,o,hb⟩:=bd hb
  refine RC.jn (fun(ao: (List Int)) U w=>∃aj:Value,SH E V [(0,v0),(3,aj),(9,v0),(10,vi af.length),(11,vi ah)] [own 74 v0 af,own 3 aj ao] U w) ao ?_ ?_
  ·refine fK o (fun hc o=>?_) fun hc o=>?_
   rotate_left
   ·refine RC.region (mv ag (RL.bO zr kN (RL.aR 2 j zr fY cW (RL.bO zr l3 (RL.aR 2 j zr gS cW ?_)))))
    have j:=(j.sc Int ae.X0).sc Int ae.X1
    refine RL.fR ([ae.X0,ae.X1]: (List Int)) j [(vi ae.X0),(vi ae.X1)] fI Hy (fun M hs g=>⟨(g.sat 1 _ zr).1,⟨(g.sat 0 _ zr).1,zt⟩⟩) fun a7 w j=>?_
    have j:=j.freeze 0
    obtain⟨a8,a5,o⟩:=bd o
    refine RL.app 4 0 j wB a5 fun a0 w j=>?_
    refine aT a0 (RL.nil ?_)
    obtain rfl:=oi o
    exact⟨rfl,a0,j.sp 6 [3,4]⟩
   refine RC.AE mixed [0,0,0,0,0,0,0,0,0,0,2] [0,1,2,3,4,5,6,7,8,9,10] ?_
   have j:=j.drew
   refine DP.e0 zr (mv ag (cM zr (mv (vi (IntKind.wrap .i64 ((aa.length:Int) - 1))) (cM zr (mv ag (cM zr (mv (vi (IntKind.wrap .i64 ((aa.length:Int) - 1))) (cM zr ?_))))))))
   obtain⟨aq,ar,o⟩:=bd o
   refine RL.bU 1 j zr zr fI ar (cM zr (RL.dE (f:=(fun x=>x)) 1 j (jy 1 j ar 0) (bC ar).2.1 Fd.self cW (cM zr (RL.bO zr l3 (cM zr (RL.aR 2 j zr gS cW (cM zr (RL.max aq ae.X1 ?_))))))))
   refine cM zr ?_
   obtain⟨a9,au,o⟩:=bd o
   refine RL.bU 1 j zr zr fI au (xt zr ?_)
   have j:=j.sc Int (if aq<ae.X1 then ae.X1 else aq)
   refine RL.fQ (f:=(fun _ y=>y)) 2 0 j (jy 2 j au 0) (bC au).2.1 zr Fs.self cW fun w j=>?_
   refine DP.d2 zt (DP.z ?_)
   obtain rfl:=oi o
   exact⟨rfl,ag,j.sp 4 [1,2]⟩
  rintro _ w ⟨aj,O,rfl,j⟩
  refine cA (aG (RC.region (RL.inc hk hm (mv (vi ((ah+1:Nat):Int)) (RL.nil ?_)))))
  obtain rfl:=oi hb
  exact⟨rfl,aj,j.sp 2 [0,1]⟩
 rintro _ w ⟨ai,O,rfl,j⟩
 refine aG (RC.sr (mv ai (aT ai (RL.nt (RC.ret ?_)))))
 obtain rfl:=oi hb
 exact cK (j.pk 2 [1,0])
def vL (E:World) (V:List HP) (r:Bool) (U:Nat->Value) (w:World):Prop:=nL bN 26 Tryz.f129 (bV E V r) .ret U w
theorem uW {p0: (List Int)} {p1: (List Int)} {res:Bool} (j:Holds E w V) (h0:V[i0]? =some (rd v0 p0)) (h1:V[i1]? =some (rd v1 p1)) (o:mn N p0 p1=some res):
    Calls bN 129 [v0,v1].toArray w (iE (bV E V res)):=by
 unfold mn at o
 refine enter Tryz.func129 zr zr ?_
 have j:=(j.dup (i0+0) h0).dup (i1+1) h1
 refine RC.sr (aT (vb false) (RL.nq (RC.sr (mv v0 (RL.bM 1 p0 j nN (mv v1 (RL.bM 0 p1 j nN (ic ((p0.length:Int)) ((p1.length:Int)) ?_))))))))
 refine RL.nt (fK o (fun hc o=>?_) fun hc o=>?_)
 ·refine RC.sr (aT (vb false) (RL.nt (RC.rt ?_)))
  obtain rfl:=oi o
  exact cK ⟨rfl,j.drop 2⟩
 refine RC.ss (RC.sr (mv v0 (RL.bM 1 p0 j nN (mv (vi 0) (RL.nt ?_)))))
 obtain⟨an,hN,o⟩:=bd o
 refine RC.range (fun(aa:Nat) (ab:Unit)=>SH E V [(0,v0),(1,v1),(12,vi p0.length),(13,vi aa)] [rd v0 p0,rd v1 p1]) (fun(ab:Unit)=>SH E V [] [rd v0 p0,rd v1 p1]) (vL E V) hN ?_ ?_ ?_ ?_ ?_
 ·exact j.sp 2 [1,0]
 ·rintro hm ab _ w ⟨O,rfl,j⟩
  refine RC.sr (ic ((p0.length:Int)) ((p0.length:Int)) (RL.nq (RC.dC oE (RC.ex ?_))))
  exact⟨rfl,j.sp 2 [0,1]⟩
 ·rintro hm aa ab fl _ w hk ⟨O,rfl,j⟩ o
  refine RC.sr (ic ((aa:Int)) ((p0.length:Int)) (RL.nq (RC.dB (oD hk) (RC.ss (RC.bs (mv (vi aa) (aT (vi aa) (RL.nq ?_))))))))
  refine RC.AA mixed ?_
  have j:=j.drew
  refine RO.go (mv v0 (RO.nx (mv (vi aa) (RO.nx ?_))))
  obtain⟨ag,aj,o⟩:=bd o
  refine RL.cJ 0 j fI aj fun aq j=>(RO.nx (RL.cB ag 0 j cW (RO.nx (mv v1 (RO.nx (mv (vi aa) (RO.nx ?_)))))))
  obtain⟨ah,ak,o⟩:=bd o
  refine RL.cJ 2 j fI ak fun ar j=>(RO.nx (RL.cB ah 0 j cW (RO.nx (ic ag ah (RO.last (aG (fK o (fun hc o=>?_) fun hc o=>?_)))))))
  rotate_left
  ·refine RC.skip (cA (aG (RC.region (RL.inc hk hm (mv (vi ((aa+1:Nat):Int)) (RL.nil ?_))))))
   obtain rfl:=oi o
   exact⟨rfl,j.sp 4 [2,3]⟩
  refine RC.sr (aT (vb false) (RL.nt (RC.rb (bZ ?_))))
  obtain rfl:=oi o
  exact⟨rfl,cK ⟨rfl,j.drop 4⟩⟩
 ·intro r U w e hK
  subst e
  refine bZ ?_
  obtain rfl:=oi o
  exact hK
 rintro ab _ w rfl ⟨O,rfl,j⟩
 rw [Fo.gm] at o
 refine aG (RC.sr (aT (vb true) (RL.nt (RC.ret ?_))))
 obtain rfl:=oi o
 exact cK ⟨rfl,j.drop 2⟩
theorem qD {p0: (List aA)} {p1:aA} {res: (List aA)} (j:Holds E w (own 187 v0 p0::V)) (h1:V[i1]? =some (rd v1 p1)) (hb:iv N p0 p1=some res):
    Calls bN 106 [v0,v1].toArray w (iE (my E V res)):=by
 unfold iv at hb
 refine enter Tryz.func106 zr zr ?_
 have j:=j.dup (i1+1) h1
 refine RC.sr (RL.dJ 0 v1 j zr fun ae w j=>?_)
 refine aT (.slice none 0 0) (RL.nq (RC.sr (RL.bO zr lH (RL.aV 0 j zr dP gx fun aw j=>(RL.bM 0 p1.Xs j nN (ic ((p1.Xs.length:Int)) 0 (mv (vb ((p1.Xs.length:Int)==0)) (RL.gs true ((p1.Xs.length:Int)==0) (vp ae 1) zr zr zr (eO mV) ?_))))))))
 refine RL.gs true ((p1.Xs.length:Int)==0) (vi p1.Y1) rfl rfl rfl (cG 1 rfl j (fun h=>by exact(dG h:cv (true&&(((p1.Xs.length:Int)==0)==false)) (vp ae 1)= (vp ae 1))) rfl eY cW) (RL.gs true ((p1.Xs.length:Int)==0) (vp ae 0) rfl rfl rfl (eO pr) (RL.gs true ((p1.Xs.length:Int)==0) (vi p1.Y0) rfl rfl rfl (cG 1 rfl j (fun h=>by exact(dG h:cv (true&&(((p1.Xs.length:Int)==0)==false)) (vp ae 0)= (vp ae 0))) rfl gj cW) (RL.gs true ((p1.Xs.length:Int)==0) (vb (decide (p1.Y1<=p1.Y0))) rfl rfl rfl (eN .leq .i64 p1.Y1 p1.Y0 rfl (fun h=>by exact(dG h:cv (true&&(((p1.Xs.length:Int)==0)==false)) (vi p1.Y1)= (vi p1.Y1))) (fun h=>by exact(dG h:cv (true&&(((p1.Xs.length:Int)==0)==false)) (vi p1.Y0)= (vi p1.Y0))) rfl) (RL.pick ((p1.Xs.length:Int)==0) (vb (((p1.Xs.length:Int)==0)||(decide (p1.Y1<=p1.Y0)))) (oZ true) (RL.nt (fK hb (fun hc hb=>?_) fun hc hb=>?_))))))
 ·refine RC.sr (mv v0 (aT v0 (RL.nt (RC.rt ?_))))
  obtain rfl:=oi hb
  exact cK (j.pk 4 [3])
 refine RC.ss (RC.sr (mv v0 (RL.gK 3 p0 j o6 (RL.ja (p0.length:Int) 1 (aT (vi (IntKind.wrap .i64 ((p0.length:Int) - 1))) (RL.nq ?_))))))
 obtain⟨aj,hj,hb⟩:=bd hb
 refine RC.jn (fun(aj:Bool)=>SH E V [(0,v0),(3,vp ae 0),(5,(vi (IntKind.wrap .i64 ((p0.length:Int) - 1)))),(42,vb aj)] [own 187 v0 p0,bx 187 ae p1]) aj ?_ ?_
 ·refine RC.AE mixed [0,0,0,0,0,0,0,0,0,0,0,0,0,0,0,0,0,0,0,0,2,0] [0,1,2,3,4,5,6,7,8,9,10,11,12,13,14,15,16,17,18,19,20,21] ?_
  have j:=j.drew
  refine DP.e0 zr (mv (vi (IntKind.wrap .i64 ((p0.length:Int) - 1))) (cM zr (ic ((IntKind.wrap .i64 ((p0.length:Int) - 1))) 0 (cM zr (mv (vb (decide ((IntKind.wrap .i64 ((p0.length:Int) - 1))>=0))) (DP.d0 (iA hj (fun o hj=>?_) fun o hj=>?_)))))))
  rotate_left
  ·refine DP.e0 zr (cH o (cM zr (cH o (cM zr (cH o (cM zr (cH o (cM zr ?_))))))))
   refine cH o (cM zr (cH o (cM zr (cH o (cM zr (cH o (cM zr (iF o (vb false) ?_))))))))
   refine cM zr (mv (vb false) (cM zr (qY (cM zr (qY (cM zr (qY (cM zr ?_))))))))
   refine qY (cM zr (qY (cM zr (qY (cM zr (qY (xt zr (qY ?_))))))))
   refine B6 zr (RL.pick false (vb false) zr (DP.d0 (DP.z ?_)))
   obtain rfl:=oi hj
   exact⟨rfl,j.sp 4 [3,1]⟩
  refine DP.e0 zr (RL.move v0 (cg o) (cM zr (RL.move (vi (IntKind.wrap .i64 ((p0.length:Int) - 1))) (cg o) (cM zr ?_))))
  obtain⟨ak,af,hj⟩:=bd hj
  refine RL.bU (hg:=(cg o)) 3 j zr zr kY af (cM zr (RL.oN (α:=aA) (cg o) (jy 3 j af 0) mV (cM zr (RL.dE (hg:=(cg o)) 3 j (jy 3 j af 1) (bC af).2.1 eY cW (cM zr (RL.bO (hg:=(cg o)) zr pr (cM zr (RL.aR (hg:=(cg o)) 1 j zr gj cW ?_))))))))
  refine cM zr (RL.lN ak.Y1 p1.Y0 (cg o) (cM zr (iF o (vb (ak.Y1==p1.Y0)) (cM zr (mv (vb (ak.Y1==p1.Y0)) (DP.d0 (iA hj (fun aa hj=>?_) fun aa hj=>?_)))))))
  rotate_left
  ·refine DP.e0 zr (cH aa (cM zr (cH aa (cM zr (cH aa (cM zr (cH aa (cM zr ?_))))))))
   refine cH aa (cM zr (cH aa (cM zr (cH aa (xt zr (cH aa (B6 zr (iF aa (vb false) ?_))))))))
   refine DP.d0 (DP.z ?_)
   obtain rfl:=oi hj
   exact⟨rfl,j.sp 4 [3,1]⟩
  refine DP.e0 zr (RL.move v0 (cg aa) (cM zr (RL.move (vi (IntKind.wrap .i64 ((p0.length:Int) - 1))) (cg aa) (cM zr ?_))))
  obtain⟨ax,ag,hj⟩:=bd hj
  refine RL.bU (hg:=(cg aa)) 3 j zr zr kY ag (cM zr (RL.oN (α:=aA) (cg aa) (jy 3 j ag 0) lH (cM zr (RL.lG (hg:=(cg aa)) 3 j (jy 3 j ag 2) (bC ag).2.1 dP gx fun al j=>?_))))
  refine cM zr (RL.bO (hg:=(cg aa)) zr lH (cM zr (RL.aV (hg:=(cg aa)) 2 j zr dP gx fun an j=>(xt zr ?_))))
  obtain⟨ao,aq,hj⟩:=bd hj
  refine RL.call (cg aa) zr Mw [al,an] zr (aF (uW N (i0:=1) (i1:=0) j zr zr aq) ?_)
  rintro _ w ⟨rfl,j⟩
  refine B6 zr (iF aa (vb ao) (DP.d0 (DP.z ?_)))
  obtain rfl:=oi hj
  exact⟨rfl,j.sp 6 [5,3]⟩
 rintro _ w ⟨O,rfl,j⟩
 refine aG (fK hb (fun hc hb=>?_) fun hc hb=>?_)
 rotate_left
 ·refine RC.sx (mv v0 (RL.aV (f:=(fun x=>x)) 1 j zr Fd.self wC fun ar j=>(RL.fR ([p1]: (List aA)) j [ar] kY DG (fun M hs g=>⟨(g.sat 0 _ zr).1,zt⟩) fun ay w j=>?_)))
  have j:=j.freeze 0
  obtain⟨az,au,hb⟩:=bd hb
  refine RL.app 2 0 j Mx au fun av w j=>?_
  refine aT av (RL.nt (RC.ret ?_))
  obtain rfl:=oi hb
  exact cK (j.pk 4 [2])
 refine RC.sr (mv v0 (mv (vi (IntKind.wrap .i64 ((p0.length:Int) - 1))) (RL.bO zr mV (RL.aR 1 j zr eY cW ?_))))
 obtain⟨a0,ah,hb⟩:=bd hb
 refine RL.bU 0 j zr zr kY ah (RL.oN (α:=aA) zt (jy 0 j ah 0) mV ?_)
 have j:=j.sc Int p1.Y1
 refine RL.fQ 1 0 j (jy 1 j ah 1) (bC ah).2.1 zr oS cW fun w j=>?_
 refine RL.ns (mv v0 (aT v0 (RL.nt (RC.rt ?_))))
 obtain rfl:=oi hb
 exact cK (j.pk 3 [1])
theorem l6 {p0: (List aH)} {res: (List aA)} (j:Holds E w V) (h0:V[i0]? =some (rd v0 p0)) (o:gz N p0=some res):
    Calls bN 70 [v0].toArray w (iE (my E V res)):=by
 unfold gz at o
 refine enter Tryz.func70 zr zr ?_
 have j:=j.dup (i0+0) h0
 refine RC.sr (aT (.slice none 0 0) (RL.ns (mv v0 ?_)))
 obtain⟨cd,bm,o⟩:=bd o
 refine RL.call zt zr On [v0] zr (aF (tA N (i0:=0) j zr bm) ?_)
 rintro ad w j
 refine aT ad (RL.ns (mv ad ?_))
 obtain⟨ag,bn,o⟩:=bd o
 have j:=j.pull 0
 refine RL.call zt zr KD [ad,(.func (.func 101) #[] #[])] zr (aF (Ga Tryz.lay100 aH zr jE.JA jE.sz Mo (fun j hi hj hr=>wH N j hi hj hr) j bn) ?_)
 rintro _ w ⟨rfl,j⟩
 refine RL.ns (RL.jN j Mp fun af w j=>?_)
 refine RL.nq (RC.sr (mv ad (RL.gK 1 ag j tw (mv (vi 0) (RL.nt ?_)))))
 obtain⟨an,hN,o⟩:=bd o
 refine RC.fold (fun(av:Nat) (an: (List Int)) U w=>∃a5:Value,SH E V [(0,ad),(3,vp af 0),(14,ad),(15,vi ag.length),(16,vi av)] [own 74 ad ag,bc 87 af [a5],own 3 a5 an] U w) (fun(an: (List Int)) U w=>∃al:Value,SH E V [(0,ad),(3,vp af 0)] [own 74 ad ag,bc 87 af [al],own 3 al an] U w) hN ?_ ?_ ?_ ?_
 ·have j:=j.eC Int 3
  exact⟨(.slice none 0 0),j.sp 5 [2,1,0]⟩
 ·rintro hm an _ w ⟨bo,O,rfl,j⟩
  refine RC.sr (ic ((ag.length:Int)) ((ag.length:Int)) (RL.nq (RC.dC oE (RC.ex ?_))))
  exact⟨rfl,bo,j.sp 3 [0,1,2]⟩
 ·rintro hm av an s' _ w hk ⟨bp,O,rfl,j⟩ o
  refine RC.sr (ic ((av:Int)) ((ag.length:Int)) (RL.nq (RC.dB (oD hk) (RC.ss (RC.bs ?_)))))
  obtain⟨ao,a0,o⟩:=bd o
  refine RL.bU 0 j zr zr nk a0 (RL.lG (f:=(fun x=>x)) 0 j (jy 0 j a0 0) (bC a0).2.1 Fd.self jE fun cf j=>?_)
  refine RL.alloc j qN.z fun ch w j=>?_
  refine RL.bW 0 j 1 zr jE fun w j=>?_
  refine RL.nt (RC.region (RL.bS 3 bp j gx (RL.bO zr lZ (RL.aR 0 j zr gE cW (RL.bO zr pP (RL.aR 0 j zr kr cW ?_))))))
  have j:=(j.sc Int ao.Y0).sc Int ao.Y1
  refine RL.fR ([ao.Y0,ao.Y1]: (List Int)) j [(vi ao.Y0),(vi ao.Y1)] fI Hy (fun M hs g=>⟨(g.sat 1 _ zr).1,⟨(g.sat 0 _ zr).1,zt⟩⟩) fun cj w j=>?_
  have j:=j.freeze 0
  obtain⟨ck,bq,o⟩:=bd o
  refine RL.app 7 0 j wB bq fun a8 w j=>?_
  refine RL.jg 6 a8 j zr zr (jM 7 j) gx fun w j=>?_
  refine RL.nil (cA (aG (RC.region (RL.inc hk hm (mv (vi ((av+1:Nat):Int)) (RL.nil ?_))))))
  obtain rfl:=oi o
  exact⟨rfl,a8,j.sp 8 [5,6,7]⟩
 rintro _ w ⟨al,O,rfl,j⟩
 refine aG (RC.sr (RL.bS 1 al j gx ?_))
 obtain⟨cl,br,o⟩:=bd o
 have j:=j.pull 2
 refine RL.call zt zr Mq [al] zr (aF (IG Tryz.lay102 j br) ?_)
 rintro _ w ⟨rfl,j⟩
 refine RL.ns (RL.bS 2 al j gx ?_)
 have j:=j.pull 0
 obtain⟨ah,bt,o⟩:=bd o
 refine RL.call zt zr Mr [al] zr (aF (sU N j bt) ?_)
 rintro bu w j
 refine RL.jg 3 bu j zr zr (jM 0 j) gx fun w j=>?_
 refine RL.ns (aT (.slice none 0 0) (RL.ns (aT (.slice none 0 0) (RL.ns (aT (vi 0) (RL.nq (RC.sr (RL.alloc j Hy.z fun bw w j=>?_))))))))
 have j:=j.sc Int 0
 refine RL.bW 1 j 0 zr cW fun w j=>?_
 refine RL.nt ?_
 have j:=((((j.freeze 2).mK (i:=5) (x:=ah) rfl (fun M hs g=>(tm (g.sat 2 _ rfl).1))).hG (i:=5) rfl).eC aA 187).eC aH 74
 obtain⟨cm,hN,o⟩:=bd o
 refine RC.iter (fun(aa: (List aA)×(List aH)×Int×Int) U w=>∃(a9 ba:Value) (bb:Nat),SH E V [(0,ad),(3,vp af 0),(6,a9),(7,ba),(8,vi aa.2.2.1),(9,vp bb 0)] [own 74 ad ag,pt (vp af 0) ah,own 187 a9 aa.1,own 74 ba aa.2.1,bx 3 bb aa.2.2.2] U w) (fun(aa: (List aA)×(List aH)×Int×Int) U w=>∃au:Value,SH E V [(6,au)] [own 74 ad ag,pt (vp af 0) ah,own 187 au aa.1] U w) (fun(r:Empty) _ _=>r.elim) hN ?_ ?_ ?_ ?_
 ·exact⟨(.slice none 0 0),(.slice none 0 0),bw,j.sp 9 [6,7,1,0,3]⟩
 ·rintro aa fl _ w ⟨aj,bf,ak,O,rfl,j⟩ o
  refine RC.seq (RC.sr (RL.aR (f:=(fun x=>x)) 4 j zr Fd.self cW (RL.ja aa.2.2.2 1 (RL.bY 1 ah j gx fun cn j=>(RL.bM 0 ah j nN (ic ((IntKind.wrap .i64 (aa.2.2.2+1))) ((ah.length:Int)) (RL.nt (fK o (fun hc o=>?_) fun hc o=>?_))))))))
  rotate_left
  ·refine RC.ex ?_
   obtain rfl:=oi o
   exact⟨rfl,aj,j.sp 6 [1,2,3]⟩
  refine RC.ss (RC.bs (mv bf ?_))
  have j:=j.hG (i:=5) rfl
  refine RL.makeFunc [(vp af 0),(vp ak 0)] ?_
  have j:=j.pull 4
  obtain⟨cp,b0,o⟩:=bd o
  refine RL.call trivial rfl Mt [bf,(.func (.func 105) #[] #[(vp af 0),(vp ak 0)])] rfl (aF (qp N j ⟨105,[(vp af 0),(vp ak 0)],rfl,Ms,fun w Γl v y0 r i j hi hr=>by exact aF (wI N (i0:=i) (i1:=Γl.length+2) (i2:=Γl.length+5) j hi (BQ rfl) (BQ rfl) hr) fun _ _ h=>h⟩ b0) ?_)
  rintro bg w j
  refine aT bg (RL.nq ?_)
  obtain⟨cq,hN,o⟩:=bd o
  refine RC.iter (fun(ae: (List aH)×Int) U w=>∃bh:Value,SH E V [(0,ad),(3,vp af 0),(6,aj),(7,bh),(8,vi ae.2),(9,vp ak 0)] [own 74 ad ag,pt (vp af 0) ah,own 187 aj aa.1,pt (vp ak 0) aa.2.2.2,own 74 bh ae.1] U w) (fun(ae: (List aH)×Int) U w=>∃aq:Value,SH E V [(0,ad),(3,vp af 0),(6,aj),(7,aq),(8,vi ae.2),(9,vp ak 0)] [own 74 ad ag,pt (vp af 0) ah,own 187 aj aa.1,pt (vp ak 0) aa.2.2.2,own 74 aq ae.1] U w) (fun(r:Empty) _ _=>r.elim) hN ?_ ?_ ?_ ?_
  ·exact⟨bg,j.sp 7 [2,3,4,6,0]⟩
  ·rintro ae fl _ w ⟨aw,O,rfl,j⟩ o
   refine RC.seq (RC.seq ?_)
   obtain⟨a2,hj,o⟩:=bd o
   refine RC.jn (fun(a2:Bool)=>SH E V [(0,ad),(3,vp af 0),(6,aj),(7,aw),(8,vi ae.2),(9,vp ak 0),(57,vb a2)] [own 74 ad ag,pt (vp af 0) ah,own 187 aj aa.1,own 74 aw ae.1,pt (vp ak 0) aa.2.2.2]) a2 ?_ ?_
   ·refine RC.AA mixed ?_
    have j:=j.drew
    refine RO.go (mv (vi ae.2) (RO.nx (mv ad (RO.nx (RL.gK 0 ag j tw (RO.nx (ic ae.2 ((ag.length:Int)) (RO.nx ?_))))))))
    refine mv (vb (decide (ae.2< (ag.length:Int)))) (iA hj (fun ab hj=>?_) fun ab hj=>?_)
    rotate_left
    ·refine RO.nx (cH ab (RO.nx (cH ab (RO.nx (cH ab (RO.nx (cH ab (RO.nx ?_))))))))
     refine cH ab (RO.nx (cH ab (RO.nx (cH ab (RO.nx (cH ab (RO.nx (cH ab ?_))))))))
     refine RO.nx (cH ab (RO.nx (iF ab (vb false) (RO.last ?_))))
     obtain rfl:=oi hj
     exact⟨rfl,j.sp 5 [0,1,2,4,3]⟩
    refine RO.nx (RL.move ad (cg ab) (RO.nx (RL.move (vi ae.2) (cg ab) (RO.nx ?_))))
    obtain⟨bj,ax,hj⟩:=bd hj
    refine RL.bU (hg:=(cg ab)) 0 j zr zr nk ax (RO.nx (RL.oN (α:=aH) (cg ab) (jy 0 j ax 0) lZ (RO.nx (RL.dE (hg:=(cg ab)) 0 j (jy 0 j ax 1) (bC ax).2.1 gE cW (RO.nx (RL.bY (hg:=(cg ab)) 1 ah j gx fun cr j=>?_))))))
    refine RO.nx (RL.cB (hg:=(cg ab)) aa.2.2.2 4 j cW (RO.nx ?_))
    obtain⟨a3,b1,hj⟩:=bd hj
    refine RL.cJ (hg:=(cg ab)) 0 j fI b1 fun ct j=>(RO.nx (RL.cB (hg:=(cg ab)) a3 0 j cW (RO.nx (RL.lN bj.Y0 a3 (cg ab) (RO.nx (iF ab (vb (decide (bj.Y0<=a3))) (RO.last ?_)))))))
    obtain rfl:=oi hj
    exact⟨rfl,j.sp 7 [2,3,4,6,5]⟩
   rintro _ w ⟨O,rfl,j⟩
   refine aG (fK o (fun hc o=>?_) fun hc o=>?_)
   rotate_left
   ·refine RC.ex ?_
    obtain rfl:=oi o
    exact⟨rfl,aw,j.sp 5 [0,1,2,4,3]⟩
   refine RC.sn (RC.block (RC.region (mv aw (mv ad (mv (vi ae.2) ?_)))))
   obtain⟨b2,a4,o⟩:=bd o
   refine RL.bU 0 j zr zr nk a4 (RL.lG (f:=(fun x=>x)) 0 j (jy 0 j a4 0) (bC a4).2.1 Fd.self jE fun b3 j=>?_)
   refine RL.fR ([b2]: (List aH)) j [b3] nk qN (fun M hs g=>⟨(g.sat 0 _ zr).1,zt⟩) fun cu w j=>?_
   have j:=j.freeze 0
   obtain⟨cv,b4,o⟩:=bd o
   refine RL.app 5 0 j GN b4 fun bk w j=>?_
   refine mv (vi ae.2) (RL.ja ae.2 1 (aT bk (aT (vi (IntKind.wrap .i64 (ae.2+1))) (RL.nil (cA ?_)))))
   obtain rfl:=oi o
   exact⟨rfl,bk,j.sp 7 [2,3,4,6,5]⟩
  ·intro r _ _ _ _
   exact r.elim
  rintro ae _ w rfl ⟨aq,O,rfl,j⟩
  rw [Fo.gm] at o
  refine aG (RC.AE mixed [1,1,1,1,1,1,1,1,1,1,0,2,0,2,0] [0,1,2,3,4,5,6,7,8,9,10,11,12,13,14] ?_)
  have j:=j.drew
  refine DP.e1 aj zr (fun w=>RL.move aj zt DP.d1) (DP.yI ah 1 zr j gx fun cw a305 cx j=>(DP.FR aa.2.2.2 5 zr j cW fun a307 cy j=>?_))
  obtain⟨ay,b5,o⟩:=bd o
  refine DP.Lx 2 zr j fI b5 fun cz j=>(DP.FR ay 0 zr j cW fun a311 c0 j=>(DP.yI ah 6 zr j gx fun c1 a314 c2 j=>(DP.FR aa.2.2.2 10 zr j cW fun a316 c3 j=>(DP.e1 (vi (IntKind.wrap .i64 (aa.2.2.2+1))) zr (fun w=>RL.ja aa.2.2.2 1 DP.d1) ?_))))
  obtain⟨az,b6,o⟩:=bd o
  refine DP.Lx 2 zr j fI b6 fun c4 j=>(DP.FR az 0 zr j cW fun a320 c5 j=>(DP.e0 zr (mv aq (xt zr ?_))))
  have j:=j.pull 14
  obtain⟨b7,b8,o⟩:=bd o
  refine RL.call zt zr Mv [aq] zr (aF (vK N j b8) ?_)
  rintro b9 w j
  refine DP.d2 (⟨⟨⟨⟨⟨⟨zt,j.kW 10⟩,j.kW 9⟩,j.kW 7⟩,j.kW 5⟩,j.kW 4⟩,j.kW 2⟩) (DP.e0 zr ?_)
  have j:=((j.sc Int ay).sc Int az).freeze 2
  refine RL.build (⟨ay,az,b7.1⟩:aA) trivial rfl j [(0,vi ay),(1,vi az),(2,b9)] rfl KF rfl (fun M hs g=>by have h:=wA M;exact dA.cons (f:=fun(x:aA) y=>{x with Y0:=y}) h sH (g.sat 1 _ rfl).1 fun _ h=>dA.cons (f:=fun(x:aA) y=>{x with Y1:=y}) h oS (g.sat 0 _ rfl).1 fun _ h=>dA.cons (f:=fun(x:aA) y=>{x with Xs:=y}) h sI (g.sat 2 _ rfl).1 fun _ h=>dA.nil h) fun ca j=>?_
  refine xt zr ?_
  have j:=j.pull 17
  obtain⟨c6,cb,o⟩:=bd o
  refine RL.call zt zr KG [aj,ca] zr (aF (qD N (i1:=0) j zr cb) ?_)
  rintro bl w j
  refine DP.d2 (⟨⟨⟨⟨⟨⟨zt,j.kW 14⟩,j.kW 13⟩,j.kW 11⟩,j.kW 9⟩,j.kW 8⟩,j.kW 6⟩) (DP.e0 zr (aT bl (DP.d0 ?_)))
  have j:=j.pl 21 [0,1,2,3,4,5,7,10,12,15,16,17,18,19,20]
  refine DP.z (cA (aG (RC.seq (RC.sr (RL.cB aa.2.2.2 13 j cW (RL.nt (RC.region (RL.alloc j Hy.z fun cc w j=>?_))))))))
  have j:=j.sc Int aa.2.2.2
  refine RL.bW 1 j 0 zr cW fun w j=>?_
  refine RL.nt (RC.region (RL.aR (f:=(fun x=>x)) 1 j zr Fd.self cW (RL.ja aa.2.2.2 1 ?_)))
  have j:=j.sc Int (IntKind.wrap .i64 (aa.2.2.2+1))
  refine RL.kU 2 j 0 zr cW fun w j=>?_
  refine RL.nil ?_
  obtain rfl:=oi o
  exact⟨rfl,bl,aq,cc,j.sp 18 [13,14,3,8,2]⟩
 ·intro r _ _ _ _
  exact r.elim
 rintro aa _ w rfl ⟨au,O,rfl,j⟩
 rw [Fo.gm] at o
 refine aG (RC.sr (mv au (aT au (RL.nt (RC.ret ?_)))))
 obtain rfl:=oi o
 exact cK (j.pk 3 [2])
theorem mZ {p0: (List aA)} {res: (List aH)} (j:Holds E w V) (h0:V[i0]? =some (rd v0 p0)) (o:iQ N p0=some res):
    Calls bN 71 [v0].toArray w (iE (mF E V res)):=by
 unfold iQ at o
 refine enter Tryz.func71 zr zr ?_
 have j:=j.dup (i0+0) h0
 refine RC.sr (aT (.slice none 0 0) (RL.ns (aT (.slice none 0 0) (RL.nq (RC.sr (mv v0 (RL.bM 0 p0 j o6 (mv (vi 0) ?_))))))))
 refine RL.nt ?_
 obtain⟨ad,hN,o⟩:=bd o
 refine RC.fold (fun(ae:Nat) (ad: (List aH)) U w=>∃an:Value,SH E V [(3,an),(7,v0),(8,vi p0.length),(9,vi ae)] [rd v0 p0,own 74 an ad] U w) (fun(ad: (List aH)) U w=>∃af:Value,SH E V [(3,af)] [rd v0 p0,own 74 af ad] U w) hN ?_ ?_ ?_ ?_
 ·have j:=j.eC aH 74
  exact⟨(.slice none 0 0),j.sp 2 [1,0]⟩
 ·rintro hm ad _ w ⟨av,O,rfl,j⟩
  refine RC.sr (ic ((p0.length:Int)) ((p0.length:Int)) (RL.nq (RC.dC oE (RC.ex ?_))))
  exact⟨rfl,av,j.sp 2 [0,1]⟩
 ·rintro hm ae ad s' _ w hk ⟨aw,O,rfl,j⟩ o
  refine RC.sr (ic ((ae:Int)) ((p0.length:Int)) (RL.nq (RC.dB (oD hk) (RC.ss (RC.bs ?_)))))
  obtain⟨ab,ax,o⟩:=bd o
  refine RL.cJ 0 j kY ax fun a3 j=>(RL.bY 0 ab j wC fun a4 j=>(RL.alloc j DG.z fun ak w j=>?_))
  refine RL.bW 0 j 1 zr wC fun w j=>?_
  refine RL.ns (aT (vi 0) (RL.nt ?_))
  obtain⟨a5,hN,o⟩:=bd o
  refine RC.iter (fun(aa: (List aH)×Int) U w=>∃ar:Value,SH E V [(3,ar),(5,vp ak 0),(6,vi aa.2),(7,v0),(8,vi p0.length),(9,vi ae)] [bx 187 ak ab,rd v0 p0,own 74 ar aa.1] U w) (fun(aa: (List aH)×Int) U w=>∃ai:Value,SH E V [(3,ai),(7,v0),(8,vi p0.length),(9,vi ae)] [bx 187 ak ab,rd v0 p0,own 74 ai aa.1] U w) (fun(r:Empty) _ _=>r.elim) hN ?_ ?_ ?_ ?_
  ·exact⟨aw,j.sp 5 [0,3,4]⟩
  ·rintro aa fl _ w ⟨al,O,rfl,j⟩ o
   refine RC.seq (RC.sr (mv (vi aa.2) (RL.bO zr lH (RL.aV 0 j zr dP gx fun a7 j=>(RL.bM 0 ab.Xs j nN (ic aa.2 ((ab.Xs.length:Int)) (RL.nt (fK o (fun hc o=>?_) fun hc o=>?_))))))))
   rotate_left
   ·refine RC.ex ?_
    obtain rfl:=oi o
    exact⟨rfl,al,j.sp 4 [1,2,3]⟩
   refine RC.ss (RC.block (RC.AE mixed [1,0,0,0,0,0,0,0,0,0,0,0,0,0,0,0,0,2,2,0] [0,1,2,3,4,5,6,7,8,9,10,11,12,13,14,15,16,17,18,19] ?_))
   have j:=j.drew
   refine DP.e1 al zr (fun w=>RL.move al zt DP.d1) (DP.e0 zr (RL.bO zr lH (cM zr (RL.aV 1 j zr dP gx fun a8 j=>(cM zr (mv (vi aa.2) (cM zr ?_)))))))
   obtain⟨ag,az,o⟩:=bd o
   refine RL.cJ 0 j fI az fun a9 j=>(cM zr (RL.cB ag 0 j cW (cM zr (RL.bO zr pr (cM zr (RL.aR 3 j zr gj cW (cM zr (RL.bO zr lH ?_))))))))
   refine cM zr (RL.aV 3 j zr dP gx fun ba j=>(cM zr (mv (vi aa.2) (cM zr (RL.ja aa.2 1 (cM zr ?_))))))
   obtain⟨ah,a0,o⟩:=bd o
   refine RL.cJ 0 j fI a0 fun bb j=>(cM zr (RL.cB ah 0 j cW (cM zr (RL.bO zr mV (cM zr (RL.aR 5 j zr eY cW (cM zr ?_)))))))
   have j:=(((j.sc Int ag).sc Int ab.Y0).sc Int ah).sc Int ab.Y1
   refine RL.build (⟨ag,ab.Y0,ah,ab.Y1⟩:aH) trivial rfl j [(0,vi ag),(1,vi ab.Y0),(2,vi ah),(3,vi ab.Y1)] rfl GO rfl (fun M hs g=>by have h:=vB M;exact dA.cons (f:=fun(x:aH) y=>{x with X0:=y}) h uq (g.sat 3 _ rfl).1 fun _ h=>dA.cons (f:=fun(x:aH) y=>{x with Y0:=y}) h xB (g.sat 2 _ rfl).1 fun _ h=>dA.cons (f:=fun(x:aH) y=>{x with X1:=y}) h rf (g.sat 1 _ rfl).1 fun _ h=>dA.cons (f:=fun(x:aH) y=>{x with Y1:=y}) h uu (g.sat 0 _ rfl).1 fun _ h=>dA.nil h) fun a1 j=>?_
   refine xt zr (RL.fR ([(⟨ag,ab.Y0,ah,ab.Y1⟩:aH)]: (List aH)) j [a1] nk qN (fun M hs g=>⟨(g.sat 0 _ zr).1,zt⟩) fun bc w j=>(Lv zr ?_))
   have j:=j.freeze 0
   obtain⟨bf,a2,o⟩:=bd o
   refine RL.app 13 0 j GN a2 fun au w j=>?_
   refine B6 zr (aT au (DP.d0 (DP.z (cA (aG (RC.region (mv (vi aa.2) (RL.ja aa.2 2 ?_))))))))
   refine aT (vi (IntKind.wrap .i64 (aa.2+2))) (RL.nil ?_)
   obtain rfl:=oi o
   exact⟨rfl,au,j.sp 14 [11,12,13]⟩
  ·intro r _ _ _ _
   exact r.elim
  rintro aa _ w rfl ⟨ai,O,rfl,j⟩
  rw [Fo.gm] at o
  refine cA (aG (RC.region (RL.inc hk hm (mv (vi ((ae+1:Nat):Int)) (RL.nil ?_)))))
  obtain rfl:=oi o
  exact⟨rfl,ai,j.sp 3 [1,2]⟩
 rintro _ w ⟨af,O,rfl,j⟩
 refine aG (RC.sr (mv af (aT af (RL.nt (RC.ret ?_)))))
 obtain rfl:=oi o
 exact cK (j.pk 2 [1])
def uX (E:World) (V:List HP) (r:Bool) (U:Nat->Value) (w:World):Prop:=nL bN 26 Tryz.f69 (bV E V r) .ret U w
theorem tD {p0: (List aH)} {p1: (List aH)} {res:Bool} (j:Holds E w V) (h0:V[i0]? =some (rd v0 p0)) (h1:V[i1]? =some (rd v1 p1)) (o:jO N p0 p1=some res):
    Calls bN 69 [v0,v1].toArray w (iE (bV E V res)):=by
 unfold jO at o
 refine enter Tryz.func69 zr zr ?_
 have j:=(j.dup (i0+0) h0).dup (i1+1) h1
 refine RC.sr (aT (vb false) (RL.nq (RC.sr (mv v0 (RL.bM 1 p0 j tw (mv v1 (RL.bM 0 p1 j tw (ic ((p0.length:Int)) ((p1.length:Int)) ?_))))))))
 refine RL.nt (fK o (fun hc o=>?_) fun hc o=>?_)
 ·refine RC.sr (aT (vb false) (RL.nt (RC.rt ?_)))
  obtain rfl:=oi o
  exact cK ⟨rfl,j.drop 2⟩
 refine RC.ss (RC.sr (mv v0 (RL.bM 1 p0 j tw (mv (vi 0) (RL.nt ?_)))))
 obtain⟨an,hN,o⟩:=bd o
 refine RC.range (fun(aa:Nat) (ab:Unit)=>SH E V [(0,v0),(1,v1),(12,vi p0.length),(13,vi aa)] [rd v0 p0,rd v1 p1]) (fun(ab:Unit)=>SH E V [] [rd v0 p0,rd v1 p1]) (uX E V) hN ?_ ?_ ?_ ?_ ?_
 ·exact j.sp 2 [1,0]
 ·rintro hm ab _ w ⟨O,rfl,j⟩
  refine RC.sr (ic ((p0.length:Int)) ((p0.length:Int)) (RL.nq (RC.dC oE (RC.ex ?_))))
  exact⟨rfl,j.sp 2 [0,1]⟩
 ·rintro hm aa ab fl _ w hk ⟨O,rfl,j⟩ o
  refine RC.sr (ic ((aa:Int)) ((p0.length:Int)) (RL.nq (RC.dB (oD hk) (RC.ss (RC.bs (mv (vi aa) (aT (vi aa) (RL.nq ?_))))))))
  refine RC.AA mixed ?_
  have j:=j.drew
  refine RO.go (mv v0 (RO.nx (mv (vi aa) (RO.nx ?_))))
  obtain⟨ag,aj,o⟩:=bd o
  refine RL.cJ 0 j nk aj fun aq j=>(RO.nx (RL.bY 0 ag j jE fun ar j=>(RO.nx (mv v1 (RO.nx (mv (vi aa) (RO.nx ?_)))))))
  obtain⟨ah,ak,o⟩:=bd o
  refine RL.cJ 3 j nk ak fun au j=>(RO.nx (RL.bY 0 ah j jE fun av j=>(RO.nx (RL.Pn 2 0 ag ah zt zr j zr zr zr zr My zr (RO.last (aG (fK o (fun hc o=>?_) fun hc o=>?_)))))))
  rotate_left
  ·refine RC.skip (cA (aG (RC.region (RL.inc hk hm (mv (vi ((aa+1:Nat):Int)) (RL.nil ?_))))))
   obtain rfl:=oi o
   exact⟨rfl,j.sp 6 [4,5]⟩
  refine RC.sr (aT (vb false) (RL.nt (RC.rb (bZ ?_))))
  obtain rfl:=oi o
  exact⟨rfl,cK ⟨rfl,j.drop 6⟩⟩
 ·intro r U w e hK
  subst e
  refine bZ ?_
  obtain rfl:=oi o
  exact hK
 rintro ab _ w rfl ⟨O,rfl,j⟩
 rw [Fo.gm] at o
 refine aG (RC.sr (aT (vb true) (RL.nt (RC.ret ?_))))
 obtain rfl:=oi o
 exact cK ⟨rfl,j.drop 2⟩
def uY (E:World) (V:List HP) (r:Int) (U:Nat->Value) (w:World):Prop:=nL bN 52 Tryz.f46 (aS E V r) .ret U w
theorem oH {p0: (List aH)} (j:Holds E w V) (h0:V[i0]? =some (rd v0 p0)) (hb:iI N p0=some res):
    Calls bN 46 [v0].toArray w (iE (aS E V res)):=by
 unfold iI at hb
 refine enter Tryz.func46 zr zr ?_
 have j:=j.dup (i0+0) h0
 refine RC.sr (aT (vi 0) (RL.nq (RC.sr (mv v0 ?_))))
 obtain⟨av,ay,hb⟩:=bd hb
 refine RL.call zt zr Om [v0] zr (aF (uV N (i0:=0) j zr ay) ?_)
 rintro _ w ⟨rfl,j⟩
 refine aT (vi av) (RL.ns (mv (vi av) (ic av 0 (RL.nt (fK hb (fun hc hb=>?_) fun hc hb=>?_)))))
 ·refine RC.sr (mv (vi av) (aT (vi av) (RL.nt (RC.rt ?_))))
  obtain rfl:=oi hb
  exact cK ⟨rfl,j.drop 1⟩
 refine RC.ss (RC.sr (aT (vi 1) (RL.nt ?_)))
 obtain⟨bg,hN,hb⟩:=bd hb
 refine RC.iter (fun(ao:Int)=>SH E V [(0,v0),(4,vi ao)] [rd v0 p0]) (fun(ao:Int)=>SH E V [(0,v0)] [rd v0 p0]) (uY E V) hN ?_ ?_ ?_ ?_
 ·exact j.sp 1 [0]
 ·rintro ao fl _ w ⟨O,rfl,j⟩ hb
  refine RC.seq (RC.sr (mv (vi ao) (mv v0 (RL.bM 0 p0 j tw (ic ao ((p0.length:Int)) (RL.nt (fK hb (fun hc hb=>?_) fun hc hb=>?_)))))))
  rotate_left
  ·refine RC.ex ?_
   obtain rfl:=oi hb
   exact⟨rfl,j.sp 1 [0]⟩
  refine RC.ss (RC.block (RC.seq ?_))
  obtain⟨o,a1,hb⟩:=bd hb
  obtain⟨aa,a2,hb⟩:=bd hb
  refine RC.BX E V mixed [1,1,1,0,0,1,1,0,0,0,0,0,0] [3,4,7,8,9,10,11,12] (fun(x:Value×Value×Value×Value×Nat×Nat)=>(fun ah ai aj ak ae af=>[(0,18,v0),(1,19,(vi ao)),(2,20,(vi (IntKind.wrap .i64 (ao - 1)))),(3,21,ah),(4,22,ai),(5,23,v0),(6,24,(vi ao)),(7,25,aj),(8,26,ak),(9,5,(vp ae 0)),(10,6,(vp af 0))]) x.1 x.2.1 x.2.2.1 x.2.2.2.1 x.2.2.2.2.1 x.2.2.2.2.2) [(0,v0),(4,vi ao)] [] (fun(D:Nat->Bool) (x:Value×Value×Value×Value×Nat×Nat)=>(fun ah ai aj ak ae af=>[bif D 0 then (pt ah o) else aM,bif D 1 then (rd ai o) else aM,bif D 2 then (pt aj aa) else aM,bif D 3 then (rd ak aa) else aM,bif D 6 then (bx 74 ae o) else (bif D 4 then (raw 74 ae 4) else aM),bif D 7 then (bx 74 af aa) else (bif D 5 then (raw 74 af 4) else aM),rd v0 p0]) x.1 x.2.1 x.2.2.1 x.2.2.2.1 x.2.2.2.2.1 x.2.2.2.2.2) (fun x=>by kernel_rfl) ?_ ⟨fun _=>g8 gn,fun _=>g8 gn,fun _=>BZ gn,?_,?_,fun _=>g8 gn,fun _=>g8 gn,?_,?_,?_,?_,?_,?_,trivial⟩ ?_
  ·have j:=((((((j.drew).aM).aM).aM).aM).aM).aM
   exact⟨(undef,undef,undef,undef,0,0),eD.none,(AF zr),zt,j⟩
  ·rintro D U w hD ag aq ⟨⟨ah,ai,aj,ak,ae,af⟩,hv,ha,_,j⟩
   obtain⟨O,rfl⟩:=(ac (hv.at 0 rfl (ag.1 rfl)) (ac (hv.at 2 rfl (ag.2.1 rfl)) az)).dH
   have j:=j.bK 0 hD
   refine RL.cJ 6 j nk a1 fun a3 j=>?_
   have j:=(j.pl 8 [0,2,3,4,5,6,7]).bF 0 true rfl aM
   exact RL.nil ⟨rfl,(a3,ai,aj,ak,ae,af),hv.pu 3,ha.u,zt,j⟩
  ·rintro D U w hD ag aq ⟨⟨ah,ai,aj,ak,ae,af⟩,hv,ha,_,j⟩
   obtain⟨O,rfl⟩:=(ac (hv.at 3 rfl (ag.1 rfl)) az).dH
   have j:=(j.bE 0 (ag.1 rfl)).bK 1 hD
   refine RL.bY 0 o j jE fun a4 j=>?_
   have j:=((j.pl 8 [1,0,3,4,5,6,7]).bF 0 (D 3) (ag.1 rfl) aM).bF 1 true rfl aM
   exact RL.nil ⟨rfl,(ah,a4,aj,ak,ae,af),hv.pu 4,ha.u,zt,j⟩
  ·rintro D U w hD ag aq ⟨⟨ah,ai,aj,ak,ae,af⟩,hv,ha,_,j⟩
   obtain⟨O,rfl⟩:=(ac (hv.at 5 rfl (ag.1 rfl)) (ac (hv.at 6 rfl (ag.2.1 rfl)) az)).dH
   have j:=j.bK 2 hD
   refine RL.cJ 6 j nk a2 fun a5 j=>?_
   have j:=(j.pl 8 [1,2,0,4,5,6,7]).bF 2 true rfl aM
   exact RL.nil ⟨rfl,(ah,ai,a5,ak,ae,af),hv.pu 7,ha.u,zt,j⟩
  ·rintro D U w hD ag aq ⟨⟨ah,ai,aj,ak,ae,af⟩,hv,ha,_,j⟩
   obtain⟨O,rfl⟩:=(ac (hv.at 7 rfl (ag.1 rfl)) az).dH
   have j:=(j.bE 2 (ag.1 rfl)).bK 3 hD
   refine RL.bY 2 aa j jE fun a6 j=>?_
   have j:=((j.pl 8 [1,2,3,0,5,6,7]).bF 2 (D 7) (ag.1 rfl) aM).bF 3 true rfl aM
   exact RL.nil ⟨rfl,(ah,ai,aj,a6,ae,af),hv.pu 8,ha.u,zt,j⟩
  ·rintro D U w hD ag aq ⟨⟨ah,ai,aj,ak,ae,af⟩,hv,ha,_,j⟩
   obtain⟨O,rfl⟩:=(az (U:=U)).dH
   have j:=(j.bK 4 (nh aq hD 11)).bK 4 hD
   refine RL.alloc j qN.z fun aw w j=>?_
   have j:=((j.pl 8 [1,2,3,4,0,6,7]).bF 4 true rfl aM).fD 4 (D 11) (nh aq hD 11) (bx 74 aw o)
   exact RL.nil ⟨rfl,(ah,ai,aj,ak,aw,af),hv.pu 9,ha.u,zt,j⟩
  ·rintro D U w hD ag aq ⟨⟨ah,ai,aj,ak,ae,af⟩,hv,ha,_,j⟩
   obtain⟨O,rfl⟩:=(az (U:=U)).dH
   have j:=(j.bK 5 (nh aq hD 12)).bK 5 hD
   refine RL.alloc j qN.z fun ax w j=>?_
   have j:=((j.pl 8 [1,2,3,4,5,0,7]).bF 5 true rfl aM).fD 5 (D 12) (nh aq hD 12) (bx 74 ax aa)
   exact RL.nil ⟨rfl,(ah,ai,aj,ak,ae,ax),hv.pu 10,ha.u,zt,j⟩
  ·rintro D U w hD ag aq ⟨⟨ah,ai,aj,ak,ae,af⟩,hv,ha,_,j⟩
   obtain⟨O,rfl⟩:=(ac (hv.at 4 rfl (ag.2.1 rfl)) (ac (hv.at 9 rfl (ag.1 rfl)) az)).dH
   have j:=((j.bE 1 (ag.2.1 rfl)).bK 4 hD).bE 4 (ag.1 rfl)
   refine RL.bW 4 j 1 zr jE fun w j=>?_
   have j:=(j.bF 1 (D 4) (ag.2.1 rfl) aM).bF 4 true rfl (bif D 9 then (raw 74 ae 4) else aM)
   exact RL.nil ⟨rfl,(ah,ai,aj,ak,ae,af),hv.n1,ha,zt,j⟩
  ·rintro D U w hD ag aq ⟨⟨ah,ai,aj,ak,ae,af⟩,hv,ha,_,j⟩
   obtain⟨O,rfl⟩:=(ac (hv.at 8 rfl (ag.2.1 rfl)) (ac (hv.at 10 rfl (ag.1 rfl)) az)).dH
   have j:=((j.bE 3 (ag.2.1 rfl)).bK 5 hD).bE 5 (ag.1 rfl)
   refine RL.bW 5 j 3 zr jE fun w j=>?_
   have j:=(j.bF 3 (D 8) (ag.2.1 rfl) aM).bF 5 true rfl (bif D 10 then (raw 74 af 4) else aM)
   exact RL.nil ⟨rfl,(ah,ai,aj,ak,ae,af),hv.n1,ha,zt,j⟩
  rintro D U w ar ⟨⟨ah,ai,aj,ak,ae,af⟩,hv,ha,_,j⟩
  have j:=(((((j.bE 0 (gq ar 3)).bE 1 (gq ar 4)).bE 2 (gq ar 7)).bE 3 (gq ar 8)).bE 4 (gq ar 11)).bE 5 (gq ar 12)
  obtain⟨O,rfl⟩:=(ac (hv.at 9 rfl (gq ar 9)) (ac (hv.at 10 rfl (gq ar 10)) (ac (ha.at 0 rfl) (ac (ha.at 1 rfl) az)))).dH
  refine aG (RC.sr (RL.bO zr lZ (RL.aR 5 j zr gE cW (RL.bO zr lZ (RL.aR 4 j zr gE cW (ic aa.Y0 o.Y0 (mv (vb (decide (aa.Y0<o.Y0))) (RL.gs true (decide (aa.Y0<o.Y0)) (vp af 1) zr zr zr (eO lZ) ?_))))))))
  refine RL.gs true (decide (aa.Y0<o.Y0)) (vi aa.Y0) rfl rfl rfl (cG 5 rfl j (fun h=>by exact(dG h:cv (true&&((decide (aa.Y0<o.Y0))==false)) (vp af 1)= (vp af 1))) rfl gE cW) (RL.gs true (decide (aa.Y0<o.Y0)) (vp ae 1) rfl rfl rfl (eO lZ) (RL.gs true (decide (aa.Y0<o.Y0)) (vi o.Y0) rfl rfl rfl (cG 4 rfl j (fun h=>by exact(dG h:cv (true&&((decide (aa.Y0<o.Y0))==false)) (vp ae 1)= (vp ae 1))) rfl gE cW) (RL.gs true (decide (aa.Y0<o.Y0)) (vb (aa.Y0==o.Y0)) rfl rfl rfl (eN .eql .i64 aa.Y0 o.Y0 rfl (fun h=>by exact(dG h:cv (true&&((decide (aa.Y0<o.Y0))==false)) (vi aa.Y0)= (vi aa.Y0))) (fun h=>by exact(dG h:cv (true&&((decide (aa.Y0<o.Y0))==false)) (vi o.Y0)= (vi o.Y0))) rfl) (RL.gs true (decide (aa.Y0<o.Y0)) (vb (aa.Y0==o.Y0)) rfl rfl rfl (dW (hx:=fun h=>by exact(dG h:cv (true&&((decide (aa.Y0<o.Y0))==false)) (vb (aa.Y0==o.Y0))= (vb (aa.Y0==o.Y0))))) (RL.gs (true&&((decide (aa.Y0<o.Y0))==false)) (aa.Y0==o.Y0) (vp af 0) rfl rfl rfl (eO kN) (RL.gs (true&&((decide (aa.Y0<o.Y0))==false)) (aa.Y0==o.Y0) (vi aa.X0) rfl rfl rfl (cG 5 rfl j (fun h=>by exact(dG h:cv ((true&&((decide (aa.Y0<o.Y0))==false))&&((aa.Y0==o.Y0)==true)) (vp af 0)= (vp af 0))) rfl fY cW) (RL.gs (true&&((decide (aa.Y0<o.Y0))==false)) (aa.Y0==o.Y0) (vp ae 0) rfl rfl rfl (eO kN) (RL.gs (true&&((decide (aa.Y0<o.Y0))==false)) (aa.Y0==o.Y0) (vi o.X0) rfl rfl rfl (cG 4 rfl j (fun h=>by exact(dG h:cv ((true&&((decide (aa.Y0<o.Y0))==false))&&((aa.Y0==o.Y0)==true)) (vp ae 0)= (vp ae 0))) rfl fY cW) ?_))))))))
  refine RL.gs (true&&((decide (aa.Y0<o.Y0))==false)) (aa.Y0==o.Y0) (vb (decide (aa.X0<=o.X0))) rfl rfl rfl (eN .leq .i64 aa.X0 o.X0 rfl (fun h=>by exact(dG h:cv ((true&&((decide (aa.Y0<o.Y0))==false))&&((aa.Y0==o.Y0)==true)) (vi aa.X0)= (vi aa.X0))) (fun h=>by exact(dG h:cv ((true&&((decide (aa.Y0<o.Y0))==false))&&((aa.Y0==o.Y0)==true)) (vi o.X0)= (vi o.X0))) rfl) (RL.gs true (decide (aa.Y0<o.Y0)) (vb ((aa.Y0==o.Y0)&&(decide (aa.X0<=o.X0)))) rfl rfl rfl (rR (aa.Y0==o.Y0) rfl (fun h=>by exact(dG h:cv (true&&((decide (aa.Y0<o.Y0))==false)) (vb (aa.Y0==o.Y0))= (vb (aa.Y0==o.Y0)))) (fun h=>by exact kg (h:=h) (true&&((decide (aa.Y0<o.Y0))==false)))) (RL.pick (decide (aa.Y0<o.Y0)) (vb ((decide (aa.Y0<o.Y0))||((aa.Y0==o.Y0)&&(decide (aa.X0<=o.X0))))) (oZ true) (RL.nt (fK hb (fun hc hb=>?_) fun hc hb=>?_))))
  ·refine RC.sr (aT (vi 8) (RL.nt (RC.rb (bZ ?_))))
   obtain rfl:=oi hb
   exact⟨rfl,cK ⟨rfl,j.drop 7⟩⟩
  refine RC.skip (cA (aG (RC.region (mv (vi ao) (RL.ja ao 1 (aT (vi (IntKind.wrap .i64 (ao+1))) (RL.nil ?_)))))))
  obtain rfl:=oi hb
  exact⟨rfl,j.sp 7 [6]⟩
 ·intro r U w e hK
  subst e
  refine bZ ?_
  obtain rfl:=oi hb
  exact hK
 rintro ao _ w rfl ⟨O,rfl,j⟩
 rw [Fo.gm] at hb
 refine aG (RC.seq (RC.sr (mv v0 ?_)))
 obtain⟨bj,a8,hb⟩:=bd hb
 refine RL.call zt zr H5 [v0] zr (aF (l6 N (i0:=0) j zr a8) ?_)
 rintro a9 w j
 have j:=j.freeze 0
 obtain⟨bk,ba,hb⟩:=bd hb
 refine RL.call zt zr Lz [a9] zr (aF (mZ N (i0:=0) j zr ba) ?_)
 rintro bb w j
 refine mv v0 ?_
 have j:=j.freeze 0
 obtain⟨bc,bf,hb⟩:=bd hb
 refine RL.call zt zr Oq [bb,v0] zr (aF (tD N (i0:=0) (i1:=2) j zr zr bf) ?_)
 rintro _ w ⟨rfl,j⟩
 refine RL.not bc (RL.nt (fK hb (fun hc hb=>?_) fun hc hb=>?_))
 ·refine RC.sr (aT (vi 3) (RL.nt (RC.rt ?_)))
  obtain rfl:=oi hb
  exact cK ⟨rfl,j.drop 3⟩
 refine RC.sx (aT (vi 0) (RL.nt (RC.ret ?_)))
 obtain rfl:=oi hb
 exact cK ⟨rfl,j.drop 3⟩
theorem mz {res:Bool} (o:Holds E w V) (j:gI N p0 p1 p2=some res):
    Calls bN 73 [(vi p0),(vi p1),(vi p2)].toArray w (iE (bV E V res)):=by
 unfold gI at j
 refine enter Tryz.func73 zr zr (RC.sr (aT (vb false) (RL.ns (mv (vi p0) (mv (vi p1) (ic p0 p1 (mv (vb (decide (p0>=p1))) (RL.gs true (decide (p0>=p1)) (vi p0) zr zr zr dW ?_))))))))
 refine RL.gs true (decide (p0>=p1)) (vi p2) rfl rfl rfl dW (RL.gs true (decide (p0>=p1)) (vb (decide (p0<=p2))) rfl rfl rfl (eN .leq .i64 p0 p2 rfl (fun h=>by exact(dG h:cv (true&&((decide (p0>=p1))==true)) (vi p0)= (vi p0))) (fun h=>by exact(dG h:cv (true&&((decide (p0>=p1))==true)) (vi p2)= (vi p2))) rfl) (RL.pick (decide (p0>=p1)) (vb ((decide (p0>=p1))&&(decide (p0<=p2)))) (kg true) (aT (vb ((decide (p0>=p1))&&(decide (p0<=p2)))) (RL.nt (RC.ret ?_)))))
 obtain rfl:=oi j
 exact cK ⟨rfl,o.drop 0⟩
theorem rq {p0:bH} {res:Bool} (j:Holds E w V) (h0:V[i0]? =some (rd v0 p0)) (hb:i7 N p0=some res):
    Calls bN 76 [v0].toArray w (iE (bV E V res)):=by
 unfold i7 at hb
 refine enter Tryz.func76 zr zr ?_
 have j:=j.dup (i0+0) h0
 refine RC.sr (RL.dJ 0 v0 j zr fun ai w j=>?_)
 refine aT (vb false) (RL.nq ?_)
 obtain⟨ad,o,hb⟩:=bd hb
 refine RC.jn (fun(ad:Bool)=>SH E V [(2,vb ad)] []) ad ?_ ?_
 ·refine RC.region (RL.bO zr xL (RL.aR 0 j zr nX cW ?_))
  obtain⟨af,ag,o⟩:=bd o
  refine RL.call zt zr Bi [(vi p0.X)] zr (aF (lr N (p0:=p0.X) j ag) ?_)
  rintro _ w ⟨rfl,j⟩
  refine mv (vb af) (iA o (fun aa o=>?_) fun aa o=>?_)
  rotate_left
  ·refine cH aa (cH aa (cH aa (iF aa (vb false) (aT (vb false) (RL.nil ?_)))))
   obtain rfl:=oi o
   exact⟨rfl,j.sp 2 []⟩
  refine RL.bO (hg:=(cg aa)) zr xM (RL.aR (hg:=(cg aa)) 0 j zr nY cW ?_)
  obtain⟨ae,ah,o⟩:=bd o
  refine RL.call (cg aa) zr Bi [(vi p0.Y)] zr (aF (lr N (p0:=p0.Y) j ah) ?_)
  rintro _ w ⟨rfl,j⟩
  refine iF aa (vb ae) (aT (vb ae) (RL.nil ?_))
  obtain rfl:=oi o
  exact⟨rfl,j.sp 2 []⟩
 rintro _ w ⟨O,rfl,j⟩
 refine aG (RC.ret ?_)
 obtain rfl:=oi hb
 exact cK ⟨rfl,j.drop 0⟩
end Go.Gk
