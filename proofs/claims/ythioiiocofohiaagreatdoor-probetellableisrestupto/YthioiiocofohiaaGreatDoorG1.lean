/-
  Printed texts: Go functions as plain functions, and that they are. No statement of the seed is proved here.
-/
import Derived.Test.YthioiiocofohiaaGreatDoorProg
import Derived.Test.YthioiiocofohiaaGreatDoorE1
import Derived.Test.YthioiiocofohiaaGreatDoorA1
import Derived.Test.YthioiiocofohiaaGreatDoorA2
import Derived.Test.YthioiiocofohiaaGreatDoorRows
import Derived.Shelf.SlGeneric
import Derived.Ground.SlsfProg
import Derived.Ground.SlgmProg
set_option linter.unusedVariables false
set_option linter.unusedSimpArgs false
set_option linter.unusedSectionVars false
set_option maxRecDepth 100000
set_option maxHeartbeats 4000000
namespace Go.Gk
open Go Go.Proofs
noncomputable abbrev bF:=Tryz.prog
def lq (x:aI):=(x.X0,x.Y0,x.X1,x.Y1)
instance instGTRect:GT aI:=GT.via lq
instance instKVRect:KV aI:=instKVvia (fun(x:aI)=>(x.X0,x.Y0,x.X1,x.Y1))
theorem eW:Fd 0 (fun x:aI=>x.X0):= .v lq (.fst .self)
theorem pz:Fs 0 Int (fun(x:aI) y=>{x with X0:=y}):= .v lq (.fst .self)
theorem fC:Fd 1 (fun x:aI=>x.Y0):= .v lq (.snd (.fst .self))
theorem sd:Fs 1 Int (fun(x:aI) y=>{x with Y0:=y}):= .v lq (.snd (.fst .self))
theorem gz:Fd 2 (fun x:aI=>x.X1):= .v lq (.snd (.snd (.fst .self)))
theorem nO:Fs 2 Int (fun(x:aI) y=>{x with X1:=y}):= .v lq (.snd (.snd (.fst .self)))
theorem jN:Fd 3 (fun x:aI=>x.Y1):= .v lq (.snd (.snd (.snd (.self))))
theorem pA:Fs 3 Int (fun(x:aI) y=>{x with Y1:=y}):= .v lq (.snd (.snd (.snd (.self))))
def pB (x:eV):=(x.X,x.Y)
instance instGTPoint:GT eV:=GT.via pB
instance instKVPoint:KV eV:=instKVvia (fun(x:eV)=>(x.X,x.Y))
theorem kF:Fd 0 (fun x:eV=>x.X):= .v pB (.fst .self)
theorem CG:Fs 0 Int (fun(x:eV) y=>{x with X:=y}):= .v pB (.fst .self)
theorem jw:Fd 1 (fun x:eV=>x.Y):= .v pB (.snd (.self))
theorem CH:Fs 1 Int (fun(x:eV) y=>{x with Y:=y}):= .v pB (.snd (.self))
def pC (x:bW):=(x.At,x.fy,x.bU,x.To,x.ik)
instance instGTBore:GT bW:=GT.via pC
theorem vB:Fd 0 (fun x:bW=>x.At):= .v pC (.fst .self)
theorem pD:Fd 2 (fun x:bW=>x.fy):= .v pC (.snd (.fst .self))
theorem mE:Fd 3 (fun x:bW=>x.bU):= .v pC (.snd (.snd (.fst .self)))
theorem nP:Fd 4 (fun x:bW=>x.To):= .v pC (.snd (.snd (.snd (.fst .self))))
theorem sf:Fd 5 (fun x:bW=>x.ik):= .v pC (.snd (.snd (.snd (.snd (.self)))))
def nZ (x:cU):=(x.Part,x.fW,x.cX,x.At)
instance instGTLand:GT cU:=GT.via nZ
theorem zk:Fd 0 (fun x:cU=>x.Part):= .v nZ (.fst .self)
theorem Ea:Fs 0 dA (fun(x:cU) y=>{x with Part:=y}):= .v nZ (.fst .self)
theorem zm:Fd 1 (fun x:cU=>x.fW):= .v nZ (.snd (.fst .self))
theorem Eb:Fs 1 dA (fun(x:cU) y=>{x with fW:=y}):= .v nZ (.snd (.fst .self))
theorem vC:Fd 2 (fun x:cU=>x.cX):= .v nZ (.snd (.snd (.fst .self)))
theorem vD:Fd 3 (fun x:cU=>x.At):= .v nZ (.snd (.snd (.snd (.self))))
def uo (x:gU):=(x.aL,x.dF,x.aV,x.bH)
instance instGTArt:GT gU:=GT.via uo
theorem pE:Fd 0 (fun x:gU=>x.aL):= .v uo (.fst .self)
theorem xA:Fd 1 (fun x:gU=>x.dF):= .v uo (.snd (.fst .self))
theorem rh:Fd 2 (fun x:gU=>x.aV):= .v uo (.snd (.snd (.fst .self)))
theorem ri:Fd 3 (fun x:gU=>x.bH):= .v uo (.snd (.snd (.snd (.self))))
def uq (x:fW):=(x.Part,x.fW)
instance instGTPin:GT fW:=GT.via uq
instance instKVPin:KV fW:=instKVvia (fun(x:fW)=>(x.Part,x.fW))
theorem BC:Fd 0 (fun x:fW=>x.Part):= .v uq (.fst .self)
theorem xB:Fs 0 dA (fun(x:fW) y=>{x with Part:=y}):= .v uq (.fst .self)
theorem BD:Fd 1 (fun x:fW=>x.fW):= .v uq (.snd (.self))
theorem xC:Fs 1 dA (fun(x:fW) y=>{x with fW:=y}):= .v uq (.snd (.self))
def xD (x:Test):=(x.A,x.B,x.Joined)
instance instGTTest:GT Test:=GT.via xD
theorem mF:Fd 0 (fun x:Test=>x.A):= .v xD (.fst .self)
theorem mG:Fd 2 (fun x:Test=>x.B):= .v xD (.snd (.fst .self))
def iU (x:aA):=(x.Y0,x.Y1,x.Xs)
instance instGTshape_Band:GT aA:=GT.via iU
theorem fS:Fd 0 (fun x:aA=>x.Y0):= .v iU (.fst .self)
theorem qG:Fs 0 Int (fun(x:aA) y=>{x with Y0:=y}):= .v iU (.fst .self)
theorem eN:Fd 1 (fun x:aA=>x.Y1):= .v iU (.snd (.fst .self))
theorem nc:Fs 1 Int (fun(x:aA) y=>{x with Y1:=y}):= .v iU (.snd (.fst .self))
theorem dG:Fd 2 (fun x:aA=>x.Xs):= .v iU (.snd (.snd (.self)))
theorem qH:Fs 2 (List Int) (fun(x:aA) y=>{x with Xs:=y}):= .v iU (.snd (.snd (.self)))
def iH (x:aH):=(x.cX,x.Set,x.iZ)
instance instGTcopper_Piece:GT aH:=GT.via iH
theorem km:Fd 0 (fun x:aH=>x.cX):= .v iH (.fst .self)
theorem uu:Fs 0 Int (fun(x:aH) y=>{x with cX:=y}):= .v iH (.fst .self)
theorem uv:Fs 1 (List aA) (fun(x:aH) y=>{x with Set:=y}):= .v iH (.snd (.fst .self))
theorem kn:Fd 2 (fun x:aH=>x.iZ):= .v iH (.snd (.snd (.self)))
theorem uw:Fs 2 (List aI) (fun(x:aH) y=>{x with iZ:=y}):= .v iH (.snd (.snd (.self)))
def zn (x:cI):=(x.m9,x.aV,x.gW)
instance instGTGroup:GT cI:=GT.via zn
theorem CI:Fd 2 (fun x:cI=>x.gW):= .v zn (.snd (.snd (.self)))
def ql (x:dQ):=(x.bW,x.Number)
instance instGTHop:GT dQ:=GT.via ql
instance instKVHop:KV dQ:=instKVvia (fun(x:dQ)=>(x.bW,x.Number))
theorem xE:Fd 0 (fun x:dQ=>x.bW):= .v ql (.fst .self)
theorem BE:Fs 0 Bool (fun(x:dQ) y=>{x with bW:=y}):= .v ql (.fst .self)
theorem n0:Fd 1 (fun x:dQ=>x.Number):= .v ql (.snd (.self))
theorem ux:Fs 1 Int (fun(x:dQ) y=>{x with Number:=y}):= .v ql (.snd (.self))
def lr (x:aT):=(x.Open,x.dQ,x.A,x.B)
instance instGTFlaw:GT aT:=GT.via lr
theorem mH:Fd 0 (fun x:aT=>x.Open):= .v lr (.fst .self)
theorem Ec:Fs 0 Bool (fun(x:aT) y=>{x with Open:=y}):= .v lr (.fst .self)
theorem nQ:Fd 1 (fun x:aT=>x.dQ):= .v lr (.snd (.fst .self))
theorem Ed:Fs 1 dQ (fun(x:aT) y=>{x with dQ:=y}):= .v lr (.snd (.fst .self))
theorem sg:Fd 3 (fun x:aT=>x.A):= .v lr (.snd (.snd (.fst .self)))
theorem Ee:Fs 3 Int (fun(x:aT) y=>{x with A:=y}):= .v lr (.snd (.snd (.fst .self)))
theorem si:Fd 4 (fun x:aT=>x.B):= .v lr (.snd (.snd (.snd (.self))))
theorem Ef:Fs 4 Int (fun(x:aT) y=>{x with B:=y}):= .v lr (.snd (.snd (.snd (.self))))
def qm (x:pZ):=(x.A,x.B,x.iv,x.bU,x.To)
instance instGTGap:GT pZ:=GT.via qm
theorem Fw:Fd 2 (fun x:pZ=>x.iv):= .v qm (.snd (.snd (.fst .self)))
theorem Fx:Fs 2 Int (fun(x:pZ) y=>{x with iv:=y}):= .v qm (.snd (.snd (.fst .self)))
theorem rj:Fd 3 (fun x:pZ=>x.bU):= .v qm (.snd (.snd (.snd (.fst .self))))
theorem Fy:Fs 3 eV (fun(x:pZ) y=>{x with bU:=y}):= .v qm (.snd (.snd (.snd (.fst .self))))
theorem Fz:Fd 5 (fun x:pZ=>x.To):= .v qm (.snd (.snd (.snd (.snd (.self)))))
theorem FA:Fs 5 eV (fun(x:pZ) y=>{x with To:=y}):= .v qm (.snd (.snd (.snd (.snd (.self)))))
def kG (x:bL):=(x.ug,x.mz)
instance instGTprobe_seen:GT bL:=GT.via kG
theorem qI:Fd 0 (fun x:bL=>x.ug):= .v kG (.fst .self)
theorem wK:Fs 0 aT (fun(x:bL) y=>{x with ug:=y}):= .v kG (.fst .self)
theorem ng:Fd 5 (fun x:bL=>x.mz):= .v kG (.snd (.self))
theorem wL:Fs 5 (List Bool) (fun(x:bL) y=>{x with mz:=y}):= .v kG (.snd (.self))
def Eg (x:Touch):=(x.Test,x.IB,x.Fm)
instance instGTTouch:GT Touch:=GT.via Eg
instance instKVTouch:KV Touch:=instKVvia (fun(x:Touch)=>(x.Test,x.IB,x.Fm))
theorem xF (M:dJ):GT.ok M (#[(.bool false),(.int .i64 0)]:Array Value).toList (⟨false,0⟩:dQ):=⟨[(.bool false)],[(.int .i64 0)],rfl,(show GT.ok M [(.bool false)] (false:Bool) from rfl),(show GT.ok M [(.int .i64 0)] (0:Int) from rfl)⟩
theorem CJ (M:dJ):GT.ok M (#[(.bool false),(.bool false),(.int .i64 0),(.int .i64 0),(.int .i64 0)]:Array Value).toList (⟨false,⟨false,0⟩,0,0⟩:aT):=⟨[(.bool false)],[(.bool false),(.int .i64 0),(.int .i64 0),(.int .i64 0)],rfl,(show GT.ok M [(.bool false)] (false:Bool) from rfl),⟨[(.bool false),(.int .i64 0)],[(.int .i64 0),(.int .i64 0)],rfl,(show GT.ok M [(.bool false),(.int .i64 0)] (⟨false,0⟩:dQ) from xF M),⟨[(.int .i64 0)],[(.int .i64 0)],rfl,(show GT.ok M [(.int .i64 0)] (0:Int) from rfl),(show GT.ok M [(.int .i64 0)] (0:Int) from rfl)⟩⟩⟩
theorem FB (M:dJ):GT.ok M (#[(.string ⟨#[]⟩),(.string ⟨#[]⟩)]:Array Value).toList (⟨⟨[]⟩,⟨[]⟩⟩:fW):=⟨[(.string ⟨#[]⟩)],[(.string ⟨#[]⟩)],rfl,(show GT.ok M [(.string ⟨#[]⟩)] (⟨[]⟩:dA) from rfl),(show GT.ok M [(.string ⟨#[]⟩)] (⟨[]⟩:dA) from rfl)⟩
theorem rk (M:dJ):GT.ok M (#[(.int .i64 0),(.int .i64 0),(.int .i64 0),(.int .i64 0)]:Array Value).toList (⟨0,0,0,0⟩:aI):=⟨[(.int .i64 0)],[(.int .i64 0),(.int .i64 0),(.int .i64 0)],rfl,(show GT.ok M [(.int .i64 0)] (0:Int) from rfl),⟨[(.int .i64 0)],[(.int .i64 0),(.int .i64 0)],rfl,(show GT.ok M [(.int .i64 0)] (0:Int) from rfl),⟨[(.int .i64 0)],[(.int .i64 0)],rfl,(show GT.ok M [(.int .i64 0)] (0:Int) from rfl),(show GT.ok M [(.int .i64 0)] (0:Int) from rfl)⟩⟩⟩
theorem w3 (M:dJ):GT.ok M (#[(.int .i64 0),(.int .i64 0)]:Array Value).toList (⟨0,0⟩:eV):=⟨[(.int .i64 0)],[(.int .i64 0)],rfl,(show GT.ok M [(.int .i64 0)] (0:Int) from rfl),(show GT.ok M [(.int .i64 0)] (0:Int) from rfl)⟩
theorem II (M:dJ):GT.ok M (#[(.string ⟨#[]⟩),(.string ⟨#[]⟩),(.int .i64 0),(.int .i64 0),(.int .i64 0)]:Array Value).toList (⟨⟨[]⟩,⟨[]⟩,0,⟨0,0⟩⟩:cU):=⟨[(.string ⟨#[]⟩)],[(.string ⟨#[]⟩),(.int .i64 0),(.int .i64 0),(.int .i64 0)],rfl,(show GT.ok M [(.string ⟨#[]⟩)] (⟨[]⟩:dA) from rfl),⟨[(.string ⟨#[]⟩)],[(.int .i64 0),(.int .i64 0),(.int .i64 0)],rfl,(show GT.ok M [(.string ⟨#[]⟩)] (⟨[]⟩:dA) from rfl),⟨[(.int .i64 0)],[(.int .i64 0),(.int .i64 0)],rfl,(show GT.ok M [(.int .i64 0)] (0:Int) from rfl),(show GT.ok M [(.int .i64 0),(.int .i64 0)] (⟨0,0⟩:eV) from w3 M)⟩⟩⟩
theorem Aj (M:dJ):GT.ok M (#[(.bool false),(.bool false),(.int .i64 0),(.int .i64 0),(.int .i64 0),(.slice none 0 0)]:Array Value).toList (⟨⟨false,⟨false,0⟩,0,0⟩,[]⟩:bL):=⟨[(.bool false),(.bool false),(.int .i64 0),(.int .i64 0),(.int .i64 0)],[(.slice none 0 0)],rfl,(show GT.ok M [(.bool false),(.bool false),(.int .i64 0),(.int .i64 0),(.int .i64 0)] (⟨false,⟨false,0⟩,0,0⟩:aT) from CJ M),(show GT.ok M [(.slice none 0 0)] ([]: (List Bool)) from ⟨_,rfl,none,0,0,rfl,rfl,bM _,by simp [maxLen],fun _ _ h=>by simp at h⟩)⟩
theorem xG (M:dJ):GT.ok M (#[(.int .i64 0),(.slice none 0 0),(.slice none 0 0)]:Array Value).toList (⟨0,[],[]⟩:aH):=⟨[(.int .i64 0)],[(.slice none 0 0),(.slice none 0 0)],rfl,(show GT.ok M [(.int .i64 0)] (0:Int) from rfl),⟨[(.slice none 0 0)],[(.slice none 0 0)],rfl,(show GT.ok M [(.slice none 0 0)] ([]: (List aA)) from ⟨_,rfl,none,0,0,rfl,rfl,bM _,by simp [maxLen],fun _ _ h=>by simp at h⟩),(show GT.ok M [(.slice none 0 0)] ([]: (List aI)) from ⟨_,rfl,none,0,0,rfl,rfl,bM _,by simp [maxLen],fun _ _ h=>by simp at h⟩)⟩⟩
theorem Jt (M:dJ):GT.ok M (#[(.int .i64 0),(.int .i64 0),(.int .i64 0),(.int .i64 0),(.int .i64 0),(.int .i64 0),(.int .i64 0)]:Array Value).toList (⟨0,0,0,⟨0,0⟩,⟨0,0⟩⟩:pZ):=⟨[(.int .i64 0)],[(.int .i64 0),(.int .i64 0),(.int .i64 0),(.int .i64 0),(.int .i64 0),(.int .i64 0)],rfl,(show GT.ok M [(.int .i64 0)] (0:Int) from rfl),⟨[(.int .i64 0)],[(.int .i64 0),(.int .i64 0),(.int .i64 0),(.int .i64 0),(.int .i64 0)],rfl,(show GT.ok M [(.int .i64 0)] (0:Int) from rfl),⟨[(.int .i64 0)],[(.int .i64 0),(.int .i64 0),(.int .i64 0),(.int .i64 0)],rfl,(show GT.ok M [(.int .i64 0)] (0:Int) from rfl),⟨[(.int .i64 0),(.int .i64 0)],[(.int .i64 0),(.int .i64 0)],rfl,(show GT.ok M [(.int .i64 0),(.int .i64 0)] (⟨0,0⟩:eV) from w3 M),(show GT.ok M [(.int .i64 0),(.int .i64 0)] (⟨0,0⟩:eV) from w3 M)⟩⟩⟩⟩
theorem uy (M:dJ):GT.ok M (#[(.int .i64 0),(.int .i64 0),(.slice none 0 0)]:Array Value).toList (⟨0,0,[]⟩:aA):=⟨[(.int .i64 0)],[(.int .i64 0),(.slice none 0 0)],rfl,(show GT.ok M [(.int .i64 0)] (0:Int) from rfl),⟨[(.int .i64 0)],[(.slice none 0 0)],rfl,(show GT.ok M [(.int .i64 0)] (0:Int) from rfl),(show GT.ok M [(.slice none 0 0)] ([]: (List Int)) from ⟨_,rfl,none,0,0,rfl,rfl,bM _,by simp [maxLen],fun _ _ h=>by simp at h⟩)⟩⟩
structure cD where
  m9: (List Int)
  aV: (List Int)
  gW:RV
  deriving Inhabited
def qo (x:cD):=(x.m9,x.aV,x.gW)
instance instGTGroup_r2:GT cD:=GT.via qo
theorem yI:Fd 2 (fun x:cD=>x.gW):= .v qo (.snd (.snd (.self)))
theorem yJ:Fs 2 RV (fun(x:cD) y=>{x with gW:=y}):= .v qo (.snd (.snd (.self)))
def cA:XT cD cI:=⟨fun u x=>u.m9=x.m9/\u.aV=x.aV,fun M h u x=>(u.m9=x.m9/\u.aV=x.aV)/\tj 51 M h u.gW.v x.gW,fun{M M' h u x} hk hh=>⟨hh.1,(own 51 u.gW.v x.gW).mono hk hh.2⟩,fun h=>h.1⟩
theorem rl:XO cA 51 2 (fun u=>u.gW) (fun u r=>{u with gW:=r}) (fun x=>x.gW) (fun x y=>{x with gW:=y}):=⟨yI,yJ,by decide,fun h=>h.2,fun hr ho=>⟨hr,ho⟩⟩
theorem Ak (M h:dJ) (u:cD) (x:cI) (cs:List Value) (hd: ∀b o,h b=some o->M b=none) (hx:cA.ok M h u x) (hc:GT.ok M cs u):GT.ok (oF M h) cs x:=by
  obtain⟨⟨e0,e1⟩,ho⟩:=hx
  obtain⟨c0,d0,hd0,a0,c1,d1,hd1,a1,a2⟩:=hc
  exact⟨c0,d0,hd0,GT.mono (r7 M h) (show GT.ok M c0 x.m9 from e0▸(show GT.ok M c0 u.m9 from a0)),⟨c1,d1,hd1,GT.mono (r7 M h) (show GT.ok M c1 x.aV from e1▸(show GT.ok M c1 u.aV from a1)),⟨u.gW.v,a2,tj.sl hd ho⟩⟩⟩
theorem nF:ld bF 27 true 4:=r9
theorem vE:l9 bF 27 0 0:=nb
theorem Eh:ld bF 22 false 1:=r9
theorem BF:Tryz.prog.underlying 22=some (.slice 23):=by kernel_rfl
theorem FC:l9 bF 27 1 1:=nb
theorem xH:ld bF 23 false 1:=r9
theorem oG:Tryz.prog.underlying 23=some (.slice 74):=by kernel_rfl
theorem CK:sI bF 22 23 1:=Ai
theorem kH:sI bF 23 74 4:=Ai
theorem fK:ld bF 74 true 4:=r9
theorem mI:xh bF 74 4:=yH (.agg #[(.int .i64 0),(.int .i64 0),(.int .i64 0),(.int .i64 0)])
theorem jy:l9 bF 74 0 0:=nb
theorem cQ:ld bF 3 false 1:=r9
theorem Ju:g8 bF 135:=iD Tryz.func135
theorem zo:g8 bF 113:=iD Tryz.func113
theorem jX:l9 bF 74 1 1:=nb
theorem kI:l9 bF 74 2 2:=nb
theorem n7:l9 bF 74 3 3:=nb
theorem Jv:g8 bF 98:=iD Tryz.func98
theorem Lu:g8 bF 68:=iD Tryz.func68
theorem mixed:Tryz.prog.follows .mixedOrders=true:=by kernel_rfl
theorem Ei:pY bF 23 74 4 32:=pY.of (.agg #[(.int .i64 0),(.int .i64 0),(.int .i64 0),(.int .i64 0)])
theorem Lv:g8 bF 99:=iD Tryz.func99
theorem Jw:g8 bF 101:=iD Tryz.func101
theorem HT:g8 bF 100:=iD Tryz.func100
theorem Jx:Jf bF 87 [(.slice none 0 0)]:=⟨(.slice none 0 0),fun _=>by kernel_rfl,rfl⟩
theorem fH:ld bF 87 false 1:=r9
theorem eJ:sI bF 87 3 1:=Ai
theorem EY:xh bF 3 1:=yH (.int .i64 0)
theorem uz:pY bF 87 3 1 8:=pY.of (.int .i64 0)
theorem Jy:g8 bF 102:=iD Tryz.func102
theorem lM:Tryz.prog.underlying 87=some (.slice 3):=by kernel_rfl
theorem Jg:GV bF 3 (0:Int):=GV.of (.int .i64 0) (fun M=>rfl)
theorem Jz:g8 bF 103:=iD Tryz.func103
theorem HU:g8 bF 117:=iD Tryz.func117
theorem Lw:GV bF 74 (⟨0,0,0,0⟩:aI):=GV.of (.agg #[(.int .i64 0),(.int .i64 0),(.int .i64 0),(.int .i64 0)]) (fun M=>(rk M))
theorem JA:g8 bF 105:=iD Tryz.func105
theorem JB:g8 bF 104:=iD Tryz.func104
theorem JC:g8 bF 130:=iD Tryz.func130
theorem JD:g8 bF 107:=iD Tryz.func107
theorem HV:tk bF 187 [(0,1),(1,1),(2,1)] #[(.int .i64 0),(.int .i64 0),(.slice none 0 0)]:=tk.of (.agg #[(.int .i64 0),(.int .i64 0),(.slice none 0 0)]) Tryz.underlying187
theorem ko:l9 bF 187 2 2:=nb
theorem lH:l9 bF 187 1 1:=nb
theorem nG:l9 bF 187 0 0:=nb
theorem nv:Tryz.prog.underlying 132=some (.slice 187):=by kernel_rfl
theorem ka:sI bF 132 187 3:=Ai
theorem JE:g8 bF 129:=iD Tryz.func129
theorem uA:ld bF 187 true 3:=r9
theorem BG:xh bF 187 3:=yH (.agg #[(.int .i64 0),(.int .i64 0),(.slice none 0 0)])
theorem JF:pY bF 132 187 3 40:=pY.of (.agg #[(.int .i64 0),(.int .i64 0),(.slice none 0 0)])
theorem HW:g8 bF 106:=iD Tryz.func106
theorem FD:g8 bF 70:=iD Tryz.func70
theorem CL:tk bF 74 [(0,1),(1,1),(2,1),(3,1)] #[(.int .i64 0),(.int .i64 0),(.int .i64 0),(.int .i64 0)]:=tk.of (.agg #[(.int .i64 0),(.int .i64 0),(.int .i64 0),(.int .i64 0)]) Tryz.underlying74
theorem IJ:g8 bF 71:=iD Tryz.func71
theorem EZ:Tryz.prog.underlying 3=some (.int .i64):=by kernel_rfl
theorem JG:Iu bF 74 aI:=⟨fun M cs ds a b w ha hb=>by
  obtain⟨_,_,rfl,rfl,⟨_,_,rfl,rfl,⟨_,_,rfl,rfl,rfl⟩⟩⟩:=ha
  obtain⟨_,_,rfl,rfl,⟨_,_,rfl,rfl,⟨_,_,rfl,rfl,rfl⟩⟩⟩:=hb
  refine(kS 9999 Tryz.underlying74 (zc.cons (by decide) (dZ cQ _) (dZ cQ _) (jS EZ _ _ w) (zc.cons (by decide) (dZ cQ _) (dZ cQ _) (jS EZ _ _ w) (zc.cons (by decide) (dZ cQ _) (dZ cQ _) (jS EZ _ _ w) (zc.cons (by decide) (dZ cQ _) (dZ cQ _) (jS EZ _ _ w) zc.nil))))).trans ?_
  congr 1
  cases a;cases b;unfold lq
  rw [gC]
  simp,by kernel_rfl⟩
theorem Lx:g8 bF 69:=iD Tryz.func69
theorem JH:g8 bF 46:=iD Tryz.func46
theorem mJ:l9 bF 27 2 2:=nb
theorem vF:ld bF 24 false 1:=r9
theorem xI:Tryz.prog.underlying 24=some (.slice 117):=by kernel_rfl
theorem Al:sI bF 24 117 6:=Ai
theorem lf:ld bF 117 true 6:=r9
theorem zp:xh bF 117 6:=yH (.agg #[(.int .i64 0),(.int .i64 0),(.int .i64 0),(.int .i64 0),(.int .i64 0),(.bool false)])
theorem uB:l9 bF 117 1 2:=nb
theorem Hg:g8 bF 73:=iD Tryz.func73
theorem Am:l9 bF 117 0 0:=nb
theorem sK:ld bF 76 true 2:=r9
theorem rm:l9 bF 76 0 0:=nb
theorem o7:l9 bF 76 1 1:=nb
theorem JI:g8 bF 76:=iD Tryz.func76
theorem Ej:g8 bF 50:=iD Tryz.func50
theorem JJ:g8 bF 131:=iD Tryz.func131
theorem JK:g8 bF 108:=iD Tryz.func108
theorem Ly:g8 bF 72:=iD Tryz.func72
theorem qp:l9 bF 117 2 3:=nb
theorem sj:l9 bF 117 3 4:=nb
theorem Lz:g8 bF 47:=iD Tryz.func47
theorem vG:l9 bF 27 3 3:=nb
theorem Ek:ld bF 25 false 1:=r9
theorem FE:Tryz.prog.underlying 25=some (.slice 78):=by kernel_rfl
theorem El:sI bF 25 78 5:=Ai
theorem xJ:ld bF 78 true 5:=r9
theorem IK:xh bF 78 5:=yH (.agg #[(.string ⟨#[]⟩),(.string ⟨#[]⟩),(.int .i64 0),(.int .i64 0),(.int .i64 0)])
theorem FF:l9 bF 78 0 0:=nb
theorem FG:ld bF 9 false 1:=r9
theorem zq:Tryz.prog.underlying 9=some (.string):=by kernel_rfl
theorem LA (a:dA) (b:Int) (w:World): (callFunc 195 [(str a),(.int .u8 b)].toArray).run bF w = .ok (.value (vi ((Lib.countByte a.cR (Int.toNat b).toUInt8:Nat):Int))) w:=xm Extern.BytealgCount.count Tryz.func195 (Lib.run_countString _ _ w)
theorem LB (a:dA) (b:Int) (w:World): (callFunc 171 [(str a),(.int .u8 b)].toArray).run bF w = .ok (.value (vi (Lib.indexByte a.cR (Int.toNat b).toUInt8))) w:=xm Extern.BytealgIndexByte.indexByte Tryz.func171 (Lib.run_indexByteString _ _ w)
theorem HX:g8 bF 134:=iD Tryz.func134
theorem JL:g8 bF 196:=iD Tryz.func196
theorem HY:g8 bF 170:=iD Tryz.func170
theorem JM:g8 bF 169:=iD Tryz.func169
theorem JN:pY bF 189 9 1 16:=pY.of (.string ⟨#[]⟩)
theorem MN:GV bF 9 (⟨[]⟩:dA):=GV.of (.string ⟨#[]⟩) (fun M=>rfl)
theorem Dx:sI bF 189 9 1:=Ai
theorem JO:g8 bF 133:=iD Tryz.func133
theorem JP:g8 bF 110:=iD Tryz.func110
theorem JQ:Tryz.prog.underlying 189=some (.slice 9):=by kernel_rfl
theorem JR:g8 bF 132:=iD Tryz.func132
theorem JS:g8 bF 112:=iD Tryz.func112
theorem JT:g8 bF 75:=iD Tryz.func75
theorem JU:g8 bF 111:=iD Tryz.func111
theorem JV:g8 bF 109:=iD Tryz.func109
theorem LC:g8 bF 74:=iD Tryz.func74
theorem FH:l9 bF 78 1 1:=nb
theorem CM:l9 bF 78 2 2:=nb
theorem CN:l9 bF 78 3 3:=nb
theorem JW:xh bF 51 2:=yH (.agg #[(.string ⟨#[]⟩),(.string ⟨#[]⟩)])
theorem IL:tk bF 51 [(0,1),(1,1)] #[(.string ⟨#[]⟩),(.string ⟨#[]⟩)]:=tk.of (.agg #[(.string ⟨#[]⟩),(.string ⟨#[]⟩)]) Tryz.underlying51
theorem oH:ld bF 51 true 2:=r9
theorem Hh:g8 bF 77:=iD Tryz.func77
theorem FI:l9 bF 51 0 0:=nb
theorem eR (a b:dA) (w:World): (callFunc 139 [(str a),(str b)].toArray).run bF w = .ok (.value (vi (Lib.compareBytes a.cR b.cR))) w:=xm Extern.BytealgCompare.compare Tryz.func139 (Lib.run_compareString _ _ w)
theorem JX:g8 bF 119:=iD Tryz.func119
theorem JY:g8 bF 93:=iD Tryz.func93
theorem FJ:l9 bF 51 1 1:=nb
theorem Em:g8 bF 57:=iD Tryz.func57
theorem LD:g8 bF 48:=iD Tryz.func48
theorem JZ:g8 bF 78:=iD Tryz.func78
theorem Hi:g8 bF 49:=iD Tryz.func49
theorem J0:tk bF 126 [(0,4),(4,1),(5,1),(6,1),(7,1),(8,1),(9,1),(10,1),(11,1)] #[(.slice none 0 0),(.slice none 0 0),(.slice none 0 0),(.slice none 0 0),(.slice none 0 0),(.slice none 0 0),(.slice none 0 0),(.slice none 0 0),(.slice none 0 0),(.slice none 0 0),(.slice none 0 0),(.slice none 0 0)]:=tk.of (.agg #[(.slice none 0 0),(.slice none 0 0),(.slice none 0 0),(.slice none 0 0),(.slice none 0 0),(.slice none 0 0),(.slice none 0 0),(.slice none 0 0),(.slice none 0 0),(.slice none 0 0),(.slice none 0 0),(.slice none 0 0)]) Tryz.underlying126
theorem kp:l9 bF 126 0 0:=nb
theorem IM:g8 bF 79:=iD Tryz.func79
theorem BH:sI bF 120 132 1:=Ai
theorem FK:xh bF 132 1:=yH (.slice none 0 0)
theorem HZ:Tryz.prog.underlying 120=some (.slice 132):=by kernel_rfl
theorem H0:ld bF 132 false 1:=r9
theorem H2:g8 bF 136:=iD Tryz.func136
theorem J3:Tryz.prog.underlying 4=some (.bool):=by kernel_rfl
theorem J4:g8 bF 137:=iD Tryz.func137
theorem J5:g8 bF 115:=iD Tryz.func115
theorem J6:g8 bF 114:=iD Tryz.func114
theorem LF:g8 bF 80:=iD Tryz.func80
theorem LG:g8 bF 81:=iD Tryz.func81
theorem Dy:l9 bF 126 1 4:=nb
theorem H3:ld bF 120 false 1:=r9
theorem H4:pY bF 120 132 1 24:=pY.of (.slice none 0 0)
theorem FL:g8 bF 116:=iD Tryz.func116
theorem wm:A9 bF 147 3 3 Int Int (0:Int):=⟨by kernel_rfl,(wF.int EZ),z8 (.int .i64 0) (fun M=>⟨_,rfl,rfl⟩)⟩
theorem J7:xh bF 23 1:=yH (.slice none 0 0)
theorem LH:pY bF 22 23 1 24:=pY.of (.slice none 0 0)
theorem LI:g8 bF 82:=iD Tryz.func82
theorem lI:l9 bF 126 2 5:=nb
theorem qJ:ld bF 121 false 1:=r9
theorem J8:tk bF 134 [(0,1),(1,1),(2,1)] #[(.int .i64 0),(.slice none 0 0),(.slice none 0 0)]:=tk.of (.agg #[(.int .i64 0),(.slice none 0 0),(.slice none 0 0)]) Tryz.underlying134
theorem zu:sI bF 121 134 3:=Ai
theorem Dz:xh bF 134 3:=yH (.agg #[(.int .i64 0),(.slice none 0 0),(.slice none 0 0)])
theorem J9:pY bF 121 134 3 56:=pY.of (.agg #[(.int .i64 0),(.slice none 0 0),(.slice none 0 0)])
theorem wo:Tryz.prog.underlying 121=some (.slice 134):=by kernel_rfl
theorem LJ:g8 bF 51:=iD Tryz.func51
theorem LK:g8 bF 85:=iD Tryz.func85
theorem zv:ld bF 134 true 3:=r9
theorem w4:l9 bF 117 4 5:=nb
theorem xK:ld bF 4 false 1:=r9
theorem w5:l9 bF 134 0 0:=nb
theorem w6:l9 bF 134 2 2:=nb
theorem LL:g8 bF 84:=iD Tryz.func84
theorem Ka:g8 bF 83:=iD Tryz.func83
theorem w7:l9 bF 126 3 6:=nb
theorem DA:ld bF 122 false 1:=r9
theorem xL:sI bF 122 87 1:=Ai
theorem Kb:xh bF 87 1:=yH (.slice none 0 0)
theorem H5:pY bF 122 87 1 24:=pY.of (.slice none 0 0)
theorem LM:g8 bF 52:=iD Tryz.func52
theorem Kc:tk bF 176 [(0,1)] #[(.slice none 0 0)]:=tk.of (.agg #[(.slice none 0 0)]) Tryz.underlying176
theorem nH:l9 bF 176 0 0:=nb
theorem Kd:g8 bF 61:=iD Tryz.func61
theorem DB:Tryz.prog.underlying 122=some (.slice 87):=by kernel_rfl
theorem En:g8 bF 64:=iD Tryz.func64
theorem Ke:g8 bF 63:=iD Tryz.func63
theorem sm:l9 bF 126 5 8:=nb
theorem uC:l9 bF 126 6 9:=nb
theorem LN:g8 bF 86:=iD Tryz.func86
theorem Kf:Jf bF 129 [(.slice none 0 0),(.slice none 0 0),(.slice none 0 0)]:=⟨(.agg #[(.slice none 0 0),(.slice none 0 0),(.slice none 0 0)]),fun _=>by kernel_rfl,rfl⟩
theorem qq:l9 bF 126 4 7:=nb
theorem xM:ld bF 123 false 1:=r9
theorem H6:Tryz.prog.underlying 123=some (.slice 129):=by kernel_rfl
theorem An:l9 bF 129 0 0:=nb
theorem Ao:l9 bF 129 1 1:=nb
theorem Kg:ld bF 129 true 3:=r9
theorem DC:sI bF 123 129 3:=Ai
theorem Kh:xh bF 129 3:=yH (.agg #[(.slice none 0 0),(.slice none 0 0),(.slice none 0 0)])
theorem Ki:pY bF 123 129 3 72:=pY.of (.agg #[(.slice none 0 0),(.slice none 0 0),(.slice none 0 0)])
theorem Hj:xh bF 41 2:=yH (.agg #[(.bool false),(.int .i64 0)])
theorem Kj:g8 bF 138:=iD Tryz.func138
theorem H7:g8 bF 118:=iD Tryz.func118
theorem Eo:tk bF 41 [(0,1),(1,1)] #[(.bool false),(.int .i64 0)]:=tk.of (.agg #[(.bool false),(.int .i64 0)]) Tryz.underlying41
theorem rn:ld bF 41 true 2:=r9
theorem LO:g8 bF 87:=iD Tryz.func87
theorem CO:l9 bF 41 0 0:=nb
theorem tn:l9 bF 41 1 1:=nb
theorem LP:g8 bF 88:=iD Tryz.func88
theorem Ap:l9 bF 129 2 2:=nb
theorem FM:ld bF 127 false 1:=r9
theorem Kk:sI bF 127 51 2:=Ai
theorem Kl:pY bF 127 51 2 32:=pY.of (.agg #[(.string ⟨#[]⟩),(.string ⟨#[]⟩)])
theorem Aq:l9 bF 126 7 10:=nb
theorem Ar:l9 bF 126 8 11:=nb
theorem FN:ld bF 124 false 1:=r9
theorem H8:sI bF 124 41 2:=Ai
theorem Km:pY bF 124 41 2 16:=pY.of (.agg #[(.bool false),(.int .i64 0)])
theorem LQ:g8 bF 53:=iD Tryz.func53
theorem Hk:g8 bF 26:=iD Tryz.func26
theorem IP:g8 bF 41:=iD Tryz.func41
theorem LR:Jf bF 29 [(.slice none 0 0)]:=⟨(.slice none 0 0),fun _=>by kernel_rfl,rfl⟩
theorem wM:ld bF 68 false 1:=r9
theorem Kn:Tryz.prog.underlying 127=some (.slice 51):=by kernel_rfl
theorem yK:ld bF 29 false 1:=r9
theorem Ko:tk bF 43 [(0,1),(1,2),(3,1),(4,1)] #[(.bool false),(.bool false),(.int .i64 0),(.int .i64 0),(.int .i64 0)]:=tk.of (.agg #[(.bool false),(.bool false),(.int .i64 0),(.int .i64 0),(.int .i64 0)]) Tryz.underlying43
theorem uD:sI bF 29 43 5:=Ai
theorem wN:xh bF 43 5:=yH (.agg #[(.bool false),(.bool false),(.int .i64 0),(.int .i64 0),(.int .i64 0)])
theorem FO:pY bF 29 43 5 40:=pY.of (.agg #[(.bool false),(.bool false),(.int .i64 0),(.int .i64 0),(.int .i64 0)])
theorem Kp:g8 bF 54:=iD Tryz.func54
theorem H9:xh bF 136 7:=yH (.agg #[(.int .i64 0),(.int .i64 0),(.int .i64 0),(.int .i64 0),(.int .i64 0),(.int .i64 0),(.int .i64 0)])
theorem Kq:tk bF 136 [(0,1),(1,1),(2,1),(3,2),(5,2)] #[(.int .i64 0),(.int .i64 0),(.int .i64 0),(.int .i64 0),(.int .i64 0),(.int .i64 0),(.int .i64 0)]:=tk.of (.agg #[(.int .i64 0),(.int .i64 0),(.int .i64 0),(.int .i64 0),(.int .i64 0),(.int .i64 0),(.int .i64 0)]) Tryz.underlying136
theorem DD:ld bF 136 true 7:=r9
theorem IQ:xh bF 76 2:=yH (.agg #[(.int .i64 0),(.int .i64 0)])
theorem LS:tk bF 76 [(0,1),(1,1)] #[(.int .i64 0),(.int .i64 0)]:=tk.of (.agg #[(.int .i64 0),(.int .i64 0)]) Tryz.underlying76
theorem Kr:g8 bF 89:=iD Tryz.func89
theorem sq:l9 bF 136 3 3:=nb
theorem Ks:g8 bF 90:=iD Tryz.func90
theorem DE:l9 bF 136 4 5:=nb
theorem LU:g8 bF 55:=iD Tryz.func55
theorem Hl:Lt bF 136 2 3 2:=⟨fun _ _=>by kernel_rfl⟩
theorem uE:Tryz.prog.underlying 29=some (.slice 43):=by kernel_rfl
theorem IU:g8 bF 27:=iD Tryz.func27
theorem MO:g8 bF 8:=iD Tryz.func8
theorem FP:Tryz.prog.underlying 28=some (.slice 53):=by kernel_rfl
theorem FQ:sI bF 28 53 5:=Ai
theorem yL:ld bF 53 true 5:=r9
theorem IV:xh bF 53 5:=yH (.agg #[(.string ⟨#[]⟩),(.string ⟨#[]⟩),(.string ⟨#[]⟩),(.string ⟨#[]⟩),(.bool false)])
theorem tp:l9 bF 53 0 0:=nb
theorem Ia:Tryz.prog.underlying 196=some (.int .u64):=by kernel_rfl
theorem LV:g8 bF 92:=iD Tryz.func92
theorem LW:g8 bF 91:=iD Tryz.func91
theorem BJ:g8 bF 56:=iD Tryz.func56
theorem tq:l9 bF 53 1 2:=nb
theorem LX:g8 bF 94:=iD Tryz.func94
theorem Kt:g8 bF 58:=iD Tryz.func58
theorem LY:g8 bF 28:=iD Tryz.func28
theorem LZ:tk bF 78 [(0,1),(1,1),(2,1),(3,2)] #[(.string ⟨#[]⟩),(.string ⟨#[]⟩),(.int .i64 0),(.int .i64 0),(.int .i64 0)]:=tk.of (.agg #[(.string ⟨#[]⟩),(.string ⟨#[]⟩),(.int .i64 0),(.int .i64 0),(.int .i64 0)]) Tryz.underlying78
theorem L0:tk bF 27 [(0,1),(1,1),(2,1),(3,1)] #[(.slice none 0 0),(.slice none 0 0),(.slice none 0 0),(.slice none 0 0)]:=tk.of (.agg #[(.slice none 0 0),(.slice none 0 0),(.slice none 0 0),(.slice none 0 0)]) Tryz.underlying27
theorem L1:xh bF 27 4:=yH (.agg #[(.slice none 0 0),(.slice none 0 0),(.slice none 0 0),(.slice none 0 0)])
theorem pF:ld bF 43 true 5:=r9
theorem tr:l9 bF 43 0 0:=nb
theorem As:l9 bF 43 2 3:=nb
theorem Au:l9 bF 43 3 4:=nb
theorem vH:l9 bF 43 1 1:=nb
theorem Ku:Iu bF 41 dQ:=⟨fun M cs ds a b w ha hb=>by
  obtain⟨_,_,rfl,rfl,rfl⟩:=ha
  obtain⟨_,_,rfl,rfl,rfl⟩:=hb
  refine(kS 9999 Tryz.underlying41 (zc.cons (by decide) (dZ xK _) (dZ xK _) (oR J3 _ _ w) (zc.cons (by decide) (dZ cQ _) (dZ cQ _) (jS EZ _ _ w) zc.nil))).trans ?_
  congr 1
  cases a;cases b;unfold ql
  rw [gC]
  simp,by kernel_rfl⟩
theorem IW:g8 bF 59:=iD Tryz.func59
theorem Kv:Iu bF 43 aT:=⟨fun M cs ds a b w ha hb=>by
  obtain⟨_,_,rfl,rfl,⟨_,_,rfl,⟨_,_,rfl,rfl,rfl⟩,⟨_,_,rfl,rfl,rfl⟩⟩⟩:=ha
  obtain⟨_,_,rfl,rfl,⟨_,_,rfl,⟨_,_,rfl,rfl,rfl⟩,⟨_,_,rfl,rfl,rfl⟩⟩⟩:=hb
  refine(kS 9999 Tryz.underlying43 (zc.cons (by decide) (dZ xK _) (dZ xK _) (oR J3 _ _ w) (zc.cons (by decide) (vz rn rfl _) (vz rn rfl _) (kS 9998 Tryz.underlying40 (zc.cons (by decide) (dZ xK _) (dZ xK _) (oR J3 _ _ w) (zc.cons (by decide) (dZ cQ _) (dZ cQ _) (jS EZ _ _ w) zc.nil))) (zc.cons (by decide) (dZ cQ _) (dZ cQ _) (jS EZ _ _ w) (zc.cons (by decide) (dZ cQ _) (dZ cQ _) (jS EZ _ _ w) zc.nil))))).trans ?_
  congr 1
  obtain⟨_,⟨_,_⟩,_,_⟩:=a;obtain⟨_,⟨_,_⟩,_,_⟩:=b;unfold lr ql
  rw [gC]
  simp,by kernel_rfl⟩
theorem L2:g8 bF 32:=iD Tryz.func32
theorem L3:g8 bF 13:=iD Tryz.func13
theorem L4:g8 bF 30:=iD Tryz.func30
theorem Kw:Jf bF 143 [(.map none)]:=⟨(.map none),fun _=>by kernel_rfl,rfl⟩
theorem BK:ld bF 143 false 1:=r9
theorem Kx:g8 bF 60:=iD Tryz.func60
theorem DF:A9 bF 143 3 4 Int Bool (false:Bool):=⟨by kernel_rfl,(wF.int EZ),z8 (.bool false) (fun M=>⟨_,rfl,rfl⟩)⟩
theorem Ky:Jf bF 144 [(.pointer none)]:=⟨(.pointer none),fun _=>by kernel_rfl,rfl⟩
theorem BL:ld bF 144 false 1:=r9
theorem Kz:g8 bF 62:=iD Tryz.func62
theorem KA:Tryz.prog.underlying 124=some (.slice 41):=by kernel_rfl
theorem Ep:g8 bF 36:=iD Tryz.func36
theorem L5:g8 bF 29:=iD Tryz.func29
theorem FR:g8 bF 10:=iD Tryz.func10
theorem FT:sI bF 35 4 1:=Ai
theorem Mz:xh bF 4 1:=yH (.bool false)
theorem KB:pY bF 35 4 1 1:=pY.of (.bool false)
theorem KC:g8 bF 31:=iD Tryz.func31
theorem Hm:Tryz.prog.underlying 35=some (.slice 4):=by kernel_rfl
theorem KD:g8 bF 14:=iD Tryz.func14
theorem KE:g8 bF 37:=iD Tryz.func37
theorem L6:tk bF 89 [(0,5),(5,1)] #[(.bool false),(.bool false),(.int .i64 0),(.int .i64 0),(.int .i64 0),(.slice none 0 0)]:=tk.of (.agg #[(.bool false),(.bool false),(.int .i64 0),(.int .i64 0),(.int .i64 0),(.slice none 0 0)]) Tryz.underlying89
theorem IX:sI bF 84 89 6:=Ai
theorem IY:xh bF 89 6:=yH (.agg #[(.bool false),(.bool false),(.int .i64 0),(.int .i64 0),(.int .i64 0),(.slice none 0 0)])
theorem L7:pY bF 84 89 6 64:=pY.of (.agg #[(.bool false),(.bool false),(.int .i64 0),(.int .i64 0),(.int .i64 0),(.slice none 0 0)])
theorem KF:g8 bF 33:=iD Tryz.func33
theorem KG:Tryz.prog.underlying 84=some (.slice 89):=by kernel_rfl
theorem Hn:ld bF 89 true 6:=r9
theorem CP:l9 bF 89 1 5:=nb
theorem IZ:ld bF 35 false 1:=r9
theorem FU:l9 bF 89 0 0:=nb
theorem L8:g8 bF 16:=iD Tryz.func16
theorem KH:sI bF 93 5 1:=Ai
theorem MA:xh bF 5 1:=yH (.int .u8 0)
theorem KI:pY bF 93 5 1 1:=pY.of (.int .u8 0)
theorem KJ:Tryz.prog.underlying 93=some (.slice 5):=by kernel_rfl
theorem MB:Tryz.prog.underlying 5=some (.int .u8):=by kernel_rfl
theorem KK:A9 bF 92 9 3 dA Int (0:Int):=⟨by kernel_rfl,(wF.str zq),z8 (.int .i64 0) (fun M=>⟨_,rfl,rfl⟩)⟩
theorem Ho:Tryz.prog.underlying 57=some (.slice 29):=by kernel_rfl
theorem FV:sI bF 57 29 1:=Ai
theorem L9:xh bF 29 1:=yH (.slice none 0 0)
theorem Ma:pY bF 57 29 1 24:=pY.of (.slice none 0 0)
theorem Mb:g8 bF 20:=iD Tryz.func20
theorem Mc:g8 bF 21:=iD Tryz.func21
def bE (E:World) (V:List HP) (res:Bool) (v:Value) (w:World):Prop:=v= (vb res)/\Holds E w V
def aQ (E:World) (V:List HP) (res:Int) (v:Value) (w:World):Prop:=v= (vi res)/\Holds E w V
def lj (E:World) (V:List HP) (res: (List aI)) (v:Value) (w:World):Prop:=Holds E w ([own 74 v res]++V)
def kJ (E:World) (V:List HP) (res: (List Int)) (v:Value) (w:World):Prop:=Holds E w ([own 3 v res]++V)
def kZ (E:World) (V:List HP) (res: (List aA)) (v:Value) (w:World):Prop:=Holds E w ([own 187 v res]++V)
def oU (E:World) (V:List HP) (res:aI) (v:Value) (w:World):Prop:=Holds E w ([rd v res]++V)
def n8 (E:World) (V:List HP) (res: (List dA)) (v:Value) (w:World):Prop:=Holds E w ([own 9 v res]++V)
def i9 (E:World) (V:List HP) (b0:Nat) (v0_0 v0_1:Value) (v0_2 v0_3:Value) (v0_4 v0_5:Value) (v0_6 v0_7:Value) (v0_8 v0_9:Value) (v0_10 v0_11:Value) (res:Int) (v:Value) (w:World):Prop:=v= (vi res)/\Holds E w ([bc 126 b0 [v0_0,v0_1,v0_2,v0_3,v0_4,v0_5,v0_6,v0_7,v0_8,v0_9,v0_10,v0_11]]++V)
def mS (E:World) (V:List HP) (res:Option ((List (List aI))×(List aI)×(List bW)×(List cU)×(List (List aA))×(List aH)×(List (List Int))×(List cI)×(List Int)×(List Int)×(List Int)×(List dQ))×Int) (v:Value) (w:World):Prop:=Aa res.1 (v = .tuple #[(.pointer none),(vi res.2)]/\Holds E w V) (fun y=>∃(ub0:Nat) (u0_0 u0_1:Value) (u0_2 u0_3:Value) (u0_4 u0_5:Value) (u0_6 u0_7:Value) (u0_8 u0_9:Value) (u0_10 u0_11:Value),v = .tuple #[vp ub0 0,(vi res.2)]/\Holds E w ([bc 126 ub0 [u0_0,u0_1,u0_2,u0_3,u0_4,u0_5,u0_6,u0_7,u0_8,u0_9,u0_10,u0_11],rd u0_0 y.1,rd u0_1 y.2.1,rd u0_2 y.2.2.1,rd u0_3 y.2.2.2.1,own 132 u0_4 y.2.2.2.2.1,rd u0_5 y.2.2.2.2.2.1,rd u0_6 y.2.2.2.2.2.2.1,own 129 u0_7 y.2.2.2.2.2.2.2.1,rd u0_8 y.2.2.2.2.2.2.2.2.1,rd u0_9 y.2.2.2.2.2.2.2.2.2.1,own 3 u0_10 y.2.2.2.2.2.2.2.2.2.2.1,own 41 u0_11 y.2.2.2.2.2.2.2.2.2.2.2]++V))
def n9 (E:World) (V:List HP) (res: (List aT)×Int) (v:Value) (w:World):Prop:=∃u0:Value,v = .tuple #[u0,(vi res.2)]/\Holds E w ([own 43 u0 res.1]++V)
end Go.Gk
namespace Go.Gk
open Go Go.Proofs
def w9 (H:Type) (d:DataW H):Nat:=YthioiiocofohiaaGreatDoor.Rows.uptoBulk d
def KM (H:Type) (d:List (DataW H)):Nat:=YthioiiocofohiaaGreatDoor.Rows.uptoBulkAll d
theorem gw:UB w9 KM where
  str:=fun H b=>by simp [w9,YthioiiocofohiaaGreatDoor.Rows.uptoBulk]
  pos:=fun H d=>by
    unfold w9
    cases d with
    | lit l=>cases l <;> simp [YthioiiocofohiaaGreatDoor.Rows.uptoBulk]
    | nil=>simp [YthioiiocofohiaaGreatDoor.Rows.uptoBulk]
    | ptr d=>simp [YthioiiocofohiaaGreatDoor.Rows.uptoBulk]
    | slice elems spare=>simp [YthioiiocofohiaaGreatDoor.Rows.uptoBulk]
    | agg parts=>simp [YthioiiocofohiaaGreatDoor.Rows.uptoBulk]
    | iface t d=>simp [YthioiiocofohiaaGreatDoor.Rows.uptoBulk]
    | map entries=>simp [YthioiiocofohiaaGreatDoor.Rows.uptoBulk]
    | held h=>simp [YthioiiocofohiaaGreatDoor.Rows.uptoBulk]
  sl:=fun H e s=>by simp [w9,KM,YthioiiocofohiaaGreatDoor.Rows.uptoBulk]
  ag:=fun H l=>by simp [w9,KM,YthioiiocofohiaaGreatDoor.Rows.uptoBulk]
  nil:=fun H=>by simp [KM,YthioiiocofohiaaGreatDoor.Rows.uptoBulkAll]
  cons:=fun H x l=>by simp [w9,KM,YthioiiocofohiaaGreatDoor.Rows.uptoBulkAll]
theorem F7:iV w9 Tryz.prog 3 Int:=Ev gw (by kernel_rfl)
theorem Me:iV w9 Tryz.prog 74 aI:=jY gw (fun(x:aI)=>(x.X0,x.Y0,x.X1,x.Y1)) (fun b=>⟨b.1,b.2.1,b.2.2.1,b.2.2.2⟩) (fun b=>rfl) Tryz.underlying74 (fu gw F7 (fu gw F7 (fu gw F7 (mK gw F7)))) (fun b=>by simp only [Hu];omega)
theorem KN:iV w9 Tryz.prog 23 (List aI):=oc (e:=74) gw Me
theorem Mf:iV w9 Tryz.prog 22 (List (List aI)):=oc (e:=23) gw KN
theorem KO:iV w9 Tryz.prog 76 eV:=jY gw (fun(x:eV)=>(x.X,x.Y)) (fun b=>⟨b.1,b.2⟩) (fun b=>rfl) Tryz.underlying76 (fu gw F7 (mK gw F7)) (fun b=>by simp only [F5];omega)
theorem MC:iV w9 Tryz.prog 4 Bool:=CS gw (by kernel_rfl)
theorem KP:iV w9 Tryz.prog 117 bW:=jY gw (fun(x:bW)=>(x.At,x.fy,x.bU,x.To,x.ik)) (fun b=>⟨b.1,b.2.1,b.2.2.1,b.2.2.2.1,b.2.2.2.2⟩) (fun b=>rfl) Tryz.underlying117 (fu gw KO (fu gw F7 (fu gw F7 (fu gw F7 (mK gw MC))))) (fun b=>by simp only [Hv];omega)
theorem Mg:iV w9 Tryz.prog 24 (List bW):=oc (e:=117) gw KP
theorem Lb:iV w9 Tryz.prog 9 dA:=Ew gw (by kernel_rfl)
theorem Mh:iV w9 Tryz.prog 78 cU:=jY gw (fun(x:cU)=>(x.Part,x.fW,x.cX,x.At)) (fun b=>⟨b.1,b.2.1,b.2.2.1,b.2.2.2⟩) (fun b=>rfl) Tryz.underlying78 (fu gw Lb (fu gw Lb (fu gw F7 (mK gw KO)))) (fun b=>by simp only [DH];omega)
theorem Mi:iV w9 Tryz.prog 25 (List cU):=oc (e:=78) gw Mh
theorem Mj:iV w9 Tryz.prog 27 gU:=jY gw (fun(x:gU)=>(x.aL,x.dF,x.aV,x.bH)) (fun b=>⟨b.1,b.2.1,b.2.2.1,b.2.2.2⟩) (fun b=>rfl) Tryz.underlying27 (fu gw Mf (fu gw KN (fu gw Mg (mK gw Mi)))) (fun b=>by simp only [F6];omega)
theorem KQ:iV w9 Tryz.prog 51 fW:=jY gw (fun(x:fW)=>(x.Part,x.fW)) (fun b=>⟨b.1,b.2⟩) (fun b=>rfl) Tryz.underlying51 (fu gw Lb (mK gw Lb)) (fun b=>by simp only [I1];omega)
theorem Mk:iV w9 Tryz.prog 53 Test:=jY gw (fun(x:Test)=>(x.A,x.B,x.Joined)) (fun b=>⟨b.1,b.2.1,b.2.2⟩) (fun b=>rfl) Tryz.underlying53 (fu gw KQ (fu gw KQ (mK gw MC))) (fun b=>by simp only [Hx];omega)
theorem Ml:iV w9 Tryz.prog 28 (List Test):=oc (e:=53) gw Mk
end Go.Gk
namespace Go.Proofs
open Go.Shelf Go.RowKit Go.Lib Go.Sort
def Tryz.lay100_ren : Go.Shelf.Ren := ⟨fun | 6 => 100 | 15 => 127 | 14 => 126 | 28 => 157 | 29 => 158 | 20 => 149 | 21 => 150 | 22 => 151 | 23 => 152 | 24 => 153 | 25 => 154 | 26 => 155 | 27 => 156 | 46 => 184 | 47 => 185 | 48 => 186 | 49 => 187 | 50 => 188 | 57 => 202 | n => n, fun | 22 => 23 | 24 => 74 | 25 => 118 | 3 => 3 | 39 => 196 | 0 => 0 | 53 => 221 | 55 => 223 | 4 => 4 | 46 => 215 | 45 => 214 | 50 => 94 | 5 => 5 | 9 => 9 | 66 => 239 | 70 => 243 | 76 => 256 | 77 => 257 | n => n, fun | n => n⟩
theorem Tryz.lay100 : Go.Proofs.SlLaysF0.n6 Tryz.prog Tryz.lay100_ren := {
  mixed := by kernel_rfl
  f6 := ⟨Tryz.f100.name, by decide, Tryz.func100.trans (congrArg some (by kernel_rfl))⟩
  f14 := ⟨Tryz.f126.name, by decide, Tryz.func126.trans (congrArg some (by kernel_rfl))⟩
  f15 := Tryz.func127.trans (congrArg some (by kernel_rfl))
  f20 := ⟨Tryz.f149.name, by decide, Tryz.func149.trans (congrArg some (by kernel_rfl))⟩
  f21 := ⟨Tryz.f150.name, by decide, Tryz.func150.trans (congrArg some (by kernel_rfl))⟩
  f22 := ⟨Tryz.f151.name, by decide, Tryz.func151.trans (congrArg some (by kernel_rfl))⟩
  f23 := ⟨Tryz.f152.name, by decide, Tryz.func152.trans (congrArg some (by kernel_rfl))⟩
  f24 := ⟨Tryz.f153.name, by decide, Tryz.func153.trans (congrArg some (by kernel_rfl))⟩
  f25 := ⟨Tryz.f154.name, by decide, Tryz.func154.trans (congrArg some (by kernel_rfl))⟩
  f26 := ⟨Tryz.f155.name, by decide, Tryz.func155.trans (congrArg some (by kernel_rfl))⟩
  f27 := ⟨Tryz.f156.name, by decide, Tryz.func156.trans (congrArg some (by kernel_rfl))⟩
  f28 := Tryz.func157.trans (congrArg some (by kernel_rfl))
  f29 := Tryz.func158.trans (congrArg some (by kernel_rfl))
  f46 := ⟨Tryz.f184.name, by decide, Tryz.func184.trans (congrArg some (by kernel_rfl))⟩
  f47 := Tryz.func185.trans (congrArg some (by kernel_rfl))
  f48 := Tryz.func186.trans (congrArg some (by kernel_rfl))
  f49 := ⟨Tryz.f187.name, by decide, Tryz.func187.trans (congrArg some (by kernel_rfl))⟩
  f50 := ⟨Tryz.f188.name, by decide, Tryz.func188.trans (congrArg some (by kernel_rfl))⟩
  f57 := ⟨Tryz.f202.name, by decide, Tryz.func202.trans (congrArg some (by kernel_rfl))⟩
  t0 := Tryz.underlying0
  a0 := Tryz.isAgg0
  z0 := Tryz.sizeOf0
  v0 := Tryz.zeroValue0
  t3 := Tryz.underlying3
  a3 := Tryz.isAgg3
  z3 := Tryz.sizeOf3
  v3 := Tryz.zeroValue3
  t4 := Tryz.underlying4
  a4 := Tryz.isAgg4
  z4 := Tryz.sizeOf4
  v4 := Tryz.zeroValue4
  t5 := Tryz.underlying5
  a5 := Tryz.isAgg5
  z5 := Tryz.sizeOf5
  v5 := Tryz.zeroValue5
  t9 := Tryz.underlying9
  a9 := Tryz.isAgg9
  z9 := Tryz.sizeOf9
  v9 := Tryz.zeroValue9
  t22 := Tryz.underlying23
  a22 := Tryz.isAgg23
  z22 := Tryz.sizeOf23
  v22 := Tryz.zeroValue23
  t25 := Tryz.underlying118
  a25 := Tryz.isAgg118
  z25 := Tryz.sizeOf118
  v25 := Tryz.zeroValue118
  t39 := Tryz.underlying196
  a39 := Tryz.isAgg196
  z39 := Tryz.sizeOf196
  v39 := Tryz.zeroValue196
  t45 := Tryz.underlying214
  a45 := Tryz.isAgg214
  z45 := Tryz.sizeOf214
  v45 := Tryz.zeroValue214
  t46 := Tryz.underlying215
  a46 := Tryz.isAgg215
  z46 := Tryz.sizeOf215
  v46 := Tryz.zeroValue215
  t50 := Tryz.underlying94
  a50 := Tryz.isAgg94
  z50 := Tryz.sizeOf94
  v50 := Tryz.zeroValue94
  t53 := Tryz.underlying221
  a53 := Tryz.isAgg221
  z53 := Tryz.sizeOf221
  v53 := Tryz.zeroValue221
  t55 := Tryz.underlying223
  a55 := Tryz.isAgg223
  z55 := Tryz.sizeOf223
  v55 := Tryz.zeroValue223
  t66 := Tryz.underlying239
  a66 := Tryz.isAgg239
  z66 := Tryz.sizeOf239
  v66 := Tryz.zeroValue239
  t70 := Tryz.underlying243
  a70 := Tryz.isAgg243
  z70 := Tryz.sizeOf243
  v70 := Tryz.zeroValue243
  t76 := Tryz.underlying256
  a76 := Tryz.isAgg256
  z76 := Tryz.sizeOf256
  v76 := Tryz.zeroValue256
  t77 := Tryz.underlying257
  a77 := Tryz.isAgg257
  z77 := Tryz.sizeOf257
  v77 := Tryz.zeroValue257 }
def Tryz.lay102_ren : Go.Shelf.Ren := ⟨fun | 5 => 102 | 8 => 127 | 7 => 128 | 19 => 157 | 20 => 158 | 10 => 159 | 11 => 160 | 12 => 161 | 13 => 162 | 14 => 163 | 15 => 164 | 16 => 165 | 17 => 166 | 18 => 167 | 30 => 189 | 31 => 185 | 32 => 186 | 33 => 190 | 34 => 191 | 35 => 192 | 40 => 203 | n => n, fun | 23 => 87 | 25 => 3 | 3 => 3 | 32 => 196 | 22 => 87 | 0 => 0 | 44 => 221 | 46 => 223 | 4 => 4 | 36 => 215 | 35 => 214 | 41 => 94 | 5 => 5 | 9 => 9 | 53 => 239 | 57 => 243 | 63 => 256 | 64 => 257 | n => n, fun | n => n⟩
theorem Tryz.lay102 : Go.Proofs.SlLaysM.n5 Tryz.prog Tryz.lay102_ren := {
  mixed := by kernel_rfl
  f5 := ⟨Tryz.f102.name, by decide, Tryz.func102.trans (congrArg some (by kernel_rfl))⟩
  f7 := ⟨Tryz.f128.name, by decide, Tryz.func128.trans (congrArg some (by kernel_rfl))⟩
  f8 := Tryz.func127.trans (congrArg some (by kernel_rfl))
  f10 := ⟨Tryz.f159.name, by decide, Tryz.func159.trans (congrArg some (by kernel_rfl))⟩
  f11 := ⟨Tryz.f160.name, by decide, Tryz.func160.trans (congrArg some (by kernel_rfl))⟩
  f12 := ⟨Tryz.f161.name, by decide, Tryz.func161.trans (congrArg some (by kernel_rfl))⟩
  f13 := ⟨Tryz.f162.name, by decide, Tryz.func162.trans (congrArg some (by kernel_rfl))⟩
  f14 := ⟨Tryz.f163.name, by decide, Tryz.func163.trans (congrArg some (by kernel_rfl))⟩
  f15 := ⟨Tryz.f164.name, by decide, Tryz.func164.trans (congrArg some (by kernel_rfl))⟩
  f16 := ⟨Tryz.f165.name, by decide, Tryz.func165.trans (congrArg some (by kernel_rfl))⟩
  f17 := ⟨Tryz.f166.name, by decide, Tryz.func166.trans (congrArg some (by kernel_rfl))⟩
  f18 := ⟨Tryz.f167.name, by decide, Tryz.func167.trans (congrArg some (by kernel_rfl))⟩
  f19 := Tryz.func157.trans (congrArg some (by kernel_rfl))
  f20 := Tryz.func158.trans (congrArg some (by kernel_rfl))
  f30 := ⟨Tryz.f189.name, by decide, Tryz.func189.trans (congrArg some (by kernel_rfl))⟩
  f31 := Tryz.func185.trans (congrArg some (by kernel_rfl))
  f32 := Tryz.func186.trans (congrArg some (by kernel_rfl))
  f33 := ⟨Tryz.f190.name, by decide, Tryz.func190.trans (congrArg some (by kernel_rfl))⟩
  f34 := ⟨Tryz.f191.name, by decide, Tryz.func191.trans (congrArg some (by kernel_rfl))⟩
  f35 := ⟨Tryz.f192.name, by decide, Tryz.func192.trans (congrArg some (by kernel_rfl))⟩
  f40 := ⟨Tryz.f203.name, by decide, Tryz.func203.trans (congrArg some (by kernel_rfl))⟩
  t0 := Tryz.underlying0
  a0 := Tryz.isAgg0
  z0 := Tryz.sizeOf0
  v0 := Tryz.zeroValue0
  t3 := Tryz.underlying3
  a3 := Tryz.isAgg3
  z3 := Tryz.sizeOf3
  v3 := Tryz.zeroValue3
  t4 := Tryz.underlying4
  a4 := Tryz.isAgg4
  z4 := Tryz.sizeOf4
  v4 := Tryz.zeroValue4
  t5 := Tryz.underlying5
  a5 := Tryz.isAgg5
  z5 := Tryz.sizeOf5
  v5 := Tryz.zeroValue5
  t9 := Tryz.underlying9
  a9 := Tryz.isAgg9
  z9 := Tryz.sizeOf9
  v9 := Tryz.zeroValue9
  t22 := Tryz.underlying87
  a22 := Tryz.isAgg87
  z22 := Tryz.sizeOf87
  v22 := Tryz.zeroValue87
  t23 := Tryz.underlying87
  a23 := Tryz.isAgg87
  z23 := Tryz.sizeOf87
  v23 := Tryz.zeroValue87
  t25 := Tryz.underlying3
  a25 := Tryz.isAgg3
  z25 := Tryz.sizeOf3
  v25 := Tryz.zeroValue3
  t32 := Tryz.underlying196
  a32 := Tryz.isAgg196
  z32 := Tryz.sizeOf196
  v32 := Tryz.zeroValue196
  t35 := Tryz.underlying214
  a35 := Tryz.isAgg214
  z35 := Tryz.sizeOf214
  v35 := Tryz.zeroValue214
  t36 := Tryz.underlying215
  a36 := Tryz.isAgg215
  z36 := Tryz.sizeOf215
  v36 := Tryz.zeroValue215
  t41 := Tryz.underlying94
  a41 := Tryz.isAgg94
  z41 := Tryz.sizeOf94
  v41 := Tryz.zeroValue94
  t44 := Tryz.underlying221
  a44 := Tryz.isAgg221
  z44 := Tryz.sizeOf221
  v44 := Tryz.zeroValue221
  t46 := Tryz.underlying223
  a46 := Tryz.isAgg223
  z46 := Tryz.sizeOf223
  v46 := Tryz.zeroValue223
  t53 := Tryz.underlying239
  a53 := Tryz.isAgg239
  z53 := Tryz.sizeOf239
  v53 := Tryz.zeroValue239
  t57 := Tryz.underlying243
  a57 := Tryz.isAgg243
  z57 := Tryz.sizeOf243
  v57 := Tryz.zeroValue243
  t63 := Tryz.underlying256
  a63 := Tryz.isAgg256
  z63 := Tryz.sizeOf256
  v63 := Tryz.zeroValue256
  t64 := Tryz.underlying257
  a64 := Tryz.isAgg257
  z64 := Tryz.sizeOf257
  v64 := Tryz.zeroValue257 }
end Go.Proofs
namespace Go.Gk
open Go Go.Proofs
variable (N:Nat) {E w:World} {i0 i1 i2:Nat} {p0 p1 p2 res:Int} {v0 v1 v2:Value} {V:List HP}
theorem wO {res:Bool} (o:Holds E w V) (j:qf N p0 p1 p2=some res):
    Calls bF 135 [(vi p0),(vi p1),(vi p2)].toArray w (gI (bE E V res)):=by
 unfold qf at j
 refine enter Tryz.func135 zr zr (RC.sr (aK (vb false) (RL.ns (mv (vi p0) (mv (vi p1) (ic p0 p1 (mv (vb (decide (p0>=p1))) (RL.gs true (decide (p0>=p1)) (vi p0) zr zr zr dW ?_))))))))
 refine RL.gs true (decide (p0>=p1)) (vi p2) rfl rfl rfl dW (RL.gs true (decide (p0>=p1)) (vb (decide (p0<=p2))) rfl rfl rfl (eE .leq .i64 p0 p2 rfl (fun h=>by exact(cV h:cv (true&&((decide (p0>=p1))==true)) (vi p0)= (vi p0))) (fun h=>by exact(cV h:cv (true&&((decide (p0>=p1))==true)) (vi p2)= (vi p2))) rfl) (RL.pick (decide (p0>=p1)) (vb ((decide (p0>=p1))&&(decide (p0<=p2)))) (i6 true) (aK (vb ((decide (p0>=p1))&&(decide (p0<=p2)))) (RL.nt (RC.ret ?_)))))
 obtain rfl:=oi j
 exact cL ⟨rfl,o.drop 0⟩
theorem kf {res:Bool} (o:Holds E w V) (j:jT N p0=some res):
    Calls bF 113 [(vi p0)].toArray w (gI (bE E V res)):=by
 unfold jT at j
 refine enter Tryz.func113 zr zr (RC.sr (aK (vb false) (RL.ns (mv (vi p0) ?_))))
 obtain⟨aa,ab,j⟩:=bd j
 refine RL.call zt zr Ju [(vi p0),(vi (-1000000)),(vi 1000000)] zr (aF (wO N (p0:=p0) (p1:=(-1000000)) (p2:=1000000) o ab) ?_)
 rintro _ w ⟨rfl,o⟩
 refine aK (vb aa) (RL.nt (RC.ret ?_))
 obtain rfl:=oi j
 exact cL ⟨rfl,o.drop 0⟩
theorem qK {p0:aI} {res:Bool} (j:Holds E w V) (h0:V[i0]? =some (rd v0 p0)) (hb:kT N p0=some res):
    Calls bF 98 [v0].toArray w (gI (bE E V res)):=by
 unfold kT at hb
 refine enter Tryz.func98 zr zr ?_
 have j:=j.dup (i0+0) h0
 refine RC.sr (RL.dB 0 v0 j zr fun aq w j=>?_)
 refine aK (vb false) (RL.nq ?_)
 obtain⟨af,o,hb⟩:=bd hb
 refine RC.jn (fun(af:Bool)=>SH E V [(2,vb af)] []) af ?_ ?_
 ·refine RC.region (RL.aZ zr jy (RL.aM 0 j zr eW cQ ?_))
  obtain⟨aj,ak,o⟩:=bd o
  refine RL.call zt zr zo [(vi p0.X0)] zr (aF (kf N (p0:=p0.X0) j ak) ?_)
  rintro _ w ⟨rfl,j⟩
  refine mv (vb aj) (fM o (fun aa o=>?_) fun aa o=>?_)
  rotate_left
  ·refine bO aa (bO aa (bO aa (fJ aa (vb false) (mv (vb false) (oT (oT (oT (RL.pick false (vb false) zr ?_))))))))
   refine mv (vb false) (oT (oT (oT (RL.pick false (vb false) zr (aK (vb false) (RL.nil ?_))))))
   obtain rfl:=oi o
   exact⟨rfl,j.sp 2 []⟩
  refine RL.aZ (hg:=(cg aa)) zr jX (RL.aM (hg:=(cg aa)) 0 j zr fC cQ ?_)
  obtain⟨ag,al,o⟩:=bd o
  refine RL.call (cg aa) zr zo [(vi p0.Y0)] zr (aF (kf N (p0:=p0.Y0) j al) ?_)
  rintro _ w ⟨rfl,j⟩
  refine fJ aa (vb ag) (mv (vb ag) (fM o (fun ab o=>?_) fun ab o=>?_))
  rotate_left
  ·refine bO ab (bO ab (bO ab (fJ ab (vb false) (mv (vb false) (oT (oT (oT (RL.pick false (vb false) zr ?_))))))))
   refine aK (vb false) (RL.nil ?_)
   obtain rfl:=oi o
   exact⟨rfl,j.sp 2 []⟩
  refine RL.aZ (hg:=(cg ab)) zr kI (RL.aM (hg:=(cg ab)) 0 j zr gz cQ ?_)
  obtain⟨ah,an,o⟩:=bd o
  refine RL.call (cg ab) zr zo [(vi p0.X1)] zr (aF (kf N (p0:=p0.X1) j an) ?_)
  rintro _ w ⟨rfl,j⟩
  refine fJ ab (vb ah) (mv (vb ah) (fM o (fun ad o=>?_) fun ad o=>?_))
  rotate_left
  ·refine bO ad (bO ad (bO ad (fJ ad (vb false) (aK (vb false) (RL.nil ?_)))))
   obtain rfl:=oi o
   exact⟨rfl,j.sp 2 []⟩
  refine RL.aZ (hg:=(cg ad)) zr n7 (RL.aM (hg:=(cg ad)) 0 j zr jN cQ ?_)
  obtain⟨ai,ao,o⟩:=bd o
  refine RL.call (cg ad) zr zo [(vi p0.Y1)] zr (aF (kf N (p0:=p0.Y1) j ao) ?_)
  rintro _ w ⟨rfl,j⟩
  refine fJ ad (vb ai) (aK (vb ai) (RL.nil ?_))
  obtain rfl:=oi o
  exact⟨rfl,j.sp 2 []⟩
 rintro _ w ⟨O,rfl,j⟩
 refine aG (RC.ret ?_)
 obtain rfl:=oi hb
 exact cL ⟨rfl,j.drop 0⟩
def tw (E:World) (V:List HP) (r:Int) (U:Nat->Value) (w:World):Prop:=l5 bF 30 Tryz.f68 (aQ E V r) .ret U w
theorem sL {p0: (List aI)} (o:Holds E w V) (h0:V[i0]? =some (rd v0 p0)) (hb:jH N p0=some res):
    Calls bF 68 [v0].toArray w (gI (aQ E V res)):=by
 unfold jH at hb
 refine enter Tryz.func68 zr zr ?_
 have o:=o.dup (i0+0) h0
 refine RC.sr (aK (vi 0) (RL.nq (RC.sr (mv v0 (RL.bD 0 p0 o oG (ic ((p0.length:Int)) 2000 (RL.nt (eQ hb (fun hc hb=>?_) fun hc hb=>?_))))))))
 ·refine RC.sr (aK (vi 2) (RL.nt (RC.rt ?_)))
  obtain rfl:=oi hb
  exact cL ⟨rfl,o.drop 1⟩
 refine RC.ss (RC.sr (mv v0 (RL.bD 0 p0 o oG (mv (vi 0) (RL.nt ?_)))))
 obtain⟨aq,hN,hb⟩:=bd hb
 refine RC.range (fun(ae:Nat) (af:Unit)=>SH E V [(8,v0),(9,vi p0.length),(10,vi ae)] [rd v0 p0]) (fun(af:Unit)=>SH E V [] [rd v0 p0]) (tw E V) hN ?_ ?_ ?_ ?_ ?_
 ·exact o.sp 1 [0]
 ·rintro hm af _ w ⟨O,rfl,o⟩
  refine RC.sr (ic ((p0.length:Int)) ((p0.length:Int)) (RL.nq (RC.cN lS (RC.ex ?_))))
  exact⟨rfl,o.sp 1 [0]⟩
 ·rintro hm ae af fl _ w hk ⟨O,rfl,o⟩ hb
  refine RC.sr (ic ((ae:Int)) ((p0.length:Int)) (RL.nq (RC.cM (lR hk) (RC.ss (RC.bs ?_)))))
  obtain⟨j,aj,hb⟩:=bd hb
  refine RL.cC 0 o kH aj fun au o=>(RL.bV 0 j o fK fun av o=>(RL.alloc o mI.z fun ab w o=>?_))
  refine RL.bA 0 o 1 zr fK fun w o=>?_
  refine RL.nq (RC.sr (RL.aP (f:=(fun x=>x)) 0 o zr Fd.self fK fun ak o=>?_))
  obtain⟨al,an,hb⟩:=bd hb
  refine RL.call zt zr Jv [ak] zr (aF (qK N (i0:=0) o zr an) ?_)
  rintro _ w ⟨rfl,o⟩
  refine RL.not al (RL.nt (eQ hb (fun hc hb=>?_) fun hc hb=>?_))
  ·refine RC.sr (aK (vi 1) (RL.nt (RC.rt (jR (bS ?_)))))
   obtain rfl:=oi hb
   exact⟨rfl,cL ⟨rfl,o.drop 5⟩⟩
  refine RC.sx (RL.aZ rfl kI (RL.aM 1 o rfl gz cQ (RL.aZ rfl jy (RL.aM 1 o rfl eW cQ (ic j.X1 j.X0 (mv (vb (decide (j.X1<=j.X0))) (RL.gs true (decide (j.X1<=j.X0)) (vp ab 3) rfl rfl rfl (dN n7) (RL.gs true (decide (j.X1<=j.X0)) (vi j.Y1) rfl rfl rfl (bZ 1 rfl o (fun h=>by exact(cV h:cv (true&&((decide (j.X1<=j.X0))==false)) (vp ab 3)= (vp ab 3))) rfl jN cQ) ?_))))))))
  refine RL.gs true (decide (j.X1<=j.X0)) (vp ab 1) rfl rfl rfl (dN jX) (RL.gs true (decide (j.X1<=j.X0)) (vi j.Y0) rfl rfl rfl (bZ 1 rfl o (fun h=>by exact(cV h:cv (true&&((decide (j.X1<=j.X0))==false)) (vp ab 1)= (vp ab 1))) rfl fC cQ) (RL.gs true (decide (j.X1<=j.X0)) (vb (decide (j.Y1<=j.Y0))) rfl rfl rfl (eE .leq .i64 j.Y1 j.Y0 rfl (fun h=>by exact(cV h:cv (true&&((decide (j.X1<=j.X0))==false)) (vi j.Y1)= (vi j.Y1))) (fun h=>by exact(cV h:cv (true&&((decide (j.X1<=j.X0))==false)) (vi j.Y0)= (vi j.Y0))) rfl) (RL.pick (decide (j.X1<=j.X0)) (vb ((decide (j.X1<=j.X0))||(decide (j.Y1<=j.Y0)))) (nS true rfl) (RL.nt (eQ hb (fun hc hb=>?_) fun hc hb=>?_)))))
  rotate_left
  ·refine RC.skip (bK (aG (RC.region (RL.inc hk hm (mv (vi ((ae+1:Nat):Int)) (RL.nil ?_))))))
   obtain rfl:=oi hb
   exact⟨rfl,o.sp 5 [4]⟩
  refine RC.sr (aK (vi 13) (RL.nt (RC.rb (bS ?_))))
  obtain rfl:=oi hb
  exact⟨rfl,cL ⟨rfl,o.drop 5⟩⟩
 ·intro r U w e hK
  subst e
  refine bS ?_
  obtain rfl:=oi hb
  exact hK
 rintro af _ w rfl ⟨O,rfl,o⟩
 rw [Fo.gl] at hb
 refine aG (RC.sr (aK (vi 0) (RL.nt (RC.ret ?_))))
 obtain rfl:=oi hb
 exact cL ⟨rfl,o.drop 1⟩
theorem rp {p0: (List aI)} {res: (List aI)} (j:Holds E w V) (h0:V[i0]? =some (rd v0 p0)) (o:g9 N p0=some res):
    Calls bF 99 [v0].toArray w (gI (lj E V res)):=by
 unfold g9 at o
 refine enter Tryz.func99 zr zr ?_
 have j:=j.dup (i0+0) h0
 refine RC.sr (aK (.slice none 0 0) (RL.nq (RC.sr (mv v0 (RL.Jn (i:=0) zt zr j zr zr zr oG (RL.nt (RC.cond (b:=(G8 v0)) zr (fun hc=>?_) (fun hc=>?_))))))))
 ·have hx:=j.Ln (i:=0) rfl hc
  rw [hx] at o
  replace o:some ([]: (List aI))=_:=o
  refine RC.sr (aK (.slice none 0 0) (RL.nt (RC.rt ?_)))
  obtain rfl:=oi o
  have j:=j.cH aI 74
  exact cL (j.pk 2 [0])
 refine RC.sx (RL.dS ([]: (List aI)) j [] kH mI (fun M hs g=>zt) fun ae w j=>(mv v0 ?_))
 obtain⟨af,ab,o⟩:=bd o
 refine RL.app 0 1 j Ei ab fun ad w j=>?_
 refine aK ad (RL.nt (RC.ret ?_))
 obtain rfl:=oi o
 exact cL (j.pk 2 [0])
theorem uJ {p0 p1:aI} (j:Holds E w V) (h0:V[i0]? =some (rd v0 p0)) (h1:V[i1]? =some (rd v1 p1)) (o:iM N p0 p1=some res):
    Calls bF 101 [v0,v1].toArray w (gI (aQ E V res)):=by
 unfold iM at o
 refine enter Tryz.func101 zr zr ?_
 have j:=(j.dup (i0+0) h0).dup (i1+1) h1
 refine RC.sr (RL.dB 1 v0 j zr fun aa w j=>?_)
 refine RL.dB 1 v1 j zr fun ab w j=>?_
 refine aK (vi 0) (RL.ns (RL.aZ zr jX (RL.aM 1 j zr fC cQ (RL.aZ zr jX (RL.aM 0 j zr fC cQ (RL.jA p0.Y0 p1.Y0 (aK (vi (IntKind.wrap .i64 (p0.Y0 - p1.Y0))) (RL.nt ?_))))))))
 refine RC.ret ?_
 obtain rfl:=oi o
 exact cL ⟨rfl,j.drop 4⟩
def rq (E:World) (V:List HP) (r: (List Int)) (U:Nat->Value) (w:World):Prop:=l5 bF 61 Tryz.f103 (kJ E V r) .ret U w
theorem qO {p0: (List Int)} {res: (List Int)} (j:Holds E w (own 3 v0 p0::V)) (o:fT N p0=some res):
    Calls bF 103 [v0].toArray w (gI (kJ E V res)):=by
 unfold fT at o
 refine enter Tryz.func103 zr zr (RC.sr (aK (.slice none 0 0) (RL.nq (RC.sr (mv v0 (RL.dY 0 p0 j lM (ic ((p0.length:Int)) 2 (RL.nt ?_))))))))
 refine eQ o (fun hc o=>?_) fun hc o=>?_
 ·refine RC.sr (mv v0 (aK v0 (RL.nt (RC.rt ?_))))
  obtain rfl:=oi o
  exact cL (j.pk 1 [0])
 refine RC.ss (RC.sr (aK (vi 1) (RL.nt ?_)))
 obtain⟨a2,hN,o⟩:=bd o
 refine RC.iter (fun(ab:Int)=>SH E V [(0,v0),(3,vi ab)] [own 3 v0 p0]) (fun(ab:Int)=>SH E V [(0,v0)] [own 3 v0 p0]) (rq E V) hN ?_ ?_ ?_ ?_
 ·exact j.sp 1 [0]
 ·rintro ab fl _ w ⟨O,rfl,j⟩ o
  refine RC.seq (RC.sr (mv (vi ab) (mv v0 (RL.dY 0 p0 j lM (ic ab ((p0.length:Int)) (RL.nt (eQ o (fun hc o=>?_) fun hc o=>?_)))))))
  rotate_left
  ·refine RC.ex ?_
   obtain rfl:=oi o
   exact⟨rfl,j.sp 1 [0]⟩
  refine RC.ss (RC.block (RC.seq (RC.xv mixed ?_)))
  have j:=j.drew
  refine RO.go (mv v0 (RO.nx (mv (vi ab) (RO.nx ?_))))
  obtain⟨au,al,o⟩:=bd o
  refine RL.bQ 0 j zr zr eJ al (RO.nx (RL.dL (f:=(fun x=>x)) 0 j (jG 0 j al 0) (bB al).2.1 Fd.self cQ (RO.nx (mv v0 (RO.nx (mv (vi ab) (RO.nx (RL.jA ab 1 ?_))))))))
  refine RO.nx ?_
  obtain⟨av,an,o⟩:=bd o
  refine RL.bQ 0 j zr zr eJ an (RO.nx (RL.dL (f:=(fun x=>x)) 0 j (jG 0 j an 0) (bB an).2.1 Fd.self cQ (RO.nx (ic au av (RO.last (aG (eQ o (fun hc o=>?_) fun hc o=>?_)))))))
  rotate_left
  ·refine RC.skip (bK (aG (RC.region (mv (vi ab) (RL.jA ab 1 (aK (vi (IntKind.wrap .i64 (ab+1))) (RL.nil ?_)))))))
   obtain rfl:=oi o
   exact⟨rfl,j.sp 1 [0]⟩
  refine RC.sr (mv v0 (mv (vi ab) ?_))
  obtain⟨a3,af,o⟩:=bd o
  refine RL.view 0 ab zr j zr zr eJ af (aK (vw v0 (Int.toNat ab) 1) (RL.nq (RC.sr (aK (vi 1) (RL.nt ?_)))))
  obtain⟨a4,hN,o⟩:=bd o
  refine RC.iter (fun(aa: (List Int)×Int×Int)=>SH E V [(0,v0),(3,vi aa.2.1),(4,(vw v0 (Int.toNat ab) 1)),(5,vi aa.2.2)] [own 3 v0 aa.1]) (fun(aa: (List Int)×Int×Int)=>SH E V [(0,v0),(3,vi aa.2.1)] [own 3 v0 aa.1]) (fun(r:Empty) _ _=>r.elim) hN ?_ ?_ ?_ ?_
  ·exact j.sp 1 [0]
  ·rintro aa fl _ w ⟨O,rfl,j⟩ o
   refine RC.seq (RC.sr (mv (vi aa.2.2) (mv (vw v0 (Int.toNat ab) 1) (RL.Iy (i:=0) (l:=aa.1) zt zr j zr zr lM (ic aa.2.2 ((((aa.1.length - Int.toNat ab):Nat):Int)) (RL.nt (eQ o (fun hc o=>?_) fun hc o=>?_)))))))
   rotate_left
   ·refine RC.ex ?_
    obtain rfl:=oi o
    exact⟨rfl,j.sp 1 [0]⟩
   refine RC.ss (RC.block (RC.seq (RC.xv mixed ?_)))
   have j:=j.drew
   refine RO.go (mv (vw v0 (Int.toNat ab) 1) (RO.nx (mv (vi aa.2.2) (RO.nx ?_))))
   obtain⟨aw,ag,o⟩:=bd o
   refine RL.Fc 0 ab zr j zr zr zr eJ (CD af) (jd ag).1 (jd ag).2 (RO.nx (RL.dL (f:=(fun x=>x)) 0 j (jG 0 j (jd ag).2 0) (bB (jd ag).2).2.1 Fd.self cQ (RO.nx (mv (vw v0 (Int.toNat ab) 1) (RO.nx (mv (vi aa.2.2) (RO.nx (RL.jA aa.2.2 1 ?_))))))))
   refine RO.nx ?_
   obtain⟨ax,ah,o⟩:=bd o
   refine RL.Fc 0 ab zr j zr zr zr eJ (CD af) (jd ah).1 (jd ah).2 (RO.nx (RL.dL (f:=(fun x=>x)) 0 j (jG 0 j (jd ah).2 0) (bB (jd ah).2).2.1 Fd.self cQ (RO.nx (ic aw ax (RO.last (aG ?_))))))
   obtain⟨ai,hj,o⟩:=bd o
   refine RC.jn (fun(ai: (List Int)×Int)=>SH E V [(0,v0),(3,vi ai.2),(4,(vw v0 (Int.toNat ab) 1)),(5,vi aa.2.2)] [own 3 v0 ai.1]) ai ?_ ?_
   ·refine eQ hj (fun hc hj=>?_) fun hc hj=>?_
    rotate_left
    ·refine RC.skip ?_
     obtain rfl:=oi hj
     exact⟨rfl,j.sp 1 [0]⟩
    refine RC.sr (mv v0 (mv (vi aa.2.1) (mv (vw v0 (Int.toNat ab) 1) (mv (vi aa.2.2) ?_))))
    obtain⟨ay,aj,hj⟩:=bd hj
    refine RL.Fc 0 ab zr j zr zr zr eJ (CD af) (jd aj).1 (jd aj).2 (RL.dL (f:=(fun x=>x)) 0 j (jG 0 j (jd aj).2 0) (bB (jd aj).2).2.1 Fd.self cQ ?_)
    obtain⟨a5,ao,hj⟩:=bd hj
    refine RL.bQ 0 j zr zr eJ ao ?_
    have j:=j.sc Int ay
    refine RL.gE (f:=(fun _ y=>y)) 1 0 j (jG 1 j ao 0) (bB ao).2.1 zr Fs.self cQ fun w j=>?_
    refine RL.nt (RC.region (mv (vi aa.2.1) (RL.jA aa.2.1 1 (aK (vi (IntKind.wrap .i64 (aa.2.1+1))) (RL.nil ?_)))))
    obtain rfl:=oi hj
    exact⟨rfl,j.sp 2 [1]⟩
   rintro _ w ⟨O,rfl,j⟩
   refine bK (aG (RC.region (mv (vi aa.2.2) (RL.jA aa.2.2 1 (aK (vi (IntKind.wrap .i64 (aa.2.2+1))) (RL.nil ?_))))))
   obtain rfl:=oi o
   exact⟨rfl,j.sp 1 [0]⟩
  ·intro r _ _ _ _
   exact r.elim
  rintro aa _ w rfl ⟨O,rfl,j⟩
  rw [Fo.gl] at o
  refine aG (RC.sr (mv v0 (mv (vi aa.2.1) ?_)))
  obtain⟨a6,aq,o⟩:=bd o
  refine RL.view 0 aa.2.1 zr j zr zr eJ aq (RL.Be 0 zt j zr zr uz Jg (Fe aq) fun w j=>(RL.ns (mv v0 (mv (vi aa.2.1) ?_))))
  obtain⟨a7,az,o⟩:=bd o
  refine RL.z7 0 zr j zr zr eJ (.inr ⟨rfl,zr⟩) az fun a0 j=>(aK a0 (RL.nt (RC.rb (bS ?_))))
  obtain rfl:=oi o
  exact⟨rfl,cL (j.pk 1 [0])⟩
 ·intro r U w e hK
  subst e
  refine bS ?_
  obtain rfl:=oi o
  exact hK
 rintro ab _ w rfl ⟨O,rfl,j⟩
 rw [Fo.gl] at o
 refine aG (RC.sr (mv v0 (aK v0 (RL.nt (RC.ret ?_)))))
 obtain rfl:=oi o
 exact cL (j.pk 1 [0])
theorem uK {p0:aI} {p1: (List Int)} {res:Bool} (j:Holds E w V) (h0:V[i0]? =some (rd v0 p0)) (h1:V[i1]? =some (pt v1 p1)) (h2:V[i2]? =some (pt v2 p2)) (o:mb N p0 p1 p2=some res):
    Calls bF 105 [v0,v1,v2].toArray w (gI (bE E V res)):=by
 unfold mb at o
 refine enter Tryz.func105 zr zr ?_
 have j:=((j.dup (i0+0) h0).xk (i:=i1+1) h1).xk (i:=i2+2) h2
 refine RC.sr (RL.dB 2 v0 j zr fun ad w j=>?_)
 refine aK (vb false) (RL.nq (RC.xv mixed ?_))
 have j:=j.drew
 refine RO.go (RL.aZ zr n7 (RO.nx (RL.aM 0 j zr jN cQ (RO.nx (RL.bV 2 p1 j fH fun ae j=>(RO.nx (RL.bI p2 2 j cQ (RO.nx ?_))))))))
 obtain⟨aa,ab,o⟩:=bd o
 refine RL.cC 0 j eJ ab fun af j=>(RO.nx (RL.bI aa 0 j cQ (RO.nx (ic p0.Y1 aa (RO.nx (aK (vb (decide (p0.Y1<=aa))) (RO.last (aG ?_))))))))
 refine RC.ret ?_
 obtain rfl:=oi o
 exact cL ⟨rfl,j.drop 6⟩
def pH (E:World) (V:List HP) (r:Int) (U:Nat->Value) (w:World):Prop:=l5 bF 19 Tryz.f117 (aQ E V r) .ret U w
theorem o9 {p0: (List aI)} {p1:aI->Option Bool} (j:Holds E w V) (h0:V[i0]? =some (rd v0 p0)) (h1:GS bF E V v1 p1 (fun(r:Bool)=>Value.bool r)) (o:kh N p0 p1=some res):
    Calls bF 117 [v0,v1].toArray w (gI (aQ E V res)):=by
 unfold kh at o
 refine enter Tryz.func117 zr zr ?_
 have j:=j.dup (i0+0) h0
 refine RC.sr (aK (vi 0) (RL.nq (RC.sr (mv v0 (RL.bD 0 p0 j oG (mv (vi 0) (RL.nt ?_)))))))
 obtain⟨al,hN,o⟩:=bd o
 refine RC.range (fun(aa:Nat) (ab:Unit)=>SH E V [(0,v0),(1,v1),(7,vi p0.length),(8,vi aa)] [rd v0 p0]) (fun(ab:Unit)=>SH E V [] [rd v0 p0]) (pH E V) hN ?_ ?_ ?_ ?_ ?_
 ·exact j.sp 1 [0]
 ·rintro hm ab _ w ⟨O,rfl,j⟩
  refine RC.sr (ic ((p0.length:Int)) ((p0.length:Int)) (RL.nq (RC.cN lS (RC.ex ?_))))
  exact⟨rfl,j.sp 1 [0]⟩
 ·rintro hm aa ab fl _ w hk ⟨O,rfl,j⟩ o
  refine RC.sr (ic ((aa:Int)) ((p0.length:Int)) (RL.nq (RC.cM (lR hk) (RC.ss (RC.bs (mv (vi aa) (aK (vi aa) (RL.ns ?_))))))))
  refine mv v1 (mv v0 (mv (vi aa) ?_))
  obtain⟨ag,ah,o⟩:=bd o
  refine RL.cC 0 j kH ah fun ao j=>(RL.bV 0 ag j fK fun aq j=>?_)
  obtain⟨ar,ai,o⟩:=bd o
  refine RL.z6 0 zr j zr h1 3 zr zr zr ai fun w j=>(RL.nt (eQ o (fun hc o=>?_) fun hc o=>?_))
  rotate_left
  ·refine RC.skip (bK (aG (RC.region (RL.inc hk hm (mv (vi ((aa+1:Nat):Int)) (RL.nil ?_))))))
   obtain rfl:=oi o
   exact⟨rfl,j.sp 3 [2]⟩
  refine RC.sr (mv (vi aa) (aK (vi aa) (RL.nt (RC.rb (bS ?_)))))
  obtain rfl:=oi o
  exact⟨rfl,cL ⟨rfl,j.drop 3⟩⟩
 ·intro r U w e hK
  subst e
  refine bS ?_
  obtain rfl:=oi o
  exact hK
 rintro ab _ w rfl ⟨O,rfl,j⟩
 rw [Fo.gl] at o
 refine aG (RC.sr (aK (vi (-1)) (RL.nt (RC.ret ?_))))
 obtain rfl:=oi o
 exact cL ⟨rfl,j.drop 1⟩
def kK (E:World) (V:List HP) (v0:Value) (p0: (List aI)) (res:Int) (v:Value) (w:World):Prop:=v= (vi res)/\Holds E w ([own 74 v0 p0]++V)
def oe (E:World) (V:List HP) (v0:Value) (p0: (List aI)) (r:Int) (U:Nat->Value) (w:World):Prop:=l5 bF 19 Tryz.f117 (kK E V v0 p0 r) .ret U w
theorem nI {p0: (List aI)} {p1:aI->Option Bool} (o:Holds E w (own 74 v0 p0::V)) (h1:GS bF E V v1 p1 (fun(r:Bool)=>Value.bool r)) (j:jv N p0 p1=some res):
    Calls bF 117 [v0,v1].toArray w (gI (kK E V v0 p0 res)):=by
 unfold jv at j
 refine enter Tryz.func117 zr zr (RC.sr (aK (vi 0) (RL.nq (RC.sr (mv v0 (RL.dY 0 p0 o oG (mv (vi 0) (RL.nt ?_))))))))
 obtain⟨ak,hN,j⟩:=bd j
 refine RC.range (fun(aa:Nat) (ab:Unit)=>SH E V [(0,v0),(1,v1),(7,vi p0.length),(8,vi aa)] [own 74 v0 p0]) (fun(ab:Unit)=>SH E V [(0,v0)] [own 74 v0 p0]) (oe E V v0 p0) hN ?_ ?_ ?_ ?_ ?_
 ·exact o.sp 1 [0]
 ·rintro hm ab _ w ⟨O,rfl,o⟩
  refine RC.sr (ic ((p0.length:Int)) ((p0.length:Int)) (RL.nq (RC.cN lS (RC.ex ?_))))
  exact⟨rfl,o.sp 1 [0]⟩
 ·rintro hm aa ab fl _ w hk ⟨O,rfl,o⟩ j
  refine RC.sr (ic ((aa:Int)) ((p0.length:Int)) (RL.nq (RC.cM (lR hk) (RC.ss (RC.bs (mv (vi aa) (aK (vi aa) (RL.ns ?_))))))))
  refine mv v1 (mv v0 (mv (vi aa) ?_))
  obtain⟨an,ad,j⟩:=bd j
  refine RL.bQ 0 o zr zr kH ad (RL.iX (f:=(fun x=>x)) 0 o (jG 0 o ad 0) (bB ad).2.1 Fd.self fK fun ao o=>?_)
  obtain⟨aq,ah,j⟩:=bd j
  refine RL.z6 0 zr o zr h1 2 zr zr zr ah fun w o=>(RL.nt (eQ j (fun hc j=>?_) fun hc j=>?_))
  rotate_left
  ·refine RC.skip (bK (aG (RC.region (RL.inc hk hm (mv (vi ((aa+1:Nat):Int)) (RL.nil ?_))))))
   obtain rfl:=oi j
   exact⟨rfl,o.sp 2 [1]⟩
  refine RC.sr (mv (vi aa) (aK (vi aa) (RL.nt (RC.rb (bS ?_)))))
  obtain rfl:=oi j
  exact⟨rfl,cL ⟨rfl,o.pk 2 [1]⟩⟩
 ·intro r U w e hK
  subst e
  refine bS ?_
  obtain rfl:=oi j
  exact hK
 rintro ab _ w rfl ⟨O,rfl,o⟩
 rw [Fo.gl] at j
 refine aG (RC.sr (aK (vi (-1)) (RL.nt (RC.ret ?_))))
 obtain rfl:=oi j
 exact cL ⟨rfl,o.pk 1 [0]⟩
theorem oI {p0: (List aI)} {p1:aI->Option Bool} {res: (List aI)} (j:Holds E w (own 74 v0 p0::V)) (h1:GS bF E V v1 p1 (fun(r:Bool)=>Value.bool r)) (o:gr N p0 p1=some res):
    Calls bF 104 [v0,v1].toArray w (gI (lj E V res)):=by
 unfold gr at o
 refine enter Tryz.func104 zr zr (RC.sr (aK (.slice none 0 0) (RL.ns (mv v0 (mv v1 ?_)))))
 have j:=j.pull 0
 obtain⟨ad,aj,o⟩:=bd o
 refine RL.call zt zr HU [v0,v1] zr (aF (nI N j (h1.lift 1 zr) aj) ?_)
 rintro _ w ⟨rfl,j⟩
 refine aK (vi ad) (RL.nq (RC.sr (mv (vi ad) (ic ad ((-1)) (RL.nt (eQ o (fun hc o=>?_) fun hc o=>?_))))))
 ·refine RC.sr (mv v0 (aK v0 (RL.nt (RC.rt ?_))))
  obtain rfl:=oi o
  exact cL (j.pk 2 [0])
 refine RC.ss (RC.sr (mv (vi ad) (RL.jA ad 1 (aK (vi (IntKind.wrap .i64 (ad+1))) (RL.nt ?_)))))
 obtain⟨ar,hN,o⟩:=bd o
 refine RC.iter (fun(aa: (List aI)×Int×Int)=>SH E V [(0,v0),(1,v1),(5,vi aa.2.1),(6,vi aa.2.2)] [own 74 v0 aa.1]) (fun(aa: (List aI)×Int×Int)=>SH E V [(0,v0),(5,vi aa.2.1)] [own 74 v0 aa.1]) (fun(r:Empty) _ _=>r.elim) hN ?_ ?_ ?_ ?_
 ·exact j.sp 2 [0]
 ·rintro aa fl _ w ⟨O,rfl,j⟩ o
  refine RC.seq (RC.sr (mv (vi aa.2.2) (mv v0 (RL.dY 0 aa.1 j oG (ic aa.2.2 ((aa.1.length:Int)) (RL.nt (eQ o (fun hc o=>?_) fun hc o=>?_)))))))
  rotate_left
  ·refine RC.ex ?_
   obtain rfl:=oi o
   exact⟨rfl,j.sp 1 [0]⟩
  refine RC.ss (RC.bs (mv v0 (mv (vi aa.2.2) ?_)))
  obtain⟨av,ag,o⟩:=bd o
  refine RL.bQ 0 j zr zr kH ag (RL.iX (f:=(fun x=>x)) 0 j (jG 0 j ag 0) (bB ag).2.1 Fd.self fK fun aw j=>?_)
  refine RL.alloc j mI.z fun ax w j=>?_
  refine RL.bA 0 j 1 zr fK fun w j=>?_
  refine RL.ns (mv v1 (RL.aP (f:=(fun x=>x)) 0 j zr Fd.self fK fun ay j=>?_))
  obtain⟨al,an,o⟩:=bd o
  refine RL.z6 0 zr j zr h1 4 zr zr zr an fun w j=>(RL.not al (RL.nt ?_))
  obtain⟨af,hj,o⟩:=bd o
  refine RC.jn (fun(af: (List aI)×Int)=>SH E V [(0,v0),(1,v1),(5,vi af.2),(6,vi aa.2.2)] [own 74 v0 af.1]) af ?_ ?_
  ·refine eQ hj (fun hc hj=>?_) fun hc hj=>?_
   rotate_left
   ·refine RC.skip ?_
    obtain rfl:=oi hj
    exact⟨rfl,j.sp 4 [3]⟩
   refine RC.sr (mv v0 (mv (vi aa.2.1) (RL.aP (f:=(fun x=>x)) 1 j zr Fd.self fK fun az j=>?_)))
   obtain⟨a0,ah,hj⟩:=bd hj
   refine RL.bQ 4 j zr zr kH ah (RL.gE (f:=(fun _ y=>y)) 4 0 j (jG 4 j ah 0) (bB ah).2.1 zr Fs.self fK fun w j=>?_)
   refine RL.nt (RC.region (mv (vi aa.2.1) (RL.jA aa.2.1 1 (aK (vi (IntKind.wrap .i64 (aa.2.1+1))) (RL.nil ?_)))))
   obtain rfl:=oi hj
   exact⟨rfl,j.sp 5 [4]⟩
  rintro _ w ⟨O,rfl,j⟩
  refine bK (aG (RC.region (mv (vi aa.2.2) (RL.jA aa.2.2 1 (aK (vi (IntKind.wrap .i64 (aa.2.2+1))) (RL.nil ?_))))))
  obtain rfl:=oi o
  exact⟨rfl,j.sp 1 [0]⟩
 ·intro r _ _ _ _
  exact r.elim
 rintro aa _ w rfl ⟨O,rfl,j⟩
 rw [Fo.gl] at o
 refine aG (RC.sr (mv v0 (mv (vi aa.2.1) ?_)))
 obtain⟨a1,ai,o⟩:=bd o
 refine RL.view 0 aa.2.1 zr j zr zr kH ai (RL.Be 0 zt j zr zr Ei Lw (Fe ai) fun w j=>(RL.ns (mv v0 (mv (vi aa.2.1) ?_))))
 obtain⟨a2,ao,o⟩:=bd o
 refine RL.z7 0 zr j zr zr kH (.inr ⟨rfl,zr⟩) ao fun aq j=>(aK aq (RL.nt (RC.ret ?_)))
 obtain rfl:=oi o
 exact cL (j.pk 1 [0])
theorem qP {p0 p1:aI} (j:Holds E w V) (h0:V[i0]? =some (rd v0 p0)) (h1:V[i1]? =some (rd v1 p1)) (o:fU N p0 p1=some res):
    Calls bF 130 [v0,v1].toArray w (gI (aQ E V res)):=by
 unfold fU at o
 refine enter Tryz.func130 zr zr ?_
 have j:=(j.dup (i0+0) h0).dup (i1+1) h1
 refine RC.sr (RL.dB 1 v0 j zr fun aa w j=>?_)
 refine RL.dB 1 v1 j zr fun ab w j=>?_
 refine aK (vi 0) (RL.ns (RL.aZ zr jy (RL.aM 1 j zr eW cQ (RL.aZ zr jy (RL.aM 0 j zr eW cQ (RL.jA p0.X0 p1.X0 (aK (vi (IntKind.wrap .i64 (p0.X0 - p1.X0))) (RL.nt ?_))))))))
 refine RC.ret ?_
 obtain rfl:=oi o
 exact cL ⟨rfl,j.drop 4⟩
def uL (E:World) (V:List HP) (v0:Value) (res: (List Int)×(List aI)) (v:Value) (w:World):Prop:=Holds E w ([own 3 v res.1,own 74 v0 res.2]++V)
theorem tx {p0: (List aI)} {res: (List Int)×(List aI)} (j:Holds E w (own 74 v0 p0::V)) (hb:il N p0=some res):
    Calls bF 107 [v0].toArray w (gI (uL E V v0 res)):=by
 unfold il at hb
 refine enter Tryz.func107 zr zr (RC.sr (aK (.slice none 0 0) (RL.ns (mv v0 ?_))))
 obtain⟨af,a1,hb⟩:=bd hb
 have j:=j.pull 0
 refine RL.call zt zr HT [v0,(.func (.func 130) #[] #[])] zr (aF (DI Tryz.lay100 aI zr fK.GR fK.sz JC (fun j hi o hr=>qP N j hi o hr) j a1) ?_)
 rintro _ w ⟨rfl,j⟩
 refine RL.ns (aK (.slice none 0 0) (RL.nq (RC.sr (mv v0 (RL.dY 0 af j oG (mv (vi 0) (RL.nt ?_)))))))
 have j:=j.cH Int 3
 obtain⟨aa,hN,hb⟩:=bd hb
 refine RC.fold (fun(ah:Nat) (aa: (List Int)) U w=>∃av:Value,SH E V [(0,v0),(3,av),(9,v0),(10,vi af.length),(11,vi ah)] [own 74 v0 af,own 3 av aa] U w) (fun(aa: (List Int)) U w=>∃ai:Value,SH E V [(0,v0),(3,ai)] [own 74 v0 af,own 3 ai aa] U w) hN ?_ ?_ ?_ ?_
 ·exact⟨(.slice none 0 0),j.sp 3 [1,0]⟩
 ·rintro hm aa _ w ⟨a3,O,rfl,j⟩
  refine RC.sr (ic ((af.length:Int)) ((af.length:Int)) (RL.nq (RC.cN lS (RC.ex ?_))))
  exact⟨rfl,a3,j.sp 2 [0,1]⟩
 ·rintro hm ah aa s' _ w hk ⟨ag,O,rfl,j⟩ hb
  refine RC.sr (ic ((ah:Int)) ((af.length:Int)) (RL.nq (RC.cM (lR hk) (RC.ss (RC.bs ?_)))))
  obtain⟨ae,ak,hb⟩:=bd hb
  refine RL.bQ 0 j zr zr kH ak (RL.iX (f:=(fun x=>x)) 0 j (jG 0 j ak 0) (bB ak).2.1 Fd.self fK fun a6 j=>?_)
  refine RL.alloc j mI.z fun ay w j=>?_
  refine RL.bA 0 j 1 zr fK fun w j=>?_
  refine RL.ns (mv ag (RL.dY 3 aa j lM (RL.jA (aa.length:Int) 1 (aK (vi (IntKind.wrap .i64 ((aa.length:Int) - 1))) (RL.nq ?_)))))
  obtain⟨al,o,hb⟩:=bd hb
  refine RC.jn (fun(al:Bool)=>SH E V [(0,v0),(3,ag),(5,vp ay 0),(6,(vi (IntKind.wrap .i64 ((aa.length:Int) - 1)))),(9,v0),(10,vi af.length),(11,vi ah),(28,vb al)] [own 74 v0 af,own 3 ag aa,bx 74 ay ae]) al ?_ ?_
  ·refine RC.xv mixed ?_
   have j:=j.drew
   refine RO.go (mv (vi (IntKind.wrap .i64 ((aa.length:Int) - 1))) (RO.nx (ic ((IntKind.wrap .i64 ((aa.length:Int) - 1))) 0 (RO.nx (mv (vb (decide ((IntKind.wrap .i64 ((aa.length:Int) - 1))>=0))) (fM o (fun ab o=>?_) fun ab o=>?_))))))
   rotate_left
   ·refine RO.nx (bO ab (RO.nx (bO ab (RO.nx (bO ab (RO.nx (bO ab (RO.nx ?_))))))))
    refine bO ab (RO.nx (bO ab (RO.nx (bO ab (RO.nx (fJ ab (vb false) (RO.last ?_)))))))
    obtain rfl:=oi o
    exact⟨rfl,j.sp 4 [2,3,0]⟩
   refine RO.nx (RL.aZ (hg:=(cg ab)) zr jy (RO.nx (RL.aM (hg:=(cg ab)) 0 j zr eW cQ (RO.nx (RL.move ag (cg ab) (RO.nx (RL.move (vi (IntKind.wrap .i64 ((aa.length:Int) - 1))) (cg ab) (RO.nx ?_))))))))
   obtain⟨az,an,o⟩:=bd o
   refine RL.bQ (hg:=(cg ab)) 3 j zr zr eJ an (RO.nx (RL.dL (hg:=(cg ab)) (f:=(fun x=>x)) 3 j (jG 3 j an 0) (bB an).2.1 Fd.self cQ (RO.nx (RL.i7 ae.X0 az (cg ab) (RO.nx (fJ ab (vb (decide (ae.X0<=az))) (RO.last ?_)))))))
   obtain rfl:=oi o
   exact⟨rfl,j.sp 4 [2,3,0]⟩
  rintro _ w ⟨O,rfl,j⟩
  refine aG ?_
  obtain⟨ao,o,hb⟩:=bd hb
  refine RC.jn (fun(ao: (List Int)) U w=>∃aj:Value,SH E V [(0,v0),(3,aj),(9,v0),(10,vi af.length),(11,vi ah)] [own 74 v0 af,own 3 aj ao] U w) ao ?_ ?_
  ·refine eQ o (fun hc o=>?_) fun hc o=>?_
   rotate_left
   ·refine RC.region (mv ag (RL.aZ zr jy (RL.aM 2 j zr eW cQ (RL.aZ zr kI (RL.aM 2 j zr gz cQ ?_)))))
    have j:=(j.sc Int ae.X0).sc Int ae.X1
    refine RL.dS ([ae.X0,ae.X1]: (List Int)) j [(vi ae.X0),(vi ae.X1)] eJ EY (fun M hs g=>⟨(g.sat 1 _ zr).1,⟨(g.sat 0 _ zr).1,zt⟩⟩) fun a7 w j=>?_
    have j:=j.freeze 0
    obtain⟨a8,a5,o⟩:=bd o
    refine RL.app 4 0 j uz a5 fun a0 w j=>?_
    refine aK a0 (RL.nil ?_)
    obtain rfl:=oi o
    exact⟨rfl,a0,j.sp 6 [3,4]⟩
   refine RC.yC mixed [0,0,0,0,0,0,0,0,0,0,2] [0,1,2,3,4,5,6,7,8,9,10] ?_
   have j:=j.drew
   refine DP.e0 zr (mv ag (cB zr (mv (vi (IntKind.wrap .i64 ((aa.length:Int) - 1))) (cB zr (mv ag (cB zr (mv (vi (IntKind.wrap .i64 ((aa.length:Int) - 1))) (cB zr ?_))))))))
   obtain⟨aq,ar,o⟩:=bd o
   refine RL.bQ 1 j zr zr eJ ar (cB zr (RL.dL (f:=(fun x=>x)) 1 j (jG 1 j ar 0) (bB ar).2.1 Fd.self cQ (cB zr (RL.aZ zr kI (cB zr (RL.aM 2 j zr gz cQ (cB zr (RL.max aq ae.X1 ?_))))))))
   refine cB zr ?_
   obtain⟨a9,au,o⟩:=bd o
   refine RL.bQ 1 j zr zr eJ au (um zr ?_)
   have j:=j.sc Int (if aq<ae.X1 then ae.X1 else aq)
   refine RL.gE (f:=(fun _ y=>y)) 2 0 j (jG 2 j au 0) (bB au).2.1 zr Fs.self cQ fun w j=>?_
   refine DP.d2 zt (DP.z ?_)
   obtain rfl:=oi o
   exact⟨rfl,ag,j.sp 4 [1,2]⟩
  rintro _ w ⟨aj,O,rfl,j⟩
  refine bK (aG (RC.region (RL.inc hk hm (mv (vi ((ah+1:Nat):Int)) (RL.nil ?_)))))
  obtain rfl:=oi hb
  exact⟨rfl,aj,j.sp 2 [0,1]⟩
 rintro _ w ⟨ai,O,rfl,j⟩
 refine aG (RC.sr (mv ai (aK ai (RL.nt (RC.ret ?_)))))
 obtain rfl:=oi hb
 exact cL (j.pk 2 [1,0])
def tz (E:World) (V:List HP) (r:Bool) (U:Nat->Value) (w:World):Prop:=l5 bF 26 Tryz.f129 (bE E V r) .ret U w
theorem sM {p0: (List Int)} {p1: (List Int)} {res:Bool} (j:Holds E w V) (h0:V[i0]? =some (rd v0 p0)) (h1:V[i1]? =some (rd v1 p1)) (o:kU N p0 p1=some res):
    Calls bF 129 [v0,v1].toArray w (gI (bE E V res)):=by
 unfold kU at o
 refine enter Tryz.func129 zr zr ?_
 have j:=(j.dup (i0+0) h0).dup (i1+1) h1
 refine RC.sr (aK (vb false) (RL.nq (RC.sr (mv v0 (RL.bD 1 p0 j lM (mv v1 (RL.bD 0 p1 j lM (ic ((p0.length:Int)) ((p1.length:Int)) ?_))))))))
 refine RL.nt (eQ o (fun hc o=>?_) fun hc o=>?_)
 ·refine RC.sr (aK (vb false) (RL.nt (RC.rt ?_)))
  obtain rfl:=oi o
  exact cL ⟨rfl,j.drop 2⟩
 refine RC.ss (RC.sr (mv v0 (RL.bD 1 p0 j lM (mv (vi 0) (RL.nt ?_)))))
 obtain⟨an,hN,o⟩:=bd o
 refine RC.range (fun(aa:Nat) (ab:Unit)=>SH E V [(0,v0),(1,v1),(12,vi p0.length),(13,vi aa)] [rd v0 p0,rd v1 p1]) (fun(ab:Unit)=>SH E V [] [rd v0 p0,rd v1 p1]) (tz E V) hN ?_ ?_ ?_ ?_ ?_
 ·exact j.sp 2 [1,0]
 ·rintro hm ab _ w ⟨O,rfl,j⟩
  refine RC.sr (ic ((p0.length:Int)) ((p0.length:Int)) (RL.nq (RC.cN lS (RC.ex ?_))))
  exact⟨rfl,j.sp 2 [0,1]⟩
 ·rintro hm aa ab fl _ w hk ⟨O,rfl,j⟩ o
  refine RC.sr (ic ((aa:Int)) ((p0.length:Int)) (RL.nq (RC.cM (lR hk) (RC.ss (RC.bs (mv (vi aa) (aK (vi aa) (RL.nq ?_))))))))
  refine RC.xv mixed ?_
  have j:=j.drew
  refine RO.go (mv v0 (RO.nx (mv (vi aa) (RO.nx ?_))))
  obtain⟨ag,aj,o⟩:=bd o
  refine RL.cC 0 j eJ aj fun aq j=>(RO.nx (RL.bI ag 0 j cQ (RO.nx (mv v1 (RO.nx (mv (vi aa) (RO.nx ?_)))))))
  obtain⟨ah,ak,o⟩:=bd o
  refine RL.cC 2 j eJ ak fun ar j=>(RO.nx (RL.bI ah 0 j cQ (RO.nx (ic ag ah (RO.last (aG (eQ o (fun hc o=>?_) fun hc o=>?_)))))))
  rotate_left
  ·refine RC.skip (bK (aG (RC.region (RL.inc hk hm (mv (vi ((aa+1:Nat):Int)) (RL.nil ?_))))))
   obtain rfl:=oi o
   exact⟨rfl,j.sp 4 [2,3]⟩
  refine RC.sr (aK (vb false) (RL.nt (RC.rb (bS ?_))))
  obtain rfl:=oi o
  exact⟨rfl,cL ⟨rfl,j.drop 4⟩⟩
 ·intro r U w e hK
  subst e
  refine bS ?_
  obtain rfl:=oi o
  exact hK
 rintro ab _ w rfl ⟨O,rfl,j⟩
 rw [Fo.gl] at o
 refine aG (RC.sr (aK (vb true) (RL.nt (RC.ret ?_))))
 obtain rfl:=oi o
 exact cL ⟨rfl,j.drop 2⟩
theorem oV {p0: (List aA)} {p1:aA} {res: (List aA)} (j:Holds E w (own 187 v0 p0::V)) (h1:V[i1]? =some (rd v1 p1)) (hb:gX N p0 p1=some res):
    Calls bF 106 [v0,v1].toArray w (gI (kZ E V res)):=by
 unfold gX at hb
 refine enter Tryz.func106 zr zr ?_
 have j:=j.dup (i1+1) h1
 refine RC.sr (RL.dB 0 v1 j zr fun ae w j=>?_)
 refine aK (.slice none 0 0) (RL.nq (RC.sr (RL.aZ zr ko (RL.aP 0 j zr dG fH fun aw j=>(RL.bD 0 p1.Xs j lM (ic ((p1.Xs.length:Int)) 0 (mv (vb ((p1.Xs.length:Int)==0)) (RL.gs true ((p1.Xs.length:Int)==0) (vp ae 1) zr zr zr (dN lH) ?_))))))))
 refine RL.gs true ((p1.Xs.length:Int)==0) (vi p1.Y1) rfl rfl rfl (bZ 1 rfl j (fun h=>by exact(cV h:cv (true&&(((p1.Xs.length:Int)==0)==false)) (vp ae 1)= (vp ae 1))) rfl eN cQ) (RL.gs true ((p1.Xs.length:Int)==0) (vp ae 0) rfl rfl rfl (dN nG) (RL.gs true ((p1.Xs.length:Int)==0) (vi p1.Y0) rfl rfl rfl (bZ 1 rfl j (fun h=>by exact(cV h:cv (true&&(((p1.Xs.length:Int)==0)==false)) (vp ae 0)= (vp ae 0))) rfl fS cQ) (RL.gs true ((p1.Xs.length:Int)==0) (vb (decide (p1.Y1<=p1.Y0))) rfl rfl rfl (eE .leq .i64 p1.Y1 p1.Y0 rfl (fun h=>by exact(cV h:cv (true&&(((p1.Xs.length:Int)==0)==false)) (vi p1.Y1)= (vi p1.Y1))) (fun h=>by exact(cV h:cv (true&&(((p1.Xs.length:Int)==0)==false)) (vi p1.Y0)= (vi p1.Y0))) rfl) (RL.pick ((p1.Xs.length:Int)==0) (vb (((p1.Xs.length:Int)==0)||(decide (p1.Y1<=p1.Y0)))) (nS true rfl) (RL.nt (eQ hb (fun hc hb=>?_) fun hc hb=>?_))))))
 ·refine RC.sr (mv v0 (aK v0 (RL.nt (RC.rt ?_))))
  obtain rfl:=oi hb
  exact cL (j.pk 4 [3])
 refine RC.ss (RC.sr (mv v0 (RL.dY 3 p0 j nv (RL.jA (p0.length:Int) 1 (aK (vi (IntKind.wrap .i64 ((p0.length:Int) - 1))) (RL.nq ?_))))))
 obtain⟨aj,hj,hb⟩:=bd hb
 refine RC.jn (fun(aj:Bool)=>SH E V [(0,v0),(3,vp ae 0),(5,(vi (IntKind.wrap .i64 ((p0.length:Int) - 1)))),(42,vb aj)] [own 187 v0 p0,bx 187 ae p1]) aj ?_ ?_
 ·refine RC.yC mixed [0,0,0,0,0,0,0,0,0,0,0,0,0,0,0,0,0,0,0,0,2,0] [0,1,2,3,4,5,6,7,8,9,10,11,12,13,14,15,16,17,18,19,20,21] ?_
  have j:=j.drew
  refine DP.e0 zr (mv (vi (IntKind.wrap .i64 ((p0.length:Int) - 1))) (cB zr (ic ((IntKind.wrap .i64 ((p0.length:Int) - 1))) 0 (cB zr (mv (vb (decide ((IntKind.wrap .i64 ((p0.length:Int) - 1))>=0))) (DP.d0 (fM hj (fun o hj=>?_) fun o hj=>?_)))))))
  rotate_left
  ·refine DP.e0 zr (bO o (cB zr (bO o (cB zr (bO o (cB zr (bO o (cB zr ?_))))))))
   refine bO o (cB zr (bO o (cB zr (bO o (cB zr (bO o (cB zr (fJ o (vb false) ?_))))))))
   refine cB zr (mv (vb false) (cB zr (oT (cB zr (oT (cB zr (oT (cB zr ?_))))))))
   refine oT (cB zr (oT (cB zr (oT (cB zr (oT (um zr (oT ?_))))))))
   refine yD zr (RL.pick false (vb false) zr (DP.d0 (DP.z ?_)))
   obtain rfl:=oi hj
   exact⟨rfl,j.sp 4 [3,1]⟩
  refine DP.e0 zr (RL.move v0 (cg o) (cB zr (RL.move (vi (IntKind.wrap .i64 ((p0.length:Int) - 1))) (cg o) (cB zr ?_))))
  obtain⟨ak,af,hj⟩:=bd hj
  refine RL.bQ (hg:=(cg o)) 3 j zr zr ka af (cB zr (RL.m8 (hg:=(cg o)) (α:=aA) (jG 3 j af 0) lH (cB zr (RL.dL (hg:=(cg o)) 3 j (jG 3 j af 1) (bB af).2.1 eN cQ (cB zr (RL.aZ (hg:=(cg o)) zr nG (cB zr (RL.aM (hg:=(cg o)) 1 j zr fS cQ ?_))))))))
  refine cB zr (RL.i7 ak.Y1 p1.Y0 (cg o) (cB zr (fJ o (vb (ak.Y1==p1.Y0)) (cB zr (mv (vb (ak.Y1==p1.Y0)) (DP.d0 (fM hj (fun aa hj=>?_) fun aa hj=>?_)))))))
  rotate_left
  ·refine DP.e0 zr (bO aa (cB zr (bO aa (cB zr (bO aa (cB zr (bO aa (cB zr ?_))))))))
   refine bO aa (cB zr (bO aa (cB zr (bO aa (um zr (bO aa (yD zr (fJ aa (vb false) ?_))))))))
   refine DP.d0 (DP.z ?_)
   obtain rfl:=oi hj
   exact⟨rfl,j.sp 4 [3,1]⟩
  refine DP.e0 zr (RL.move v0 (cg aa) (cB zr (RL.move (vi (IntKind.wrap .i64 ((p0.length:Int) - 1))) (cg aa) (cB zr ?_))))
  obtain⟨ax,ag,hj⟩:=bd hj
  refine RL.bQ (hg:=(cg aa)) 3 j zr zr ka ag (cB zr (RL.m8 (hg:=(cg aa)) (α:=aA) (jG 3 j ag 0) ko (cB zr (RL.iX (hg:=(cg aa)) 3 j (jG 3 j ag 2) (bB ag).2.1 dG fH fun al j=>?_))))
  refine cB zr (RL.aZ (hg:=(cg aa)) zr ko (cB zr (RL.aP (hg:=(cg aa)) 2 j zr dG fH fun an j=>(um zr ?_))))
  obtain⟨ao,aq,hj⟩:=bd hj
  refine RL.call (cg aa) zr JE [al,an] zr (aF (sM N (i0:=1) (i1:=0) j zr zr aq) ?_)
  rintro _ w ⟨rfl,j⟩
  refine yD zr (fJ aa (vb ao) (DP.d0 (DP.z ?_)))
  obtain rfl:=oi hj
  exact⟨rfl,j.sp 6 [5,3]⟩
 rintro _ w ⟨O,rfl,j⟩
 refine aG (eQ hb (fun hc hb=>?_) fun hc hb=>?_)
 rotate_left
 ·refine RC.sx (mv v0 (RL.aP (f:=(fun x=>x)) 1 j zr Fd.self uA fun ar j=>(RL.dS ([p1]: (List aA)) j [ar] ka BG (fun M hs g=>⟨(g.sat 0 _ zr).1,zt⟩) fun ay w j=>?_)))
  have j:=j.freeze 0
  obtain⟨az,au,hb⟩:=bd hb
  refine RL.app 2 0 j JF au fun av w j=>?_
  refine aK av (RL.nt (RC.ret ?_))
  obtain rfl:=oi hb
  exact cL (j.pk 4 [2])
 refine RC.sr (mv v0 (mv (vi (IntKind.wrap .i64 ((p0.length:Int) - 1))) (RL.aZ zr lH (RL.aM 1 j zr eN cQ ?_))))
 obtain⟨a0,ah,hb⟩:=bd hb
 refine RL.bQ 0 j zr zr ka ah (RL.m8 (α:=aA) (jG 0 j ah 0) lH ?_)
 have j:=j.sc Int p1.Y1
 refine RL.gE 1 0 j (jG 1 j ah 1) (bB ah).2.1 zr nc cQ fun w j=>?_
 refine RL.ns (mv v0 (aK v0 (RL.nt (RC.rt ?_))))
 obtain rfl:=oi hb
 exact cL (j.pk 3 [1])
theorem kL {p0: (List aI)} {res: (List aA)} (o:Holds E w V) (h0:V[i0]? =some (rd v0 p0)) (hb:fY N p0=some res):
    Calls bF 70 [v0].toArray w (gI (kZ E V res)):=by
 unfold fY at hb
 refine enter Tryz.func70 zr zr ?_
 have o:=o.dup (i0+0) h0
 refine RC.sr (aK (.slice none 0 0) (RL.ns (mv v0 ?_)))
 obtain⟨cf,bn,hb⟩:=bd hb
 refine RL.call zt zr Lv [v0] zr (aF (rp N (i0:=0) o zr bn) ?_)
 rintro ae w o
 refine aK ae (RL.ns (mv ae ?_))
 obtain⟨ah,bo,hb⟩:=bd hb
 have o:=o.pull 0
 refine RL.call zt zr HT [ae,(.func (.func 101) #[] #[])] zr (aF (DI Tryz.lay100 aI zr fK.GR fK.sz Jw (fun o hi hj hr=>uJ N o hi hj hr) o bo) ?_)
 rintro _ w ⟨rfl,o⟩
 refine RL.ns (RL.pw o Jx fun ag w o=>?_)
 refine RL.nq (RC.sr (mv ae (RL.dY 1 ah o oG (mv (vi 0) (RL.nt ?_)))))
 obtain⟨ao,hN,hb⟩:=bd hb
 refine RC.fold (fun(aw:Nat) (ao: (List Int)) U w=>∃a6:Value,SH E V [(0,ae),(3,vp ag 0),(14,ae),(15,vi ah.length),(16,vi aw)] [own 74 ae ah,bc 87 ag [a6],own 3 a6 ao] U w) (fun(ao: (List Int)) U w=>∃an:Value,SH E V [(0,ae),(3,vp ag 0)] [own 74 ae ah,bc 87 ag [an],own 3 an ao] U w) hN ?_ ?_ ?_ ?_
 ·have o:=o.cH Int 3
  exact⟨(.slice none 0 0),o.sp 5 [2,1,0]⟩
 ·rintro hm ao _ w ⟨bp,O,rfl,o⟩
  refine RC.sr (ic ((ah.length:Int)) ((ah.length:Int)) (RL.nq (RC.cN lS (RC.ex ?_))))
  exact⟨rfl,bp,o.sp 3 [0,1,2]⟩
 ·rintro hm aw ao s' _ w hk ⟨bq,O,rfl,o⟩ hb
  refine RC.sr (ic ((aw:Int)) ((ah.length:Int)) (RL.nq (RC.cM (lR hk) (RC.ss (RC.bs ?_)))))
  obtain⟨aq,a1,hb⟩:=bd hb
  refine RL.bQ 0 o zr zr kH a1 (RL.iX (f:=(fun x=>x)) 0 o (jG 0 o a1 0) (bB a1).2.1 Fd.self fK fun ch o=>?_)
  refine RL.alloc o mI.z fun cj w o=>?_
  refine RL.bA 0 o 1 zr fK fun w o=>?_
  refine RL.nt (RC.region (RL.aY 3 bq o fH (RL.aZ zr jX (RL.aM 0 o zr fC cQ (RL.aZ zr n7 (RL.aM 0 o zr jN cQ ?_))))))
  have o:=(o.sc Int aq.Y0).sc Int aq.Y1
  refine RL.dS ([aq.Y0,aq.Y1]: (List Int)) o [(vi aq.Y0),(vi aq.Y1)] eJ EY (fun M hs g=>⟨(g.sat 1 _ zr).1,⟨(g.sat 0 _ zr).1,zt⟩⟩) fun ck w o=>?_
  have o:=o.freeze 0
  obtain⟨cl,br,hb⟩:=bd hb
  refine RL.app 7 0 o uz br fun a9 w o=>?_
  refine RL.gV 6 a9 o zr zr (iB 7 o) fH fun w o=>?_
  refine RL.nil (bK (aG (RC.region (RL.inc hk hm (mv (vi ((aw+1:Nat):Int)) (RL.nil ?_))))))
  obtain rfl:=oi hb
  exact⟨rfl,a9,o.sp 8 [5,6,7]⟩
 rintro _ w ⟨an,O,rfl,o⟩
 refine aG (RC.sr (RL.aY 1 an o fH ?_))
 obtain⟨cm,bt,hb⟩:=bd hb
 have o:=o.pull 2
 refine RL.call zt zr Jy [an] zr (aF (F9 Tryz.lay102 o bt) ?_)
 rintro _ w ⟨rfl,o⟩
 refine RL.ns (RL.aY 2 an o fH ?_)
 have o:=o.pull 0
 obtain⟨ai,bu,hb⟩:=bd hb
 refine RL.call zt zr Jz [an] zr (aF (qO N o bu) ?_)
 rintro bw w o
 refine RL.gV 3 bw o zr zr (iB 0 o) fH fun w o=>?_
 refine RL.ns (aK (.slice none 0 0) (RL.ns (aK (.slice none 0 0) (RL.ns (aK (vi 0) (RL.nq (RC.sr (RL.alloc o EY.z fun bz w o=>?_))))))))
 have o:=o.sc Int 0
 refine RL.bA 1 o 0 zr cQ fun w o=>?_
 refine RL.nt ?_
 have o:=((((o.freeze 2).E9 (i:=5) (x:=ai) rfl (fun M hs g=>(lh (g.sat 2 _ rfl).1))).gJ (i:=5) rfl).cH aA 187).cH aI 74
 obtain⟨cn,hN,hb⟩:=bd hb
 refine RC.iter (fun(ab: (List aA)×(List aI)×Int×Int) U w=>∃(ba bb:Value) (bf:Nat),SH E V [(0,ae),(3,vp ag 0),(6,ba),(7,bb),(8,vi ab.2.2.1),(9,vp bf 0)] [own 74 ae ah,pt (vp ag 0) ai,own 187 ba ab.1,own 74 bb ab.2.1,bx 3 bf ab.2.2.2] U w) (fun(ab: (List aA)×(List aI)×Int×Int) U w=>∃av:Value,SH E V [(6,av)] [own 74 ae ah,pt (vp ag 0) ai,own 187 av ab.1] U w) (fun(r:Empty) _ _=>r.elim) hN ?_ ?_ ?_ ?_
 ·exact⟨(.slice none 0 0),(.slice none 0 0),bz,o.sp 9 [6,7,1,0,3]⟩
 ·rintro ab fl _ w ⟨ak,bg,al,O,rfl,o⟩ hb
  refine RC.seq (RC.sr (RL.aM (f:=(fun x=>x)) 4 o zr Fd.self cQ (RL.jA ab.2.2.2 1 (RL.bV 1 ai o fH fun cp o=>(RL.bD 0 ai o lM (ic ((IntKind.wrap .i64 (ab.2.2.2+1))) ((ai.length:Int)) (RL.nt (eQ hb (fun hc hb=>?_) fun hc hb=>?_))))))))
  rotate_left
  ·refine RC.ex ?_
   obtain rfl:=oi hb
   exact⟨rfl,ak,o.sp 6 [1,2,3]⟩
  refine RC.ss (RC.bs (mv bg ?_))
  have o:=o.gJ (i:=5) rfl
  refine RL.makeFunc [(vp ag 0),(vp al 0)] ?_
  have o:=o.pull 4
  obtain⟨cq,b1,hb⟩:=bd hb
  refine RL.call trivial rfl JB [bg,(.func (.func 105) #[] #[(vp ag 0),(vp al 0)])] rfl (aF (oI N o ⟨105,[(vp ag 0),(vp al 0)],rfl,JA,fun w Γl v y0 r i o hi hr=>by exact aF (uK N (i0:=i) (i1:=Γl.length+2) (i2:=Γl.length+5) o hi (z5 rfl) (z5 rfl) hr) fun _ _ h=>h⟩ b1) ?_)
  rintro bh w o
  refine aK bh (RL.nq ?_)
  obtain⟨cr,hN,hb⟩:=bd hb
  refine RC.iter (fun(af: (List aI)×Int) U w=>∃bj:Value,SH E V [(0,ae),(3,vp ag 0),(6,ak),(7,bj),(8,vi af.2),(9,vp al 0)] [own 74 ae ah,pt (vp ag 0) ai,own 187 ak ab.1,pt (vp al 0) ab.2.2.2,own 74 bj af.1] U w) (fun(af: (List aI)×Int) U w=>∃ar:Value,SH E V [(0,ae),(3,vp ag 0),(6,ak),(7,ar),(8,vi af.2),(9,vp al 0)] [own 74 ae ah,pt (vp ag 0) ai,own 187 ak ab.1,pt (vp al 0) ab.2.2.2,own 74 ar af.1] U w) (fun(r:Empty) _ _=>r.elim) hN ?_ ?_ ?_ ?_
  ·exact⟨bh,o.sp 7 [2,3,4,6,0]⟩
  ·rintro af fl _ w ⟨ax,O,rfl,o⟩ hb
   refine RC.seq (RC.seq ?_)
   obtain⟨a3,hj,hb⟩:=bd hb
   refine RC.jn (fun(a3:Bool)=>SH E V [(0,ae),(3,vp ag 0),(6,ak),(7,ax),(8,vi af.2),(9,vp al 0),(57,vb a3)] [own 74 ae ah,pt (vp ag 0) ai,own 187 ak ab.1,own 74 ax af.1,pt (vp al 0) ab.2.2.2]) a3 ?_ ?_
   ·refine RC.xv mixed ?_
    have o:=o.drew
    refine RO.go (mv (vi af.2) (RO.nx (mv ae (RO.nx (RL.dY 0 ah o oG (RO.nx (ic af.2 ((ah.length:Int)) (RO.nx ?_))))))))
    refine mv (vb (decide (af.2< (ah.length:Int)))) (fM hj (fun ad hj=>?_) fun ad hj=>?_)
    rotate_left
    ·refine RO.nx (bO ad (RO.nx (bO ad (RO.nx (bO ad (RO.nx (bO ad (RO.nx ?_))))))))
     refine bO ad (RO.nx (bO ad (RO.nx (bO ad (RO.nx (bO ad (RO.nx (bO ad ?_))))))))
     refine RO.nx (bO ad (RO.nx (fJ ad (vb false) (RO.last ?_))))
     obtain rfl:=oi hj
     exact⟨rfl,o.sp 5 [0,1,2,4,3]⟩
    refine RO.nx (RL.move ae (cg ad) (RO.nx (RL.move (vi af.2) (cg ad) (RO.nx ?_))))
    obtain⟨bk,ay,hj⟩:=bd hj
    refine RL.bQ (hg:=(cg ad)) 0 o zr zr kH ay (RO.nx (RL.m8 (hg:=(cg ad)) (α:=aI) (jG 0 o ay 0) jX (RO.nx (RL.dL (hg:=(cg ad)) 0 o (jG 0 o ay 1) (bB ay).2.1 fC cQ (RO.nx (RL.bV (hg:=(cg ad)) 1 ai o fH fun ct o=>?_))))))
    refine RO.nx (RL.bI (hg:=(cg ad)) ab.2.2.2 4 o cQ (RO.nx ?_))
    obtain⟨a4,b2,hj⟩:=bd hj
    refine RL.cC (hg:=(cg ad)) 0 o eJ b2 fun cu o=>(RO.nx (RL.bI (hg:=(cg ad)) a4 0 o cQ (RO.nx (RL.i7 bk.Y0 a4 (cg ad) (RO.nx (fJ ad (vb (decide (bk.Y0<=a4))) (RO.last ?_)))))))
    obtain rfl:=oi hj
    exact⟨rfl,o.sp 7 [2,3,4,6,5]⟩
   rintro _ w ⟨O,rfl,o⟩
   refine aG (eQ hb (fun hc hb=>?_) fun hc hb=>?_)
   rotate_left
   ·refine RC.ex ?_
    obtain rfl:=oi hb
    exact⟨rfl,ax,o.sp 5 [0,1,2,4,3]⟩
   refine RC.sn (RC.block (RC.region (mv ax (mv ae (mv (vi af.2) ?_)))))
   obtain⟨b3,a5,hb⟩:=bd hb
   refine RL.bQ 0 o zr zr kH a5 (RL.iX (f:=(fun x=>x)) 0 o (jG 0 o a5 0) (bB a5).2.1 Fd.self fK fun b4 o=>?_)
   refine RL.dS ([b3]: (List aI)) o [b4] kH mI (fun M hs g=>⟨(g.sat 0 _ zr).1,zt⟩) fun cv w o=>?_
   have o:=o.freeze 0
   obtain⟨cw,b5,hb⟩:=bd hb
   refine RL.app 5 0 o Ei b5 fun bl w o=>?_
   refine mv (vi af.2) (RL.jA af.2 1 (aK bl (aK (vi (IntKind.wrap .i64 (af.2+1))) (RL.nil (bK ?_)))))
   obtain rfl:=oi hb
   exact⟨rfl,bl,o.sp 7 [2,3,4,6,5]⟩
  ·intro r _ _ _ _
   exact r.elim
  rintro af _ w rfl ⟨ar,O,rfl,o⟩
  rw [Fo.gl] at hb
  refine aG (RC.yC mixed [1,1,1,1,1,1,1,1,1,1,0,2,0,2,0] [0,1,2,3,4,5,6,7,8,9,10,11,12,13,14] ?_)
  have o:=o.drew
  refine DP.e1 ak zr (fun w=>RL.move ak zt DP.d1) (DP.wJ ai 1 zr o fH fun cx a305 cy o=>(DP.Dv ab.2.2.2 5 zr zr zr o zr zr cQ fun a307 cz o=>?_))
  obtain⟨az,b6,hb⟩:=bd hb
  refine DP.IH 2 zr zr zt zr o zr zr zr eJ b6 fun c0 o=>(DP.Dv az 0 zr zr zr o zr zr cQ fun a311 c1 o=>(DP.wJ ai 6 zr o fH fun c2 a314 c3 o=>(DP.Dv ab.2.2.2 10 zr zr zr o zr zr cQ fun a316 c4 o=>(DP.e1 (vi (IntKind.wrap .i64 (ab.2.2.2+1))) zr (fun w=>RL.jA ab.2.2.2 1 DP.d1) ?_))))
  obtain⟨a0,b7,hb⟩:=bd hb
  refine DP.IH 2 zr zr zt zr o zr zr zr eJ b7 fun c5 o=>(DP.Dv a0 0 zr zr zr o zr zr cQ fun a320 c6 o=>(DP.e0 zr (mv ar (um zr ?_))))
  have o:=o.pull 14
  obtain⟨b8,b9,hb⟩:=bd hb
  refine RL.call zt zr JD [ar] zr (aF (tx N o b9) ?_)
  rintro ca w o
  refine DP.d2 (⟨⟨⟨⟨⟨⟨zt,o.j9 10⟩,o.j9 9⟩,o.j9 7⟩,o.j9 5⟩,o.j9 4⟩,o.j9 2⟩) (DP.e0 zr ?_)
  have o:=((o.sc Int az).sc Int a0).freeze 2
  refine RL.build (⟨az,a0,b8.1⟩:aA) trivial rfl o [(0,vi az),(1,vi a0),(2,ca)] rfl HV rfl (fun M hs g=>by have h:=uy M;exact cO.cons (f:=fun(x:aA) y=>{x with Y0:=y}) h qG (g.sat 1 _ rfl).1 fun _ h=>cO.cons (f:=fun(x:aA) y=>{x with Y1:=y}) h nc (g.sat 0 _ rfl).1 fun _ h=>cO.cons (f:=fun(x:aA) y=>{x with Xs:=y}) h qH (g.sat 2 _ rfl).1 fun _ h=>cO.nil h) fun cb o=>?_
  refine um zr ?_
  have o:=o.pull 17
  obtain⟨c7,cc,hb⟩:=bd hb
  refine RL.call zt zr HW [ak,cb] zr (aF (oV N (i1:=0) o zr cc) ?_)
  rintro bm w o
  refine DP.d2 (⟨⟨⟨⟨⟨⟨zt,o.j9 14⟩,o.j9 13⟩,o.j9 11⟩,o.j9 9⟩,o.j9 8⟩,o.j9 6⟩) (DP.e0 zr (aK bm (DP.d0 ?_)))
  have o:=o.pl 21 [0,1,2,3,4,5,7,10,12,15,16,17,18,19,20]
  refine DP.z (bK (aG (RC.seq (RC.sr (RL.bI ab.2.2.2 13 o cQ (RL.nt (RC.region (RL.alloc o EY.z fun cd w o=>?_))))))))
  have o:=o.sc Int ab.2.2.2
  refine RL.bA 1 o 0 zr cQ fun w o=>?_
  refine RL.nt (RC.region (RL.aM (f:=(fun x=>x)) 1 o zr Fd.self cQ (RL.jA ab.2.2.2 1 ?_)))
  have o:=o.sc Int (IntKind.wrap .i64 (ab.2.2.2+1))
  refine RL.E3 (i:=2) (j:=0) zt o zr zr zr zr cQ fun w o=>?_
  refine RL.nil ?_
  obtain rfl:=oi hb
  exact⟨rfl,bm,ar,cd,o.sp 18 [13,14,3,8,2]⟩
 ·intro r _ _ _ _
  exact r.elim
 rintro ab _ w rfl ⟨av,O,rfl,o⟩
 rw [Fo.gl] at hb
 refine aG (RC.sr (mv av (aK av (RL.nt (RC.ret ?_)))))
 obtain rfl:=oi hb
 exact cL (o.pk 3 [2])
theorem lN {p0: (List aA)} {res: (List aI)} (j:Holds E w V) (h0:V[i0]? =some (rd v0 p0)) (o:iq N p0=some res):
    Calls bF 71 [v0].toArray w (gI (lj E V res)):=by
 unfold iq at o
 refine enter Tryz.func71 zr zr ?_
 have j:=j.dup (i0+0) h0
 refine RC.sr (aK (.slice none 0 0) (RL.ns (aK (.slice none 0 0) (RL.nq (RC.sr (mv v0 (RL.bD 0 p0 j nv (mv (vi 0) ?_))))))))
 refine RL.nt ?_
 obtain⟨ad,hN,o⟩:=bd o
 refine RC.fold (fun(ae:Nat) (ad: (List aI)) U w=>∃an:Value,SH E V [(3,an),(7,v0),(8,vi p0.length),(9,vi ae)] [rd v0 p0,own 74 an ad] U w) (fun(ad: (List aI)) U w=>∃af:Value,SH E V [(3,af)] [rd v0 p0,own 74 af ad] U w) hN ?_ ?_ ?_ ?_
 ·have j:=j.cH aI 74
  exact⟨(.slice none 0 0),j.sp 2 [1,0]⟩
 ·rintro hm ad _ w ⟨av,O,rfl,j⟩
  refine RC.sr (ic ((p0.length:Int)) ((p0.length:Int)) (RL.nq (RC.cN lS (RC.ex ?_))))
  exact⟨rfl,av,j.sp 2 [0,1]⟩
 ·rintro hm ae ad s' _ w hk ⟨aw,O,rfl,j⟩ o
  refine RC.sr (ic ((ae:Int)) ((p0.length:Int)) (RL.nq (RC.cM (lR hk) (RC.ss (RC.bs ?_)))))
  obtain⟨ab,ax,o⟩:=bd o
  refine RL.cC 0 j ka ax fun a3 j=>(RL.bV 0 ab j uA fun a4 j=>(RL.alloc j BG.z fun ak w j=>?_))
  refine RL.bA 0 j 1 zr uA fun w j=>?_
  refine RL.ns (aK (vi 0) (RL.nt ?_))
  obtain⟨a5,hN,o⟩:=bd o
  refine RC.iter (fun(aa: (List aI)×Int) U w=>∃ar:Value,SH E V [(3,ar),(5,vp ak 0),(6,vi aa.2),(7,v0),(8,vi p0.length),(9,vi ae)] [bx 187 ak ab,rd v0 p0,own 74 ar aa.1] U w) (fun(aa: (List aI)×Int) U w=>∃ai:Value,SH E V [(3,ai),(7,v0),(8,vi p0.length),(9,vi ae)] [bx 187 ak ab,rd v0 p0,own 74 ai aa.1] U w) (fun(r:Empty) _ _=>r.elim) hN ?_ ?_ ?_ ?_
  ·exact⟨aw,j.sp 5 [0,3,4]⟩
  ·rintro aa fl _ w ⟨al,O,rfl,j⟩ o
   refine RC.seq (RC.sr (mv (vi aa.2) (RL.aZ zr ko (RL.aP 0 j zr dG fH fun a7 j=>(RL.bD 0 ab.Xs j lM (ic aa.2 ((ab.Xs.length:Int)) (RL.nt (eQ o (fun hc o=>?_) fun hc o=>?_))))))))
   rotate_left
   ·refine RC.ex ?_
    obtain rfl:=oi o
    exact⟨rfl,al,j.sp 4 [1,2,3]⟩
   refine RC.ss (RC.block (RC.yC mixed [1,0,0,0,0,0,0,0,0,0,0,0,0,0,0,0,0,2,2,0] [0,1,2,3,4,5,6,7,8,9,10,11,12,13,14,15,16,17,18,19] ?_))
   have j:=j.drew
   refine DP.e1 al zr (fun w=>RL.move al zt DP.d1) (DP.e0 zr (RL.aZ zr ko (cB zr (RL.aP 1 j zr dG fH fun a8 j=>(cB zr (mv (vi aa.2) (cB zr ?_)))))))
   obtain⟨ag,az,o⟩:=bd o
   refine RL.cC 0 j eJ az fun a9 j=>(cB zr (RL.bI ag 0 j cQ (cB zr (RL.aZ zr nG (cB zr (RL.aM 3 j zr fS cQ (cB zr (RL.aZ zr ko ?_))))))))
   refine cB zr (RL.aP 3 j zr dG fH fun ba j=>(cB zr (mv (vi aa.2) (cB zr (RL.jA aa.2 1 (cB zr ?_))))))
   obtain⟨ah,a0,o⟩:=bd o
   refine RL.cC 0 j eJ a0 fun bb j=>(cB zr (RL.bI ah 0 j cQ (cB zr (RL.aZ zr lH (cB zr (RL.aM 5 j zr eN cQ (cB zr ?_)))))))
   have j:=(((j.sc Int ag).sc Int ab.Y0).sc Int ah).sc Int ab.Y1
   refine RL.build (⟨ag,ab.Y0,ah,ab.Y1⟩:aI) trivial rfl j [(0,vi ag),(1,vi ab.Y0),(2,vi ah),(3,vi ab.Y1)] rfl CL rfl (fun M hs g=>by have h:=rk M;exact cO.cons (f:=fun(x:aI) y=>{x with X0:=y}) h pz (g.sat 3 _ rfl).1 fun _ h=>cO.cons (f:=fun(x:aI) y=>{x with Y0:=y}) h sd (g.sat 2 _ rfl).1 fun _ h=>cO.cons (f:=fun(x:aI) y=>{x with X1:=y}) h nO (g.sat 1 _ rfl).1 fun _ h=>cO.cons (f:=fun(x:aI) y=>{x with Y1:=y}) h pA (g.sat 0 _ rfl).1 fun _ h=>cO.nil h) fun a1 j=>?_
   refine um zr (RL.dS ([(⟨ag,ab.Y0,ah,ab.Y1⟩:aI)]: (List aI)) j [a1] kH mI (fun M hs g=>⟨(g.sat 0 _ zr).1,zt⟩) fun bc w j=>(Hd zr ?_))
   have j:=j.freeze 0
   obtain⟨bf,a2,o⟩:=bd o
   refine RL.app 13 0 j Ei a2 fun au w j=>?_
   refine yD zr (aK au (DP.d0 (DP.z (bK (aG (RC.region (mv (vi aa.2) (RL.jA aa.2 2 ?_))))))))
   refine aK (vi (IntKind.wrap .i64 (aa.2+2))) (RL.nil ?_)
   obtain rfl:=oi o
   exact⟨rfl,au,j.sp 14 [11,12,13]⟩
  ·intro r _ _ _ _
   exact r.elim
  rintro aa _ w rfl ⟨ai,O,rfl,j⟩
  rw [Fo.gl] at o
  refine bK (aG (RC.region (RL.inc hk hm (mv (vi ((ae+1:Nat):Int)) (RL.nil ?_)))))
  obtain rfl:=oi o
  exact⟨rfl,ai,j.sp 3 [1,2]⟩
 rintro _ w ⟨af,O,rfl,j⟩
 refine aG (RC.sr (mv af (aK af (RL.nt (RC.ret ?_)))))
 obtain rfl:=oi o
 exact cL (j.pk 2 [1])
def sN (E:World) (V:List HP) (r:Bool) (U:Nat->Value) (w:World):Prop:=l5 bF 26 Tryz.f69 (bE E V r) .ret U w
theorem ru {p0: (List aI)} {p1: (List aI)} {res:Bool} (j:Holds E w V) (h0:V[i0]? =some (rd v0 p0)) (h1:V[i1]? =some (rd v1 p1)) (o:jl N p0 p1=some res):
    Calls bF 69 [v0,v1].toArray w (gI (bE E V res)):=by
 unfold jl at o
 refine enter Tryz.func69 zr zr ?_
 have j:=(j.dup (i0+0) h0).dup (i1+1) h1
 refine RC.sr (aK (vb false) (RL.nq (RC.sr (mv v0 (RL.bD 1 p0 j oG (mv v1 (RL.bD 0 p1 j oG (ic ((p0.length:Int)) ((p1.length:Int)) ?_))))))))
 refine RL.nt (eQ o (fun hc o=>?_) fun hc o=>?_)
 ·refine RC.sr (aK (vb false) (RL.nt (RC.rt ?_)))
  obtain rfl:=oi o
  exact cL ⟨rfl,j.drop 2⟩
 refine RC.ss (RC.sr (mv v0 (RL.bD 1 p0 j oG (mv (vi 0) (RL.nt ?_)))))
 obtain⟨an,hN,o⟩:=bd o
 refine RC.range (fun(aa:Nat) (ab:Unit)=>SH E V [(0,v0),(1,v1),(12,vi p0.length),(13,vi aa)] [rd v0 p0,rd v1 p1]) (fun(ab:Unit)=>SH E V [] [rd v0 p0,rd v1 p1]) (sN E V) hN ?_ ?_ ?_ ?_ ?_
 ·exact j.sp 2 [1,0]
 ·rintro hm ab _ w ⟨O,rfl,j⟩
  refine RC.sr (ic ((p0.length:Int)) ((p0.length:Int)) (RL.nq (RC.cN lS (RC.ex ?_))))
  exact⟨rfl,j.sp 2 [0,1]⟩
 ·rintro hm aa ab fl _ w hk ⟨O,rfl,j⟩ o
  refine RC.sr (ic ((aa:Int)) ((p0.length:Int)) (RL.nq (RC.cM (lR hk) (RC.ss (RC.bs (mv (vi aa) (aK (vi aa) (RL.nq ?_))))))))
  refine RC.xv mixed ?_
  have j:=j.drew
  refine RO.go (mv v0 (RO.nx (mv (vi aa) (RO.nx ?_))))
  obtain⟨ag,aj,o⟩:=bd o
  refine RL.cC 0 j kH aj fun aq j=>(RO.nx (RL.bV 0 ag j fK fun ar j=>(RO.nx (mv v1 (RO.nx (mv (vi aa) (RO.nx ?_)))))))
  obtain⟨ah,ak,o⟩:=bd o
  refine RL.cC 3 j kH ak fun au j=>(RO.nx (RL.bV 0 ah j fK fun av j=>(RO.nx (RL.Mv 2 0 ag ah zt zr j zr zr zr zr JG zr (RO.last (aG (eQ o (fun hc o=>?_) fun hc o=>?_)))))))
  rotate_left
  ·refine RC.skip (bK (aG (RC.region (RL.inc hk hm (mv (vi ((aa+1:Nat):Int)) (RL.nil ?_))))))
   obtain rfl:=oi o
   exact⟨rfl,j.sp 6 [4,5]⟩
  refine RC.sr (aK (vb false) (RL.nt (RC.rb (bS ?_))))
  obtain rfl:=oi o
  exact⟨rfl,cL ⟨rfl,j.drop 6⟩⟩
 ·intro r U w e hK
  subst e
  refine bS ?_
  obtain rfl:=oi o
  exact hK
 rintro ab _ w rfl ⟨O,rfl,j⟩
 rw [Fo.gl] at o
 refine aG (RC.sr (aK (vb true) (RL.nt (RC.ret ?_))))
 obtain rfl:=oi o
 exact cL ⟨rfl,j.drop 2⟩
def sO (E:World) (V:List HP) (r:Int) (U:Nat->Value) (w:World):Prop:=l5 bF 52 Tryz.f46 (aQ E V r) .ret U w
theorem mX {p0: (List aI)} (j:Holds E w V) (h0:V[i0]? =some (rd v0 p0)) (hb:hG N p0=some res):
    Calls bF 46 [v0].toArray w (gI (aQ E V res)):=by
 unfold hG at hb
 refine enter Tryz.func46 zr zr ?_
 have j:=j.dup (i0+0) h0
 refine RC.sr (aK (vi 0) (RL.nq (RC.sr (mv v0 ?_))))
 obtain⟨au,ax,hb⟩:=bd hb
 refine RL.call zt zr Lu [v0] zr (aF (sL N (i0:=0) j zr ax) ?_)
 rintro _ w ⟨rfl,j⟩
 refine aK (vi au) (RL.ns (mv (vi au) (ic au 0 (RL.nt (eQ hb (fun hc hb=>?_) fun hc hb=>?_)))))
 ·refine RC.sr (mv (vi au) (aK (vi au) (RL.nt (RC.rt ?_))))
  obtain rfl:=oi hb
  exact cL ⟨rfl,j.drop 1⟩
 refine RC.ss (RC.sr (aK (vi 1) (RL.nt ?_)))
 obtain⟨bf,hN,hb⟩:=bd hb
 refine RC.iter (fun(an:Int)=>SH E V [(0,v0),(4,vi an)] [rd v0 p0]) (fun(an:Int)=>SH E V [(0,v0)] [rd v0 p0]) (sO E V) hN ?_ ?_ ?_ ?_
 ·exact j.sp 1 [0]
 ·rintro an fl _ w ⟨O,rfl,j⟩ hb
  refine RC.seq (RC.sr (mv (vi an) (mv v0 (RL.bD 0 p0 j oG (ic an ((p0.length:Int)) (RL.nt (eQ hb (fun hc hb=>?_) fun hc hb=>?_)))))))
  rotate_left
  ·refine RC.ex ?_
   obtain rfl:=oi hb
   exact⟨rfl,j.sp 1 [0]⟩
  refine RC.ss (RC.block (RC.seq ?_))
  obtain⟨o,a0,hb⟩:=bd hb
  obtain⟨aa,a1,hb⟩:=bd hb
  refine RC.Ds E V mixed [1,1,1,0,0,1,1,0,0,0,0,0,0] [3,4,7,8,9,10,11,12] (fun(x:Value×Value×Value×Value×Nat×Nat)=>(fun ag ah ai aj ad ae=>[(0,18,v0),(1,19,(vi an)),(2,20,(vi (IntKind.wrap .i64 (an - 1)))),(3,21,ag),(4,22,ah),(5,23,v0),(6,24,(vi an)),(7,25,ai),(8,26,aj),(9,5,(vp ad 0)),(10,6,(vp ae 0))]) x.1 x.2.1 x.2.2.1 x.2.2.2.1 x.2.2.2.2.1 x.2.2.2.2.2) [(0,v0),(4,vi an)] [] (fun(D:Nat->Bool) (x:Value×Value×Value×Value×Nat×Nat)=>(fun ag ah ai aj ad ae=>[bif D 0 then (pt ag o) else aX,bif D 1 then (rd ah o) else aX,bif D 2 then (pt ai aa) else aX,bif D 3 then (rd aj aa) else aX,bif D 6 then (bx 74 ad o) else (bif D 4 then (raw 74 ad 4) else aX),bif D 7 then (bx 74 ae aa) else (bif D 5 then (raw 74 ae 4) else aX),rd v0 p0]) x.1 x.2.1 x.2.2.1 x.2.2.2.1 x.2.2.2.2.1 x.2.2.2.2.2) (fun x=>by kernel_rfl) ?_ ⟨fun _=>iT gn,fun _=>iT gn,fun _=>Hc gn rfl,?_,?_,fun _=>iT gn,fun _=>iT gn,?_,?_,?_,?_,?_,?_,trivial⟩ ?_
  ·have j:=((((((j.drew).aX).aX).aX).aX).aX).aX
   exact⟨(undef,undef,undef,undef,0,0),dX.none,(Cr zr),zt,j⟩
  ·rintro D U w hD af ao ⟨⟨ag,ah,ai,aj,ad,ae⟩,hv,ha,_,j⟩
   obtain⟨O,rfl⟩:=(ac (hv.at 0 rfl (af.1 rfl)) (ac (hv.at 2 rfl (af.2.1 rfl)) az)).eT
   have j:=j.bN 0 hD
   refine RL.cC 6 j kH a0 fun a2 j=>?_
   have j:=(j.pl 8 [0,2,3,4,5,6,7]).cG 0 true aX
   exact RL.nil ⟨rfl,(a2,ah,ai,aj,ad,ae),hv.pu 3,ha.u,zt,j⟩
  ·rintro D U w hD af ao ⟨⟨ag,ah,ai,aj,ad,ae⟩,hv,ha,_,j⟩
   obtain⟨O,rfl⟩:=(ac (hv.at 3 rfl (af.1 rfl)) az).eT
   have j:=(j.cF 0 (af.1 rfl)).bN 1 hD
   refine RL.bV 0 o j fK fun a3 j=>?_
   have j:=((j.pl 8 [1,0,3,4,5,6,7]).cG (hb:=af.1 rfl) 0 (D 3) aX).cG 1 true aX
   exact RL.nil ⟨rfl,(ag,a3,ai,aj,ad,ae),hv.pu 4,ha.u,zt,j⟩
  ·rintro D U w hD af ao ⟨⟨ag,ah,ai,aj,ad,ae⟩,hv,ha,_,j⟩
   obtain⟨O,rfl⟩:=(ac (hv.at 5 rfl (af.1 rfl)) (ac (hv.at 6 rfl (af.2.1 rfl)) az)).eT
   have j:=j.bN 2 hD
   refine RL.cC 6 j kH a1 fun a4 j=>?_
   have j:=(j.pl 8 [1,2,0,4,5,6,7]).cG 2 true aX
   exact RL.nil ⟨rfl,(ag,ah,a4,aj,ad,ae),hv.pu 7,ha.u,zt,j⟩
  ·rintro D U w hD af ao ⟨⟨ag,ah,ai,aj,ad,ae⟩,hv,ha,_,j⟩
   obtain⟨O,rfl⟩:=(ac (hv.at 7 rfl (af.1 rfl)) az).eT
   have j:=(j.cF 2 (af.1 rfl)).bN 3 hD
   refine RL.bV 2 aa j fK fun a5 j=>?_
   have j:=((j.pl 8 [1,2,3,0,5,6,7]).cG (hb:=af.1 rfl) 2 (D 7) aX).cG 3 true aX
   exact RL.nil ⟨rfl,(ag,ah,ai,a5,ad,ae),hv.pu 8,ha.u,zt,j⟩
  ·rintro D U w hD af ao ⟨⟨ag,ah,ai,aj,ad,ae⟩,hv,ha,_,j⟩
   obtain⟨O,rfl⟩:=(az (U:=U)).eT
   have j:=(j.bN 4 (nh ao hD 11)).bN 4 hD
   refine RL.alloc j mI.z fun av w j=>?_
   have j:=((j.pl 8 [1,2,3,4,0,6,7]).cG 4 true aX).eA 4 (D 11) (nh ao hD 11) (bx 74 av o)
   exact RL.nil ⟨rfl,(ag,ah,ai,aj,av,ae),hv.pu 9,ha.u,zt,j⟩
  ·rintro D U w hD af ao ⟨⟨ag,ah,ai,aj,ad,ae⟩,hv,ha,_,j⟩
   obtain⟨O,rfl⟩:=(az (U:=U)).eT
   have j:=(j.bN 5 (nh ao hD 12)).bN 5 hD
   refine RL.alloc j mI.z fun aw w j=>?_
   have j:=((j.pl 8 [1,2,3,4,5,0,7]).cG 5 true aX).eA 5 (D 12) (nh ao hD 12) (bx 74 aw aa)
   exact RL.nil ⟨rfl,(ag,ah,ai,aj,ad,aw),hv.pu 10,ha.u,zt,j⟩
  ·rintro D U w hD af ao ⟨⟨ag,ah,ai,aj,ad,ae⟩,hv,ha,_,j⟩
   obtain⟨O,rfl⟩:=(ac (hv.at 4 rfl (af.2.1 rfl)) (ac (hv.at 9 rfl (af.1 rfl)) az)).eT
   have j:=((j.cF 1 (af.2.1 rfl)).bN 4 hD).cF 4 (af.1 rfl)
   refine RL.bA 4 j 1 zr fK fun w j=>?_
   have j:=(j.cG (hb:=af.2.1 rfl) 1 (D 4) aX).cG 4 true (bif D 9 then (raw 74 ad 4) else aX)
   exact RL.nil ⟨rfl,(ag,ah,ai,aj,ad,ae),hv.n1,ha,zt,j⟩
  ·rintro D U w hD af ao ⟨⟨ag,ah,ai,aj,ad,ae⟩,hv,ha,_,j⟩
   obtain⟨O,rfl⟩:=(ac (hv.at 8 rfl (af.2.1 rfl)) (ac (hv.at 10 rfl (af.1 rfl)) az)).eT
   have j:=((j.cF 3 (af.2.1 rfl)).bN 5 hD).cF 5 (af.1 rfl)
   refine RL.bA 5 j 3 zr fK fun w j=>?_
   have j:=(j.cG (hb:=af.2.1 rfl) 3 (D 8) aX).cG 5 true (bif D 10 then (raw 74 ae 4) else aX)
   exact RL.nil ⟨rfl,(ag,ah,ai,aj,ad,ae),hv.n1,ha,zt,j⟩
  rintro D U w aq ⟨⟨ag,ah,ai,aj,ad,ae⟩,hv,ha,_,j⟩
  have j:=(((((j.cF 0 (jk aq 3)).cF 1 (jk aq 4)).cF 2 (jk aq 7)).cF 3 (jk aq 8)).cF 4 (jk aq 11)).cF 5 (jk aq 12)
  obtain⟨O,rfl⟩:=(ac (hv.at 9 rfl (jk aq 9)) (ac (hv.at 10 rfl (jk aq 10)) (ac (ha.at 0 rfl) (ac (ha.at 1 rfl) az)))).eT
  refine aG (RC.sr (RL.aZ zr jX (RL.aM 5 j zr fC cQ (RL.aZ zr jX (RL.aM 4 j zr fC cQ (ic aa.Y0 o.Y0 (mv (vb (decide (aa.Y0<o.Y0))) (RL.gs true (decide (aa.Y0<o.Y0)) (vp ae 1) zr zr zr (dN jX) ?_))))))))
  refine RL.gs true (decide (aa.Y0<o.Y0)) (vi aa.Y0) rfl rfl rfl (bZ 5 rfl j (fun h=>by exact(cV h:cv (true&&((decide (aa.Y0<o.Y0))==false)) (vp ae 1)= (vp ae 1))) rfl fC cQ) (RL.gs true (decide (aa.Y0<o.Y0)) (vp ad 1) rfl rfl rfl (dN jX) (RL.gs true (decide (aa.Y0<o.Y0)) (vi o.Y0) rfl rfl rfl (bZ 4 rfl j (fun h=>by exact(cV h:cv (true&&((decide (aa.Y0<o.Y0))==false)) (vp ad 1)= (vp ad 1))) rfl fC cQ) (RL.gs true (decide (aa.Y0<o.Y0)) (vb (aa.Y0==o.Y0)) rfl rfl rfl (eE .eql .i64 aa.Y0 o.Y0 rfl (fun h=>by exact(cV h:cv (true&&((decide (aa.Y0<o.Y0))==false)) (vi aa.Y0)= (vi aa.Y0))) (fun h=>by exact(cV h:cv (true&&((decide (aa.Y0<o.Y0))==false)) (vi o.Y0)= (vi o.Y0))) rfl) (RL.gs true (decide (aa.Y0<o.Y0)) (vb (aa.Y0==o.Y0)) rfl rfl rfl (dW (hx:=fun h=>by exact(cV h:cv (true&&((decide (aa.Y0<o.Y0))==false)) (vb (aa.Y0==o.Y0))= (vb (aa.Y0==o.Y0))))) (RL.gs (true&&((decide (aa.Y0<o.Y0))==false)) (aa.Y0==o.Y0) (vp ae 0) rfl rfl rfl (dN jy) (RL.gs (true&&((decide (aa.Y0<o.Y0))==false)) (aa.Y0==o.Y0) (vi aa.X0) rfl rfl rfl (bZ 5 rfl j (fun h=>by exact(cV h:cv ((true&&((decide (aa.Y0<o.Y0))==false))&&((aa.Y0==o.Y0)==true)) (vp ae 0)= (vp ae 0))) rfl eW cQ) (RL.gs (true&&((decide (aa.Y0<o.Y0))==false)) (aa.Y0==o.Y0) (vp ad 0) rfl rfl rfl (dN jy) (RL.gs (true&&((decide (aa.Y0<o.Y0))==false)) (aa.Y0==o.Y0) (vi o.X0) rfl rfl rfl (bZ 4 rfl j (fun h=>by exact(cV h:cv ((true&&((decide (aa.Y0<o.Y0))==false))&&((aa.Y0==o.Y0)==true)) (vp ad 0)= (vp ad 0))) rfl eW cQ) ?_))))))))
  refine RL.gs (true&&((decide (aa.Y0<o.Y0))==false)) (aa.Y0==o.Y0) (vb (decide (aa.X0<=o.X0))) rfl rfl rfl (eE .leq .i64 aa.X0 o.X0 rfl (fun h=>by exact(cV h:cv ((true&&((decide (aa.Y0<o.Y0))==false))&&((aa.Y0==o.Y0)==true)) (vi aa.X0)= (vi aa.X0))) (fun h=>by exact(cV h:cv ((true&&((decide (aa.Y0<o.Y0))==false))&&((aa.Y0==o.Y0)==true)) (vi o.X0)= (vi o.X0))) rfl) (RL.gs true (decide (aa.Y0<o.Y0)) (vb ((aa.Y0==o.Y0)&&(decide (aa.X0<=o.X0)))) rfl rfl rfl (oQ (aa.Y0==o.Y0) rfl (fun h=>by exact(cV h:cv (true&&((decide (aa.Y0<o.Y0))==false)) (vb (aa.Y0==o.Y0))= (vb (aa.Y0==o.Y0)))) (fun h=>by exact i6 (h:=h) (true&&((decide (aa.Y0<o.Y0))==false)))) (RL.pick (decide (aa.Y0<o.Y0)) (vb ((decide (aa.Y0<o.Y0))||((aa.Y0==o.Y0)&&(decide (aa.X0<=o.X0))))) (nS true rfl) (RL.nt (eQ hb (fun hc hb=>?_) fun hc hb=>?_))))
  ·refine RC.sr (aK (vi 8) (RL.nt (RC.rb (bS ?_))))
   obtain rfl:=oi hb
   exact⟨rfl,cL ⟨rfl,j.drop 7⟩⟩
  refine RC.skip (bK (aG (RC.region (mv (vi an) (RL.jA an 1 (aK (vi (IntKind.wrap .i64 (an+1))) (RL.nil ?_)))))))
  obtain rfl:=oi hb
  exact⟨rfl,j.sp 7 [6]⟩
 ·intro r U w e hK
  subst e
  refine bS ?_
  obtain rfl:=oi hb
  exact hK
 rintro an _ w rfl ⟨O,rfl,j⟩
 rw [Fo.gl] at hb
 refine aG (RC.seq (RC.sr (mv v0 ?_)))
 obtain⟨bh,a7,hb⟩:=bd hb
 refine RL.call zt zr FD [v0] zr (aF (kL N (i0:=0) j zr a7) ?_)
 rintro a8 w j
 have j:=j.freeze 0
 obtain⟨bj,a9,hb⟩:=bd hb
 refine RL.call zt zr IJ [a8] zr (aF (lN N (i0:=0) j zr a9) ?_)
 rintro ba w j
 refine mv v0 ?_
 have j:=j.freeze 0
 obtain⟨bb,bc,hb⟩:=bd hb
 refine RL.call zt zr Lx [ba,v0] zr (aF (ru N (i0:=0) (i1:=2) j zr zr bc) ?_)
 rintro _ w ⟨rfl,j⟩
 refine RL.not bb (RL.nt (eQ hb (fun hc hb=>?_) fun hc hb=>?_))
 ·refine RC.sr (aK (vi 3) (RL.nt (RC.rt ?_)))
  obtain rfl:=oi hb
  exact cL ⟨rfl,j.drop 3⟩
 refine RC.sx (aK (vi 0) (RL.nt (RC.ret ?_)))
 obtain rfl:=oi hb
 exact cL ⟨rfl,j.drop 3⟩
theorem k6 {res:Bool} (o:Holds E w V) (j:gm N p0 p1 p2=some res):
    Calls bF 73 [(vi p0),(vi p1),(vi p2)].toArray w (gI (bE E V res)):=by
 unfold gm at j
 refine enter Tryz.func73 zr zr (RC.sr (aK (vb false) (RL.ns (mv (vi p0) (mv (vi p1) (ic p0 p1 (mv (vb (decide (p0>=p1))) (RL.gs true (decide (p0>=p1)) (vi p0) zr zr zr dW ?_))))))))
 refine RL.gs true (decide (p0>=p1)) (vi p2) rfl rfl rfl dW (RL.gs true (decide (p0>=p1)) (vb (decide (p0<=p2))) rfl rfl rfl (eE .leq .i64 p0 p2 rfl (fun h=>by exact(cV h:cv (true&&((decide (p0>=p1))==true)) (vi p0)= (vi p0))) (fun h=>by exact(cV h:cv (true&&((decide (p0>=p1))==true)) (vi p2)= (vi p2))) rfl) (RL.pick (decide (p0>=p1)) (vb ((decide (p0>=p1))&&(decide (p0<=p2)))) (i6 true) (aK (vb ((decide (p0>=p1))&&(decide (p0<=p2)))) (RL.nt (RC.ret ?_)))))
 obtain rfl:=oi j
 exact cL ⟨rfl,o.drop 0⟩
theorem pI {p0:eV} {res:Bool} (j:Holds E w V) (h0:V[i0]? =some (rd v0 p0)) (hb:iE N p0=some res):
    Calls bF 76 [v0].toArray w (gI (bE E V res)):=by
 unfold iE at hb
 refine enter Tryz.func76 zr zr ?_
 have j:=j.dup (i0+0) h0
 refine RC.sr (RL.dB 0 v0 j zr fun ai w j=>?_)
 refine aK (vb false) (RL.nq ?_)
 obtain⟨ad,o,hb⟩:=bd hb
 refine RC.jn (fun(ad:Bool)=>SH E V [(2,vb ad)] []) ad ?_ ?_
 ·refine RC.region (RL.aZ zr rm (RL.aM 0 j zr kF cQ ?_))
  obtain⟨af,ag,o⟩:=bd o
  refine RL.call zt zr zo [(vi p0.X)] zr (aF (kf N (p0:=p0.X) j ag) ?_)
  rintro _ w ⟨rfl,j⟩
  refine mv (vb af) (fM o (fun aa o=>?_) fun aa o=>?_)
  rotate_left
  ·refine bO aa (bO aa (bO aa (fJ aa (vb false) (aK (vb false) (RL.nil ?_)))))
   obtain rfl:=oi o
   exact⟨rfl,j.sp 2 []⟩
  refine RL.aZ (hg:=(cg aa)) zr o7 (RL.aM (hg:=(cg aa)) 0 j zr jw cQ ?_)
  obtain⟨ae,ah,o⟩:=bd o
  refine RL.call (cg aa) zr zo [(vi p0.Y)] zr (aF (kf N (p0:=p0.Y) j ah) ?_)
  rintro _ w ⟨rfl,j⟩
  refine fJ aa (vb ae) (aK (vb ae) (RL.nil ?_))
  obtain rfl:=oi o
  exact⟨rfl,j.sp 2 []⟩
 rintro _ w ⟨O,rfl,j⟩
 refine aG (RC.ret ?_)
 obtain rfl:=oi hb
 exact cL ⟨rfl,j.drop 0⟩
end Go.Gk
