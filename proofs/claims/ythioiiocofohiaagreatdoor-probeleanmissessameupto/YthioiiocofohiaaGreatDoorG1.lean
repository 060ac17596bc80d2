/-
  Printed texts: Go functions as plain functions, and that they are. No statement of the seed is proved here.
-/
import Derived.Test.YthioiiocofohiaaGreatDoorProg
import Derived.Test.YthioiiocofohiaaGreatDoorE1
import Derived.Test.YthioiiocofohiaaGreatDoorA1
import Derived.Test.YthioiiocofohiaaGreatDoorA2
import Derived.Test.YthioiiocofohiaaGreatDoorRows
import Derived.Shelf.SlGeneric
import Derived.Ground.SlsfProg
import Derived.Ground.SlgmProg
set_option linter.unusedVariables false
set_option linter.unusedSimpArgs false
set_option linter.unusedSectionVars false
set_option maxRecDepth 100000
set_option maxHeartbeats 4000000
namespace Go.Gk
open Go Go.Proofs
noncomputable abbrev bE:=Tryz.prog
def lG (x:aI):=(x.X0,x.Y0,x.X1,x.Y1)
instance instGTRect:GT aI:=GT.via lG
instance instKVRect:KV aI:=instKVvia (fun(x:aI)=>(x.X0,x.Y0,x.X1,x.Y1))
theorem eO:Fd 0 (fun x:aI=>x.X0):= .v lG (.fst .self)
theorem pI:Fs 0 Int (fun(x:aI) y=>{x with X0:=y}):= .v lG (.fst .self)
theorem fy:Fd 1 (fun x:aI=>x.Y0):= .v lG (.snd (.fst .self))
theorem sw:Fs 1 Int (fun(x:aI) y=>{x with Y0:=y}):= .v lG (.snd (.fst .self))
theorem gA:Fd 2 (fun x:aI=>x.X1):= .v lG (.snd (.snd (.fst .self)))
theorem nZ:Fs 2 Int (fun(x:aI) y=>{x with X1:=y}):= .v lG (.snd (.snd (.fst .self)))
theorem jM:Fd 3 (fun x:aI=>x.Y1):= .v lG (.snd (.snd (.snd (.self))))
theorem pJ:Fs 3 Int (fun(x:aI) y=>{x with Y1:=y}):= .v lG (.snd (.snd (.snd (.self))))
def pK (x:eN):=(x.X,x.Y)
instance instGTPoint:GT eN:=GT.via pK
instance instKVPoint:KV eN:=instKVvia (fun(x:eN)=>(x.X,x.Y))
theorem kL:Fd 0 (fun x:eN=>x.X):= .v pK (.fst .self)
theorem CY:Fs 0 Int (fun(x:eN) y=>{x with X:=y}):= .v pK (.fst .self)
theorem ju:Fd 1 (fun x:eN=>x.Y):= .v pK (.snd (.self))
theorem CZ:Fs 1 Int (fun(x:eN) y=>{x with Y:=y}):= .v pK (.snd (.self))
def pL (x:bZ):=(x.At,x.eZ,x.bU,x.To,x.ij)
instance instGTBore:GT bZ:=GT.via pL
theorem vU:Fd 0 (fun x:bZ=>x.At):= .v pL (.fst .self)
theorem pM:Fd 2 (fun x:bZ=>x.eZ):= .v pL (.snd (.fst .self))
theorem mO:Fd 3 (fun x:bZ=>x.bU):= .v pL (.snd (.snd (.fst .self)))
theorem n0:Fd 4 (fun x:bZ=>x.To):= .v pL (.snd (.snd (.snd (.fst .self))))
theorem sA:Fd 5 (fun x:bZ=>x.ij):= .v pL (.snd (.snd (.snd (.snd (.self)))))
def oq (x:cY):=(x.Part,x.fV,x.cZ,x.At)
instance instGTLand:GT cY:=GT.via oq
theorem zz:Fd 0 (fun x:cY=>x.Part):= .v oq (.fst .self)
theorem EA:Fs 0 dJ (fun(x:cY) y=>{x with Part:=y}):= .v oq (.fst .self)
theorem zA:Fd 1 (fun x:cY=>x.fV):= .v oq (.snd (.fst .self))
theorem EB:Fs 1 dJ (fun(x:cY) y=>{x with fV:=y}):= .v oq (.snd (.fst .self))
theorem vV:Fd 2 (fun x:cY=>x.cZ):= .v oq (.snd (.snd (.fst .self)))
theorem vW:Fd 3 (fun x:cY=>x.At):= .v oq (.snd (.snd (.snd (.self))))
def uM (x:gS):=(x.aL,x.dL,x.aW,x.bJ)
instance instGTArt:GT gS:=GT.via uM
theorem pN:Fd 0 (fun x:gS=>x.aL):= .v uM (.fst .self)
theorem xO:Fd 1 (fun x:gS=>x.dL):= .v uM (.snd (.fst .self))
theorem rp:Fd 2 (fun x:gS=>x.aW):= .v uM (.snd (.snd (.fst .self)))
theorem rq:Fd 3 (fun x:gS=>x.bJ):= .v uM (.snd (.snd (.snd (.self))))
def sB (x:fV):=(x.Part,x.fV)
instance instGTPin:GT fV:=GT.via sB
instance instKVPin:KV fV:=instKVvia (fun(x:fV)=>(x.Part,x.fV))
theorem BT:Fd 0 (fun x:fV=>x.Part):= .v sB (.fst .self)
theorem xP:Fs 0 dJ (fun(x:fV) y=>{x with Part:=y}):= .v sB (.fst .self)
theorem BU:Fd 1 (fun x:fV=>x.fV):= .v sB (.snd (.self))
theorem xQ:Fs 1 dJ (fun(x:fV) y=>{x with fV:=y}):= .v sB (.snd (.self))
def uN (x:Test):=(x.A,x.B,x.Joined)
instance instGTTest:GT Test:=GT.via uN
theorem mP:Fd 0 (fun x:Test=>x.A):= .v uN (.fst .self)
theorem mQ:Fd 2 (fun x:Test=>x.B):= .v uN (.snd (.fst .self))
def iS (x:aA):=(x.Y0,x.Y1,x.Xs)
instance instGTshape_Band:GT aA:=GT.via iS
theorem fQ:Fd 0 (fun x:aA=>x.Y0):= .v iS (.fst .self)
theorem qL:Fs 0 Int (fun(x:aA) y=>{x with Y0:=y}):= .v iS (.fst .self)
theorem eF:Fd 1 (fun x:aA=>x.Y1):= .v iS (.snd (.fst .self))
theorem nz:Fs 1 Int (fun(x:aA) y=>{x with Y1:=y}):= .v iS (.snd (.fst .self))
theorem dG:Fd 2 (fun x:aA=>x.Xs):= .v iS (.snd (.snd (.self)))
theorem qM:Fs 2 (List Int) (fun(x:aA) y=>{x with Xs:=y}):= .v iS (.snd (.snd (.self)))
def iJ (x:aH):=(x.cZ,x.Set,x.iZ)
instance instGTcopper_Piece:GT aH:=GT.via iJ
theorem kq:Fd 0 (fun x:aH=>x.cZ):= .v iJ (.fst .self)
theorem uO:Fs 0 Int (fun(x:aH) y=>{x with cZ:=y}):= .v iJ (.fst .self)
theorem uP:Fs 1 (List aA) (fun(x:aH) y=>{x with Set:=y}):= .v iJ (.snd (.fst .self))
theorem kr:Fd 2 (fun x:aH=>x.iZ):= .v iJ (.snd (.snd (.self)))
theorem uQ:Fs 2 (List aI) (fun(x:aH) y=>{x with iZ:=y}):= .v iJ (.snd (.snd (.self)))
def zB (x:cI):=(x.nu,x.aW,x.gV)
instance instGTGroup:GT cI:=GT.via zB
theorem C0:Fd 2 (fun x:cI=>x.gV):= .v zB (.snd (.snd (.self)))
def qs (x:dU):=(x.bZ,x.Number)
instance instGTHop:GT dU:=GT.via qs
instance instKVHop:KV dU:=instKVvia (fun(x:dU)=>(x.bZ,x.Number))
theorem xR:Fd 0 (fun x:dU=>x.bZ):= .v qs (.fst .self)
theorem BV:Fs 0 Bool (fun(x:dU) y=>{x with bZ:=y}):= .v qs (.fst .self)
theorem ot:Fd 1 (fun x:dU=>x.Number):= .v qs (.snd (.self))
theorem uR:Fs 1 Int (fun(x:dU) y=>{x with Number:=y}):= .v qs (.snd (.self))
def lH (x:bQ):=(x.Open,x.dU,x.A,x.B)
instance instGTFlaw:GT bQ:=GT.via lH
theorem mR:Fd 0 (fun x:bQ=>x.Open):= .v lH (.fst .self)
theorem EC:Fs 0 Bool (fun(x:bQ) y=>{x with Open:=y}):= .v lH (.fst .self)
theorem n7:Fd 1 (fun x:bQ=>x.dU):= .v lH (.snd (.fst .self))
theorem ED:Fs 1 dU (fun(x:bQ) y=>{x with dU:=y}):= .v lH (.snd (.fst .self))
theorem sC:Fd 3 (fun x:bQ=>x.A):= .v lH (.snd (.snd (.fst .self)))
theorem EE:Fs 3 Int (fun(x:bQ) y=>{x with A:=y}):= .v lH (.snd (.snd (.fst .self)))
theorem sD:Fd 4 (fun x:bQ=>x.B):= .v lH (.snd (.snd (.snd (.self))))
theorem EF:Fs 4 Int (fun(x:bQ) y=>{x with B:=y}):= .v lH (.snd (.snd (.snd (.self))))
def qt (x:qg):=(x.A,x.B,x.iv,x.bU,x.To)
instance instGTGap:GT qg:=GT.via qt
theorem FV:Fd 2 (fun x:qg=>x.iv):= .v qt (.snd (.snd (.fst .self)))
theorem FW:Fs 2 Int (fun(x:qg) y=>{x with iv:=y}):= .v qt (.snd (.snd (.fst .self)))
theorem ru:Fd 3 (fun x:qg=>x.bU):= .v qt (.snd (.snd (.snd (.fst .self))))
theorem FX:Fs 3 eN (fun(x:qg) y=>{x with bU:=y}):= .v qt (.snd (.snd (.snd (.fst .self))))
theorem FY:Fd 5 (fun x:qg=>x.To):= .v qt (.snd (.snd (.snd (.snd (.self)))))
theorem FZ:Fs 5 eN (fun(x:qg) y=>{x with To:=y}):= .v qt (.snd (.snd (.snd (.snd (.self)))))
def kM (x:bO):=(x.CU,x.tp)
instance instGTprobe_seen:GT bO:=GT.via kM
theorem w3:Fd 0 (fun x:bO=>x.CU):= .v kM (.fst .self)
theorem w4:Fs 0 bQ (fun(x:bO) y=>{x with CU:=y}):= .v kM (.fst .self)
theorem lU:Fd 5 (fun x:bO=>x.tp):= .v kM (.snd (.self))
theorem w5:Fs 5 (List Bool) (fun(x:bO) y=>{x with tp:=y}):= .v kM (.snd (.self))
def EG (x:Touch):=(x.Test,x.Ja,x.FO)
instance instGTTouch:GT Touch:=GT.via EG
instance instKVTouch:KV Touch:=instKVvia (fun(x:Touch)=>(x.Test,x.Ja,x.FO))
theorem xS (M:dI):GT.ok M (#[(.bool false),(.int .i64 0)]:Array Value).toList (⟨false,0⟩:dU):=⟨[(.bool false)],[(.int .i64 0)],rfl,(show GT.ok M [(.bool false)] (false:Bool) from rfl),(show GT.ok M [(.int .i64 0)] (0:Int) from rfl)⟩
theorem C1 (M:dI):GT.ok M (#[(.bool false),(.bool false),(.int .i64 0),(.int .i64 0),(.int .i64 0)]:Array Value).toList (⟨false,⟨false,0⟩,0,0⟩:bQ):=⟨[(.bool false)],[(.bool false),(.int .i64 0),(.int .i64 0),(.int .i64 0)],rfl,(show GT.ok M [(.bool false)] (false:Bool) from rfl),⟨[(.bool false),(.int .i64 0)],[(.int .i64 0),(.int .i64 0)],rfl,(show GT.ok M [(.bool false),(.int .i64 0)] (⟨false,0⟩:dU) from xS M),⟨[(.int .i64 0)],[(.int .i64 0)],rfl,(show GT.ok M [(.int .i64 0)] (0:Int) from rfl),(show GT.ok M [(.int .i64 0)] (0:Int) from rfl)⟩⟩⟩
theorem F0 (M:dI):GT.ok M (#[(.string ⟨#[]⟩),(.string ⟨#[]⟩)]:Array Value).toList (⟨⟨[]⟩,⟨[]⟩⟩:fV):=⟨[(.string ⟨#[]⟩)],[(.string ⟨#[]⟩)],rfl,(show GT.ok M [(.string ⟨#[]⟩)] (⟨[]⟩:dJ) from rfl),(show GT.ok M [(.string ⟨#[]⟩)] (⟨[]⟩:dJ) from rfl)⟩
theorem ry (M:dI):GT.ok M (#[(.int .i64 0),(.int .i64 0),(.int .i64 0),(.int .i64 0)]:Array Value).toList (⟨0,0,0,0⟩:aI):=⟨[(.int .i64 0)],[(.int .i64 0),(.int .i64 0),(.int .i64 0)],rfl,(show GT.ok M [(.int .i64 0)] (0:Int) from rfl),⟨[(.int .i64 0)],[(.int .i64 0),(.int .i64 0)],rfl,(show GT.ok M [(.int .i64 0)] (0:Int) from rfl),⟨[(.int .i64 0)],[(.int .i64 0)],rfl,(show GT.ok M [(.int .i64 0)] (0:Int) from rfl),(show GT.ok M [(.int .i64 0)] (0:Int) from rfl)⟩⟩⟩
theorem xm (M:dI):GT.ok M (#[(.int .i64 0),(.int .i64 0)]:Array Value).toList (⟨0,0⟩:eN):=⟨[(.int .i64 0)],[(.int .i64 0)],rfl,(show GT.ok M [(.int .i64 0)] (0:Int) from rfl),(show GT.ok M [(.int .i64 0)] (0:Int) from rfl)⟩
theorem Jh (M:dI):GT.ok M (#[(.string ⟨#[]⟩),(.string ⟨#[]⟩),(.int .i64 0),(.int .i64 0),(.int .i64 0)]:Array Value).toList (⟨⟨[]⟩,⟨[]⟩,0,⟨0,0⟩⟩:cY):=⟨[(.string ⟨#[]⟩)],[(.string ⟨#[]⟩),(.int .i64 0),(.int .i64 0),(.int .i64 0)],rfl,(show GT.ok M [(.string ⟨#[]⟩)] (⟨[]⟩:dJ) from rfl),⟨[(.string ⟨#[]⟩)],[(.int .i64 0),(.int .i64 0),(.int .i64 0)],rfl,(show GT.ok M [(.string ⟨#[]⟩)] (⟨[]⟩:dJ) from rfl),⟨[(.int .i64 0)],[(.int .i64 0),(.int .i64 0)],rfl,(show GT.ok M [(.int .i64 0)] (0:Int) from rfl),(show GT.ok M [(.int .i64 0),(.int .i64 0)] (⟨0,0⟩:eN) from xm M)⟩⟩⟩
theorem Ar (M:dI):GT.ok M (#[(.bool false),(.bool false),(.int .i64 0),(.int .i64 0),(.int .i64 0),(.slice none 0 0)]:Array Value).toList (⟨⟨false,⟨false,0⟩,0,0⟩,[]⟩:bO):=⟨[(.bool false),(.bool false),(.int .i64 0),(.int .i64 0),(.int .i64 0)],[(.slice none 0 0)],rfl,(show GT.ok M [(.bool false),(.bool false),(.int .i64 0),(.int .i64 0),(.int .i64 0)] (⟨false,⟨false,0⟩,0,0⟩:bQ) from C1 M),(show GT.ok M [(.slice none 0 0)] ([]: (List Bool)) from ⟨_,rfl,none,0,0,rfl,rfl,bP _,by simp [maxLen],fun _ _ h=>by simp at h⟩)⟩
theorem xT (M:dI):GT.ok M (#[(.int .i64 0),(.slice none 0 0),(.slice none 0 0)]:Array Value).toList (⟨0,[],[]⟩:aH):=⟨[(.int .i64 0)],[(.slice none 0 0),(.slice none 0 0)],rfl,(show GT.ok M [(.int .i64 0)] (0:Int) from rfl),⟨[(.slice none 0 0)],[(.slice none 0 0)],rfl,(show GT.ok M [(.slice none 0 0)] ([]: (List aA)) from ⟨_,rfl,none,0,0,rfl,rfl,bP _,by simp [maxLen],fun _ _ h=>by simp at h⟩),(show GT.ok M [(.slice none 0 0)] ([]: (List aI)) from ⟨_,rfl,none,0,0,rfl,rfl,bP _,by simp [maxLen],fun _ _ h=>by simp at h⟩)⟩⟩
theorem JU (M:dI):GT.ok M (#[(.int .i64 0),(.int .i64 0),(.int .i64 0),(.int .i64 0),(.int .i64 0),(.int .i64 0),(.int .i64 0)]:Array Value).toList (⟨0,0,0,⟨0,0⟩,⟨0,0⟩⟩:qg):=⟨[(.int .i64 0)],[(.int .i64 0),(.int .i64 0),(.int .i64 0),(.int .i64 0),(.int .i64 0),(.int .i64 0)],rfl,(show GT.ok M [(.int .i64 0)] (0:Int) from rfl),⟨[(.int .i64 0)],[(.int .i64 0),(.int .i64 0),(.int .i64 0),(.int .i64 0),(.int .i64 0)],rfl,(show GT.ok M [(.int .i64 0)] (0:Int) from rfl),⟨[(.int .i64 0)],[(.int .i64 0),(.int .i64 0),(.int .i64 0),(.int .i64 0)],rfl,(show GT.ok M [(.int .i64 0)] (0:Int) from rfl),⟨[(.int .i64 0),(.int .i64 0)],[(.int .i64 0),(.int .i64 0)],rfl,(show GT.ok M [(.int .i64 0),(.int .i64 0)] (⟨0,0⟩:eN) from xm M),(show GT.ok M [(.int .i64 0),(.int .i64 0)] (⟨0,0⟩:eN) from xm M)⟩⟩⟩⟩
theorem uS (M:dI):GT.ok M (#[(.int .i64 0),(.int .i64 0),(.slice none 0 0)]:Array Value).toList (⟨0,0,[]⟩:aA):=⟨[(.int .i64 0)],[(.int .i64 0),(.slice none 0 0)],rfl,(show GT.ok M [(.int .i64 0)] (0:Int) from rfl),⟨[(.int .i64 0)],[(.slice none 0 0)],rfl,(show GT.ok M [(.int .i64 0)] (0:Int) from rfl),(show GT.ok M [(.slice none 0 0)] ([]: (List Int)) from ⟨_,rfl,none,0,0,rfl,rfl,bP _,by simp [maxLen],fun _ _ h=>by simp at h⟩)⟩⟩
structure cE where
  nu: (List Int)
  aW: (List Int)
  gV:RV
  deriving Inhabited
def qu (x:cE):=(x.nu,x.aW,x.gV)
instance instGTGroup_r2:GT cE:=GT.via qu
theorem yU:Fd 2 (fun x:cE=>x.gV):= .v qu (.snd (.snd (.self)))
theorem yV:Fs 2 RV (fun(x:cE) y=>{x with gV:=y}):= .v qu (.snd (.snd (.self)))
def cC:XT cE cI:=⟨fun u x=>u.nu=x.nu/\u.aW=x.aW,fun M h u x=>(u.nu=x.nu/\u.aW=x.aW)/\tE 51 M h u.gV.v x.gV,fun{M M' h u x} hk hh=>⟨hh.1,(own 51 u.gV.v x.gV).mono hk hh.2⟩,fun h=>h.1⟩
theorem rz:XO cC 51 2 (fun u=>u.gV) (fun u r=>{u with gV:=r}) (fun x=>x.gV) (fun x y=>{x with gV:=y}):=⟨yU,yV,by decide,fun h=>h.2,fun hr ho=>⟨hr,ho⟩⟩
theorem As (M h:dI) (u:cE) (x:cI) (cs:List Value) (hd: ∀b o,h b=some o->M b=none) (hx:cC.ok M h u x) (hc:GT.ok M cs u):GT.ok (oM M h) cs x:=by
  obtain⟨⟨e0,e1⟩,ho⟩:=hx
  obtain⟨c0,d0,hd0,a0,c1,d1,hd1,a1,a2⟩:=hc
  exact⟨c0,d0,hd0,GT.mono (sq M h) (show GT.ok M c0 x.nu from e0▸(show GT.ok M c0 u.nu from a0)),⟨c1,d1,hd1,GT.mono (sq M h) (show GT.ok M c1 x.aW from e1▸(show GT.ok M c1 u.aW from a1)),⟨u.gV.v,a2,tE.sl hd ho⟩⟩⟩
theorem oN:lv bE 27 true 4:=su
theorem vX:mm bE 27 0 0:=ny
theorem EH:lv bE 22 false 1:=su
theorem BW:Tryz.prog.underlying 22=some (.slice 23):=by kernel_rfl
theorem F1:mm bE 27 1 1:=ny
theorem xU:lv bE 23 false 1:=su
theorem oO:Tryz.prog.underlying 23=some (.slice 74):=by kernel_rfl
theorem C2:tF bE 22 23 1:=BS
theorem kN:tF bE 23 74 4:=BS
theorem fI:lv bE 74 true 4:=su
theorem mS:yS bE 74 4:=Aq (.agg #[(.int .i64 0),(.int .i64 0),(.int .i64 0),(.int .i64 0)])
theorem jv:mm bE 74 0 0:=ny
theorem cN:lv bE 3 false 1:=su
theorem JV:gR bE 135:=ir Tryz.func135
theorem zC:gR bE 113:=ir Tryz.func113
theorem jY:mm bE 74 1 1:=ny
theorem kO:mm bE 74 2 2:=ny
theorem ou:mm bE 74 3 3:=ny
theorem JW:gR bE 98:=ir Tryz.func98
theorem LU:gR bE 68:=ir Tryz.func68
theorem mixed:Tryz.prog.follows .mixedOrders=true:=by kernel_rfl
theorem EI:qJ bE 23 74 4 32:=qJ.of (.agg #[(.int .i64 0),(.int .i64 0),(.int .i64 0),(.int .i64 0)])
theorem LV:gR bE 99:=ir Tryz.func99
theorem JX:gR bE 101:=ir Tryz.func101
theorem Ip:gR bE 100:=ir Tryz.func100
theorem JY:JH bE 87 [(.slice none 0 0)]:=⟨(.slice none 0 0),fun _=>by kernel_rfl,rfl⟩
theorem fE:lv bE 87 false 1:=su
theorem dV:tF bE 87 3 1:=BS
theorem Ft:yS bE 3 1:=Aq (.int .i64 0)
theorem tM:qJ bE 87 3 1 8:=qJ.of (.int .i64 0)
theorem JZ:gR bE 102:=ir Tryz.func102
theorem l3:Tryz.prog.underlying 87=some (.slice 3):=by kernel_rfl
theorem Ji:Hm bE 3 (0:Int):=Hm.of (.int .i64 0) (fun M=>rfl)
theorem J0:gR bE 103:=ir Tryz.func103
theorem Iq:gR bE 117:=ir Tryz.func117
theorem LW:Hm bE 74 (⟨0,0,0,0⟩:aI):=Hm.of (.agg #[(.int .i64 0),(.int .i64 0),(.int .i64 0),(.int .i64 0)]) (fun M=>(ry M))
theorem J3:gR bE 105:=ir Tryz.func105
theorem J4:gR bE 104:=ir Tryz.func104
theorem J5:gR bE 130:=ir Tryz.func130
theorem J6:gR bE 107:=ir Tryz.func107
theorem Ir:tG bE 187 [(0,1),(1,1),(2,1)] #[(.int .i64 0),(.int .i64 0),(.slice none 0 0)]:=tG.of (.agg #[(.int .i64 0),(.int .i64 0),(.slice none 0 0)]) Tryz.underlying187
theorem ku:mm bE 187 2 2:=ny
theorem lV:mm bE 187 1 1:=ny
theorem nR:mm bE 187 0 0:=ny
theorem nH:Tryz.prog.underlying 132=some (.slice 187):=by kernel_rfl
theorem kc:tF bE 132 187 3:=BS
theorem J7:gR bE 129:=ir Tryz.func129
theorem uT:lv bE 187 true 3:=su
theorem BX:yS bE 187 3:=Aq (.agg #[(.int .i64 0),(.int .i64 0),(.slice none 0 0)])
theorem J8:qJ bE 132 187 3 40:=qJ.of (.agg #[(.int .i64 0),(.int .i64 0),(.slice none 0 0)])
theorem Is:gR bE 106:=ir Tryz.func106
theorem F2:gR bE 70:=ir Tryz.func70
theorem C3:tG bE 74 [(0,1),(1,1),(2,1),(3,1)] #[(.int .i64 0),(.int .i64 0),(.int .i64 0),(.int .i64 0)]:=tG.of (.agg #[(.int .i64 0),(.int .i64 0),(.int .i64 0),(.int .i64 0)]) Tryz.underlying74
theorem Jj:gR bE 71:=ir Tryz.func71
theorem Fu:Tryz.prog.underlying 3=some (.int .i64):=by kernel_rfl
theorem J9:Il bE 74 aI:=⟨fun M cs ds a b w ha hb=>by
  obtain⟨_,_,rfl,rfl,⟨_,_,rfl,rfl,⟨_,_,rfl,rfl,rfl⟩⟩⟩:=ha
  obtain⟨_,_,rfl,rfl,⟨_,_,rfl,rfl,⟨_,_,rfl,rfl,rfl⟩⟩⟩:=hb
  refine(gK 9999 Tryz.underlying74 (uv.cons (by decide) (cP cN _) (cP cN _) (jT Fu _ _ w) (uv.cons (by decide) (cP cN _) (cP cN _) (jT Fu _ _ w) (uv.cons (by decide) (cP cN _) (cP cN _) (jT Fu _ _ w) (uv.cons (by decide) (cP cN _) (cP cN _) (jT Fu _ _ w) uv.nil))))).trans ?_
  congr 1
  cases a;cases b;unfold lG
  rw [fO]
  simp,by kernel_rfl⟩
theorem LX:gR bE 69:=ir Tryz.func69
theorem Ka:gR bE 46:=ir Tryz.func46
theorem mT:mm bE 27 2 2:=ny
theorem vY:lv bE 24 false 1:=su
theorem xV:Tryz.prog.underlying 24=some (.slice 117):=by kernel_rfl
theorem Au:tF bE 24 117 6:=BS
theorem lx:lv bE 117 true 6:=su
theorem zD:yS bE 117 6:=Aq (.agg #[(.int .i64 0),(.int .i64 0),(.int .i64 0),(.int .i64 0),(.int .i64 0),(.bool false)])
theorem uU:mm bE 117 1 2:=ny
theorem HJ:gR bE 73:=ir Tryz.func73
theorem Av:mm bE 117 0 0:=ny
theorem sU:lv bE 76 true 2:=su
theorem rA:mm bE 76 0 0:=ny
theorem po:mm bE 76 1 1:=ny
theorem Kb:gR bE 76:=ir Tryz.func76
theorem EJ:gR bE 50:=ir Tryz.func50
theorem Kc:gR bE 131:=ir Tryz.func131
theorem Kd:gR bE 108:=ir Tryz.func108
theorem LY:gR bE 72:=ir Tryz.func72
theorem qw:mm bE 117 2 3:=ny
theorem sE:mm bE 117 3 4:=ny
theorem LZ:gR bE 47:=ir Tryz.func47
theorem vZ:mm bE 27 3 3:=ny
theorem EK:lv bE 25 false 1:=su
theorem F3:Tryz.prog.underlying 25=some (.slice 78):=by kernel_rfl
theorem EL:tF bE 25 78 5:=BS
theorem xW:lv bE 78 true 5:=su
theorem Jk:yS bE 78 5:=Aq (.agg #[(.string ⟨#[]⟩),(.string ⟨#[]⟩),(.int .i64 0),(.int .i64 0),(.int .i64 0)])
theorem F4:mm bE 78 0 0:=ny
theorem Aw:lv bE 9 false 1:=su
theorem yW:Tryz.prog.underlying 9=some (.string):=by kernel_rfl
theorem L0 (a:dJ) (b:Int) (w:World): (callFunc 195 [(str a),(.int .u8 b)].toArray).run bE w = .ok (.value (vi ((Lib.countByte a.cS (Int.toNat b).toUInt8:Nat):Int))) w:=xD Extern.BytealgCount.count Tryz.func195 (Lib.run_countString _ _ w)
theorem L1 (a:dJ) (b:Int) (w:World): (callFunc 171 [(str a),(.int .u8 b)].toArray).run bE w = .ok (.value (vi (Lib.indexByte a.cS (Int.toNat b).toUInt8))) w:=xD Extern.BytealgIndexByte.indexByte Tryz.func171 (Lib.run_indexByteString _ _ w)
theorem It:gR bE 134:=ir Tryz.func134
theorem Ke:gR bE 196:=ir Tryz.func196
theorem Iu:gR bE 170:=ir Tryz.func170
theorem Kf:gR bE 169:=ir Tryz.func169
theorem Kg:qJ bE 189 9 1 16:=qJ.of (.string ⟨#[]⟩)
theorem Nc:Hm bE 9 (⟨[]⟩:dJ):=Hm.of (.string ⟨#[]⟩) (fun M=>rfl)
theorem DS:tF bE 189 9 1:=BS
theorem Kh:gR bE 133:=ir Tryz.func133
theorem Ki:gR bE 110:=ir Tryz.func110
theorem Kj:Tryz.prog.underlying 189=some (.slice 9):=by kernel_rfl
theorem Kk:gR bE 132:=ir Tryz.func132
theorem Kl:gR bE 112:=ir Tryz.func112
theorem Km:gR bE 75:=ir Tryz.func75
theorem Kn:gR bE 111:=ir Tryz.func111
theorem Ko:gR bE 109:=ir Tryz.func109
theorem L2:gR bE 74:=ir Tryz.func74
theorem F5:mm bE 78 1 1:=ny
theorem C4:mm bE 78 2 2:=ny
theorem C5:mm bE 78 3 3:=ny
theorem Kp:yS bE 51 2:=Aq (.agg #[(.string ⟨#[]⟩),(.string ⟨#[]⟩)])
theorem Jl:tG bE 51 [(0,1),(1,1)] #[(.string ⟨#[]⟩),(.string ⟨#[]⟩)]:=tG.of (.agg #[(.string ⟨#[]⟩),(.string ⟨#[]⟩)]) Tryz.underlying51
theorem m8:lv bE 51 true 2:=su
theorem HK:gR bE 77:=ir Tryz.func77
theorem F6:mm bE 51 0 0:=ny
theorem eJ (a b:dJ) (w:World): (callFunc 139 [(str a),(str b)].toArray).run bE w = .ok (.value (vi (Lib.compareBytes a.cS b.cS))) w:=xD Extern.BytealgCompare.compare Tryz.func139 (Lib.run_compareString _ _ w)
theorem Kq:gR bE 119:=ir Tryz.func119
theorem Kr:gR bE 93:=ir Tryz.func93
theorem F7:mm bE 51 1 1:=ny
theorem EM:gR bE 57:=ir Tryz.func57
theorem L3:gR bE 48:=ir Tryz.func48
theorem Ks:gR bE 78:=ir Tryz.func78
theorem HL:gR bE 49:=ir Tryz.func49
theorem Kt:tG bE 126 [(0,4),(4,1),(5,1),(6,1),(7,1),(8,1),(9,1),(10,1),(11,1)] #[(.slice none 0 0),(.slice none 0 0),(.slice none 0 0),(.slice none 0 0),(.slice none 0 0),(.slice none 0 0),(.slice none 0 0),(.slice none 0 0),(.slice none 0 0),(.slice none 0 0),(.slice none 0 0),(.slice none 0 0)]:=tG.of (.agg #[(.slice none 0 0),(.slice none 0 0),(.slice none 0 0),(.slice none 0 0),(.slice none 0 0),(.slice none 0 0),(.slice none 0 0),(.slice none 0 0),(.slice none 0 0),(.slice none 0 0),(.slice none 0 0),(.slice none 0 0)]) Tryz.underlying126
theorem kx:mm bE 126 0 0:=ny
theorem Jm:gR bE 79:=ir Tryz.func79
theorem BZ:tF bE 120 132 1:=BS
theorem F8:yS bE 132 1:=Aq (.slice none 0 0)
theorem Iv:Tryz.prog.underlying 120=some (.slice 132):=by kernel_rfl
theorem Iw:lv bE 132 false 1:=su
theorem Ix:gR bE 136:=ir Tryz.func136
theorem HM:Tryz.prog.underlying 4=some (.bool):=by kernel_rfl
theorem Ku:gR bE 137:=ir Tryz.func137
theorem Kv:gR bE 115:=ir Tryz.func115
theorem Kw:gR bE 114:=ir Tryz.func114
theorem L4:gR bE 80:=ir Tryz.func80
theorem L5:gR bE 81:=ir Tryz.func81
theorem DT:mm bE 126 1 4:=ny
theorem Iy:lv bE 120 false 1:=su
theorem Iz:qJ bE 120 132 1 24:=qJ.of (.slice none 0 0)
theorem F9:gR bE 116:=ir Tryz.func116
theorem wJ:CQ bE 147 3 3 Int Int (0:Int):=⟨by kernel_rfl,(xE.int Fu),DH (.int .i64 0) (fun M=>⟨_,rfl,rfl⟩)⟩
theorem Kx:yS bE 23 1:=Aq (.slice none 0 0)
theorem L6:qJ bE 22 23 1 24:=qJ.of (.slice none 0 0)
theorem L7:gR bE 82:=ir Tryz.func82
theorem lW:mm bE 126 2 5:=ny
theorem qN:lv bE 121 false 1:=su
theorem Ky:tG bE 134 [(0,1),(1,1),(2,1)] #[(.int .i64 0),(.slice none 0 0),(.slice none 0 0)]:=tG.of (.agg #[(.int .i64 0),(.slice none 0 0),(.slice none 0 0)]) Tryz.underlying134
theorem zF:tF bE 121 134 3:=BS
theorem DU:yS bE 134 3:=Aq (.agg #[(.int .i64 0),(.slice none 0 0),(.slice none 0 0)])
theorem Kz:qJ bE 121 134 3 56:=qJ.of (.agg #[(.int .i64 0),(.slice none 0 0),(.slice none 0 0)])
theorem wK:Tryz.prog.underlying 121=some (.slice 134):=by kernel_rfl
theorem L8:gR bE 51:=ir Tryz.func51
theorem L9:gR bE 85:=ir Tryz.func85
theorem zG:lv bE 134 true 3:=su
theorem xn:mm bE 117 4 5:=ny
theorem ux:lv bE 4 false 1:=su
theorem xo:mm bE 134 0 0:=ny
theorem xp:mm bE 134 2 2:=ny
theorem Ma:gR bE 84:=ir Tryz.func84
theorem KA:gR bE 83:=ir Tryz.func83
theorem xq:mm bE 126 3 6:=ny
theorem DV:lv bE 122 false 1:=su
theorem xX:tF bE 122 87 1:=BS
theorem KB:yS bE 87 1:=Aq (.slice none 0 0)
theorem IA:qJ bE 122 87 1 24:=qJ.of (.slice none 0 0)
theorem Mb:gR bE 52:=ir Tryz.func52
theorem KC:tG bE 176 [(0,1)] #[(.slice none 0 0)]:=tG.of (.agg #[(.slice none 0 0)]) Tryz.underlying176
theorem nS:mm bE 176 0 0:=ny
theorem KD:gR bE 61:=ir Tryz.func61
theorem DW:Tryz.prog.underlying 122=some (.slice 87):=by kernel_rfl
theorem EN:gR bE 64:=ir Tryz.func64
theorem KE:gR bE 63:=ir Tryz.func63
theorem sF:mm bE 126 5 8:=ny
theorem uV:mm bE 126 6 9:=ny
theorem Mc:gR bE 86:=ir Tryz.func86
theorem KF:JH bE 129 [(.slice none 0 0),(.slice none 0 0),(.slice none 0 0)]:=⟨(.agg #[(.slice none 0 0),(.slice none 0 0),(.slice none 0 0)]),fun _=>by kernel_rfl,rfl⟩
theorem qx:mm bE 126 4 7:=ny
theorem xY:lv bE 123 false 1:=su
theorem IB:Tryz.prog.underlying 123=some (.slice 129):=by kernel_rfl
theorem Ax:mm bE 129 0 0:=ny
theorem Ay:mm bE 129 1 1:=ny
theorem KG:lv bE 129 true 3:=su
theorem DX:tF bE 123 129 3:=BS
theorem KH:yS bE 129 3:=Aq (.agg #[(.slice none 0 0),(.slice none 0 0),(.slice none 0 0)])
theorem KI:qJ bE 123 129 3 72:=qJ.of (.agg #[(.slice none 0 0),(.slice none 0 0),(.slice none 0 0)])
theorem HN:yS bE 41 2:=Aq (.agg #[(.bool false),(.int .i64 0)])
theorem KJ:gR bE 138:=ir Tryz.func138
theorem IC:gR bE 118:=ir Tryz.func118
theorem EO:tG bE 41 [(0,1),(1,1)] #[(.bool false),(.int .i64 0)]:=tG.of (.agg #[(.bool false),(.int .i64 0)]) Tryz.underlying41
theorem rB:lv bE 41 true 2:=su
theorem Md:gR bE 87:=ir Tryz.func87
theorem C6:mm bE 41 0 0:=ny
theorem tN:mm bE 41 1 1:=ny
theorem Me:gR bE 88:=ir Tryz.func88
theorem Az:mm bE 129 2 2:=ny
theorem Ga:lv bE 127 false 1:=su
theorem KK:tF bE 127 51 2:=BS
theorem KL:qJ bE 127 51 2 32:=qJ.of (.agg #[(.string ⟨#[]⟩),(.string ⟨#[]⟩)])
theorem AA:mm bE 126 7 10:=ny
theorem AB:mm bE 126 8 11:=ny
theorem Gb:lv bE 124 false 1:=su
theorem ID:tF bE 124 41 2:=BS
theorem KM:qJ bE 124 41 2 16:=qJ.of (.agg #[(.bool false),(.int .i64 0)])
theorem Mf:gR bE 53:=ir Tryz.func53
theorem KN:gR bE 26:=ir Tryz.func26
theorem Jn:gR bE 41:=ir Tryz.func41
theorem Mg:JH bE 29 [(.slice none 0 0)]:=⟨(.slice none 0 0),fun _=>by kernel_rfl,rfl⟩
theorem w6:lv bE 68 false 1:=su
theorem KO:Tryz.prog.underlying 127=some (.slice 51):=by kernel_rfl
theorem EP:lv bE 29 false 1:=su
theorem KP:tG bE 43 [(0,1),(1,2),(3,1),(4,1)] #[(.bool false),(.bool false),(.int .i64 0),(.int .i64 0),(.int .i64 0)]:=tG.of (.agg #[(.bool false),(.bool false),(.int .i64 0),(.int .i64 0),(.int .i64 0)]) Tryz.underlying43
theorem w7:tF bE 29 43 5:=BS
theorem B0:yS bE 43 5:=Aq (.agg #[(.bool false),(.bool false),(.int .i64 0),(.int .i64 0),(.int .i64 0)])
theorem Jo:qJ bE 29 43 5 40:=qJ.of (.agg #[(.bool false),(.bool false),(.int .i64 0),(.int .i64 0),(.int .i64 0)])
theorem KQ:gR bE 54:=ir Tryz.func54
theorem IE:yS bE 136 7:=Aq (.agg #[(.int .i64 0),(.int .i64 0),(.int .i64 0),(.int .i64 0),(.int .i64 0),(.int .i64 0),(.int .i64 0)])
theorem KR:tG bE 136 [(0,1),(1,1),(2,1),(3,2),(5,2)] #[(.int .i64 0),(.int .i64 0),(.int .i64 0),(.int .i64 0),(.int .i64 0),(.int .i64 0),(.int .i64 0)]:=tG.of (.agg #[(.int .i64 0),(.int .i64 0),(.int .i64 0),(.int .i64 0),(.int .i64 0),(.int .i64 0),(.int .i64 0)]) Tryz.underlying136
theorem DY:lv bE 136 true 7:=su
theorem Jp:yS bE 76 2:=Aq (.agg #[(.int .i64 0),(.int .i64 0)])
theorem Mh:tG bE 76 [(0,1),(1,1)] #[(.int .i64 0),(.int .i64 0)]:=tG.of (.agg #[(.int .i64 0),(.int .i64 0)]) Tryz.underlying76
theorem KS:gR bE 89:=ir Tryz.func89
theorem sG:mm bE 136 3 3:=ny
theorem KT:gR bE 90:=ir Tryz.func90
theorem DZ:mm bE 136 4 5:=ny
theorem Mi:gR bE 55:=ir Tryz.func55
theorem HO:LS bE 136 2 3 2:=⟨fun _ _=>by kernel_rfl⟩
theorem yX:Tryz.prog.underlying 29=some (.slice 43):=by kernel_rfl
theorem Mj:gR bE 27:=ir Tryz.func27
theorem uW:Tryz.prog.underlying 28=some (.slice 53):=by kernel_rfl
theorem tO:tF bE 28 53 5:=BS
theorem pq:lv bE 53 true 5:=su
theorem HQ:yS bE 53 5:=Aq (.agg #[(.string ⟨#[]⟩),(.string ⟨#[]⟩),(.string ⟨#[]⟩),(.string ⟨#[]⟩),(.bool false)])
theorem tP:mm bE 53 0 0:=ny
theorem IF:Tryz.prog.underlying 196=some (.int .u64):=by kernel_rfl
theorem Mk:gR bE 92:=ir Tryz.func92
theorem Ml:gR bE 91:=ir Tryz.func91
theorem B1:gR bE 56:=ir Tryz.func56
theorem tQ:mm bE 53 1 2:=ny
theorem Mm:gR bE 94:=ir Tryz.func94
theorem KU:gR bE 58:=ir Tryz.func58
theorem Mn:gR bE 28:=ir Tryz.func28
theorem Mo:tG bE 78 [(0,1),(1,1),(2,1),(3,2)] #[(.string ⟨#[]⟩),(.string ⟨#[]⟩),(.int .i64 0),(.int .i64 0),(.int .i64 0)]:=tG.of (.agg #[(.string ⟨#[]⟩),(.string ⟨#[]⟩),(.int .i64 0),(.int .i64 0),(.int .i64 0)]) Tryz.underlying78
theorem Mp:tG bE 27 [(0,1),(1,1),(2,1),(3,1)] #[(.slice none 0 0),(.slice none 0 0),(.slice none 0 0),(.slice none 0 0)]:=tG.of (.agg #[(.slice none 0 0),(.slice none 0 0),(.slice none 0 0),(.slice none 0 0)]) Tryz.underlying27
theorem Mq:yS bE 27 4:=Aq (.agg #[(.slice none 0 0),(.slice none 0 0),(.slice none 0 0),(.slice none 0 0)])
theorem rC:lv bE 43 true 5:=su
theorem tR:mm bE 43 0 0:=ny
theorem AD:mm bE 43 2 3:=ny
theorem AE:mm bE 43 3 4:=ny
theorem v7:mm bE 43 1 1:=ny
theorem KW:Il bE 41 dU:=⟨fun M cs ds a b w ha hb=>by
  obtain⟨_,_,rfl,rfl,rfl⟩:=ha
  obtain⟨_,_,rfl,rfl,rfl⟩:=hb
  refine(gK 9999 Tryz.underlying41 (uv.cons (by decide) (cP ux _) (cP ux _) (m5 HM _ _ w) (uv.cons (by decide) (cP cN _) (cP cN _) (jT Fu _ _ w) uv.nil))).trans ?_
  congr 1
  cases a;cases b;unfold qs
  rw [fO]
  simp,by kernel_rfl⟩
theorem Jq:gR bE 59:=ir Tryz.func59
theorem IG:Il bE 43 bQ:=⟨fun M cs ds a b w ha hb=>by
  obtain⟨_,_,rfl,rfl,⟨_,_,rfl,⟨_,_,rfl,rfl,rfl⟩,⟨_,_,rfl,rfl,rfl⟩⟩⟩:=ha
  obtain⟨_,_,rfl,rfl,⟨_,_,rfl,⟨_,_,rfl,rfl,rfl⟩,⟨_,_,rfl,rfl,rfl⟩⟩⟩:=hb
  refine(gK 9999 Tryz.underlying43 (uv.cons (by decide) (cP ux _) (cP ux _) (m5 HM _ _ w) (uv.cons (by decide) (mM rB rfl _) (mM rB rfl _) (gK 9998 Tryz.underlying40 (uv.cons (by decide) (cP ux _) (cP ux _) (m5 HM _ _ w) (uv.cons (by decide) (cP cN _) (cP cN _) (jT Fu _ _ w) uv.nil))) (uv.cons (by decide) (cP cN _) (cP cN _) (jT Fu _ _ w) (uv.cons (by decide) (cP cN _) (cP cN _) (jT Fu _ _ w) uv.nil))))).trans ?_
  congr 1
  obtain⟨_,⟨_,_⟩,_,_⟩:=a;obtain⟨_,⟨_,_⟩,_,_⟩:=b;unfold lH qs
  rw [fO]
  simp,by kernel_rfl⟩
theorem Mr:gR bE 32:=ir Tryz.func32
theorem Ms:gR bE 13:=ir Tryz.func13
theorem Mt:gR bE 30:=ir Tryz.func30
theorem KX:JH bE 143 [(.map none)]:=⟨(.map none),fun _=>by kernel_rfl,rfl⟩
theorem B2:lv bE 143 false 1:=su
theorem KY:gR bE 60:=ir Tryz.func60
theorem D0:CQ bE 143 3 4 Int Bool (false:Bool):=⟨by kernel_rfl,(xE.int Fu),DH (.bool false) (fun M=>⟨_,rfl,rfl⟩)⟩
theorem KZ:JH bE 144 [(.pointer none)]:=⟨(.pointer none),fun _=>by kernel_rfl,rfl⟩
theorem B3:lv bE 144 false 1:=su
theorem K0:gR bE 62:=ir Tryz.func62
theorem K1:Tryz.prog.underlying 124=some (.slice 41):=by kernel_rfl
theorem HR:gR bE 36:=ir Tryz.func36
theorem Mu:gR bE 29:=ir Tryz.func29
theorem K2:gR bE 10:=ir Tryz.func10
theorem yY:tF bE 35 4 1:=BS
theorem MZ:yS bE 4 1:=Aq (.bool false)
theorem K3:qJ bE 35 4 1 1:=qJ.of (.bool false)
theorem K4:gR bE 31:=ir Tryz.func31
theorem Jr:Tryz.prog.underlying 35=some (.slice 4):=by kernel_rfl
theorem Mv:gR bE 14:=ir Tryz.func14
theorem Mw:gR bE 37:=ir Tryz.func37
theorem Mx:tG bE 89 [(0,5),(5,1)] #[(.bool false),(.bool false),(.int .i64 0),(.int .i64 0),(.int .i64 0),(.slice none 0 0)]:=tG.of (.agg #[(.bool false),(.bool false),(.int .i64 0),(.int .i64 0),(.int .i64 0),(.slice none 0 0)]) Tryz.underlying89
theorem Gc:tF bE 84 89 6:=BS
theorem Gd:yS bE 89 6:=Aq (.agg #[(.bool false),(.bool false),(.int .i64 0),(.int .i64 0),(.int .i64 0),(.slice none 0 0)])
theorem My:qJ bE 84 89 6 64:=qJ.of (.agg #[(.bool false),(.bool false),(.int .i64 0),(.int .i64 0),(.int .i64 0),(.slice none 0 0)])
theorem K5:gR bE 33:=ir Tryz.func33
theorem Ge:Tryz.prog.underlying 84=some (.slice 89):=by kernel_rfl
theorem B4:lv bE 89 true 6:=su
theorem AF:mm bE 89 1 5:=ny
theorem HS:lv bE 35 false 1:=su
theorem Mz:qJ bE 28 53 5 72:=qJ.of (.agg #[(.string ⟨#[]⟩),(.string ⟨#[]⟩),(.string ⟨#[]⟩),(.string ⟨#[]⟩),(.bool false)])
theorem MA:gR bE 34:=ir Tryz.func34
theorem K6:gR bE 15:=ir Tryz.func15
theorem Js:mm bE 89 0 0:=ny
theorem K7:gR bE 16:=ir Tryz.func16
theorem IH:Il bE 53 Test:=⟨fun M cs ds a b w ha hb=>by
  obtain⟨_,_,rfl,⟨_,_,rfl,rfl,rfl⟩,⟨_,_,rfl,⟨_,_,rfl,rfl,rfl⟩,rfl⟩⟩:=ha
  obtain⟨_,_,rfl,⟨_,_,rfl,rfl,rfl⟩,⟨_,_,rfl,⟨_,_,rfl,rfl,rfl⟩,rfl⟩⟩:=hb
  refine(gK 9999 Tryz.underlying53 (uv.cons (by decide) (mM m8 rfl _) (mM m8 rfl _) (gK 9998 Tryz.underlying50 (uv.cons (by decide) (cP Aw _) (cP Aw _) (n9 yW _ _ w) (uv.cons (by decide) (cP Aw _) (cP Aw _) (n9 yW _ _ w) uv.nil))) (uv.cons (by decide) (mM m8 rfl _) (mM m8 rfl _) (gK 9998 Tryz.underlying50 (uv.cons (by decide) (cP Aw _) (cP Aw _) (n9 yW _ _ w) (uv.cons (by decide) (cP Aw _) (cP Aw _) (n9 yW _ _ w) uv.nil))) (uv.cons (by decide) (cP ux _) (cP ux _) (m5 HM _ _ w) uv.nil)))).trans ?_
  congr 1
  obtain⟨⟨_,_⟩,⟨_,_⟩,_⟩:=a;obtain⟨⟨_,_⟩,⟨_,_⟩,_⟩:=b;unfold sB uN
  rw [fO]
  simp,by kernel_rfl⟩
theorem MB:gR bE 35:=ir Tryz.func35
theorem MC:gR bE 17:=ir Tryz.func17
theorem MD:gR bE 18:=ir Tryz.func18
theorem ME:gR bE 19:=ir Tryz.func19
def aY (E:World) (V:List HP) (res:Bool) (v:Value) (w:World):Prop:=v= (vb res)/\Holds E w V
def aN (E:World) (V:List HP) (res:Int) (v:Value) (w:World):Prop:=v= (vi res)/\Holds E w V
def lA (E:World) (V:List HP) (res: (List aI)) (v:Value) (w:World):Prop:=Holds E w ([own 74 v res]++V)
def kP (E:World) (V:List HP) (res: (List Int)) (v:Value) (w:World):Prop:=Holds E w ([own 3 v res]++V)
def lf (E:World) (V:List HP) (res: (List aA)) (v:Value) (w:World):Prop:=Holds E w ([own 187 v res]++V)
def o1 (E:World) (V:List HP) (res:aI) (v:Value) (w:World):Prop:=Holds E w ([rd v res]++V)
def ov (E:World) (V:List HP) (res: (List dJ)) (v:Value) (w:World):Prop:=Holds E w ([own 9 v res]++V)
def i7 (E:World) (V:List HP) (b0:Nat) (v0_0 v0_1:Value) (v0_2 v0_3:Value) (v0_4 v0_5:Value) (v0_6 v0_7:Value) (v0_8 v0_9:Value) (v0_10 v0_11:Value) (res:Int) (v:Value) (w:World):Prop:=v= (vi res)/\Holds E w ([bc 126 b0 [v0_0,v0_1,v0_2,v0_3,v0_4,v0_5,v0_6,v0_7,v0_8,v0_9,v0_10,v0_11]]++V)
def m0 (E:World) (V:List HP) (res:Option ((List (List aI))×(List aI)×(List bZ)×(List cY)×(List (List aA))×(List aH)×(List (List Int))×(List cI)×(List Int)×(List Int)×(List Int)×(List dU))×Int) (v:Value) (w:World):Prop:=DL res.1 (v = .tuple #[(.pointer none),(vi res.2)]/\Holds E w V) (fun y=>∃(ub0:Nat) (u0_0 u0_1:Value) (u0_2 u0_3:Value) (u0_4 u0_5:Value) (u0_6 u0_7:Value) (u0_8 u0_9:Value) (u0_10 u0_11:Value),v = .tuple #[vp ub0 0,(vi res.2)]/\Holds E w ([bc 126 ub0 [u0_0,u0_1,u0_2,u0_3,u0_4,u0_5,u0_6,u0_7,u0_8,u0_9,u0_10,u0_11],rd u0_0 y.1,rd u0_1 y.2.1,rd u0_2 y.2.2.1,rd u0_3 y.2.2.2.1,own 132 u0_4 y.2.2.2.2.1,rd u0_5 y.2.2.2.2.2.1,rd u0_6 y.2.2.2.2.2.2.1,own 129 u0_7 y.2.2.2.2.2.2.2.1,rd u0_8 y.2.2.2.2.2.2.2.2.1,rd u0_9 y.2.2.2.2.2.2.2.2.2.1,own 3 u0_10 y.2.2.2.2.2.2.2.2.2.2.1,own 41 u0_11 y.2.2.2.2.2.2.2.2.2.2.2]++V))
def xZ (E:World) (V:List HP) (res: (List bQ)×Int) (v:Value) (w:World):Prop:=∃u0:Value,v = .tuple #[u0,(vi res.2)]/\Holds E w ([own 43 u0 res.1]++V)
end Go.Gk
namespace Go.Gk
open Go Go.Proofs
def xu (H:Type) (d:DataW H):Nat:=YthioiiocofohiaaGreatDoor.Rows.uptoBulk d
def K9 (H:Type) (d:List (DataW H)):Nat:=YthioiiocofohiaaGreatDoor.Rows.uptoBulkAll d
theorem gw:UB xu K9 where
  str:=fun H b=>by simp [xu,YthioiiocofohiaaGreatDoor.Rows.uptoBulk]
  pos:=fun H d=>by
    unfold xu
    cases d with
    | lit l=>cases l <;> simp [YthioiiocofohiaaGreatDoor.Rows.uptoBulk]
    | nil=>simp [YthioiiocofohiaaGreatDoor.Rows.uptoBulk]
    | ptr d=>simp [YthioiiocofohiaaGreatDoor.Rows.uptoBulk]
    | slice elems spare=>simp [YthioiiocofohiaaGreatDoor.Rows.uptoBulk]
    | agg parts=>simp [YthioiiocofohiaaGreatDoor.Rows.uptoBulk]
    | iface t d=>simp [YthioiiocofohiaaGreatDoor.Rows.uptoBulk]
    | map entries=>simp [YthioiiocofohiaaGreatDoor.Rows.uptoBulk]
    | held h=>simp [YthioiiocofohiaaGreatDoor.Rows.uptoBulk]
  sl:=fun H e s=>by simp [xu,K9,YthioiiocofohiaaGreatDoor.Rows.uptoBulk]
  ag:=fun H l=>by simp [xu,K9,YthioiiocofohiaaGreatDoor.Rows.uptoBulk]
  nil:=fun H=>by simp [K9,YthioiiocofohiaaGreatDoor.Rows.uptoBulkAll]
  cons:=fun H x l=>by simp [xu,K9,YthioiiocofohiaaGreatDoor.Rows.uptoBulkAll]
theorem Gu:iT xu Tryz.prog 3 Int:=EV gw
theorem MG:iT xu Tryz.prog 74 aI:=jZ gw (fun(x:aI)=>(x.X0,x.Y0,x.X1,x.Y1)) (fun b=>⟨b.1,b.2.1,b.2.2.1,b.2.2.2⟩) (fun b=>rfl) Tryz.underlying74 (eU gw Gu (eU gw Gu (eU gw Gu (mU gw Gu)))) (fun b=>by simp only [HY];omega)
theorem La:iT xu Tryz.prog 23 (List aI):=ox (e:=74) gw MG
theorem MH:iT xu Tryz.prog 22 (List (List aI)):=ox (e:=23) gw La
theorem Lb:iT xu Tryz.prog 76 eN:=jZ gw (fun(x:eN)=>(x.X,x.Y)) (fun b=>⟨b.1,b.2⟩) (fun b=>rfl) Tryz.underlying76 (eU gw Gu (mU gw Gu)) (fun b=>by simp only [Gs];omega)
theorem M1:iT xu Tryz.prog 4 Bool:=C9 gw
theorem Lc:iT xu Tryz.prog 117 bZ:=jZ gw (fun(x:bZ)=>(x.At,x.eZ,x.bU,x.To,x.ij)) (fun b=>⟨b.1,b.2.1,b.2.2.1,b.2.2.2.1,b.2.2.2.2⟩) (fun b=>rfl) Tryz.underlying117 (eU gw Lb (eU gw Gu (eU gw Gu (eU gw Gu (mU gw M1))))) (fun b=>by simp only [HZ];omega)
theorem MI:iT xu Tryz.prog 24 (List bZ):=ox (e:=117) gw Lc
theorem LB:iT xu Tryz.prog 9 dJ:=EW gw
theorem MJ:iT xu Tryz.prog 78 cY:=jZ gw (fun(x:cY)=>(x.Part,x.fV,x.cZ,x.At)) (fun b=>⟨b.1,b.2.1,b.2.2.1,b.2.2.2⟩) (fun b=>rfl) Tryz.underlying78 (eU gw LB (eU gw LB (eU gw Gu (mU gw Lb)))) (fun b=>by simp only [D3];omega)
theorem MK:iT xu Tryz.prog 25 (List cY):=ox (e:=78) gw MJ
theorem ML:iT xu Tryz.prog 27 gS:=jZ gw (fun(x:gS)=>(x.aL,x.dL,x.aW,x.bJ)) (fun b=>⟨b.1,b.2.1,b.2.2.1,b.2.2.2⟩) (fun b=>rfl) Tryz.underlying27 (eU gw MH (eU gw La (eU gw MI (mU gw MK)))) (fun b=>by simp only [Gt];omega)
theorem Ld:iT xu Tryz.prog 51 fV:=jZ gw (fun(x:fV)=>(x.Part,x.fV)) (fun b=>⟨b.1,b.2⟩) (fun b=>rfl) Tryz.underlying51 (eU gw LB (mU gw LB)) (fun b=>by simp only [Jt];omega)
theorem MM:iT xu Tryz.prog 53 Test:=jZ gw (fun(x:Test)=>(x.A,x.B,x.Joined)) (fun b=>⟨b.1,b.2.1,b.2.2⟩) (fun b=>rfl) Tryz.underlying53 (eU gw Ld (eU gw Ld (mU gw M1))) (fun b=>by simp only [H0];omega)
theorem MN:iT xu Tryz.prog 28 (List Test):=ox (e:=53) gw MM
end Go.Gk
namespace Go.Proofs
open Go.Shelf Go.RowKit Go.Lib Go.Sort
def Tryz.lay100_ren : Go.Shelf.Ren := ⟨fun | 6 => 100 | 15 => 127 | 14 => 126 | 28 => 157 | 29 => 158 | 20 => 149 | 21 => 150 | 22 => 151 | 23 => 152 | 24 => 153 | 25 => 154 | 26 => 155 | 27 => 156 | 46 => 184 | 47 => 185 | 48 => 186 | 49 => 187 | 50 => 188 | 57 => 202 | n => n, fun | 22 => 23 | 24 => 74 | 25 => 118 | 3 => 3 | 39 => 196 | 0 => 0 | 53 => 221 | 55 => 223 | 4 => 4 | 46 => 215 | 45 => 214 | 50 => 94 | 5 => 5 | 9 => 9 | 66 => 239 | 70 => 243 | 76 => 256 | 77 => 257 | n => n, fun | n => n⟩
theorem Tryz.lay100 : Go.Proofs.SlLaysF0.n6 Tryz.prog Tryz.lay100_ren := {
  mixed := by kernel_rfl
  f6 := ⟨Tryz.f100.name, by decide, Tryz.func100.trans (congrArg some (by kernel_rfl))⟩
  f14 := ⟨Tryz.f126.name, by decide, Tryz.func126.trans (congrArg some (by kernel_rfl))⟩
  f15 := Tryz.func127.trans (congrArg some (by kernel_rfl))
  f20 := ⟨Tryz.f149.name, by decide, Tryz.func149.trans (congrArg some (by kernel_rfl))⟩
  f21 := ⟨Tryz.f150.name, by decide, Tryz.func150.trans (congrArg some (by kernel_rfl))⟩
  f22 := ⟨Tryz.f151.name, by decide, Tryz.func151.trans (congrArg some (by kernel_rfl))⟩
  f23 := ⟨Tryz.f152.name, by decide, Tryz.func152.trans (congrArg some (by kernel_rfl))⟩
  f24 := ⟨Tryz.f153.name, by decide, Tryz.func153.trans (congrArg some (by kernel_rfl))⟩
  f25 := ⟨Tryz.f154.name, by decide, Tryz.func154.trans (congrArg some (by kernel_rfl))⟩
  f26 := ⟨Tryz.f155.name, by decide, Tryz.func155.trans (congrArg some (by kernel_rfl))⟩
  f27 := ⟨Tryz.f156.name, by decide, Tryz.func156.trans (congrArg some (by kernel_rfl))⟩
  f28 := Tryz.func157.trans (congrArg some (by kernel_rfl))
  f29 := Tryz.func158.trans (congrArg some (by kernel_rfl))
  f46 := ⟨Tryz.f184.name, by decide, Tryz.func184.trans (congrArg some (by kernel_rfl))⟩
  f47 := Tryz.func185.trans (congrArg some (by kernel_rfl))
  f48 := Tryz.func186.trans (congrArg some (by kernel_rfl))
  f49 := ⟨Tryz.f187.name, by decide, Tryz.func187.trans (congrArg some (by kernel_rfl))⟩
  f50 := ⟨Tryz.f188.name, by decide, Tryz.func188.trans (congrArg some (by kernel_rfl))⟩
  f57 := ⟨Tryz.f202.name, by decide, Tryz.func202.trans (congrArg some (by kernel_rfl))⟩
  t0 := Tryz.underlying0
  a0 := Tryz.isAgg0
  z0 := Tryz.sizeOf0
  v0 := Tryz.zeroValue0
  t3 := Tryz.underlying3
  a3 := Tryz.isAgg3
  z3 := Tryz.sizeOf3
  v3 := Tryz.zeroValue3
  t4 := Tryz.underlying4
  a4 := Tryz.isAgg4
  z4 := Tryz.sizeOf4
  v4 := Tryz.zeroValue4
  t5 := Tryz.underlying5
  a5 := Tryz.isAgg5
  z5 := Tryz.sizeOf5
  v5 := Tryz.zeroValue5
  t9 := Tryz.underlying9
  a9 := Tryz.isAgg9
  z9 := Tryz.sizeOf9
  v9 := Tryz.zeroValue9
  t22 := Tryz.underlying23
  a22 := Tryz.isAgg23
  z22 := Tryz.sizeOf23
  v22 := Tryz.zeroValue23
  t25 := Tryz.underlying118
  a25 := Tryz.isAgg118
  z25 := Tryz.sizeOf118
  v25 := Tryz.zeroValue118
  t39 := Tryz.underlying196
  a39 := Tryz.isAgg196
  z39 := Tryz.sizeOf196
  v39 := Tryz.zeroValue196
  t45 := Tryz.underlying214
  a45 := Tryz.isAgg214
  z45 := Tryz.sizeOf214
  v45 := Tryz.zeroValue214
  t46 := Tryz.underlying215
  a46 := Tryz.isAgg215
  z46 := Tryz.sizeOf215
  v46 := Tryz.zeroValue215
  t50 := Tryz.underlying94
  a50 := Tryz.isAgg94
  z50 := Tryz.sizeOf94
  v50 := Tryz.zeroValue94
  t53 := Tryz.underlying221
  a53 := Tryz.isAgg221
  z53 := Tryz.sizeOf221
  v53 := Tryz.zeroValue221
  t55 := Tryz.underlying223
  a55 := Tryz.isAgg223
  z55 := Tryz.sizeOf223
  v55 := Tryz.zeroValue223
  t66 := Tryz.underlying239
  a66 := Tryz.isAgg239
  z66 := Tryz.sizeOf239
  v66 := Tryz.zeroValue239
  t70 := Tryz.underlying243
  a70 := Tryz.isAgg243
  z70 := Tryz.sizeOf243
  v70 := Tryz.zeroValue243
  t76 := Tryz.underlying256
  a76 := Tryz.isAgg256
  z76 := Tryz.sizeOf256
  v76 := Tryz.zeroValue256
  t77 := Tryz.underlying257
  a77 := Tryz.isAgg257
  z77 := Tryz.sizeOf257
  v77 := Tryz.zeroValue257 }
def Tryz.lay102_ren : Go.Shelf.Ren := ⟨fun | 5 => 102 | 8 => 127 | 7 => 128 | 19 => 157 | 20 => 158 | 10 => 159 | 11 => 160 | 12 => 161 | 13 => 162 | 14 => 163 | 15 => 164 | 16 => 165 | 17 => 166 | 18 => 167 | 30 => 189 | 31 => 185 | 32 => 186 | 33 => 190 | 34 => 191 | 35 => 192 | 40 => 203 | n => n, fun | 23 => 87 | 25 => 3 | 3 => 3 | 32 => 196 | 22 => 87 | 0 => 0 | 44 => 221 | 46 => 223 | 4 => 4 | 36 => 215 | 35 => 214 | 41 => 94 | 5 => 5 | 9 => 9 | 53 => 239 | 57 => 243 | 63 => 256 | 64 => 257 | n => n, fun | n => n⟩
theorem Tryz.lay102 : Go.Proofs.SlLaysM.n5 Tryz.prog Tryz.lay102_ren := {
  mixed := by kernel_rfl
  f5 := ⟨Tryz.f102.name, by decide, Tryz.func102.trans (congrArg some (by kernel_rfl))⟩
  f7 := ⟨Tryz.f128.name, by decide, Tryz.func128.trans (congrArg some (by kernel_rfl))⟩
  f8 := Tryz.func127.trans (congrArg some (by kernel_rfl))
  f10 := ⟨Tryz.f159.name, by decide, Tryz.func159.trans (congrArg some (by kernel_rfl))⟩
  f11 := ⟨Tryz.f160.name, by decide, Tryz.func160.trans (congrArg some (by kernel_rfl))⟩
  f12 := ⟨Tryz.f161.name, by decide, Tryz.func161.trans (congrArg some (by kernel_rfl))⟩
  f13 := ⟨Tryz.f162.name, by decide, Tryz.func162.trans (congrArg some (by kernel_rfl))⟩
  f14 := ⟨Tryz.f163.name, by decide, Tryz.func163.trans (congrArg some (by kernel_rfl))⟩
  f15 := ⟨Tryz.f164.name, by decide, Tryz.func164.trans (congrArg some (by kernel_rfl))⟩
  f16 := ⟨Tryz.f165.name, by decide, Tryz.func165.trans (congrArg some (by kernel_rfl))⟩
  f17 := ⟨Tryz.f166.name, by decide, Tryz.func166.trans (congrArg some (by kernel_rfl))⟩
  f18 := ⟨Tryz.f167.name, by decide, Tryz.func167.trans (congrArg some (by kernel_rfl))⟩
  f19 := Tryz.func157.trans (congrArg some (by kernel_rfl))
  f20 := Tryz.func158.trans (congrArg some (by kernel_rfl))
  f30 := ⟨Tryz.f189.name, by decide, Tryz.func189.trans (congrArg some (by kernel_rfl))⟩
  f31 := Tryz.func185.trans (congrArg some (by kernel_rfl))
  f32 := Tryz.func186.trans (congrArg some (by kernel_rfl))
  f33 := ⟨Tryz.f190.name, by decide, Tryz.func190.trans (congrArg some (by kernel_rfl))⟩
  f34 := ⟨Tryz.f191.name, by decide, Tryz.func191.trans (congrArg some (by kernel_rfl))⟩
  f35 := ⟨Tryz.f192.name, by decide, Tryz.func192.trans (congrArg some (by kernel_rfl))⟩
  f40 := ⟨Tryz.f203.name, by decide, Tryz.func203.trans (congrArg some (by kernel_rfl))⟩
  t0 := Tryz.underlying0
  a0 := Tryz.isAgg0
  z0 := Tryz.sizeOf0
  v0 := Tryz.zeroValue0
  t3 := Tryz.underlying3
  a3 := Tryz.isAgg3
  z3 := Tryz.sizeOf3
  v3 := Tryz.zeroValue3
  t4 := Tryz.underlying4
  a4 := Tryz.isAgg4
  z4 := Tryz.sizeOf4
  v4 := Tryz.zeroValue4
  t5 := Tryz.underlying5
  a5 := Tryz.isAgg5
  z5 := Tryz.sizeOf5
  v5 := Tryz.zeroValue5
  t9 := Tryz.underlying9
  a9 := Tryz.isAgg9
  z9 := Tryz.sizeOf9
  v9 := Tryz.zeroValue9
  t22 := Tryz.underlying87
  a22 := Tryz.isAgg87
  z22 := Tryz.sizeOf87
  v22 := Tryz.zeroValue87
  t23 := Tryz.underlying87
  a23 := Tryz.isAgg87
  z23 := Tryz.sizeOf87
  v23 := Tryz.zeroValue87
  t25 := Tryz.underlying3
  a25 := Tryz.isAgg3
  z25 := Tryz.sizeOf3
  v25 := Tryz.zeroValue3
  t32 := Tryz.underlying196
  a32 := Tryz.isAgg196
  z32 := Tryz.sizeOf196
  v32 := Tryz.zeroValue196
  t35 := Tryz.underlying214
  a35 := Tryz.isAgg214
  z35 := Tryz.sizeOf214
  v35 := Tryz.zeroValue214
  t36 := Tryz.underlying215
  a36 := Tryz.isAgg215
  z36 := Tryz.sizeOf215
  v36 := Tryz.zeroValue215
  t41 := Tryz.underlying94
  a41 := Tryz.isAgg94
  z41 := Tryz.sizeOf94
  v41 := Tryz.zeroValue94
  t44 := Tryz.underlying221
  a44 := Tryz.isAgg221
  z44 := Tryz.sizeOf221
  v44 := Tryz.zeroValue221
  t46 := Tryz.underlying223
  a46 := Tryz.isAgg223
  z46 := Tryz.sizeOf223
  v46 := Tryz.zeroValue223
  t53 := Tryz.underlying239
  a53 := Tryz.isAgg239
  z53 := Tryz.sizeOf239
  v53 := Tryz.zeroValue239
  t57 := Tryz.underlying243
  a57 := Tryz.isAgg243
  z57 := Tryz.sizeOf243
  v57 := Tryz.zeroValue243
  t63 := Tryz.underlying256
  a63 := Tryz.isAgg256
  z63 := Tryz.sizeOf256
  v63 := Tryz.zeroValue256
  t64 := Tryz.underlying257
  a64 := Tryz.isAgg257
  z64 := Tryz.sizeOf257
  v64 := Tryz.zeroValue257 }
end Go.Proofs
namespace Go.Gk
open Go Go.Proofs
variable (N:Nat) {E w:World} {i0 i1 i2:Nat} {p0 p1 p2 res:Int} {v0 v1 v2:Value} {V:List HP}
theorem w8 {res:Bool} (o:Holds E w V) (j:qm N p0 p1 p2=some res):
    Calls bE 135 [(vi p0),(vi p1),(vi p2)].toArray w (gF (aY E V res)):=by
 unfold qm at j
 refine enter Tryz.func135 zr zr (RC.sr (aK (vb false) (RL.ns (mv (vi p0) (mv (vi p1) (ic p0 p1 (mv (vb (decide (p0>=p1))) (RL.gs true (decide (p0>=p1)) (vi p0) zr zr zr dT ?_))))))))
 refine RL.gs true (decide (p0>=p1)) (vi p2) rfl rfl rfl dT (RL.gs true (decide (p0>=p1)) (vb (decide (p0<=p2))) rfl rfl rfl (dZ .leq .i64 p0 p2 rfl (fun h=>by exact(cV h:cv (true&&((decide (p0>=p1))==true)) (vi p0)= (vi p0))) (fun h=>by exact(cV h:cv (true&&((decide (p0>=p1))==true)) (vi p2)= (vi p2))) rfl) (RL.pick (decide (p0>=p1)) (vb ((decide (p0>=p1))&&(decide (p0<=p2)))) (iL true) (aK (vb ((decide (p0>=p1))&&(decide (p0<=p2)))) (RL.nt (RC.ret ?_)))))
 obtain rfl:=oi j
 exact cF ⟨rfl,o.drop 0⟩
theorem ki {res:Bool} (o:Holds E w V) (j:jV N p0=some res):
    Calls bE 113 [(vi p0)].toArray w (gF (aY E V res)):=by
 unfold jV at j
 refine enter Tryz.func113 zr zr (RC.sr (aK (vb false) (RL.ns (mv (vi p0) ?_))))
 obtain⟨aa,ab,j⟩:=bd j
 refine RL.call zt zr JV [(vi p0),(vi (-1000000)),(vi 1000000)] zr (aF (w8 N (p0:=p0) (p1:=(-1000000)) (p2:=1000000) o ab) ?_)
 rintro _ w ⟨rfl,o⟩
 refine aK (vb aa) (RL.nt (RC.ret ?_))
 obtain rfl:=oi j
 exact cF ⟨rfl,o.drop 0⟩
theorem qO {p0:aI} {res:Bool} (j:Holds E w V) (h0:V[i0]? =some (rd v0 p0)) (hb:kY N p0=some res):
    Calls bE 98 [v0].toArray w (gF (aY E V res)):=by
 unfold kY at hb
 refine enter Tryz.func98 zr zr ?_
 have j:=j.dup (i0+0) h0
 refine RC.sr (RL.dB 0 v0 j zr fun aq w j=>?_)
 refine aK (vb false) (RL.nq ?_)
 obtain⟨af,o,hb⟩:=bd hb
 refine RC.jn (fun(af:Bool)=>SH E V [(2,vb af)] []) af ?_ ?_
 ·refine RC.region (RL.bB zr jv (RL.aM 0 j zr eO cN ?_))
  obtain⟨aj,ak,o⟩:=bd o
  refine RL.call zt zr zC [(vi p0.X0)] zr (aF (ki N (p0:=p0.X0) j ak) ?_)
  rintro _ w ⟨rfl,j⟩
  refine mv (vb aj) (fU o (fun aa o=>?_) fun aa o=>?_)
  rotate_left
  ·refine bN aa (bN aa (bN aa (fP aa (vb false) (mv (vb false) (nQ (nQ (nQ (RL.pick false (vb false) zr ?_))))))))
   refine mv (vb false) (nQ (nQ (nQ (RL.pick false (vb false) zr (aK (vb false) (RL.nil ?_))))))
   obtain rfl:=oi o
   exact⟨rfl,j.sp 2 []⟩
  refine RL.bB (hg:=(cg aa)) zr jY (RL.aM (hg:=(cg aa)) 0 j zr fy cN ?_)
  obtain⟨ag,al,o⟩:=bd o
  refine RL.call (cg aa) zr zC [(vi p0.Y0)] zr (aF (ki N (p0:=p0.Y0) j al) ?_)
  rintro _ w ⟨rfl,j⟩
  refine fP aa (vb ag) (mv (vb ag) (fU o (fun ab o=>?_) fun ab o=>?_))
  rotate_left
  ·refine bN ab (bN ab (bN ab (fP ab (vb false) (mv (vb false) (nQ (nQ (nQ (RL.pick false (vb false) zr ?_))))))))
   refine aK (vb false) (RL.nil ?_)
   obtain rfl:=oi o
   exact⟨rfl,j.sp 2 []⟩
  refine RL.bB (hg:=(cg ab)) zr kO (RL.aM (hg:=(cg ab)) 0 j zr gA cN ?_)
  obtain⟨ah,an,o⟩:=bd o
  refine RL.call (cg ab) zr zC [(vi p0.X1)] zr (aF (ki N (p0:=p0.X1) j an) ?_)
  rintro _ w ⟨rfl,j⟩
  refine fP ab (vb ah) (mv (vb ah) (fU o (fun ad o=>?_) fun ad o=>?_))
  rotate_left
  ·refine bN ad (bN ad (bN ad (fP ad (vb false) (aK (vb false) (RL.nil ?_)))))
   obtain rfl:=oi o
   exact⟨rfl,j.sp 2 []⟩
  refine RL.bB (hg:=(cg ad)) zr ou (RL.aM (hg:=(cg ad)) 0 j zr jM cN ?_)
  obtain⟨ai,ao,o⟩:=bd o
  refine RL.call (cg ad) zr zC [(vi p0.Y1)] zr (aF (ki N (p0:=p0.Y1) j ao) ?_)
  rintro _ w ⟨rfl,j⟩
  refine fP ad (vb ai) (aK (vb ai) (RL.nil ?_))
  obtain rfl:=oi o
  exact⟨rfl,j.sp 2 []⟩
 rintro _ w ⟨O,rfl,j⟩
 refine aG (RC.ret ?_)
 obtain rfl:=oi hb
 exact cF ⟨rfl,j.drop 0⟩
def tV (E:World) (V:List HP) (r:Int) (U:Nat->Value) (w:World):Prop:=ly bE 30 Tryz.f68 (aN E V r) .ret U w
theorem sV {p0: (List aI)} (o:Holds E w V) (h0:V[i0]? =some (rd v0 p0)) (hb:jG N p0=some res):
    Calls bE 68 [v0].toArray w (gF (aN E V res)):=by
 unfold jG at hb
 refine enter Tryz.func68 zr zr ?_
 have o:=o.dup (i0+0) h0
 refine RC.sr (aK (vi 0) (RL.nq (RC.sr (mv v0 (RL.bC 0 p0 o oO (ic ((p0.length:Int)) 2000 (RL.nt (eI hb (fun hc hb=>?_) fun hc hb=>?_))))))))
 ·refine RC.sr (aK (vi 2) (RL.nt (RC.rt ?_)))
  obtain rfl:=oi hb
  exact cF ⟨rfl,o.drop 1⟩
 refine RC.ss (RC.sr (mv v0 (RL.bC 0 p0 o oO (mv (vi 0) (RL.nt ?_)))))
 obtain⟨aq,hN,hb⟩:=bd hb
 refine RC.range (fun(ae:Nat) (af:Unit)=>SH E V [(8,v0),(9,vi p0.length),(10,vi ae)] [rd v0 p0]) (fun(af:Unit)=>SH E V [] [rd v0 p0]) (tV E V) hN ?_ ?_ ?_ ?_ ?_
 ·exact o.sp 1 [0]
 ·rintro hm af _ w ⟨O,rfl,o⟩
  refine RC.sr (ic ((p0.length:Int)) ((p0.length:Int)) (RL.nq (RC.cH lD (RC.ex ?_))))
  exact⟨rfl,o.sp 1 [0]⟩
 ·rintro hm ae af fl _ w hk ⟨O,rfl,o⟩ hb
  refine RC.sr (ic ((ae:Int)) ((p0.length:Int)) (RL.nq (RC.cG (lC hk) (RC.ss (RC.bs ?_)))))
  obtain⟨j,aj,hb⟩:=bd hb
  refine RL.bW 0 o kN aj fun au o=>(RL.bL 0 j o fI fun av o=>(RL.alloc o mS.z fun ab w o=>?_))
  refine RL.bA 0 o 1 zr fI fun w o=>?_
  refine RL.nq (RC.sr (RL.aQ (f:=(fun x=>x)) 0 o zr Fd.self fI fun ak o=>?_))
  obtain⟨al,an,hb⟩:=bd hb
  refine RL.call zt zr JW [ak] zr (aF (qO N (i0:=0) o zr an) ?_)
  rintro _ w ⟨rfl,o⟩
  refine RL.not al (RL.nt (eI hb (fun hc hb=>?_) fun hc hb=>?_))
  ·refine RC.sr (aK (vi 1) (RL.nt (RC.rt (jS (bM ?_)))))
   obtain rfl:=oi hb
   exact⟨rfl,cF ⟨rfl,o.drop 5⟩⟩
  refine RC.sx (RL.bB rfl kO (RL.aM 1 o rfl gA cN (RL.bB rfl jv (RL.aM 1 o rfl eO cN (ic j.X1 j.X0 (mv (vb (decide (j.X1<=j.X0))) (RL.gs true (decide (j.X1<=j.X0)) (vp ab 3) rfl rfl rfl (dP ou) (RL.gs true (decide (j.X1<=j.X0)) (vi j.Y1) rfl rfl rfl (bX 1 rfl o (fun h=>by exact(cV h:cv (true&&((decide (j.X1<=j.X0))==false)) (vp ab 3)= (vp ab 3))) rfl jM cN) ?_))))))))
  refine RL.gs true (decide (j.X1<=j.X0)) (vp ab 1) rfl rfl rfl (dP jY) (RL.gs true (decide (j.X1<=j.X0)) (vi j.Y0) rfl rfl rfl (bX 1 rfl o (fun h=>by exact(cV h:cv (true&&((decide (j.X1<=j.X0))==false)) (vp ab 1)= (vp ab 1))) rfl fy cN) (RL.gs true (decide (j.X1<=j.X0)) (vb (decide (j.Y1<=j.Y0))) rfl rfl rfl (dZ .leq .i64 j.Y1 j.Y0 rfl (fun h=>by exact(cV h:cv (true&&((decide (j.X1<=j.X0))==false)) (vi j.Y1)= (vi j.Y1))) (fun h=>by exact(cV h:cv (true&&((decide (j.X1<=j.X0))==false)) (vi j.Y0)= (vi j.Y0))) rfl) (RL.pick (decide (j.X1<=j.X0)) (vb ((decide (j.X1<=j.X0))||(decide (j.Y1<=j.Y0)))) (oX true rfl) (RL.nt (eI hb (fun hc hb=>?_) fun hc hb=>?_)))))
  rotate_left
  ·refine RC.skip (bI (aG (RC.region (RL.inc hk hm (mv (vi ((ae+1:Nat):Int)) (RL.nil ?_))))))
   obtain rfl:=oi hb
   exact⟨rfl,o.sp 5 [4]⟩
  refine RC.sr (aK (vi 13) (RL.nt (RC.rb (bM ?_))))
  obtain rfl:=oi hb
  exact⟨rfl,cF ⟨rfl,o.drop 5⟩⟩
 ·intro r U w e hK
  subst e
  refine bM ?_
  obtain rfl:=oi hb
  exact hK
 rintro af _ w rfl ⟨O,rfl,o⟩
 rw [Fo.fB] at hb
 refine aG (RC.sr (aK (vi 0) (RL.nt (RC.ret ?_))))
 obtain rfl:=oi hb
 exact cF ⟨rfl,o.drop 1⟩
theorem rD {p0: (List aI)} {res: (List aI)} (j:Holds E w V) (h0:V[i0]? =some (rd v0 p0)) (o:g9 N p0=some res):
    Calls bE 99 [v0].toArray w (gF (lA E V res)):=by
 unfold g9 at o
 refine enter Tryz.func99 zr zr ?_
 have j:=j.dup (i0+0) h0
 refine RC.sr (aK (.slice none 0 0) (RL.nq (RC.sr (mv v0 (RL.JO (i:=0) zt zr j zr zr zr oO (RL.nt (RC.cond (b:=(HB v0)) zr (fun hc=>?_) (fun hc=>?_))))))))
 ·have hx:=j.LM (i:=0) rfl hc
  rw [hx] at o
  replace o:some ([]: (List aI))=_:=o
  refine RC.sr (aK (.slice none 0 0) (RL.nt (RC.rt ?_)))
  obtain rfl:=oi o
  have j:=j.cT aI 74
  exact cF (j.pk 2 [0])
 refine RC.sx (RL.eE ([]: (List aI)) j [] kN mS (fun M hs g=>zt) fun ae w j=>(mv v0 ?_))
 obtain⟨af,ab,o⟩:=bd o
 refine RL.app 0 1 j EI ab fun ad w j=>?_
 refine aK ad (RL.nt (RC.ret ?_))
 obtain rfl:=oi o
 exact cF (j.pk 2 [0])
theorem u5 {p0 p1:aI} (j:Holds E w V) (h0:V[i0]? =some (rd v0 p0)) (h1:V[i1]? =some (rd v1 p1)) (o:iM N p0 p1=some res):
    Calls bE 101 [v0,v1].toArray w (gF (aN E V res)):=by
 unfold iM at o
 refine enter Tryz.func101 zr zr ?_
 have j:=(j.dup (i0+0) h0).dup (i1+1) h1
 refine RC.sr (RL.dB 1 v0 j zr fun aa w j=>?_)
 refine RL.dB 1 v1 j zr fun ab w j=>?_
 refine aK (vi 0) (RL.ns (RL.bB zr jY (RL.aM 1 j zr fy cN (RL.bB zr jY (RL.aM 0 j zr fy cN (RL.i6 p0.Y0 p1.Y0 (aK (vi (IntKind.wrap .i64 (p0.Y0 - p1.Y0))) (RL.nt ?_))))))))
 refine RC.ret ?_
 obtain rfl:=oi o
 exact cF ⟨rfl,j.drop 4⟩
def rE (E:World) (V:List HP) (r: (List Int)) (U:Nat->Value) (w:World):Prop:=ly bE 61 Tryz.f103 (kP E V r) .ret U w
theorem qT {p0: (List Int)} {res: (List Int)} (j:Holds E w (own 3 v0 p0::V)) (o:fR N p0=some res):
    Calls bE 103 [v0].toArray w (gF (kP E V res)):=by
 unfold fR at o
 refine enter Tryz.func103 zr zr (RC.sr (aK (.slice none 0 0) (RL.nq (RC.sr (mv v0 (RL.eH 0 p0 j l3 (ic ((p0.length:Int)) 2 (RL.nt ?_))))))))
 refine eI o (fun hc o=>?_) fun hc o=>?_
 ·refine RC.sr (mv v0 (aK v0 (RL.nt (RC.rt ?_))))
  obtain rfl:=oi o
  exact cF (j.pk 1 [0])
 refine RC.ss (RC.sr (aK (vi 1) (RL.nt ?_)))
 obtain⟨a2,hN,o⟩:=bd o
 refine RC.iter (fun(ab:Int)=>SH E V [(0,v0),(3,vi ab)] [own 3 v0 p0]) (fun(ab:Int)=>SH E V [(0,v0)] [own 3 v0 p0]) (rE E V) hN ?_ ?_ ?_ ?_
 ·exact j.sp 1 [0]
 ·rintro ab fl _ w ⟨O,rfl,j⟩ o
  refine RC.seq (RC.sr (mv (vi ab) (mv v0 (RL.eH 0 p0 j l3 (ic ab ((p0.length:Int)) (RL.nt (eI o (fun hc o=>?_) fun hc o=>?_)))))))
  rotate_left
  ·refine RC.ex ?_
   obtain rfl:=oi o
   exact⟨rfl,j.sp 1 [0]⟩
  refine RC.ss (RC.block (RC.seq (RC.uK mixed ?_)))
  have j:=j.drew
  refine RO.go (mv v0 (RO.nx (mv (vi ab) (RO.nx ?_))))
  obtain⟨au,al,o⟩:=bd o
  refine RL.bG 0 j zr zr dV al (RO.nx (RL.cX (f:=(fun x=>x)) 0 j (iX 0 j al 0) (aU al).2.1 Fd.self cN (RO.nx (mv v0 (RO.nx (mv (vi ab) (RO.nx (RL.i6 ab 1 ?_))))))))
  refine RO.nx ?_
  obtain⟨av,an,o⟩:=bd o
  refine RL.bG 0 j zr zr dV an (RO.nx (RL.cX (f:=(fun x=>x)) 0 j (iX 0 j an 0) (aU an).2.1 Fd.self cN (RO.nx (ic au av (RO.last (aG (eI o (fun hc o=>?_) fun hc o=>?_)))))))
  rotate_left
  ·refine RC.skip (bI (aG (RC.region (mv (vi ab) (RL.i6 ab 1 (aK (vi (IntKind.wrap .i64 (ab+1))) (RL.nil ?_)))))))
   obtain rfl:=oi o
   exact⟨rfl,j.sp 1 [0]⟩
  refine RC.sr (mv v0 (mv (vi ab) ?_))
  obtain⟨a3,af,o⟩:=bd o
  refine RL.view 0 ab zr j zr zr dV af (aK (vw v0 (Int.toNat ab) 1) (RL.nq (RC.sr (aK (vi 1) (RL.nt ?_)))))
  obtain⟨a4,hN,o⟩:=bd o
  refine RC.iter (fun(aa: (List Int)×Int×Int)=>SH E V [(0,v0),(3,vi aa.2.1),(4,(vw v0 (Int.toNat ab) 1)),(5,vi aa.2.2)] [own 3 v0 aa.1]) (fun(aa: (List Int)×Int×Int)=>SH E V [(0,v0),(3,vi aa.2.1)] [own 3 v0 aa.1]) (fun(r:Empty) _ _=>r.elim) hN ?_ ?_ ?_ ?_
  ·exact j.sp 1 [0]
  ·rintro aa fl _ w ⟨O,rfl,j⟩ o
   refine RC.seq (RC.sr (mv (vi aa.2.2) (mv (vw v0 (Int.toNat ab) 1) (RL.I5 (i:=0) (l:=aa.1) zt zr j zr zr l3 (ic aa.2.2 ((((aa.1.length - Int.toNat ab):Nat):Int)) (RL.nt (eI o (fun hc o=>?_) fun hc o=>?_)))))))
   rotate_left
   ·refine RC.ex ?_
    obtain rfl:=oi o
    exact⟨rfl,j.sp 1 [0]⟩
   refine RC.ss (RC.block (RC.seq (RC.uK mixed ?_)))
   have j:=j.drew
   refine RO.go (mv (vw v0 (Int.toNat ab) 1) (RO.nx (mv (vi aa.2.2) (RO.nx ?_))))
   obtain⟨aw,ag,o⟩:=bd o
   refine RL.FH 0 ab zr j zr zr zr dV (CT af) (ja ag).1 (ja ag).2 (RO.nx (RL.cX (f:=(fun x=>x)) 0 j (iX 0 j (ja ag).2 0) (aU (ja ag).2).2.1 Fd.self cN (RO.nx (mv (vw v0 (Int.toNat ab) 1) (RO.nx (mv (vi aa.2.2) (RO.nx (RL.i6 aa.2.2 1 ?_))))))))
   refine RO.nx ?_
   obtain⟨ax,ah,o⟩:=bd o
   refine RL.FH 0 ab zr j zr zr zr dV (CT af) (ja ah).1 (ja ah).2 (RO.nx (RL.cX (f:=(fun x=>x)) 0 j (iX 0 j (ja ah).2 0) (aU (ja ah).2).2.1 Fd.self cN (RO.nx (ic aw ax (RO.last (aG ?_))))))
   obtain⟨ai,hj,o⟩:=bd o
   refine RC.jn (fun(ai: (List Int)×Int)=>SH E V [(0,v0),(3,vi ai.2),(4,(vw v0 (Int.toNat ab) 1)),(5,vi aa.2.2)] [own 3 v0 ai.1]) ai ?_ ?_
   ·refine eI hj (fun hc hj=>?_) fun hc hj=>?_
    rotate_left
    ·refine RC.skip ?_
     obtain rfl:=oi hj
     exact⟨rfl,j.sp 1 [0]⟩
    refine RC.sr (mv v0 (mv (vi aa.2.1) (mv (vw v0 (Int.toNat ab) 1) (mv (vi aa.2.2) ?_))))
    obtain⟨ay,aj,hj⟩:=bd hj
    refine RL.FH 0 ab zr j zr zr zr dV (CT af) (ja aj).1 (ja aj).2 (RL.cX (f:=(fun x=>x)) 0 j (iX 0 j (ja aj).2 0) (aU (ja aj).2).2.1 Fd.self cN ?_)
    obtain⟨a5,ao,hj⟩:=bd hj
    refine RL.bG 0 j zr zr dV ao ?_
    have j:=j.sc Int ay
    refine RL.fA (f:=(fun _ y=>y)) 1 0 j (iX 1 j ao 0) (aU ao).2.1 zr Fs.self cN fun w j=>?_
    refine RL.nt (RC.region (mv (vi aa.2.1) (RL.i6 aa.2.1 1 (aK (vi (IntKind.wrap .i64 (aa.2.1+1))) (RL.nil ?_)))))
    obtain rfl:=oi hj
    exact⟨rfl,j.sp 2 [1]⟩
   rintro _ w ⟨O,rfl,j⟩
   refine bI (aG (RC.region (mv (vi aa.2.2) (RL.i6 aa.2.2 1 (aK (vi (IntKind.wrap .i64 (aa.2.2+1))) (RL.nil ?_))))))
   obtain rfl:=oi o
   exact⟨rfl,j.sp 1 [0]⟩
  ·intro r _ _ _ _
   exact r.elim
  rintro aa _ w rfl ⟨O,rfl,j⟩
  rw [Fo.fB] at o
  refine aG (RC.sr (mv v0 (mv (vi aa.2.1) ?_)))
  obtain⟨a6,aq,o⟩:=bd o
  refine RL.view 0 aa.2.1 zr j zr zr dV aq (RL.Bx 0 zt j zr zr tM Ji (FI aq) fun w j=>(RL.ns (mv v0 (mv (vi aa.2.1) ?_))))
  obtain⟨a7,az,o⟩:=bd o
  refine RL.Ae 0 zr j zr zr dV (.inr ⟨rfl,zr⟩) az fun a0 j=>(aK a0 (RL.nt (RC.rb (bM ?_))))
  obtain rfl:=oi o
  exact⟨rfl,cF (j.pk 1 [0])⟩
 ·intro r U w e hK
  subst e
  refine bM ?_
  obtain rfl:=oi o
  exact hK
 rintro ab _ w rfl ⟨O,rfl,j⟩
 rw [Fo.fB] at o
 refine aG (RC.sr (mv v0 (aK v0 (RL.nt (RC.ret ?_)))))
 obtain rfl:=oi o
 exact cF (j.pk 1 [0])
theorem u6 {p0:aI} {p1: (List Int)} {res:Bool} (j:Holds E w V) (h0:V[i0]? =some (rd v0 p0)) (h1:V[i1]? =some (pt v1 p1)) (h2:V[i2]? =some (pt v2 p2)) (o:mo N p0 p1 p2=some res):
    Calls bE 105 [v0,v1,v2].toArray w (gF (aY E V res)):=by
 unfold mo at o
 refine enter Tryz.func105 zr zr ?_
 have j:=((j.dup (i0+0) h0).xB (i:=i1+1) h1).xB (i:=i2+2) h2
 refine RC.sr (RL.dB 2 v0 j zr fun ad w j=>?_)
 refine aK (vb false) (RL.nq (RC.uK mixed ?_))
 have j:=j.drew
 refine RO.go (RL.bB zr ou (RO.nx (RL.aM 0 j zr jM cN (RO.nx (RL.bL 2 p1 j fE fun ae j=>(RO.nx (RL.bH p2 2 j cN (RO.nx ?_))))))))
 obtain⟨aa,ab,o⟩:=bd o
 refine RL.bW 0 j dV ab fun af j=>(RO.nx (RL.bH aa 0 j cN (RO.nx (ic p0.Y1 aa (RO.nx (aK (vb (decide (p0.Y1<=aa))) (RO.last (aG ?_))))))))
 refine RC.ret ?_
 obtain rfl:=oi o
 exact cF ⟨rfl,j.drop 6⟩
def pP (E:World) (V:List HP) (r:Int) (U:Nat->Value) (w:World):Prop:=ly bE 19 Tryz.f117 (aN E V r) .ret U w
theorem px {p0: (List aI)} {p1:aI->Option Bool} (j:Holds E w V) (h0:V[i0]? =some (rd v0 p0)) (h1:Hk bE E V v1 p1 (fun(r:Bool)=>Value.bool r)) (o:kl N p0 p1=some res):
    Calls bE 117 [v0,v1].toArray w (gF (aN E V res)):=by
 unfold kl at o
 refine enter Tryz.func117 zr zr ?_
 have j:=j.dup (i0+0) h0
 refine RC.sr (aK (vi 0) (RL.nq (RC.sr (mv v0 (RL.bC 0 p0 j oO (mv (vi 0) (RL.nt ?_)))))))
 obtain⟨al,hN,o⟩:=bd o
 refine RC.range (fun(aa:Nat) (ab:Unit)=>SH E V [(0,v0),(1,v1),(7,vi p0.length),(8,vi aa)] [rd v0 p0]) (fun(ab:Unit)=>SH E V [] [rd v0 p0]) (pP E V) hN ?_ ?_ ?_ ?_ ?_
 ·exact j.sp 1 [0]
 ·rintro hm ab _ w ⟨O,rfl,j⟩
  refine RC.sr (ic ((p0.length:Int)) ((p0.length:Int)) (RL.nq (RC.cH lD (RC.ex ?_))))
  exact⟨rfl,j.sp 1 [0]⟩
 ·rintro hm aa ab fl _ w hk ⟨O,rfl,j⟩ o
  refine RC.sr (ic ((aa:Int)) ((p0.length:Int)) (RL.nq (RC.cG (lC hk) (RC.ss (RC.bs (mv (vi aa) (aK (vi aa) (RL.ns ?_))))))))
  refine mv v1 (mv v0 (mv (vi aa) ?_))
  obtain⟨ag,ah,o⟩:=bd o
  refine RL.bW 0 j kN ah fun ao j=>(RL.bL 0 ag j fI fun aq j=>?_)
  obtain⟨ar,ai,o⟩:=bd o
  refine RL.Ad 0 zr j zr h1 3 zr zr zr ai fun w j=>(RL.nt (eI o (fun hc o=>?_) fun hc o=>?_))
  rotate_left
  ·refine RC.skip (bI (aG (RC.region (RL.inc hk hm (mv (vi ((aa+1:Nat):Int)) (RL.nil ?_))))))
   obtain rfl:=oi o
   exact⟨rfl,j.sp 3 [2]⟩
  refine RC.sr (mv (vi aa) (aK (vi aa) (RL.nt (RC.rb (bM ?_)))))
  obtain rfl:=oi o
  exact⟨rfl,cF ⟨rfl,j.drop 3⟩⟩
 ·intro r U w e hK
  subst e
  refine bM ?_
  obtain rfl:=oi o
  exact hK
 rintro ab _ w rfl ⟨O,rfl,j⟩
 rw [Fo.fB] at o
 refine aG (RC.sr (aK (vi (-1)) (RL.nt (RC.ret ?_))))
 obtain rfl:=oi o
 exact cF ⟨rfl,j.drop 1⟩
def kQ (E:World) (V:List HP) (v0:Value) (p0: (List aI)) (res:Int) (v:Value) (w:World):Prop:=v= (vi res)/\Holds E w ([own 74 v0 p0]++V)
def oy (E:World) (V:List HP) (v0:Value) (p0: (List aI)) (r:Int) (U:Nat->Value) (w:World):Prop:=ly bE 19 Tryz.f117 (kQ E V v0 p0 r) .ret U w
theorem nT {p0: (List aI)} {p1:aI->Option Bool} (o:Holds E w (own 74 v0 p0::V)) (h1:Hk bE E V v1 p1 (fun(r:Bool)=>Value.bool r)) (j:jr N p0 p1=some res):
    Calls bE 117 [v0,v1].toArray w (gF (kQ E V v0 p0 res)):=by
 unfold jr at j
 refine enter Tryz.func117 zr zr (RC.sr (aK (vi 0) (RL.nq (RC.sr (mv v0 (RL.eH 0 p0 o oO (mv (vi 0) (RL.nt ?_))))))))
 obtain⟨ak,hN,j⟩:=bd j
 refine RC.range (fun(aa:Nat) (ab:Unit)=>SH E V [(0,v0),(1,v1),(7,vi p0.length),(8,vi aa)] [own 74 v0 p0]) (fun(ab:Unit)=>SH E V [(0,v0)] [own 74 v0 p0]) (oy E V v0 p0) hN ?_ ?_ ?_ ?_ ?_
 ·exact o.sp 1 [0]
 ·rintro hm ab _ w ⟨O,rfl,o⟩
  refine RC.sr (ic ((p0.length:Int)) ((p0.length:Int)) (RL.nq (RC.cH lD (RC.ex ?_))))
  exact⟨rfl,o.sp 1 [0]⟩
 ·rintro hm aa ab fl _ w hk ⟨O,rfl,o⟩ j
  refine RC.sr (ic ((aa:Int)) ((p0.length:Int)) (RL.nq (RC.cG (lC hk) (RC.ss (RC.bs (mv (vi aa) (aK (vi aa) (RL.ns ?_))))))))
  refine mv v1 (mv v0 (mv (vi aa) ?_))
  obtain⟨an,ad,j⟩:=bd j
  refine RL.bG 0 o zr zr kN ad (RL.iD (f:=(fun x=>x)) 0 o (iX 0 o ad 0) (aU ad).2.1 Fd.self fI fun ao o=>?_)
  obtain⟨aq,ah,j⟩:=bd j
  refine RL.Ad 0 zr o zr h1 2 zr zr zr ah fun w o=>(RL.nt (eI j (fun hc j=>?_) fun hc j=>?_))
  rotate_left
  ·refine RC.skip (bI (aG (RC.region (RL.inc hk hm (mv (vi ((aa+1:Nat):Int)) (RL.nil ?_))))))
   obtain rfl:=oi j
   exact⟨rfl,o.sp 2 [1]⟩
  refine RC.sr (mv (vi aa) (aK (vi aa) (RL.nt (RC.rb (bM ?_)))))
  obtain rfl:=oi j
  exact⟨rfl,cF ⟨rfl,o.pk 2 [1]⟩⟩
 ·intro r U w e hK
  subst e
  refine bM ?_
  obtain rfl:=oi j
  exact hK
 rintro ab _ w rfl ⟨O,rfl,o⟩
 rw [Fo.fB] at j
 refine aG (RC.sr (aK (vi (-1)) (RL.nt (RC.ret ?_))))
 obtain rfl:=oi j
 exact cF ⟨rfl,o.pk 1 [0]⟩
theorem oQ {p0: (List aI)} {p1:aI->Option Bool} {res: (List aI)} (j:Holds E w (own 74 v0 p0::V)) (h1:Hk bE E V v1 p1 (fun(r:Bool)=>Value.bool r)) (o:gr N p0 p1=some res):
    Calls bE 104 [v0,v1].toArray w (gF (lA E V res)):=by
 unfold gr at o
 refine enter Tryz.func104 zr zr (RC.sr (aK (.slice none 0 0) (RL.ns (mv v0 (mv v1 ?_)))))
 have j:=j.pull 0
 obtain⟨ad,aj,o⟩:=bd o
 refine RL.call zt zr Iq [v0,v1] zr (aF (nT N j (h1.lift 1 zr) aj) ?_)
 rintro _ w ⟨rfl,j⟩
 refine aK (vi ad) (RL.nq (RC.sr (mv (vi ad) (ic ad ((-1)) (RL.nt (eI o (fun hc o=>?_) fun hc o=>?_))))))
 ·refine RC.sr (mv v0 (aK v0 (RL.nt (RC.rt ?_))))
  obtain rfl:=oi o
  exact cF (j.pk 2 [0])
 refine RC.ss (RC.sr (mv (vi ad) (RL.i6 ad 1 (aK (vi (IntKind.wrap .i64 (ad+1))) (RL.nt ?_)))))
 obtain⟨ar,hN,o⟩:=bd o
 refine RC.iter (fun(aa: (List aI)×Int×Int)=>SH E V [(0,v0),(1,v1),(5,vi aa.2.1),(6,vi aa.2.2)] [own 74 v0 aa.1]) (fun(aa: (List aI)×Int×Int)=>SH E V [(0,v0),(5,vi aa.2.1)] [own 74 v0 aa.1]) (fun(r:Empty) _ _=>r.elim) hN ?_ ?_ ?_ ?_
 ·exact j.sp 2 [0]
 ·rintro aa fl _ w ⟨O,rfl,j⟩ o
  refine RC.seq (RC.sr (mv (vi aa.2.2) (mv v0 (RL.eH 0 aa.1 j oO (ic aa.2.2 ((aa.1.length:Int)) (RL.nt (eI o (fun hc o=>?_) fun hc o=>?_)))))))
  rotate_left
  ·refine RC.ex ?_
   obtain rfl:=oi o
   exact⟨rfl,j.sp 1 [0]⟩
  refine RC.ss (RC.bs (mv v0 (mv (vi aa.2.2) ?_)))
  obtain⟨av,ag,o⟩:=bd o
  refine RL.bG 0 j zr zr kN ag (RL.iD (f:=(fun x=>x)) 0 j (iX 0 j ag 0) (aU ag).2.1 Fd.self fI fun aw j=>?_)
  refine RL.alloc j mS.z fun ax w j=>?_
  refine RL.bA 0 j 1 zr fI fun w j=>?_
  refine RL.ns (mv v1 (RL.aQ (f:=(fun x=>x)) 0 j zr Fd.self fI fun ay j=>?_))
  obtain⟨al,an,o⟩:=bd o
  refine RL.Ad 0 zr j zr h1 4 zr zr zr an fun w j=>(RL.not al (RL.nt ?_))
  obtain⟨af,hj,o⟩:=bd o
  refine RC.jn (fun(af: (List aI)×Int)=>SH E V [(0,v0),(1,v1),(5,vi af.2),(6,vi aa.2.2)] [own 74 v0 af.1]) af ?_ ?_
  ·refine eI hj (fun hc hj=>?_) fun hc hj=>?_
   rotate_left
   ·refine RC.skip ?_
    obtain rfl:=oi hj
    exact⟨rfl,j.sp 4 [3]⟩
   refine RC.sr (mv v0 (mv (vi aa.2.1) (RL.aQ (f:=(fun x=>x)) 1 j zr Fd.self fI fun az j=>?_)))
   obtain⟨a0,ah,hj⟩:=bd hj
   refine RL.bG 4 j zr zr kN ah (RL.fA (f:=(fun _ y=>y)) 4 0 j (iX 4 j ah 0) (aU ah).2.1 zr Fs.self fI fun w j=>?_)
   refine RL.nt (RC.region (mv (vi aa.2.1) (RL.i6 aa.2.1 1 (aK (vi (IntKind.wrap .i64 (aa.2.1+1))) (RL.nil ?_)))))
   obtain rfl:=oi hj
   exact⟨rfl,j.sp 5 [4]⟩
  rintro _ w ⟨O,rfl,j⟩
  refine bI (aG (RC.region (mv (vi aa.2.2) (RL.i6 aa.2.2 1 (aK (vi (IntKind.wrap .i64 (aa.2.2+1))) (RL.nil ?_))))))
  obtain rfl:=oi o
  exact⟨rfl,j.sp 1 [0]⟩
 ·intro r _ _ _ _
  exact r.elim
 rintro aa _ w rfl ⟨O,rfl,j⟩
 rw [Fo.fB] at o
 refine aG (RC.sr (mv v0 (mv (vi aa.2.1) ?_)))
 obtain⟨a1,ai,o⟩:=bd o
 refine RL.view 0 aa.2.1 zr j zr zr kN ai (RL.Bx 0 zt j zr zr EI LW (FI ai) fun w j=>(RL.ns (mv v0 (mv (vi aa.2.1) ?_))))
 obtain⟨a2,ao,o⟩:=bd o
 refine RL.Ae 0 zr j zr zr kN (.inr ⟨rfl,zr⟩) ao fun aq j=>(aK aq (RL.nt (RC.ret ?_)))
 obtain rfl:=oi o
 exact cF (j.pk 1 [0])
theorem qU {p0 p1:aI} (j:Holds E w V) (h0:V[i0]? =some (rd v0 p0)) (h1:V[i1]? =some (rd v1 p1)) (o:fS N p0 p1=some res):
    Calls bE 130 [v0,v1].toArray w (gF (aN E V res)):=by
 unfold fS at o
 refine enter Tryz.func130 zr zr ?_
 have j:=(j.dup (i0+0) h0).dup (i1+1) h1
 refine RC.sr (RL.dB 1 v0 j zr fun aa w j=>?_)
 refine RL.dB 1 v1 j zr fun ab w j=>?_
 refine aK (vi 0) (RL.ns (RL.bB zr jv (RL.aM 1 j zr eO cN (RL.bB zr jv (RL.aM 0 j zr eO cN (RL.i6 p0.X0 p1.X0 (aK (vi (IntKind.wrap .i64 (p0.X0 - p1.X0))) (RL.nt ?_))))))))
 refine RC.ret ?_
 obtain rfl:=oi o
 exact cF ⟨rfl,j.drop 4⟩
def u7 (E:World) (V:List HP) (v0:Value) (res: (List Int)×(List aI)) (v:Value) (w:World):Prop:=Holds E w ([own 3 v res.1,own 74 v0 res.2]++V)
theorem tW {p0: (List aI)} {res: (List Int)×(List aI)} (j:Holds E w (own 74 v0 p0::V)) (hb:ik N p0=some res):
    Calls bE 107 [v0].toArray w (gF (u7 E V v0 res)):=by
 unfold ik at hb
 refine enter Tryz.func107 zr zr (RC.sr (aK (.slice none 0 0) (RL.ns (mv v0 ?_))))
 obtain⟨af,a1,hb⟩:=bd hb
 have j:=j.pull 0
 refine RL.call zt zr Ip [v0,(.func (.func 130) #[] #[])] zr (aF (D4 Tryz.lay100 aI zr fI.Hj fI.sz J5 (fun j hi o hr=>qU N j hi o hr) j a1) ?_)
 rintro _ w ⟨rfl,j⟩
 refine RL.ns (aK (.slice none 0 0) (RL.nq (RC.sr (mv v0 (RL.eH 0 af j oO (mv (vi 0) (RL.nt ?_)))))))
 have j:=j.cT Int 3
 obtain⟨aa,hN,hb⟩:=bd hb
 refine RC.fold (fun(ah:Nat) (aa: (List Int)) U w=>∃av:Value,SH E V [(0,v0),(3,av),(9,v0),(10,vi af.length),(11,vi ah)] [own 74 v0 af,own 3 av aa] U w) (fun(aa: (List Int)) U w=>∃ai:Value,SH E V [(0,v0),(3,ai)] [own 74 v0 af,own 3 ai aa] U w) hN ?_ ?_ ?_ ?_
 ·exact⟨(.slice none 0 0),j.sp 3 [1,0]⟩
 ·rintro hm aa _ w ⟨a3,O,rfl,j⟩
  refine RC.sr (ic ((af.length:Int)) ((af.length:Int)) (RL.nq (RC.cH lD (RC.ex ?_))))
  exact⟨rfl,a3,j.sp 2 [0,1]⟩
 ·rintro hm ah aa s' _ w hk ⟨ag,O,rfl,j⟩ hb
  refine RC.sr (ic ((ah:Int)) ((af.length:Int)) (RL.nq (RC.cG (lC hk) (RC.ss (RC.bs ?_)))))
  obtain⟨ae,ak,hb⟩:=bd hb
  refine RL.bG 0 j zr zr kN ak (RL.iD (f:=(fun x=>x)) 0 j (iX 0 j ak 0) (aU ak).2.1 Fd.self fI fun a6 j=>?_)
  refine RL.alloc j mS.z fun ay w j=>?_
  refine RL.bA 0 j 1 zr fI fun w j=>?_
  refine RL.ns (mv ag (RL.eH 3 aa j l3 (RL.i6 (aa.length:Int) 1 (aK (vi (IntKind.wrap .i64 ((aa.length:Int) - 1))) (RL.nq ?_)))))
  obtain⟨al,o,hb⟩:=bd hb
  refine RC.jn (fun(al:Bool)=>SH E V [(0,v0),(3,ag),(5,vp ay 0),(6,(vi (IntKind.wrap .i64 ((aa.length:Int) - 1)))),(9,v0),(10,vi af.length),(11,vi ah),(28,vb al)] [own 74 v0 af,own 3 ag aa,bx 74 ay ae]) al ?_ ?_
  ·refine RC.uK mixed ?_
   have j:=j.drew
   refine RO.go (mv (vi (IntKind.wrap .i64 ((aa.length:Int) - 1))) (RO.nx (ic ((IntKind.wrap .i64 ((aa.length:Int) - 1))) 0 (RO.nx (mv (vb (decide ((IntKind.wrap .i64 ((aa.length:Int) - 1))>=0))) (fU o (fun ab o=>?_) fun ab o=>?_))))))
   rotate_left
   ·refine RO.nx (bN ab (RO.nx (bN ab (RO.nx (bN ab (RO.nx (bN ab (RO.nx ?_))))))))
    refine bN ab (RO.nx (bN ab (RO.nx (bN ab (RO.nx (fP ab (vb false) (RO.last ?_)))))))
    obtain rfl:=oi o
    exact⟨rfl,j.sp 4 [2,3,0]⟩
   refine RO.nx (RL.bB (hg:=(cg ab)) zr jv (RO.nx (RL.aM (hg:=(cg ab)) 0 j zr eO cN (RO.nx (RL.move ag (cg ab) (RO.nx (RL.move (vi (IntKind.wrap .i64 ((aa.length:Int) - 1))) (cg ab) (RO.nx ?_))))))))
   obtain⟨az,an,o⟩:=bd o
   refine RL.bG (hg:=(cg ab)) 3 j zr zr dV an (RO.nx (RL.cX (hg:=(cg ab)) (f:=(fun x=>x)) 3 j (iX 3 j an 0) (aU an).2.1 Fd.self cN (RO.nx (RL.jO ae.X0 az (cg ab) (RO.nx (fP ab (vb (decide (ae.X0<=az))) (RO.last ?_)))))))
   obtain rfl:=oi o
   exact⟨rfl,j.sp 4 [2,3,0]⟩
  rintro _ w ⟨O,rfl,j⟩
  refine aG ?_
  obtain⟨ao,o,hb⟩:=bd hb
  refine RC.jn (fun(ao: (List Int)) U w=>∃aj:Value,SH E V [(0,v0),(3,aj),(9,v0),(10,vi af.length),(11,vi ah)] [own 74 v0 af,own 3 aj ao] U w) ao ?_ ?_
  ·refine eI o (fun hc o=>?_) fun hc o=>?_
   rotate_left
   ·refine RC.region (mv ag (RL.bB zr jv (RL.aM 2 j zr eO cN (RL.bB zr kO (RL.aM 2 j zr gA cN ?_)))))
    have j:=(j.sc Int ae.X0).sc Int ae.X1
    refine RL.eE ([ae.X0,ae.X1]: (List Int)) j [(vi ae.X0),(vi ae.X1)] dV Ft (fun M hs g=>⟨(g.sat 1 _ zr).1,⟨(g.sat 0 _ zr).1,zt⟩⟩) fun a7 w j=>?_
    have j:=j.freeze 0
    obtain⟨a8,a5,o⟩:=bd o
    refine RL.app 4 0 j tM a5 fun a0 w j=>?_
    refine aK a0 (RL.nil ?_)
    obtain rfl:=oi o
    exact⟨rfl,a0,j.sp 6 [3,4]⟩
   refine RC.xM mixed [0,0,0,0,0,0,0,0,0,0,2] [0,1,2,3,4,5,6,7,8,9,10] ?_
   have j:=j.drew
   refine DP.e0 zr (mv ag (cB zr (mv (vi (IntKind.wrap .i64 ((aa.length:Int) - 1))) (cB zr (mv ag (cB zr (mv (vi (IntKind.wrap .i64 ((aa.length:Int) - 1))) (cB zr ?_))))))))
   obtain⟨aq,ar,o⟩:=bd o
   refine RL.bG 1 j zr zr dV ar (cB zr (RL.cX (f:=(fun x=>x)) 1 j (iX 1 j ar 0) (aU ar).2.1 Fd.self cN (cB zr (RL.bB zr kO (cB zr (RL.aM 2 j zr gA cN (cB zr (RL.max aq ae.X1 ?_))))))))
   refine cB zr ?_
   obtain⟨a9,au,o⟩:=bd o
   refine RL.bG 1 j zr zr dV au (tL zr ?_)
   have j:=j.sc Int (if aq<ae.X1 then ae.X1 else aq)
   refine RL.fA (f:=(fun _ y=>y)) 2 0 j (iX 2 j au 0) (aU au).2.1 zr Fs.self cN fun w j=>?_
   refine DP.d2 zt (DP.z ?_)
   obtain rfl:=oi o
   exact⟨rfl,ag,j.sp 4 [1,2]⟩
  rintro _ w ⟨aj,O,rfl,j⟩
  refine bI (aG (RC.region (RL.inc hk hm (mv (vi ((ah+1:Nat):Int)) (RL.nil ?_)))))
  obtain rfl:=oi hb
  exact⟨rfl,aj,j.sp 2 [0,1]⟩
 rintro _ w ⟨ai,O,rfl,j⟩
 refine aG (RC.sr (mv ai (aK ai (RL.nt (RC.ret ?_)))))
 obtain rfl:=oi hb
 exact cF (j.pk 2 [1,0])
def tX (E:World) (V:List HP) (r:Bool) (U:Nat->Value) (w:World):Prop:=ly bE 26 Tryz.f129 (aY E V r) .ret U w
theorem sW {p0: (List Int)} {p1: (List Int)} {res:Bool} (j:Holds E w V) (h0:V[i0]? =some (rd v0 p0)) (h1:V[i1]? =some (rd v1 p1)) (o:kZ N p0 p1=some res):
    Calls bE 129 [v0,v1].toArray w (gF (aY E V res)):=by
 unfold kZ at o
 refine enter Tryz.func129 zr zr ?_
 have j:=(j.dup (i0+0) h0).dup (i1+1) h1
 refine RC.sr (aK (vb false) (RL.nq (RC.sr (mv v0 (RL.bC 1 p0 j l3 (mv v1 (RL.bC 0 p1 j l3 (ic ((p0.length:Int)) ((p1.length:Int)) ?_))))))))
 refine RL.nt (eI o (fun hc o=>?_) fun hc o=>?_)
 ·refine RC.sr (aK (vb false) (RL.nt (RC.rt ?_)))
  obtain rfl:=oi o
  exact cF ⟨rfl,j.drop 2⟩
 refine RC.ss (RC.sr (mv v0 (RL.bC 1 p0 j l3 (mv (vi 0) (RL.nt ?_)))))
 obtain⟨an,hN,o⟩:=bd o
 refine RC.range (fun(aa:Nat) (ab:Unit)=>SH E V [(0,v0),(1,v1),(12,vi p0.length),(13,vi aa)] [rd v0 p0,rd v1 p1]) (fun(ab:Unit)=>SH E V [] [rd v0 p0,rd v1 p1]) (tX E V) hN ?_ ?_ ?_ ?_ ?_
 ·exact j.sp 2 [1,0]
 ·rintro hm ab _ w ⟨O,rfl,j⟩
  refine RC.sr (ic ((p0.length:Int)) ((p0.length:Int)) (RL.nq (RC.cH lD (RC.ex ?_))))
  exact⟨rfl,j.sp 2 [0,1]⟩
 ·rintro hm aa ab fl _ w hk ⟨O,rfl,j⟩ o
  refine RC.sr (ic ((aa:Int)) ((p0.length:Int)) (RL.nq (RC.cG (lC hk) (RC.ss (RC.bs (mv (vi aa) (aK (vi aa) (RL.nq ?_))))))))
  refine RC.uK mixed ?_
  have j:=j.drew
  refine RO.go (mv v0 (RO.nx (mv (vi aa) (RO.nx ?_))))
  obtain⟨ag,aj,o⟩:=bd o
  refine RL.bW 0 j dV aj fun aq j=>(RO.nx (RL.bH ag 0 j cN (RO.nx (mv v1 (RO.nx (mv (vi aa) (RO.nx ?_)))))))
  obtain⟨ah,ak,o⟩:=bd o
  refine RL.bW 2 j dV ak fun ar j=>(RO.nx (RL.bH ah 0 j cN (RO.nx (ic ag ah (RO.last (aG (eI o (fun hc o=>?_) fun hc o=>?_)))))))
  rotate_left
  ·refine RC.skip (bI (aG (RC.region (RL.inc hk hm (mv (vi ((aa+1:Nat):Int)) (RL.nil ?_))))))
   obtain rfl:=oi o
   exact⟨rfl,j.sp 4 [2,3]⟩
  refine RC.sr (aK (vb false) (RL.nt (RC.rb (bM ?_))))
  obtain rfl:=oi o
  exact⟨rfl,cF ⟨rfl,j.drop 4⟩⟩
 ·intro r U w e hK
  subst e
  refine bM ?_
  obtain rfl:=oi o
  exact hK
 rintro ab _ w rfl ⟨O,rfl,j⟩
 rw [Fo.fB] at o
 refine aG (RC.sr (aK (vb true) (RL.nt (RC.ret ?_))))
 obtain rfl:=oi o
 exact cF ⟨rfl,j.drop 2⟩
theorem o5 {p0: (List aA)} {p1:aA} {res: (List aA)} (j:Holds E w (own 187 v0 p0::V)) (h1:V[i1]? =some (rd v1 p1)) (hb:gW N p0 p1=some res):
    Calls bE 106 [v0,v1].toArray w (gF (lf E V res)):=by
 unfold gW at hb
 refine enter Tryz.func106 zr zr ?_
 have j:=j.dup (i1+1) h1
 refine RC.sr (RL.dB 0 v1 j zr fun ae w j=>?_)
 refine aK (.slice none 0 0) (RL.nq (RC.sr (RL.bB zr ku (RL.aQ 0 j zr dG fE fun aw j=>(RL.bC 0 p1.Xs j l3 (ic ((p1.Xs.length:Int)) 0 (mv (vb ((p1.Xs.length:Int)==0)) (RL.gs true ((p1.Xs.length:Int)==0) (vp ae 1) zr zr zr (dP lV) ?_))))))))
 refine RL.gs true ((p1.Xs.length:Int)==0) (vi p1.Y1) rfl rfl rfl (bX 1 rfl j (fun h=>by exact(cV h:cv (true&&(((p1.Xs.length:Int)==0)==false)) (vp ae 1)= (vp ae 1))) rfl eF cN) (RL.gs true ((p1.Xs.length:Int)==0) (vp ae 0) rfl rfl rfl (dP nR) (RL.gs true ((p1.Xs.length:Int)==0) (vi p1.Y0) rfl rfl rfl (bX 1 rfl j (fun h=>by exact(cV h:cv (true&&(((p1.Xs.length:Int)==0)==false)) (vp ae 0)= (vp ae 0))) rfl fQ cN) (RL.gs true ((p1.Xs.length:Int)==0) (vb (decide (p1.Y1<=p1.Y0))) rfl rfl rfl (dZ .leq .i64 p1.Y1 p1.Y0 rfl (fun h=>by exact(cV h:cv (true&&(((p1.Xs.length:Int)==0)==false)) (vi p1.Y1)= (vi p1.Y1))) (fun h=>by exact(cV h:cv (true&&(((p1.Xs.length:Int)==0)==false)) (vi p1.Y0)= (vi p1.Y0))) rfl) (RL.pick ((p1.Xs.length:Int)==0) (vb (((p1.Xs.length:Int)==0)||(decide (p1.Y1<=p1.Y0)))) (oX true rfl) (RL.nt (eI hb (fun hc hb=>?_) fun hc hb=>?_))))))
 ·refine RC.sr (mv v0 (aK v0 (RL.nt (RC.rt ?_))))
  obtain rfl:=oi hb
  exact cF (j.pk 4 [3])
 refine RC.ss (RC.sr (mv v0 (RL.eH 3 p0 j nH (RL.i6 (p0.length:Int) 1 (aK (vi (IntKind.wrap .i64 ((p0.length:Int) - 1))) (RL.nq ?_))))))
 obtain⟨aj,hj,hb⟩:=bd hb
 refine RC.jn (fun(aj:Bool)=>SH E V [(0,v0),(3,vp ae 0),(5,(vi (IntKind.wrap .i64 ((p0.length:Int) - 1)))),(42,vb aj)] [own 187 v0 p0,bx 187 ae p1]) aj ?_ ?_
 ·refine RC.xM mixed [0,0,0,0,0,0,0,0,0,0,0,0,0,0,0,0,0,0,0,0,2,0] [0,1,2,3,4,5,6,7,8,9,10,11,12,13,14,15,16,17,18,19,20,21] ?_
  have j:=j.drew
  refine DP.e0 zr (mv (vi (IntKind.wrap .i64 ((p0.length:Int) - 1))) (cB zr (ic ((IntKind.wrap .i64 ((p0.length:Int) - 1))) 0 (cB zr (mv (vb (decide ((IntKind.wrap .i64 ((p0.length:Int) - 1))>=0))) (DP.d0 (fU hj (fun o hj=>?_) fun o hj=>?_)))))))
  rotate_left
  ·refine DP.e0 zr (bN o (cB zr (bN o (cB zr (bN o (cB zr (bN o (cB zr ?_))))))))
   refine bN o (cB zr (bN o (cB zr (bN o (cB zr (bN o (cB zr (fP o (vb false) ?_))))))))
   refine cB zr (mv (vb false) (cB zr (nQ (cB zr (nQ (cB zr (nQ (cB zr ?_))))))))
   refine nQ (cB zr (nQ (cB zr (nQ (cB zr (nQ (tL zr (nQ ?_))))))))
   refine xN zr (RL.pick false (vb false) zr (DP.d0 (DP.z ?_)))
   obtain rfl:=oi hj
   exact⟨rfl,j.sp 4 [3,1]⟩
  refine DP.e0 zr (RL.move v0 (cg o) (cB zr (RL.move (vi (IntKind.wrap .i64 ((p0.length:Int) - 1))) (cg o) (cB zr ?_))))
  obtain⟨ak,af,hj⟩:=bd hj
  refine RL.bG (hg:=(cg o)) 3 j zr zr kc af (cB zr (RL.nr (hg:=(cg o)) (α:=aA) (iX 3 j af 0) lV (cB zr (RL.cX (hg:=(cg o)) 3 j (iX 3 j af 1) (aU af).2.1 eF cN (cB zr (RL.bB (hg:=(cg o)) zr nR (cB zr (RL.aM (hg:=(cg o)) 1 j zr fQ cN ?_))))))))
  refine cB zr (RL.jO ak.Y1 p1.Y0 (cg o) (cB zr (fP o (vb (ak.Y1==p1.Y0)) (cB zr (mv (vb (ak.Y1==p1.Y0)) (DP.d0 (fU hj (fun aa hj=>?_) fun aa hj=>?_)))))))
  rotate_left
  ·refine DP.e0 zr (bN aa (cB zr (bN aa (cB zr (bN aa (cB zr (bN aa (cB zr ?_))))))))
   refine bN aa (cB zr (bN aa (cB zr (bN aa (tL zr (bN aa (xN zr (fP aa (vb false) ?_))))))))
   refine DP.d0 (DP.z ?_)
   obtain rfl:=oi hj
   exact⟨rfl,j.sp 4 [3,1]⟩
  refine DP.e0 zr (RL.move v0 (cg aa) (cB zr (RL.move (vi (IntKind.wrap .i64 ((p0.length:Int) - 1))) (cg aa) (cB zr ?_))))
  obtain⟨ax,ag,hj⟩:=bd hj
  refine RL.bG (hg:=(cg aa)) 3 j zr zr kc ag (cB zr (RL.nr (hg:=(cg aa)) (α:=aA) (iX 3 j ag 0) ku (cB zr (RL.iD (hg:=(cg aa)) 3 j (iX 3 j ag 2) (aU ag).2.1 dG fE fun al j=>?_))))
  refine cB zr (RL.bB (hg:=(cg aa)) zr ku (cB zr (RL.aQ (hg:=(cg aa)) 2 j zr dG fE fun an j=>(tL zr ?_))))
  obtain⟨ao,aq,hj⟩:=bd hj
  refine RL.call (cg aa) zr J7 [al,an] zr (aF (sW N (i0:=1) (i1:=0) j zr zr aq) ?_)
  rintro _ w ⟨rfl,j⟩
  refine xN zr (fP aa (vb ao) (DP.d0 (DP.z ?_)))
  obtain rfl:=oi hj
  exact⟨rfl,j.sp 6 [5,3]⟩
 rintro _ w ⟨O,rfl,j⟩
 refine aG (eI hb (fun hc hb=>?_) fun hc hb=>?_)
 rotate_left
 ·refine RC.sx (mv v0 (RL.aQ (f:=(fun x=>x)) 1 j zr Fd.self uT fun ar j=>(RL.eE ([p1]: (List aA)) j [ar] kc BX (fun M hs g=>⟨(g.sat 0 _ zr).1,zt⟩) fun ay w j=>?_)))
  have j:=j.freeze 0
  obtain⟨az,au,hb⟩:=bd hb
  refine RL.app 2 0 j J8 au fun av w j=>?_
  refine aK av (RL.nt (RC.ret ?_))
  obtain rfl:=oi hb
  exact cF (j.pk 4 [2])
 refine RC.sr (mv v0 (mv (vi (IntKind.wrap .i64 ((p0.length:Int) - 1))) (RL.bB zr lV (RL.aM 1 j zr eF cN ?_))))
 obtain⟨a0,ah,hb⟩:=bd hb
 refine RL.bG 0 j zr zr kc ah (RL.nr (α:=aA) (iX 0 j ah 0) lV ?_)
 have j:=j.sc Int p1.Y1
 refine RL.fA 1 0 j (iX 1 j ah 1) (aU ah).2.1 zr nz cN fun w j=>?_
 refine RL.ns (mv v0 (aK v0 (RL.nt (RC.rt ?_))))
 obtain rfl:=oi hb
 exact cF (j.pk 3 [1])
theorem kR {p0: (List aI)} {res: (List aA)} (o:Holds E w V) (h0:V[i0]? =some (rd v0 p0)) (hb:fX N p0=some res):
    Calls bE 70 [v0].toArray w (gF (lf E V res)):=by
 unfold fX at hb
 refine enter Tryz.func70 zr zr ?_
 have o:=o.dup (i0+0) h0
 refine RC.sr (aK (.slice none 0 0) (RL.ns (mv v0 ?_)))
 obtain⟨cf,bn,hb⟩:=bd hb
 refine RL.call zt zr LV [v0] zr (aF (rD N (i0:=0) o zr bn) ?_)
 rintro ae w o
 refine aK ae (RL.ns (mv ae ?_))
 obtain⟨ah,bo,hb⟩:=bd hb
 have o:=o.pull 0
 refine RL.call zt zr Ip [ae,(.func (.func 101) #[] #[])] zr (aF (D4 Tryz.lay100 aI zr fI.Hj fI.sz JX (fun o hi hj hr=>u5 N o hi hj hr) o bo) ?_)
 rintro _ w ⟨rfl,o⟩
 refine RL.ns (RL.pG o JY fun ag w o=>?_)
 refine RL.nq (RC.sr (mv ae (RL.eH 1 ah o oO (mv (vi 0) (RL.nt ?_)))))
 obtain⟨ao,hN,hb⟩:=bd hb
 refine RC.fold (fun(aw:Nat) (ao: (List Int)) U w=>∃a6:Value,SH E V [(0,ae),(3,vp ag 0),(14,ae),(15,vi ah.length),(16,vi aw)] [own 74 ae ah,bc 87 ag [a6],own 3 a6 ao] U w) (fun(ao: (List Int)) U w=>∃an:Value,SH E V [(0,ae),(3,vp ag 0)] [own 74 ae ah,bc 87 ag [an],own 3 an ao] U w) hN ?_ ?_ ?_ ?_
 ·have o:=o.cT Int 3
  exact⟨(.slice none 0 0),o.sp 5 [2,1,0]⟩
 ·rintro hm ao _ w ⟨bp,O,rfl,o⟩
  refine RC.sr (ic ((ah.length:Int)) ((ah.length:Int)) (RL.nq (RC.cH lD (RC.ex ?_))))
  exact⟨rfl,bp,o.sp 3 [0,1,2]⟩
 ·rintro hm aw ao s' _ w hk ⟨bq,O,rfl,o⟩ hb
  refine RC.sr (ic ((aw:Int)) ((ah.length:Int)) (RL.nq (RC.cG (lC hk) (RC.ss (RC.bs ?_)))))
  obtain⟨aq,a1,hb⟩:=bd hb
  refine RL.bG 0 o zr zr kN a1 (RL.iD (f:=(fun x=>x)) 0 o (iX 0 o a1 0) (aU a1).2.1 Fd.self fI fun ch o=>?_)
  refine RL.alloc o mS.z fun cj w o=>?_
  refine RL.bA 0 o 1 zr fI fun w o=>?_
  refine RL.nt (RC.region (RL.aX 3 bq o fE (RL.bB zr jY (RL.aM 0 o zr fy cN (RL.bB zr ou (RL.aM 0 o zr jM cN ?_))))))
  have o:=(o.sc Int aq.Y0).sc Int aq.Y1
  refine RL.eE ([aq.Y0,aq.Y1]: (List Int)) o [(vi aq.Y0),(vi aq.Y1)] dV Ft (fun M hs g=>⟨(g.sat 1 _ zr).1,⟨(g.sat 0 _ zr).1,zt⟩⟩) fun ck w o=>?_
  have o:=o.freeze 0
  obtain⟨cl,br,hb⟩:=bd hb
  refine RL.app 7 0 o tM br fun a9 w o=>?_
  refine RL.gU 6 a9 o zr zr (iE 7 o) fE fun w o=>?_
  refine RL.nil (bI (aG (RC.region (RL.inc hk hm (mv (vi ((aw+1:Nat):Int)) (RL.nil ?_))))))
  obtain rfl:=oi hb
  exact⟨rfl,a9,o.sp 8 [5,6,7]⟩
 rintro _ w ⟨an,O,rfl,o⟩
 refine aG (RC.sr (RL.aX 1 an o fE ?_))
 obtain⟨cm,bt,hb⟩:=bd hb
 have o:=o.pull 2
 refine RL.call zt zr JZ [an] zr (aF (Gw Tryz.lay102 o bt) ?_)
 rintro _ w ⟨rfl,o⟩
 refine RL.ns (RL.aX 2 an o fE ?_)
 have o:=o.pull 0
 obtain⟨ai,bu,hb⟩:=bd hb
 refine RL.call zt zr J0 [an] zr (aF (qT N o bu) ?_)
 rintro bw w o
 refine RL.gU 3 bw o zr zr (iE 0 o) fE fun w o=>?_
 refine RL.ns (aK (.slice none 0 0) (RL.ns (aK (.slice none 0 0) (RL.ns (aK (vi 0) (RL.nq (RC.sr (RL.alloc o Ft.z fun bz w o=>?_))))))))
 have o:=o.sc Int 0
 refine RL.bA 1 o 0 zr cN fun w o=>?_
 refine RL.nt ?_
 have o:=((((o.freeze 2).FE (i:=5) (x:=ai) rfl (fun M hs g=>(lz (g.sat 2 _ rfl).1))).gJ (i:=5) rfl).cT aA 187).cT aI 74
 obtain⟨cn,hN,hb⟩:=bd hb
 refine RC.iter (fun(ab: (List aA)×(List aI)×Int×Int) U w=>∃(ba bb:Value) (bf:Nat),SH E V [(0,ae),(3,vp ag 0),(6,ba),(7,bb),(8,vi ab.2.2.1),(9,vp bf 0)] [own 74 ae ah,pt (vp ag 0) ai,own 187 ba ab.1,own 74 bb ab.2.1,bx 3 bf ab.2.2.2] U w) (fun(ab: (List aA)×(List aI)×Int×Int) U w=>∃av:Value,SH E V [(6,av)] [own 74 ae ah,pt (vp ag 0) ai,own 187 av ab.1] U w) (fun(r:Empty) _ _=>r.elim) hN ?_ ?_ ?_ ?_
 ·exact⟨(.slice none 0 0),(.slice none 0 0),bz,o.sp 9 [6,7,1,0,3]⟩
 ·rintro ab fl _ w ⟨ak,bg,al,O,rfl,o⟩ hb
  refine RC.seq (RC.sr (RL.aM (f:=(fun x=>x)) 4 o zr Fd.self cN (RL.i6 ab.2.2.2 1 (RL.bL 1 ai o fE fun cp o=>(RL.bC 0 ai o l3 (ic ((IntKind.wrap .i64 (ab.2.2.2+1))) ((ai.length:Int)) (RL.nt (eI hb (fun hc hb=>?_) fun hc hb=>?_))))))))
  rotate_left
  ·refine RC.ex ?_
   obtain rfl:=oi hb
   exact⟨rfl,ak,o.sp 6 [1,2,3]⟩
  refine RC.ss (RC.bs (mv bg ?_))
  have o:=o.gJ (i:=5) rfl
  refine RL.makeFunc [(vp ag 0),(vp al 0)] ?_
  have o:=o.pull 4
  obtain⟨cq,b1,hb⟩:=bd hb
  refine RL.call trivial rfl J4 [bg,(.func (.func 105) #[] #[(vp ag 0),(vp al 0)])] rfl (aF (oQ N o ⟨105,[(vp ag 0),(vp al 0)],rfl,J3,fun w Γl v y0 r i o hi hr=>by exact aF (u6 N (i0:=i) (i1:=Γl.length+2) (i2:=Γl.length+5) o hi (Ac rfl) (Ac rfl) hr) fun _ _ h=>h⟩ b1) ?_)
  rintro bh w o
  refine aK bh (RL.nq ?_)
  obtain⟨cr,hN,hb⟩:=bd hb
  refine RC.iter (fun(af: (List aI)×Int) U w=>∃bj:Value,SH E V [(0,ae),(3,vp ag 0),(6,ak),(7,bj),(8,vi af.2),(9,vp al 0)] [own 74 ae ah,pt (vp ag 0) ai,own 187 ak ab.1,pt (vp al 0) ab.2.2.2,own 74 bj af.1] U w) (fun(af: (List aI)×Int) U w=>∃ar:Value,SH E V [(0,ae),(3,vp ag 0),(6,ak),(7,ar),(8,vi af.2),(9,vp al 0)] [own 74 ae ah,pt (vp ag 0) ai,own 187 ak ab.1,pt (vp al 0) ab.2.2.2,own 74 ar af.1] U w) (fun(r:Empty) _ _=>r.elim) hN ?_ ?_ ?_ ?_
  ·exact⟨bh,o.sp 7 [2,3,4,6,0]⟩
  ·rintro af fl _ w ⟨ax,O,rfl,o⟩ hb
   refine RC.seq (RC.seq ?_)
   obtain⟨a3,hj,hb⟩:=bd hb
   refine RC.jn (fun(a3:Bool)=>SH E V [(0,ae),(3,vp ag 0),(6,ak),(7,ax),(8,vi af.2),(9,vp al 0),(57,vb a3)] [own 74 ae ah,pt (vp ag 0) ai,own 187 ak ab.1,own 74 ax af.1,pt (vp al 0) ab.2.2.2]) a3 ?_ ?_
   ·refine RC.uK mixed ?_
    have o:=o.drew
    refine RO.go (mv (vi af.2) (RO.nx (mv ae (RO.nx (RL.eH 0 ah o oO (RO.nx (ic af.2 ((ah.length:Int)) (RO.nx ?_))))))))
    refine mv (vb (decide (af.2< (ah.length:Int)))) (fU hj (fun ad hj=>?_) fun ad hj=>?_)
    rotate_left
    ·refine RO.nx (bN ad (RO.nx (bN ad (RO.nx (bN ad (RO.nx (bN ad (RO.nx ?_))))))))
     refine bN ad (RO.nx (bN ad (RO.nx (bN ad (RO.nx (bN ad (RO.nx (bN ad ?_))))))))
     refine RO.nx (bN ad (RO.nx (fP ad (vb false) (RO.last ?_))))
     obtain rfl:=oi hj
     exact⟨rfl,o.sp 5 [0,1,2,4,3]⟩
    refine RO.nx (RL.move ae (cg ad) (RO.nx (RL.move (vi af.2) (cg ad) (RO.nx ?_))))
    obtain⟨bk,ay,hj⟩:=bd hj
    refine RL.bG (hg:=(cg ad)) 0 o zr zr kN ay (RO.nx (RL.nr (hg:=(cg ad)) (α:=aI) (iX 0 o ay 0) jY (RO.nx (RL.cX (hg:=(cg ad)) 0 o (iX 0 o ay 1) (aU ay).2.1 fy cN (RO.nx (RL.bL (hg:=(cg ad)) 1 ai o fE fun ct o=>?_))))))
    refine RO.nx (RL.bH (hg:=(cg ad)) ab.2.2.2 4 o cN (RO.nx ?_))
    obtain⟨a4,b2,hj⟩:=bd hj
    refine RL.bW (hg:=(cg ad)) 0 o dV b2 fun cu o=>(RO.nx (RL.bH (hg:=(cg ad)) a4 0 o cN (RO.nx (RL.jO bk.Y0 a4 (cg ad) (RO.nx (fP ad (vb (decide (bk.Y0<=a4))) (RO.last ?_)))))))
    obtain rfl:=oi hj
    exact⟨rfl,o.sp 7 [2,3,4,6,5]⟩
   rintro _ w ⟨O,rfl,o⟩
   refine aG (eI hb (fun hc hb=>?_) fun hc hb=>?_)
   rotate_left
   ·refine RC.ex ?_
    obtain rfl:=oi hb
    exact⟨rfl,ax,o.sp 5 [0,1,2,4,3]⟩
   refine RC.sn (RC.block (RC.region (mv ax (mv ae (mv (vi af.2) ?_)))))
   obtain⟨b3,a5,hb⟩:=bd hb
   refine RL.bG 0 o zr zr kN a5 (RL.iD (f:=(fun x=>x)) 0 o (iX 0 o a5 0) (aU a5).2.1 Fd.self fI fun b4 o=>?_)
   refine RL.eE ([b3]: (List aI)) o [b4] kN mS (fun M hs g=>⟨(g.sat 0 _ zr).1,zt⟩) fun cv w o=>?_
   have o:=o.freeze 0
   obtain⟨cw,b5,hb⟩:=bd hb
   refine RL.app 5 0 o EI b5 fun bl w o=>?_
   refine mv (vi af.2) (RL.i6 af.2 1 (aK bl (aK (vi (IntKind.wrap .i64 (af.2+1))) (RL.nil (bI ?_)))))
   obtain rfl:=oi hb
   exact⟨rfl,bl,o.sp 7 [2,3,4,6,5]⟩
  ·intro r _ _ _ _
   exact r.elim
  rintro af _ w rfl ⟨ar,O,rfl,o⟩
  rw [Fo.fB] at hb
  refine aG (RC.xM mixed [1,1,1,1,1,1,1,1,1,1,0,2,0,2,0] [0,1,2,3,4,5,6,7,8,9,10,11,12,13,14] ?_)
  have o:=o.drew
  refine DP.e1 ak zr (fun w=>RL.move ak zt DP.d1) (DP.wZ ai 1 zr o fE fun cx a305 cy o=>(DP.DR ab.2.2.2 5 zr zr zr o zr zr cN fun a307 cz o=>?_))
  obtain⟨az,b6,hb⟩:=bd hb
  refine DP.Jg 2 zr zr zt zr o zr zr zr dV b6 fun c0 o=>(DP.DR az 0 zr zr zr o zr zr cN fun a311 c1 o=>(DP.wZ ai 6 zr o fE fun c2 a314 c3 o=>(DP.DR ab.2.2.2 10 zr zr zr o zr zr cN fun a316 c4 o=>(DP.e1 (vi (IntKind.wrap .i64 (ab.2.2.2+1))) zr (fun w=>RL.i6 ab.2.2.2 1 DP.d1) ?_))))
  obtain⟨a0,b7,hb⟩:=bd hb
  refine DP.Jg 2 zr zr zt zr o zr zr zr dV b7 fun c5 o=>(DP.DR a0 0 zr zr zr o zr zr cN fun a320 c6 o=>(DP.e0 zr (mv ar (tL zr ?_))))
  have o:=o.pull 14
  obtain⟨b8,b9,hb⟩:=bd hb
  refine RL.call zt zr J6 [ar] zr (aF (tW N o b9) ?_)
  rintro ca w o
  refine DP.d2 (⟨⟨⟨⟨⟨⟨zt,o.kb 10⟩,o.kb 9⟩,o.kb 7⟩,o.kb 5⟩,o.kb 4⟩,o.kb 2⟩) (DP.e0 zr ?_)
  have o:=((o.sc Int az).sc Int a0).freeze 2
  refine RL.build (⟨az,a0,b8.1⟩:aA) trivial rfl o [(0,vi az),(1,vi a0),(2,ca)] rfl Ir rfl (fun M hs g=>by have h:=uS M;exact cO.cons (f:=fun(x:aA) y=>{x with Y0:=y}) h qL (g.sat 1 _ rfl).1 fun _ h=>cO.cons (f:=fun(x:aA) y=>{x with Y1:=y}) h nz (g.sat 0 _ rfl).1 fun _ h=>cO.cons (f:=fun(x:aA) y=>{x with Xs:=y}) h qM (g.sat 2 _ rfl).1 fun _ h=>cO.nil h) fun cb o=>?_
  refine tL zr ?_
  have o:=o.pull 17
  obtain⟨c7,cc,hb⟩:=bd hb
  refine RL.call zt zr Is [ak,cb] zr (aF (o5 N (i1:=0) o zr cc) ?_)
  rintro bm w o
  refine DP.d2 (⟨⟨⟨⟨⟨⟨zt,o.kb 14⟩,o.kb 13⟩,o.kb 11⟩,o.kb 9⟩,o.kb 8⟩,o.kb 6⟩) (DP.e0 zr (aK bm (DP.d0 ?_)))
  have o:=o.pl 21 [0,1,2,3,4,5,7,10,12,15,16,17,18,19,20]
  refine DP.z (bI (aG (RC.seq (RC.sr (RL.bH ab.2.2.2 13 o cN (RL.nt (RC.region (RL.alloc o Ft.z fun cd w o=>?_))))))))
  have o:=o.sc Int ab.2.2.2
  refine RL.bA 1 o 0 zr cN fun w o=>?_
  refine RL.nt (RC.region (RL.aM (f:=(fun x=>x)) 1 o zr Fd.self cN (RL.i6 ab.2.2.2 1 ?_)))
  have o:=o.sc Int (IntKind.wrap .i64 (ab.2.2.2+1))
  refine RL.Fy (i:=2) (j:=0) zt o zr zr zr zr cN fun w o=>?_
  refine RL.nil ?_
  obtain rfl:=oi hb
  exact⟨rfl,bm,ar,cd,o.sp 18 [13,14,3,8,2]⟩
 ·intro r _ _ _ _
  exact r.elim
 rintro ab _ w rfl ⟨av,O,rfl,o⟩
 rw [Fo.fB] at hb
 refine aG (RC.sr (mv av (aK av (RL.nt (RC.ret ?_)))))
 obtain rfl:=oi hb
 exact cF (o.pk 3 [2])
theorem l4 {p0: (List aA)} {res: (List aI)} (j:Holds E w V) (h0:V[i0]? =some (rd v0 p0)) (o:il N p0=some res):
    Calls bE 71 [v0].toArray w (gF (lA E V res)):=by
 unfold il at o
 refine enter Tryz.func71 zr zr ?_
 have j:=j.dup (i0+0) h0
 refine RC.sr (aK (.slice none 0 0) (RL.ns (aK (.slice none 0 0) (RL.nq (RC.sr (mv v0 (RL.bC 0 p0 j nH (mv (vi 0) ?_))))))))
 refine RL.nt ?_
 obtain⟨ad,hN,o⟩:=bd o
 refine RC.fold (fun(ae:Nat) (ad: (List aI)) U w=>∃an:Value,SH E V [(3,an),(7,v0),(8,vi p0.length),(9,vi ae)] [rd v0 p0,own 74 an ad] U w) (fun(ad: (List aI)) U w=>∃af:Value,SH E V [(3,af)] [rd v0 p0,own 74 af ad] U w) hN ?_ ?_ ?_ ?_
 ·have j:=j.cT aI 74
  exact⟨(.slice none 0 0),j.sp 2 [1,0]⟩
 ·rintro hm ad _ w ⟨av,O,rfl,j⟩
  refine RC.sr (ic ((p0.length:Int)) ((p0.length:Int)) (RL.nq (RC.cH lD (RC.ex ?_))))
  exact⟨rfl,av,j.sp 2 [0,1]⟩
 ·rintro hm ae ad s' _ w hk ⟨aw,O,rfl,j⟩ o
  refine RC.sr (ic ((ae:Int)) ((p0.length:Int)) (RL.nq (RC.cG (lC hk) (RC.ss (RC.bs ?_)))))
  obtain⟨ab,ax,o⟩:=bd o
  refine RL.bW 0 j kc ax fun a3 j=>(RL.bL 0 ab j uT fun a4 j=>(RL.alloc j BX.z fun ak w j=>?_))
  refine RL.bA 0 j 1 zr uT fun w j=>?_
  refine RL.ns (aK (vi 0) (RL.nt ?_))
  obtain⟨a5,hN,o⟩:=bd o
  refine RC.iter (fun(aa: (List aI)×Int) U w=>∃ar:Value,SH E V [(3,ar),(5,vp ak 0),(6,vi aa.2),(7,v0),(8,vi p0.length),(9,vi ae)] [bx 187 ak ab,rd v0 p0,own 74 ar aa.1] U w) (fun(aa: (List aI)×Int) U w=>∃ai:Value,SH E V [(3,ai),(7,v0),(8,vi p0.length),(9,vi ae)] [bx 187 ak ab,rd v0 p0,own 74 ai aa.1] U w) (fun(r:Empty) _ _=>r.elim) hN ?_ ?_ ?_ ?_
  ·exact⟨aw,j.sp 5 [0,3,4]⟩
  ·rintro aa fl _ w ⟨al,O,rfl,j⟩ o
   refine RC.seq (RC.sr (mv (vi aa.2) (RL.bB zr ku (RL.aQ 0 j zr dG fE fun a7 j=>(RL.bC 0 ab.Xs j l3 (ic aa.2 ((ab.Xs.length:Int)) (RL.nt (eI o (fun hc o=>?_) fun hc o=>?_))))))))
   rotate_left
   ·refine RC.ex ?_
    obtain rfl:=oi o
    exact⟨rfl,al,j.sp 4 [1,2,3]⟩
   refine RC.ss (RC.block (RC.xM mixed [1,0,0,0,0,0,0,0,0,0,0,0,0,0,0,0,0,2,2,0] [0,1,2,3,4,5,6,7,8,9,10,11,12,13,14,15,16,17,18,19] ?_))
   have j:=j.drew
   refine DP.e1 al zr (fun w=>RL.move al zt DP.d1) (DP.e0 zr (RL.bB zr ku (cB zr (RL.aQ 1 j zr dG fE fun a8 j=>(cB zr (mv (vi aa.2) (cB zr ?_)))))))
   obtain⟨ag,az,o⟩:=bd o
   refine RL.bW 0 j dV az fun a9 j=>(cB zr (RL.bH ag 0 j cN (cB zr (RL.bB zr nR (cB zr (RL.aM 3 j zr fQ cN (cB zr (RL.bB zr ku ?_))))))))
   refine cB zr (RL.aQ 3 j zr dG fE fun ba j=>(cB zr (mv (vi aa.2) (cB zr (RL.i6 aa.2 1 (cB zr ?_))))))
   obtain⟨ah,a0,o⟩:=bd o
   refine RL.bW 0 j dV a0 fun bb j=>(cB zr (RL.bH ah 0 j cN (cB zr (RL.bB zr lV (cB zr (RL.aM 5 j zr eF cN (cB zr ?_)))))))
   have j:=(((j.sc Int ag).sc Int ab.Y0).sc Int ah).sc Int ab.Y1
   refine RL.build (⟨ag,ab.Y0,ah,ab.Y1⟩:aI) trivial rfl j [(0,vi ag),(1,vi ab.Y0),(2,vi ah),(3,vi ab.Y1)] rfl C3 rfl (fun M hs g=>by have h:=ry M;exact cO.cons (f:=fun(x:aI) y=>{x with X0:=y}) h pI (g.sat 3 _ rfl).1 fun _ h=>cO.cons (f:=fun(x:aI) y=>{x with Y0:=y}) h sw (g.sat 2 _ rfl).1 fun _ h=>cO.cons (f:=fun(x:aI) y=>{x with X1:=y}) h nZ (g.sat 1 _ rfl).1 fun _ h=>cO.cons (f:=fun(x:aI) y=>{x with Y1:=y}) h pJ (g.sat 0 _ rfl).1 fun _ h=>cO.nil h) fun a1 j=>?_
   refine tL zr (RL.eE ([(⟨ag,ab.Y0,ah,ab.Y1⟩:aI)]: (List aI)) j [a1] kN mS (fun M hs g=>⟨(g.sat 0 _ zr).1,zt⟩) fun bc w j=>(HG zr ?_))
   have j:=j.freeze 0
   obtain⟨bf,a2,o⟩:=bd o
   refine RL.app 13 0 j EI a2 fun au w j=>?_
   refine xN zr (aK au (DP.d0 (DP.z (bI (aG (RC.region (mv (vi aa.2) (RL.i6 aa.2 2 ?_))))))))
   refine aK (vi (IntKind.wrap .i64 (aa.2+2))) (RL.nil ?_)
   obtain rfl:=oi o
   exact⟨rfl,au,j.sp 14 [11,12,13]⟩
  ·intro r _ _ _ _
   exact r.elim
  rintro aa _ w rfl ⟨ai,O,rfl,j⟩
  rw [Fo.fB] at o
  refine bI (aG (RC.region (RL.inc hk hm (mv (vi ((ae+1:Nat):Int)) (RL.nil ?_)))))
  obtain rfl:=oi o
  exact⟨rfl,ai,j.sp 3 [1,2]⟩
 rintro _ w ⟨af,O,rfl,j⟩
 refine aG (RC.sr (mv af (aK af (RL.nt (RC.ret ?_)))))
 obtain rfl:=oi o
 exact cF (j.pk 2 [1])
def sX (E:World) (V:List HP) (r:Bool) (U:Nat->Value) (w:World):Prop:=ly bE 26 Tryz.f69 (aY E V r) .ret U w
theorem rF {p0: (List aI)} {p1: (List aI)} {res:Bool} (j:Holds E w V) (h0:V[i0]? =some (rd v0 p0)) (h1:V[i1]? =some (rd v1 p1)) (o:jg N p0 p1=some res):
    Calls bE 69 [v0,v1].toArray w (gF (aY E V res)):=by
 unfold jg at o
 refine enter Tryz.func69 zr zr ?_
 have j:=(j.dup (i0+0) h0).dup (i1+1) h1
 refine RC.sr (aK (vb false) (RL.nq (RC.sr (mv v0 (RL.bC 1 p0 j oO (mv v1 (RL.bC 0 p1 j oO (ic ((p0.length:Int)) ((p1.length:Int)) ?_))))))))
 refine RL.nt (eI o (fun hc o=>?_) fun hc o=>?_)
 ·refine RC.sr (aK (vb false) (RL.nt (RC.rt ?_)))
  obtain rfl:=oi o
  exact cF ⟨rfl,j.drop 2⟩
 refine RC.ss (RC.sr (mv v0 (RL.bC 1 p0 j oO (mv (vi 0) (RL.nt ?_)))))
 obtain⟨an,hN,o⟩:=bd o
 refine RC.range (fun(aa:Nat) (ab:Unit)=>SH E V [(0,v0),(1,v1),(12,vi p0.length),(13,vi aa)] [rd v0 p0,rd v1 p1]) (fun(ab:Unit)=>SH E V [] [rd v0 p0,rd v1 p1]) (sX E V) hN ?_ ?_ ?_ ?_ ?_
 ·exact j.sp 2 [1,0]
 ·rintro hm ab _ w ⟨O,rfl,j⟩
  refine RC.sr (ic ((p0.length:Int)) ((p0.length:Int)) (RL.nq (RC.cH lD (RC.ex ?_))))
  exact⟨rfl,j.sp 2 [0,1]⟩
 ·rintro hm aa ab fl _ w hk ⟨O,rfl,j⟩ o
  refine RC.sr (ic ((aa:Int)) ((p0.length:Int)) (RL.nq (RC.cG (lC hk) (RC.ss (RC.bs (mv (vi aa) (aK (vi aa) (RL.nq ?_))))))))
  refine RC.uK mixed ?_
  have j:=j.drew
  refine RO.go (mv v0 (RO.nx (mv (vi aa) (RO.nx ?_))))
  obtain⟨ag,aj,o⟩:=bd o
  refine RL.bW 0 j kN aj fun aq j=>(RO.nx (RL.bL 0 ag j fI fun ar j=>(RO.nx (mv v1 (RO.nx (mv (vi aa) (RO.nx ?_)))))))
  obtain⟨ah,ak,o⟩:=bd o
  refine RL.bW 3 j kN ak fun au j=>(RO.nx (RL.bL 0 ah j fI fun av j=>(RO.nx (RL.Ly 2 0 ag ah zt zr j zr zr zr zr J9 zr (RO.last (aG (eI o (fun hc o=>?_) fun hc o=>?_)))))))
  rotate_left
  ·refine RC.skip (bI (aG (RC.region (RL.inc hk hm (mv (vi ((aa+1:Nat):Int)) (RL.nil ?_))))))
   obtain rfl:=oi o
   exact⟨rfl,j.sp 6 [4,5]⟩
  refine RC.sr (aK (vb false) (RL.nt (RC.rb (bM ?_))))
  obtain rfl:=oi o
  exact⟨rfl,cF ⟨rfl,j.drop 6⟩⟩
 ·intro r U w e hK
  subst e
  refine bM ?_
  obtain rfl:=oi o
  exact hK
 rintro ab _ w rfl ⟨O,rfl,j⟩
 rw [Fo.fB] at o
 refine aG (RC.sr (aK (vb true) (RL.nt (RC.ret ?_))))
 obtain rfl:=oi o
 exact cF ⟨rfl,j.drop 2⟩
def sY (E:World) (V:List HP) (r:Int) (U:Nat->Value) (w:World):Prop:=ly bE 52 Tryz.f46 (aN E V r) .ret U w
theorem na {p0: (List aI)} (j:Holds E w V) (h0:V[i0]? =some (rd v0 p0)) (hb:hQ N p0=some res):
    Calls bE 46 [v0].toArray w (gF (aN E V res)):=by
 unfold hQ at hb
 refine enter Tryz.func46 zr zr ?_
 have j:=j.dup (i0+0) h0
 refine RC.sr (aK (vi 0) (RL.nq (RC.sr (mv v0 ?_))))
 obtain⟨au,ax,hb⟩:=bd hb
 refine RL.call zt zr LU [v0] zr (aF (sV N (i0:=0) j zr ax) ?_)
 rintro _ w ⟨rfl,j⟩
 refine aK (vi au) (RL.ns (mv (vi au) (ic au 0 (RL.nt (eI hb (fun hc hb=>?_) fun hc hb=>?_)))))
 ·refine RC.sr (mv (vi au) (aK (vi au) (RL.nt (RC.rt ?_))))
  obtain rfl:=oi hb
  exact cF ⟨rfl,j.drop 1⟩
 refine RC.ss (RC.sr (aK (vi 1) (RL.nt ?_)))
 obtain⟨bf,hN,hb⟩:=bd hb
 refine RC.iter (fun(an:Int)=>SH E V [(0,v0),(4,vi an)] [rd v0 p0]) (fun(an:Int)=>SH E V [(0,v0)] [rd v0 p0]) (sY E V) hN ?_ ?_ ?_ ?_
 ·exact j.sp 1 [0]
 ·rintro an fl _ w ⟨O,rfl,j⟩ hb
  refine RC.seq (RC.sr (mv (vi an) (mv v0 (RL.bC 0 p0 j oO (ic an ((p0.length:Int)) (RL.nt (eI hb (fun hc hb=>?_) fun hc hb=>?_)))))))
  rotate_left
  ·refine RC.ex ?_
   obtain rfl:=oi hb
   exact⟨rfl,j.sp 1 [0]⟩
  refine RC.ss (RC.block (RC.seq ?_))
  obtain⟨o,a0,hb⟩:=bd hb
  obtain⟨aa,a1,hb⟩:=bd hb
  refine RC.Ew E V mixed [1,1,1,0,0,1,1,0,0,0,0,0,0] [3,4,7,8,9,10,11,12] (fun(x:Value×Value×Value×Value×Nat×Nat)=>(fun ag ah ai aj ad ae=>[(0,18,v0),(1,19,(vi an)),(2,20,(vi (IntKind.wrap .i64 (an - 1)))),(3,21,ag),(4,22,ah),(5,23,v0),(6,24,(vi an)),(7,25,ai),(8,26,aj),(9,5,(vp ad 0)),(10,6,(vp ae 0))]) x.1 x.2.1 x.2.2.1 x.2.2.2.1 x.2.2.2.2.1 x.2.2.2.2.2) [(0,v0),(4,vi an)] [] (fun(D:Nat->Bool) (x:Value×Value×Value×Value×Nat×Nat)=>(fun ag ah ai aj ad ae=>[bif D 0 then (pt ag o) else aZ,bif D 1 then (rd ah o) else aZ,bif D 2 then (pt ai aa) else aZ,bif D 3 then (rd aj aa) else aZ,bif D 6 then (bx 74 ad o) else (bif D 4 then (raw 74 ad 4) else aZ),bif D 7 then (bx 74 ae aa) else (bif D 5 then (raw 74 ae 4) else aZ),rd v0 p0]) x.1 x.2.1 x.2.2.1 x.2.2.2.1 x.2.2.2.2.1 x.2.2.2.2.2) (fun x=>by kernel_rfl) ?_ ⟨fun _=>jt gn,fun _=>jt gn,fun _=>HF gn rfl,?_,?_,fun _=>jt gn,fun _=>jt gn,?_,?_,?_,?_,?_,?_,trivial⟩ ?_
  ·have j:=((((((j.drew).aZ).aZ).aZ).aZ).aZ).aZ
   exact⟨(undef,undef,undef,undef,0,0),dX.none,(CX zr),zt,j⟩
  ·rintro D U w hD af ao ⟨⟨ag,ah,ai,aj,ad,ae⟩,hv,ha,_,j⟩
   obtain⟨O,rfl⟩:=(ac (hv.at 0 rfl (af.1 rfl)) (ac (hv.at 2 rfl (af.2.1 rfl)) az)).eV
   have j:=j.cA 0 hD
   refine RL.bW 6 j kN a0 fun a2 j=>?_
   have j:=(j.pl 8 [0,2,3,4,5,6,7]).cL 0 true aZ
   exact RL.nil ⟨rfl,(a2,ah,ai,aj,ad,ae),hv.pu 3,ha.u,zt,j⟩
  ·rintro D U w hD af ao ⟨⟨ag,ah,ai,aj,ad,ae⟩,hv,ha,_,j⟩
   obtain⟨O,rfl⟩:=(ac (hv.at 3 rfl (af.1 rfl)) az).eV
   have j:=(j.cK 0 (af.1 rfl)).cA 1 hD
   refine RL.bL 0 o j fI fun a3 j=>?_
   have j:=((j.pl 8 [1,0,3,4,5,6,7]).cL (hb:=af.1 rfl) 0 (D 3) aZ).cL 1 true aZ
   exact RL.nil ⟨rfl,(ag,a3,ai,aj,ad,ae),hv.pu 4,ha.u,zt,j⟩
  ·rintro D U w hD af ao ⟨⟨ag,ah,ai,aj,ad,ae⟩,hv,ha,_,j⟩
   obtain⟨O,rfl⟩:=(ac (hv.at 5 rfl (af.1 rfl)) (ac (hv.at 6 rfl (af.2.1 rfl)) az)).eV
   have j:=j.cA 2 hD
   refine RL.bW 6 j kN a1 fun a4 j=>?_
   have j:=(j.pl 8 [1,2,0,4,5,6,7]).cL 2 true aZ
   exact RL.nil ⟨rfl,(ag,ah,a4,aj,ad,ae),hv.pu 7,ha.u,zt,j⟩
  ·rintro D U w hD af ao ⟨⟨ag,ah,ai,aj,ad,ae⟩,hv,ha,_,j⟩
   obtain⟨O,rfl⟩:=(ac (hv.at 7 rfl (af.1 rfl)) az).eV
   have j:=(j.cK 2 (af.1 rfl)).cA 3 hD
   refine RL.bL 2 aa j fI fun a5 j=>?_
   have j:=((j.pl 8 [1,2,3,0,5,6,7]).cL (hb:=af.1 rfl) 2 (D 7) aZ).cL 3 true aZ
   exact RL.nil ⟨rfl,(ag,ah,ai,a5,ad,ae),hv.pu 8,ha.u,zt,j⟩
  ·rintro D U w hD af ao ⟨⟨ag,ah,ai,aj,ad,ae⟩,hv,ha,_,j⟩
   obtain⟨O,rfl⟩:=(az (U:=U)).eV
   have j:=(j.cA 4 (nh ao hD 11)).cA 4 hD
   refine RL.alloc j mS.z fun av w j=>?_
   have j:=((j.pl 8 [1,2,3,4,0,6,7]).cL 4 true aZ).eY 4 (D 11) (nh ao hD 11) (bx 74 av o)
   exact RL.nil ⟨rfl,(ag,ah,ai,aj,av,ae),hv.pu 9,ha.u,zt,j⟩
  ·rintro D U w hD af ao ⟨⟨ag,ah,ai,aj,ad,ae⟩,hv,ha,_,j⟩
   obtain⟨O,rfl⟩:=(az (U:=U)).eV
   have j:=(j.cA 5 (nh ao hD 12)).cA 5 hD
   refine RL.alloc j mS.z fun aw w j=>?_
   have j:=((j.pl 8 [1,2,3,4,5,0,7]).cL 5 true aZ).eY 5 (D 12) (nh ao hD 12) (bx 74 aw aa)
   exact RL.nil ⟨rfl,(ag,ah,ai,aj,ad,aw),hv.pu 10,ha.u,zt,j⟩
  ·rintro D U w hD af ao ⟨⟨ag,ah,ai,aj,ad,ae⟩,hv,ha,_,j⟩
   obtain⟨O,rfl⟩:=(ac (hv.at 4 rfl (af.2.1 rfl)) (ac (hv.at 9 rfl (af.1 rfl)) az)).eV
   have j:=((j.cK 1 (af.2.1 rfl)).cA 4 hD).cK 4 (af.1 rfl)
   refine RL.bA 4 j 1 zr fI fun w j=>?_
   have j:=(j.cL (hb:=af.2.1 rfl) 1 (D 4) aZ).cL 4 true (bif D 9 then (raw 74 ad 4) else aZ)
   exact RL.nil ⟨rfl,(ag,ah,ai,aj,ad,ae),hv.n1,ha,zt,j⟩
  ·rintro D U w hD af ao ⟨⟨ag,ah,ai,aj,ad,ae⟩,hv,ha,_,j⟩
   obtain⟨O,rfl⟩:=(ac (hv.at 8 rfl (af.2.1 rfl)) (ac (hv.at 10 rfl (af.1 rfl)) az)).eV
   have j:=((j.cK 3 (af.2.1 rfl)).cA 5 hD).cK 5 (af.1 rfl)
   refine RL.bA 5 j 3 zr fI fun w j=>?_
   have j:=(j.cL (hb:=af.2.1 rfl) 3 (D 8) aZ).cL 5 true (bif D 10 then (raw 74 ae 4) else aZ)
   exact RL.nil ⟨rfl,(ag,ah,ai,aj,ad,ae),hv.n1,ha,zt,j⟩
  rintro D U w aq ⟨⟨ag,ah,ai,aj,ad,ae⟩,hv,ha,_,j⟩
  have j:=(((((j.cK 0 (jC aq 3)).cK 1 (jC aq 4)).cK 2 (jC aq 7)).cK 3 (jC aq 8)).cK 4 (jC aq 11)).cK 5 (jC aq 12)
  obtain⟨O,rfl⟩:=(ac (hv.at 9 rfl (jC aq 9)) (ac (hv.at 10 rfl (jC aq 10)) (ac (ha.at 0 rfl) (ac (ha.at 1 rfl) az)))).eV
  refine aG (RC.sr (RL.bB zr jY (RL.aM 5 j zr fy cN (RL.bB zr jY (RL.aM 4 j zr fy cN (ic aa.Y0 o.Y0 (mv (vb (decide (aa.Y0<o.Y0))) (RL.gs true (decide (aa.Y0<o.Y0)) (vp ae 1) zr zr zr (dP jY) ?_))))))))
  refine RL.gs true (decide (aa.Y0<o.Y0)) (vi aa.Y0) rfl rfl rfl (bX 5 rfl j (fun h=>by exact(cV h:cv (true&&((decide (aa.Y0<o.Y0))==false)) (vp ae 1)= (vp ae 1))) rfl fy cN) (RL.gs true (decide (aa.Y0<o.Y0)) (vp ad 1) rfl rfl rfl (dP jY) (RL.gs true (decide (aa.Y0<o.Y0)) (vi o.Y0) rfl rfl rfl (bX 4 rfl j (fun h=>by exact(cV h:cv (true&&((decide (aa.Y0<o.Y0))==false)) (vp ad 1)= (vp ad 1))) rfl fy cN) (RL.gs true (decide (aa.Y0<o.Y0)) (vb (aa.Y0==o.Y0)) rfl rfl rfl (dZ .eql .i64 aa.Y0 o.Y0 rfl (fun h=>by exact(cV h:cv (true&&((decide (aa.Y0<o.Y0))==false)) (vi aa.Y0)= (vi aa.Y0))) (fun h=>by exact(cV h:cv (true&&((decide (aa.Y0<o.Y0))==false)) (vi o.Y0)= (vi o.Y0))) rfl) (RL.gs true (decide (aa.Y0<o.Y0)) (vb (aa.Y0==o.Y0)) rfl rfl rfl (dT (hx:=fun h=>by exact(cV h:cv (true&&((decide (aa.Y0<o.Y0))==false)) (vb (aa.Y0==o.Y0))= (vb (aa.Y0==o.Y0))))) (RL.gs (true&&((decide (aa.Y0<o.Y0))==false)) (aa.Y0==o.Y0) (vp ae 0) rfl rfl rfl (dP jv) (RL.gs (true&&((decide (aa.Y0<o.Y0))==false)) (aa.Y0==o.Y0) (vi aa.X0) rfl rfl rfl (bX 5 rfl j (fun h=>by exact(cV h:cv ((true&&((decide (aa.Y0<o.Y0))==false))&&((aa.Y0==o.Y0)==true)) (vp ae 0)= (vp ae 0))) rfl eO cN) (RL.gs (true&&((decide (aa.Y0<o.Y0))==false)) (aa.Y0==o.Y0) (vp ad 0) rfl rfl rfl (dP jv) (RL.gs (true&&((decide (aa.Y0<o.Y0))==false)) (aa.Y0==o.Y0) (vi o.X0) rfl rfl rfl (bX 4 rfl j (fun h=>by exact(cV h:cv ((true&&((decide (aa.Y0<o.Y0))==false))&&((aa.Y0==o.Y0)==true)) (vp ad 0)= (vp ad 0))) rfl eO cN) ?_))))))))
  refine RL.gs (true&&((decide (aa.Y0<o.Y0))==false)) (aa.Y0==o.Y0) (vb (decide (aa.X0<=o.X0))) rfl rfl rfl (dZ .leq .i64 aa.X0 o.X0 rfl (fun h=>by exact(cV h:cv ((true&&((decide (aa.Y0<o.Y0))==false))&&((aa.Y0==o.Y0)==true)) (vi aa.X0)= (vi aa.X0))) (fun h=>by exact(cV h:cv ((true&&((decide (aa.Y0<o.Y0))==false))&&((aa.Y0==o.Y0)==true)) (vi o.X0)= (vi o.X0))) rfl) (RL.gs true (decide (aa.Y0<o.Y0)) (vb ((aa.Y0==o.Y0)&&(decide (aa.X0<=o.X0)))) rfl rfl rfl (oY (aa.Y0==o.Y0) rfl (fun h=>by exact(cV h:cv (true&&((decide (aa.Y0<o.Y0))==false)) (vb (aa.Y0==o.Y0))= (vb (aa.Y0==o.Y0)))) (fun h=>by exact iL (h:=h) (true&&((decide (aa.Y0<o.Y0))==false)))) (RL.pick (decide (aa.Y0<o.Y0)) (vb ((decide (aa.Y0<o.Y0))||((aa.Y0==o.Y0)&&(decide (aa.X0<=o.X0))))) (oX true rfl) (RL.nt (eI hb (fun hc hb=>?_) fun hc hb=>?_))))
  ·refine RC.sr (aK (vi 8) (RL.nt (RC.rb (bM ?_))))
   obtain rfl:=oi hb
   exact⟨rfl,cF ⟨rfl,j.drop 7⟩⟩
  refine RC.skip (bI (aG (RC.region (mv (vi an) (RL.i6 an 1 (aK (vi (IntKind.wrap .i64 (an+1))) (RL.nil ?_)))))))
  obtain rfl:=oi hb
  exact⟨rfl,j.sp 7 [6]⟩
 ·intro r U w e hK
  subst e
  refine bM ?_
  obtain rfl:=oi hb
  exact hK
 rintro an _ w rfl ⟨O,rfl,j⟩
 rw [Fo.fB] at hb
 refine aG (RC.seq (RC.sr (mv v0 ?_)))
 obtain⟨bh,a7,hb⟩:=bd hb
 refine RL.call zt zr F2 [v0] zr (aF (kR N (i0:=0) j zr a7) ?_)
 rintro a8 w j
 have j:=j.freeze 0
 obtain⟨bj,a9,hb⟩:=bd hb
 refine RL.call zt zr Jj [a8] zr (aF (l4 N (i0:=0) j zr a9) ?_)
 rintro ba w j
 refine mv v0 ?_
 have j:=j.freeze 0
 obtain⟨bb,bc,hb⟩:=bd hb
 refine RL.call zt zr LX [ba,v0] zr (aF (rF N (i0:=0) (i1:=2) j zr zr bc) ?_)
 rintro _ w ⟨rfl,j⟩
 refine RL.not bb (RL.nt (eI hb (fun hc hb=>?_) fun hc hb=>?_))
 ·refine RC.sr (aK (vi 3) (RL.nt (RC.rt ?_)))
  obtain rfl:=oi hb
  exact cF ⟨rfl,j.drop 3⟩
 refine RC.sx (aK (vi 0) (RL.nt (RC.ret ?_)))
 obtain rfl:=oi hb
 exact cF ⟨rfl,j.drop 3⟩
theorem lh {res:Bool} (o:Holds E w V) (j:gl N p0 p1 p2=some res):
    Calls bE 73 [(vi p0),(vi p1),(vi p2)].toArray w (gF (aY E V res)):=by
 unfold gl at j
 refine enter Tryz.func73 zr zr (RC.sr (aK (vb false) (RL.ns (mv (vi p0) (mv (vi p1) (ic p0 p1 (mv (vb (decide (p0>=p1))) (RL.gs true (decide (p0>=p1)) (vi p0) zr zr zr dT ?_))))))))
 refine RL.gs true (decide (p0>=p1)) (vi p2) rfl rfl rfl dT (RL.gs true (decide (p0>=p1)) (vb (decide (p0<=p2))) rfl rfl rfl (dZ .leq .i64 p0 p2 rfl (fun h=>by exact(cV h:cv (true&&((decide (p0>=p1))==true)) (vi p0)= (vi p0))) (fun h=>by exact(cV h:cv (true&&((decide (p0>=p1))==true)) (vi p2)= (vi p2))) rfl) (RL.pick (decide (p0>=p1)) (vb ((decide (p0>=p1))&&(decide (p0<=p2)))) (iL true) (aK (vb ((decide (p0>=p1))&&(decide (p0<=p2)))) (RL.nt (RC.ret ?_)))))
 obtain rfl:=oi j
 exact cF ⟨rfl,o.drop 0⟩
theorem pQ {p0:eN} {res:Bool} (j:Holds E w V) (h0:V[i0]? =some (rd v0 p0)) (hb:iG N p0=some res):
    Calls bE 76 [v0].toArray w (gF (aY E V res)):=by
 unfold iG at hb
 refine enter Tryz.func76 zr zr ?_
 have j:=j.dup (i0+0) h0
 refine RC.sr (RL.dB 0 v0 j zr fun ai w j=>?_)
 refine aK (vb false) (RL.nq ?_)
 obtain⟨ad,o,hb⟩:=bd hb
 refine RC.jn (fun(ad:Bool)=>SH E V [(2,vb ad)] []) ad ?_ ?_
 ·refine RC.region (RL.bB zr rA (RL.aM 0 j zr kL cN ?_))
  obtain⟨af,ag,o⟩:=bd o
  refine RL.call zt zr zC [(vi p0.X)] zr (aF (ki N (p0:=p0.X) j ag) ?_)
  rintro _ w ⟨rfl,j⟩
  refine mv (vb af) (fU o (fun aa o=>?_) fun aa o=>?_)
  rotate_left
  ·refine bN aa (bN aa (bN aa (fP aa (vb false) (aK (vb false) (RL.nil ?_)))))
   obtain rfl:=oi o
   exact⟨rfl,j.sp 2 []⟩
  refine RL.bB (hg:=(cg aa)) zr po (RL.aM (hg:=(cg aa)) 0 j zr ju cN ?_)
  obtain⟨ae,ah,o⟩:=bd o
  refine RL.call (cg aa) zr zC [(vi p0.Y)] zr (aF (ki N (p0:=p0.Y) j ah) ?_)
  rintro _ w ⟨rfl,j⟩
  refine fP aa (vb ae) (aK (vb ae) (RL.nil ?_))
  obtain rfl:=oi o
  exact⟨rfl,j.sp 2 []⟩
 rintro _ w ⟨O,rfl,j⟩
 refine aG (RC.ret ?_)
 obtain rfl:=oi hb
 exact cF ⟨rfl,j.drop 0⟩
end Go.Gk
