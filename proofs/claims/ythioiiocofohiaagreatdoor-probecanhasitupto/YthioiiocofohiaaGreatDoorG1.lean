/-
  Printed texts: Go functions as plain functions, and that they are. No statement of the seed is proved here.
-/
import Derived.Test.YthioiiocofohiaaGreatDoorProg
import Derived.Test.YthioiiocofohiaaGreatDoorE1
import Derived.Test.YthioiiocofohiaaGreatDoorA1
import Derived.Test.YthioiiocofohiaaGreatDoorA2
import Derived.Test.YthioiiocofohiaaGreatDoorRows
import Derived.Shelf.SlGeneric
import Derived.Ground.SlsfProg
import Derived.Ground.SlgmProg
set_option linter.unusedVariables false
set_option linter.unusedSimpArgs false
set_option linter.unusedSectionVars false
set_option maxRecDepth 100000
set_option maxHeartbeats 4000000
namespace Go.Gk
open Go Go.Proofs
noncomputable abbrev bG:=Tryz.prog
def k8 (x:aI):=(x.X0,x.Y0,x.X1,x.Y1)
instance instGTRect:GT aI:=GT.via k8
instance instKVRect:KV aI:=instKVvia (fun(x:aI)=>(x.X0,x.Y0,x.X1,x.Y1))
theorem eM:Fd 0 (fun x:aI=>x.X0):= .v k8 (.fst .self)
theorem o7:Fs 0 Int (fun(x:aI) y=>{x with X0:=y}):= .v k8 (.fst .self)
theorem eY:Fd 1 (fun x:aI=>x.Y0):= .v k8 (.snd (.fst .self))
theorem rH:Fs 1 Int (fun(x:aI) y=>{x with Y0:=y}):= .v k8 (.snd (.fst .self))
theorem gk:Fd 2 (fun x:aI=>x.X1):= .v k8 (.snd (.snd (.fst .self)))
theorem nA:Fs 2 Int (fun(x:aI) y=>{x with X1:=y}):= .v k8 (.snd (.snd (.fst .self)))
theorem jA:Fd 3 (fun x:aI=>x.Y1):= .v k8 (.snd (.snd (.snd (.self))))
theorem o8:Fs 3 Int (fun(x:aI) y=>{x with Y1:=y}):= .v k8 (.snd (.snd (.snd (.self))))
def o9 (x:eK):=(x.X,x.Y)
instance instGTPoint:GT eK:=GT.via o9
instance instKVPoint:KV eK:=instKVvia (fun(x:eK)=>(x.X,x.Y))
theorem kr:Fd 0 (fun x:eK=>x.X):= .v o9 (.fst .self)
theorem B3:Fs 0 Int (fun(x:eK) y=>{x with X:=y}):= .v o9 (.fst .self)
theorem jg:Fd 1 (fun x:eK=>x.Y):= .v o9 (.snd (.self))
theorem B4:Fs 1 Int (fun(x:eK) y=>{x with Y:=y}):= .v o9 (.snd (.self))
def pd (x:bQ):=(x.At,x.eU,x.bR,x.To,x.gL)
instance instGTBore:GT bQ:=GT.via pd
theorem uZ:Fd 0 (fun x:bQ=>x.At):= .v pd (.fst .self)
theorem pf:Fd 2 (fun x:bQ=>x.eU):= .v pd (.snd (.fst .self))
theorem mj:Fd 3 (fun x:bQ=>x.bR):= .v pd (.snd (.snd (.fst .self)))
theorem nB:Fd 4 (fun x:bQ=>x.To):= .v pd (.snd (.snd (.snd (.fst .self))))
theorem rI:Fd 5 (fun x:bQ=>x.gL):= .v pd (.snd (.snd (.snd (.snd (.self)))))
def nK (x:cQ):=(x.Part,x.fN,x.cU,x.At)
instance instGTLand:GT cQ:=GT.via nK
theorem yD:Fd 0 (fun x:cQ=>x.Part):= .v nK (.fst .self)
theorem Du:Fs 0 dD (fun(x:cQ) y=>{x with Part:=y}):= .v nK (.fst .self)
theorem yE:Fd 1 (fun x:cQ=>x.fN):= .v nK (.snd (.fst .self))
theorem Dv:Fs 1 dD (fun(x:cQ) y=>{x with fN:=y}):= .v nK (.snd (.fst .self))
theorem u4:Fd 2 (fun x:cQ=>x.cU):= .v nK (.snd (.snd (.fst .self)))
theorem u5:Fd 3 (fun x:cQ=>x.At):= .v nK (.snd (.snd (.snd (.self))))
def tN (x:iu):=(x.aK,x.dA,x.aT,x.bD)
instance instGTArt:GT iu:=GT.via tN
theorem pg:Fd 0 (fun x:iu=>x.aK):= .v tN (.fst .self)
theorem wP:Fd 1 (fun x:iu=>x.dA):= .v tN (.snd (.fst .self))
theorem qK:Fd 2 (fun x:iu=>x.aT):= .v tN (.snd (.snd (.fst .self)))
theorem qL:Fd 3 (fun x:iu=>x.bD):= .v tN (.snd (.snd (.snd (.self))))
def tO (x:fN):=(x.Part,x.fN)
instance instGTPin:GT fN:=GT.via tO
instance instKVPin:KV fN:=instKVvia (fun(x:fN)=>(x.Part,x.fN))
theorem AX:Fd 0 (fun x:fN=>x.Part):= .v tO (.fst .self)
theorem wQ:Fs 0 dD (fun(x:fN) y=>{x with Part:=y}):= .v tO (.fst .self)
theorem AY:Fd 1 (fun x:fN=>x.fN):= .v tO (.snd (.self))
theorem wR:Fs 1 dD (fun(x:fN) y=>{x with fN:=y}):= .v tO (.snd (.self))
def wS (x:Test):=(x.A,x.B,x.Joined)
instance instGTTest:GT Test:=GT.via wS
theorem ml:Fd 0 (fun x:Test=>x.A):= .v wS (.fst .self)
theorem mm:Fd 2 (fun x:Test=>x.B):= .v wS (.snd (.fst .self))
def iI (x:aA):=(x.Y0,x.Y1,x.Xs)
instance instGTshape_Band:GT aA:=GT.via iI
theorem fH:Fd 0 (fun x:aA=>x.Y0):= .v iI (.fst .self)
theorem qg:Fs 0 Int (fun(x:aA) y=>{x with Y0:=y}):= .v iI (.fst .self)
theorem eC:Fd 1 (fun x:aA=>x.Y1):= .v iI (.snd (.fst .self))
theorem mV:Fs 1 Int (fun(x:aA) y=>{x with Y1:=y}):= .v iI (.snd (.fst .self))
theorem dB:Fd 2 (fun x:aA=>x.Xs):= .v iI (.snd (.snd (.self)))
theorem qh:Fs 2 (List Int) (fun(x:aA) y=>{x with Xs:=y}):= .v iI (.snd (.snd (.self)))
def iC (x:aH):=(x.cU,x.Set,x.iO)
instance instGTcopper_Piece:GT aH:=GT.via iC
theorem kb:Fd 0 (fun x:aH=>x.cU):= .v iC (.fst .self)
theorem tP:Fs 0 Int (fun(x:aH) y=>{x with cU:=y}):= .v iC (.fst .self)
theorem tQ:Fs 1 (List aA) (fun(x:aH) y=>{x with Set:=y}):= .v iC (.snd (.fst .self))
theorem kc:Fd 2 (fun x:aH=>x.iO):= .v iC (.snd (.snd (.self)))
theorem tR:Fs 2 (List aI) (fun(x:aH) y=>{x with iO:=y}):= .v iC (.snd (.snd (.self)))
def yF (x:cE):=(x.mT,x.aT,x.gM)
instance instGTGroup:GT cE:=GT.via yF
theorem B5:Fd 2 (fun x:cE=>x.gM):= .v yF (.snd (.snd (.self)))
def pO (x:dF):=(x.bQ,x.Number)
instance instGTHop:GT dF:=GT.via pO
instance instKVHop:KV dF:=instKVvia (fun(x:dF)=>(x.bQ,x.Number))
theorem wT:Fd 0 (fun x:dF=>x.bQ):= .v pO (.fst .self)
theorem AZ:Fs 0 Bool (fun(x:dF) y=>{x with bQ:=y}):= .v pO (.fst .self)
theorem nL:Fd 1 (fun x:dF=>x.Number):= .v pO (.snd (.self))
theorem tS:Fs 1 Int (fun(x:dF) y=>{x with Number:=y}):= .v pO (.snd (.self))
def k9 (x:bS):=(x.Open,x.dF,x.A,x.B)
instance instGTFlaw:GT bS:=GT.via k9
theorem mn:Fd 0 (fun x:bS=>x.Open):= .v k9 (.fst .self)
theorem Dw:Fs 0 Bool (fun(x:bS) y=>{x with Open:=y}):= .v k9 (.fst .self)
theorem nC:Fd 1 (fun x:bS=>x.dF):= .v k9 (.snd (.fst .self))
theorem Dx:Fs 1 dF (fun(x:bS) y=>{x with dF:=y}):= .v k9 (.snd (.fst .self))
theorem rJ:Fd 3 (fun x:bS=>x.A):= .v k9 (.snd (.snd (.fst .self)))
theorem Dy:Fs 3 Int (fun(x:bS) y=>{x with A:=y}):= .v k9 (.snd (.snd (.fst .self)))
theorem rK:Fd 4 (fun x:bS=>x.B):= .v k9 (.snd (.snd (.snd (.self))))
theorem Dz:Fs 4 Int (fun(x:bS) y=>{x with B:=y}):= .v k9 (.snd (.snd (.snd (.self))))
def pP (x:pG):=(x.A,x.B,x.ij,x.bR,x.To)
instance instGTGap:GT pG:=GT.via pP
theorem EJ:Fd 2 (fun x:pG=>x.ij):= .v pP (.snd (.snd (.fst .self)))
theorem EK:Fs 2 Int (fun(x:pG) y=>{x with ij:=y}):= .v pP (.snd (.snd (.fst .self)))
theorem qM:Fd 3 (fun x:pG=>x.bR):= .v pP (.snd (.snd (.snd (.fst .self))))
theorem EL:Fs 3 eK (fun(x:pG) y=>{x with bR:=y}):= .v pP (.snd (.snd (.snd (.fst .self))))
theorem EM:Fd 5 (fun x:pG=>x.To):= .v pP (.snd (.snd (.snd (.snd (.self)))))
theorem EN:Fs 5 eK (fun(x:pG) y=>{x with To:=y}):= .v pP (.snd (.snd (.snd (.snd (.self)))))
def wU (x:sQ):=(x.Is,x.G1)
instance instGTprobe_seen:GT sQ:=GT.via wU
def DA (x:Touch):=(x.Test,x.HG,x.ED)
instance instGTTouch:GT Touch:=GT.via DA
instance instKVTouch:KV Touch:=instKVvia (fun(x:Touch)=>(x.Test,x.HG,x.ED))
theorem wV (M:dI):GT.ok M (#[(.bool false),(.int .i64 0)]:Array Value).toList (⟨false,0⟩:dF):=⟨[(.bool false)],[(.int .i64 0)],rfl,(show GT.ok M [(.bool false)] (false:Bool) from rfl),(show GT.ok M [(.int .i64 0)] (0:Int) from rfl)⟩
theorem EO (M:dI):GT.ok M (#[(.bool false),(.bool false),(.int .i64 0),(.int .i64 0),(.int .i64 0)]:Array Value).toList (⟨false,⟨false,0⟩,0,0⟩:bS):=⟨[(.bool false)],[(.bool false),(.int .i64 0),(.int .i64 0),(.int .i64 0)],rfl,(show GT.ok M [(.bool false)] (false:Bool) from rfl),⟨[(.bool false),(.int .i64 0)],[(.int .i64 0),(.int .i64 0)],rfl,(show GT.ok M [(.bool false),(.int .i64 0)] (⟨false,0⟩:dF) from wV M),⟨[(.int .i64 0)],[(.int .i64 0)],rfl,(show GT.ok M [(.int .i64 0)] (0:Int) from rfl),(show GT.ok M [(.int .i64 0)] (0:Int) from rfl)⟩⟩⟩
theorem EP (M:dI):GT.ok M (#[(.string ⟨#[]⟩),(.string ⟨#[]⟩)]:Array Value).toList (⟨⟨[]⟩,⟨[]⟩⟩:fN):=⟨[(.string ⟨#[]⟩)],[(.string ⟨#[]⟩)],rfl,(show GT.ok M [(.string ⟨#[]⟩)] (⟨[]⟩:dD) from rfl),(show GT.ok M [(.string ⟨#[]⟩)] (⟨[]⟩:dD) from rfl)⟩
theorem qN (M:dI):GT.ok M (#[(.int .i64 0),(.int .i64 0),(.int .i64 0),(.int .i64 0)]:Array Value).toList (⟨0,0,0,0⟩:aI):=⟨[(.int .i64 0)],[(.int .i64 0),(.int .i64 0),(.int .i64 0)],rfl,(show GT.ok M [(.int .i64 0)] (0:Int) from rfl),⟨[(.int .i64 0)],[(.int .i64 0),(.int .i64 0)],rfl,(show GT.ok M [(.int .i64 0)] (0:Int) from rfl),⟨[(.int .i64 0)],[(.int .i64 0)],rfl,(show GT.ok M [(.int .i64 0)] (0:Int) from rfl),(show GT.ok M [(.int .i64 0)] (0:Int) from rfl)⟩⟩⟩
theorem wo (M:dI):GT.ok M (#[(.int .i64 0),(.int .i64 0)]:Array Value).toList (⟨0,0⟩:eK):=⟨[(.int .i64 0)],[(.int .i64 0)],rfl,(show GT.ok M [(.int .i64 0)] (0:Int) from rfl),(show GT.ok M [(.int .i64 0)] (0:Int) from rfl)⟩
theorem HM (M:dI):GT.ok M (#[(.string ⟨#[]⟩),(.string ⟨#[]⟩),(.int .i64 0),(.int .i64 0),(.int .i64 0)]:Array Value).toList (⟨⟨[]⟩,⟨[]⟩,0,⟨0,0⟩⟩:cQ):=⟨[(.string ⟨#[]⟩)],[(.string ⟨#[]⟩),(.int .i64 0),(.int .i64 0),(.int .i64 0)],rfl,(show GT.ok M [(.string ⟨#[]⟩)] (⟨[]⟩:dD) from rfl),⟨[(.string ⟨#[]⟩)],[(.int .i64 0),(.int .i64 0),(.int .i64 0)],rfl,(show GT.ok M [(.string ⟨#[]⟩)] (⟨[]⟩:dD) from rfl),⟨[(.int .i64 0)],[(.int .i64 0),(.int .i64 0)],rfl,(show GT.ok M [(.int .i64 0)] (0:Int) from rfl),(show GT.ok M [(.int .i64 0),(.int .i64 0)] (⟨0,0⟩:eK) from wo M)⟩⟩⟩
theorem wW (M:dI):GT.ok M (#[(.int .i64 0),(.slice none 0 0),(.slice none 0 0)]:Array Value).toList (⟨0,[],[]⟩:aH):=⟨[(.int .i64 0)],[(.slice none 0 0),(.slice none 0 0)],rfl,(show GT.ok M [(.int .i64 0)] (0:Int) from rfl),⟨[(.slice none 0 0)],[(.slice none 0 0)],rfl,(show GT.ok M [(.slice none 0 0)] ([]: (List aA)) from ⟨_,rfl,none,0,0,rfl,rfl,bN _,by simp [maxLen],fun _ _ h=>by simp at h⟩),(show GT.ok M [(.slice none 0 0)] ([]: (List aI)) from ⟨_,rfl,none,0,0,rfl,rfl,bN _,by simp [maxLen],fun _ _ h=>by simp at h⟩)⟩⟩
theorem Iy (M:dI):GT.ok M (#[(.int .i64 0),(.int .i64 0),(.int .i64 0),(.int .i64 0),(.int .i64 0),(.int .i64 0),(.int .i64 0)]:Array Value).toList (⟨0,0,0,⟨0,0⟩,⟨0,0⟩⟩:pG):=⟨[(.int .i64 0)],[(.int .i64 0),(.int .i64 0),(.int .i64 0),(.int .i64 0),(.int .i64 0),(.int .i64 0)],rfl,(show GT.ok M [(.int .i64 0)] (0:Int) from rfl),⟨[(.int .i64 0)],[(.int .i64 0),(.int .i64 0),(.int .i64 0),(.int .i64 0),(.int .i64 0)],rfl,(show GT.ok M [(.int .i64 0)] (0:Int) from rfl),⟨[(.int .i64 0)],[(.int .i64 0),(.int .i64 0),(.int .i64 0),(.int .i64 0)],rfl,(show GT.ok M [(.int .i64 0)] (0:Int) from rfl),⟨[(.int .i64 0),(.int .i64 0)],[(.int .i64 0),(.int .i64 0)],rfl,(show GT.ok M [(.int .i64 0),(.int .i64 0)] (⟨0,0⟩:eK) from wo M),(show GT.ok M [(.int .i64 0),(.int .i64 0)] (⟨0,0⟩:eK) from wo M)⟩⟩⟩⟩
theorem tT (M:dI):GT.ok M (#[(.int .i64 0),(.int .i64 0),(.slice none 0 0)]:Array Value).toList (⟨0,0,[]⟩:aA):=⟨[(.int .i64 0)],[(.int .i64 0),(.slice none 0 0)],rfl,(show GT.ok M [(.int .i64 0)] (0:Int) from rfl),⟨[(.int .i64 0)],[(.slice none 0 0)],rfl,(show GT.ok M [(.int .i64 0)] (0:Int) from rfl),(show GT.ok M [(.slice none 0 0)] ([]: (List Int)) from ⟨_,rfl,none,0,0,rfl,rfl,bN _,by simp [maxLen],fun _ _ h=>by simp at h⟩)⟩⟩
structure cD where
  mT: (List Int)
  aT: (List Int)
  gM:RV
  deriving Inhabited
def pQ (x:cD):=(x.mT,x.aT,x.gM)
instance instGTGroup_r2:GT cD:=GT.via pQ
theorem xX:Fd 2 (fun x:cD=>x.gM):= .v pQ (.snd (.snd (.self)))
theorem xY:Fs 2 RV (fun(x:cD) y=>{x with gM:=y}):= .v pQ (.snd (.snd (.self)))
def bZ:XT cD cE:=⟨fun u x=>u.mT=x.mT/\u.aT=x.aT,fun M h u x=>(u.mT=x.mT/\u.aT=x.aT)/\sN 51 M h u.gM.v x.gM,fun{M M' h u x} hk hh=>⟨hh.1,(own 51 u.gM.v x.gM).mono hk hh.2⟩,fun h=>h.1⟩
theorem qO:XO bZ 51 2 (fun u=>u.gM) (fun u r=>{u with gM:=r}) (fun x=>x.gM) (fun x y=>{x with gM:=y}):=⟨xX,xY,by decide,fun h=>h.2,fun hr ho=>⟨hr,ho⟩⟩
theorem zy (M h:dI) (u:cD) (x:cE) (cs:List Value) (hd: ∀b o,h b=some o->M b=none) (hx:bZ.ok M h u x) (hc:GT.ok M cs u):GT.ok (oe M h) cs x:=by
  obtain⟨⟨e0,e1⟩,ho⟩:=hx
  obtain⟨c0,d0,hd0,a0,c1,d1,hd1,a1,a2⟩:=hc
  exact⟨c0,d0,hd0,GT.mono (rF M h) (show GT.ok M c0 x.mT from e0▸(show GT.ok M c0 u.mT from a0)),⟨c1,d1,hd1,GT.mono (rF M h) (show GT.ok M c1 x.aT from e1▸(show GT.ok M c1 u.aT from a1)),⟨u.gM.v,a2,sN.sl hd ho⟩⟩⟩
theorem nj:kZ bG 27 true 4:=sD
theorem u6:l7 bG 27 0 0:=ni
theorem DB:kZ bG 22 false 1:=sD
theorem A0:Tryz.prog.underlying 22=some (.slice 23):=by kernel_rfl
theorem ER:l7 bG 27 1 1:=ni
theorem wX:kZ bG 23 false 1:=sD
theorem og:Tryz.prog.underlying 23=some (.slice 74):=by kernel_rfl
theorem B6:tz bG 22 23 1:=BM
theorem ku:tz bG 23 74 4:=BM
theorem fC:kZ bG 74 true 4:=sD
theorem mo:yq bG 74 4:=Ag (.agg #[(.int .i64 0),(.int .i64 0),(.int .i64 0),(.int .i64 0)])
theorem jh:l7 bG 74 0 0:=ni
theorem cH:kZ bG 3 false 1:=sD
theorem Iz:g8 bG 135:=iB Tryz.func135
theorem yG:g8 bG 113:=iB Tryz.func113
theorem jM:l7 bG 74 1 1:=ni
theorem kx:l7 bG 74 2 2:=ni
theorem nM:l7 bG 74 3 3:=ni
theorem IA:g8 bG 98:=iB Tryz.func98
theorem KA:g8 bG 68:=iB Tryz.func68
theorem mixed:Tryz.prog.follows .mixedOrders=true:=by kernel_rfl
theorem DC:rG bG 23 74 4 32:=rG.of (.agg #[(.int .i64 0),(.int .i64 0),(.int .i64 0),(.int .i64 0)])
theorem KB:g8 bG 99:=iB Tryz.func99
theorem IB:g8 bG 101:=iB Tryz.func101
theorem G3:g8 bG 100:=iB Tryz.func100
theorem IC:Ih bG 87 [(.slice none 0 0)]:=⟨(.slice none 0 0),fun _=>by kernel_rfl,rfl⟩
theorem fz:kZ bG 87 false 1:=sD
theorem eD:tz bG 87 3 1:=BM
theorem Ej:yq bG 3 1:=Ag (.int .i64 0)
theorem tU:rG bG 87 3 1 8:=rG.of (.int .i64 0)
theorem ID:g8 bG 102:=iB Tryz.func102
theorem lQ:Tryz.prog.underlying 87=some (.slice 3):=by kernel_rfl
theorem Ii:F6 bG 3 (0:Int):=F6.of (.int .i64 0) (fun M=>rfl)
theorem IE:g8 bG 103:=iB Tryz.func103
theorem G4:g8 bG 117:=iB Tryz.func117
theorem KC:F6 bG 74 (⟨0,0,0,0⟩:aI):=F6.of (.agg #[(.int .i64 0),(.int .i64 0),(.int .i64 0),(.int .i64 0)]) (fun M=>(qN M))
theorem IF:g8 bG 105:=iB Tryz.func105
theorem IG:g8 bG 104:=iB Tryz.func104
theorem IH:g8 bG 130:=iB Tryz.func130
theorem II:g8 bG 107:=iB Tryz.func107
theorem G5:tF bG 187 [(0,1),(1,1),(2,1)] #[(.int .i64 0),(.int .i64 0),(.slice none 0 0)]:=tF.of (.agg #[(.int .i64 0),(.int .i64 0),(.slice none 0 0)]) Tryz.underlying187
theorem kd:l7 bG 187 2 2:=ni
theorem ly:l7 bG 187 1 1:=ni
theorem nk:l7 bG 187 0 0:=ni
theorem m5:Tryz.prog.underlying 132=some (.slice 187):=by kernel_rfl
theorem jW:tz bG 132 187 3:=BM
theorem IJ:g8 bG 129:=iB Tryz.func129
theorem tV:kZ bG 187 true 3:=sD
theorem A1:yq bG 187 3:=Ag (.agg #[(.int .i64 0),(.int .i64 0),(.slice none 0 0)])
theorem IK:rG bG 132 187 3 40:=rG.of (.agg #[(.int .i64 0),(.int .i64 0),(.slice none 0 0)])
theorem G6:g8 bG 106:=iB Tryz.func106
theorem ES:g8 bG 70:=iB Tryz.func70
theorem B7:tF bG 74 [(0,1),(1,1),(2,1),(3,1)] #[(.int .i64 0),(.int .i64 0),(.int .i64 0),(.int .i64 0)]:=tF.of (.agg #[(.int .i64 0),(.int .i64 0),(.int .i64 0),(.int .i64 0)]) Tryz.underlying74
theorem HN:g8 bG 71:=iB Tryz.func71
theorem Ek:Tryz.prog.underlying 3=some (.int .i64):=by kernel_rfl
theorem IL:Hz bG 74 aI:=⟨fun M cs ds a b w ha hb=>by
  obtain⟨_,_,rfl,rfl,⟨_,_,rfl,rfl,⟨_,_,rfl,rfl,rfl⟩⟩⟩:=ha
  obtain⟨_,_,rfl,rfl,⟨_,_,rfl,rfl,⟨_,_,rfl,rfl,rfl⟩⟩⟩:=hb
  refine(kJ 9999 Tryz.underlying74 (yt.cons (by decide) (dT cH _) (dT cH _) (jG Ek _ _ w) (yt.cons (by decide) (dT cH _) (dT cH _) (jG Ek _ _ w) (yt.cons (by decide) (dT cH _) (dT cH _) (jG Ek _ _ w) (yt.cons (by decide) (dT cH _) (dT cH _) (jG Ek _ _ w) yt.nil))))).trans ?_
  congr 1
  cases a;cases b;unfold k8
  rw [fX]
  simp,by kernel_rfl⟩
theorem KD:g8 bG 69:=iB Tryz.func69
theorem IM:g8 bG 46:=iB Tryz.func46
theorem mq:l7 bG 27 2 2:=ni
theorem u7:kZ bG 24 false 1:=sD
theorem wY:Tryz.prog.underlying 24=some (.slice 117):=by kernel_rfl
theorem zz:tz bG 24 117 6:=BM
theorem kW:kZ bG 117 true 6:=sD
theorem yH:yq bG 117 6:=Ag (.agg #[(.int .i64 0),(.int .i64 0),(.int .i64 0),(.int .i64 0),(.int .i64 0),(.bool false)])
theorem tW:l7 bG 117 1 2:=ni
theorem Gs:g8 bG 73:=iB Tryz.func73
theorem zA:l7 bG 117 0 0:=ni
theorem r5:kZ bG 76 true 2:=sD
theorem qP:l7 bG 76 0 0:=ni
theorem oO:l7 bG 76 1 1:=ni
theorem IP:g8 bG 76:=iB Tryz.func76
theorem DD:g8 bG 50:=iB Tryz.func50
theorem IQ:g8 bG 131:=iB Tryz.func131
theorem IU:g8 bG 108:=iB Tryz.func108
theorem KE:g8 bG 72:=iB Tryz.func72
theorem pR:l7 bG 117 2 3:=ni
theorem rL:l7 bG 117 3 4:=ni
theorem KF:g8 bG 47:=iB Tryz.func47
theorem u9:l7 bG 27 3 3:=ni
theorem DE:kZ bG 25 false 1:=sD
theorem ET:Tryz.prog.underlying 25=some (.slice 78):=by kernel_rfl
theorem DF:tz bG 25 78 5:=BM
theorem wZ:kZ bG 78 true 5:=sD
theorem HO:yq bG 78 5:=Ag (.agg #[(.string ⟨#[]⟩),(.string ⟨#[]⟩),(.int .i64 0),(.int .i64 0),(.int .i64 0)])
theorem EU:l7 bG 78 0 0:=ni
theorem EV:kZ bG 9 false 1:=sD
theorem A2:Tryz.prog.underlying 9=some (.string):=by kernel_rfl
theorem KG (a:dD) (b:Int) (w:World): (callFunc 195 [(str a),(.int .u8 b)].toArray).run bG w = .ok (.value (vi ((Lib.countByte a.cM (Int.toNat b).toUInt8:Nat):Int))) w:=wG Extern.BytealgCount.count Tryz.func195 (Lib.run_countString _ _ w)
theorem KH (a:dD) (b:Int) (w:World): (callFunc 171 [(str a),(.int .u8 b)].toArray).run bG w = .ok (.value (vi (Lib.indexByte a.cM (Int.toNat b).toUInt8))) w:=wG Extern.BytealgIndexByte.indexByte Tryz.func171 (Lib.run_indexByteString _ _ w)
theorem G7:g8 bG 134:=iB Tryz.func134
theorem IV:g8 bG 196:=iB Tryz.func196
theorem G8:g8 bG 170:=iB Tryz.func170
theorem IW:g8 bG 169:=iB Tryz.func169
theorem IX:rG bG 189 9 1 16:=rG.of (.string ⟨#[]⟩)
theorem LH:F6 bG 9 (⟨[]⟩:dD):=F6.of (.string ⟨#[]⟩) (fun M=>rfl)
theorem CO:tz bG 189 9 1:=BM
theorem IY:g8 bG 133:=iB Tryz.func133
theorem IZ:g8 bG 110:=iB Tryz.func110
theorem I0:Tryz.prog.underlying 189=some (.slice 9):=by kernel_rfl
theorem I1:g8 bG 132:=iB Tryz.func132
theorem I2:g8 bG 112:=iB Tryz.func112
theorem I3:g8 bG 75:=iB Tryz.func75
theorem I4:g8 bG 111:=iB Tryz.func111
theorem I5:g8 bG 109:=iB Tryz.func109
theorem KI:g8 bG 74:=iB Tryz.func74
theorem EW:l7 bG 78 1 1:=ni
theorem B8:l7 bG 78 2 2:=ni
theorem B9:l7 bG 78 3 3:=ni
theorem I6:yq bG 51 2:=Ag (.agg #[(.string ⟨#[]⟩),(.string ⟨#[]⟩)])
theorem HQ:tF bG 51 [(0,1),(1,1)] #[(.string ⟨#[]⟩),(.string ⟨#[]⟩)]:=tF.of (.agg #[(.string ⟨#[]⟩),(.string ⟨#[]⟩)]) Tryz.underlying51
theorem oh:kZ bG 51 true 2:=sD
theorem Gt:g8 bG 77:=iB Tryz.func77
theorem EX:l7 bG 51 0 0:=ni
theorem eG (a b:dD) (w:World): (callFunc 139 [(str a),(str b)].toArray).run bG w = .ok (.value (vi (Lib.compareBytes a.cM b.cM))) w:=wG Extern.BytealgCompare.compare Tryz.func139 (Lib.run_compareString _ _ w)
theorem I7:g8 bG 119:=iB Tryz.func119
theorem I8:g8 bG 93:=iB Tryz.func93
theorem EY:l7 bG 51 1 1:=ni
theorem DG:g8 bG 57:=iB Tryz.func57
theorem KJ:g8 bG 48:=iB Tryz.func48
theorem I9:g8 bG 78:=iB Tryz.func78
theorem Gu:g8 bG 49:=iB Tryz.func49
theorem Ja:tF bG 126 [(0,4),(4,1),(5,1),(6,1),(7,1),(8,1),(9,1),(10,1),(11,1)] #[(.slice none 0 0),(.slice none 0 0),(.slice none 0 0),(.slice none 0 0),(.slice none 0 0),(.slice none 0 0),(.slice none 0 0),(.slice none 0 0),(.slice none 0 0),(.slice none 0 0),(.slice none 0 0),(.slice none 0 0)]:=tF.of (.agg #[(.slice none 0 0),(.slice none 0 0),(.slice none 0 0),(.slice none 0 0),(.slice none 0 0),(.slice none 0 0),(.slice none 0 0),(.slice none 0 0),(.slice none 0 0),(.slice none 0 0),(.slice none 0 0),(.slice none 0 0)]) Tryz.underlying126
theorem ke:l7 bG 126 0 0:=ni
theorem HR:g8 bG 79:=iB Tryz.func79
theorem A3:tz bG 120 132 1:=BM
theorem EZ:yq bG 132 1:=Ag (.slice none 0 0)
theorem G9:Tryz.prog.underlying 120=some (.slice 132):=by kernel_rfl
theorem Ha:kZ bG 132 false 1:=sD
theorem Hb:g8 bG 136:=iB Tryz.func136
theorem Jb:Tryz.prog.underlying 4=some (.bool):=by kernel_rfl
theorem Jc:g8 bG 137:=iB Tryz.func137
theorem Jd:g8 bG 115:=iB Tryz.func115
theorem Je:g8 bG 114:=iB Tryz.func114
theorem KK:g8 bG 80:=iB Tryz.func80
theorem KL:g8 bG 81:=iB Tryz.func81
theorem CP:l7 bG 126 1 4:=ni
theorem Hc:kZ bG 120 false 1:=sD
theorem Hd:rG bG 120 132 1 24:=rG.of (.slice none 0 0)
theorem E0:g8 bG 116:=iB Tryz.func116
theorem vJ:BW bG 147 3 3 Int Int (0:Int):=⟨by kernel_rfl,(wH.int Ek),CE (.int .i64 0) (fun M=>⟨_,rfl,rfl⟩)⟩
theorem Jf:yq bG 23 1:=Ag (.slice none 0 0)
theorem KM:rG bG 22 23 1 24:=rG.of (.slice none 0 0)
theorem KN:g8 bG 82:=iB Tryz.func82
theorem lz:l7 bG 126 2 5:=ni
theorem qj:kZ bG 121 false 1:=sD
theorem Jg:tF bG 134 [(0,1),(1,1),(2,1)] #[(.int .i64 0),(.slice none 0 0),(.slice none 0 0)]:=tF.of (.agg #[(.int .i64 0),(.slice none 0 0),(.slice none 0 0)]) Tryz.underlying134
theorem yI:tz bG 121 134 3:=BM
theorem CQ:yq bG 134 3:=Ag (.agg #[(.int .i64 0),(.slice none 0 0),(.slice none 0 0)])
theorem Jh:rG bG 121 134 3 56:=rG.of (.agg #[(.int .i64 0),(.slice none 0 0),(.slice none 0 0)])
theorem vK:Tryz.prog.underlying 121=some (.slice 134):=by kernel_rfl
theorem KO:g8 bG 51:=iB Tryz.func51
theorem KP:g8 bG 85:=iB Tryz.func85
theorem yJ:kZ bG 134 true 3:=sD
theorem wq:l7 bG 117 4 5:=ni
theorem xU:kZ bG 4 false 1:=sD
theorem wt:l7 bG 134 0 0:=ni
theorem wu:l7 bG 134 2 2:=ni
theorem KQ:g8 bG 84:=iB Tryz.func84
theorem Ji:g8 bG 83:=iB Tryz.func83
theorem wv:l7 bG 126 3 6:=ni
theorem CR:kZ bG 122 false 1:=sD
theorem w3:tz bG 122 87 1:=BM
theorem Jj:yq bG 87 1:=Ag (.slice none 0 0)
theorem He:rG bG 122 87 1 24:=rG.of (.slice none 0 0)
theorem KR:g8 bG 52:=iB Tryz.func52
theorem Jk:tF bG 176 [(0,1)] #[(.slice none 0 0)]:=tF.of (.agg #[(.slice none 0 0)]) Tryz.underlying176
theorem nn:l7 bG 176 0 0:=ni
theorem Jl:g8 bG 61:=iB Tryz.func61
theorem CS:Tryz.prog.underlying 122=some (.slice 87):=by kernel_rfl
theorem DH:g8 bG 64:=iB Tryz.func64
theorem Jm:g8 bG 63:=iB Tryz.func63
theorem rM:l7 bG 126 5 8:=ni
theorem tX:l7 bG 126 6 9:=ni
theorem KS:g8 bG 86:=iB Tryz.func86
theorem Jn:Ih bG 129 [(.slice none 0 0),(.slice none 0 0),(.slice none 0 0)]:=⟨(.agg #[(.slice none 0 0),(.slice none 0 0),(.slice none 0 0)]),fun _=>by kernel_rfl,rfl⟩
theorem pS:l7 bG 126 4 7:=ni
theorem w4:kZ bG 123 false 1:=sD
theorem Hf:Tryz.prog.underlying 123=some (.slice 129):=by kernel_rfl
theorem zB:l7 bG 129 0 0:=ni
theorem zC:l7 bG 129 1 1:=ni
theorem Jo:kZ bG 129 true 3:=sD
theorem CT:tz bG 123 129 3:=BM
theorem Jp:yq bG 129 3:=Ag (.agg #[(.slice none 0 0),(.slice none 0 0),(.slice none 0 0)])
theorem Jq:rG bG 123 129 3 72:=rG.of (.agg #[(.slice none 0 0),(.slice none 0 0),(.slice none 0 0)])
theorem Gv:yq bG 41 2:=Ag (.agg #[(.bool false),(.int .i64 0)])
theorem Jr:g8 bG 138:=iB Tryz.func138
theorem Hg:g8 bG 118:=iB Tryz.func118
theorem DI:tF bG 41 [(0,1),(1,1)] #[(.bool false),(.int .i64 0)]:=tF.of (.agg #[(.bool false),(.int .i64 0)]) Tryz.underlying41
theorem qQ:kZ bG 41 true 2:=sD
theorem KT:g8 bG 87:=iB Tryz.func87
theorem Ca:l7 bG 41 0 0:=ni
theorem sT:l7 bG 41 1 1:=ni
theorem KU:g8 bG 88:=iB Tryz.func88
theorem zD:l7 bG 129 2 2:=ni
theorem E1:kZ bG 127 false 1:=sD
theorem Js:tz bG 127 51 2:=BM
theorem Jt:rG bG 127 51 2 32:=rG.of (.agg #[(.string ⟨#[]⟩),(.string ⟨#[]⟩)])
theorem zF:l7 bG 126 7 10:=ni
theorem zG:l7 bG 126 8 11:=ni
theorem E2:kZ bG 124 false 1:=sD
theorem Hh:tz bG 124 41 2:=BM
theorem Ju:rG bG 124 41 2 16:=rG.of (.agg #[(.bool false),(.int .i64 0)])
theorem KW:g8 bG 53:=iB Tryz.func53
theorem HS:g8 bG 26:=iB Tryz.func26
theorem HT:g8 bG 41:=iB Tryz.func41
theorem KX:Ih bG 29 [(.slice none 0 0)]:=⟨(.slice none 0 0),fun _=>by kernel_rfl,rfl⟩
theorem vZ:kZ bG 68 false 1:=sD
theorem Jv:Tryz.prog.underlying 127=some (.slice 51):=by kernel_rfl
theorem DJ:kZ bG 29 false 1:=sD
theorem Jw:tF bG 43 [(0,1),(1,2),(3,1),(4,1)] #[(.bool false),(.bool false),(.int .i64 0),(.int .i64 0),(.int .i64 0)]:=tF.of (.agg #[(.bool false),(.bool false),(.int .i64 0),(.int .i64 0),(.int .i64 0)]) Tryz.underlying43
theorem va:tz bG 29 43 5:=BM
theorem A4:yq bG 43 5:=Ag (.agg #[(.bool false),(.bool false),(.int .i64 0),(.int .i64 0),(.int .i64 0)])
theorem HU:rG bG 29 43 5 40:=rG.of (.agg #[(.bool false),(.bool false),(.int .i64 0),(.int .i64 0),(.int .i64 0)])
theorem Jx:g8 bG 54:=iB Tryz.func54
theorem Hi:yq bG 136 7:=Ag (.agg #[(.int .i64 0),(.int .i64 0),(.int .i64 0),(.int .i64 0),(.int .i64 0),(.int .i64 0),(.int .i64 0)])
theorem Jy:tF bG 136 [(0,1),(1,1),(2,1),(3,2),(5,2)] #[(.int .i64 0),(.int .i64 0),(.int .i64 0),(.int .i64 0),(.int .i64 0),(.int .i64 0),(.int .i64 0)]:=tF.of (.agg #[(.int .i64 0),(.int .i64 0),(.int .i64 0),(.int .i64 0),(.int .i64 0),(.int .i64 0),(.int .i64 0)]) Tryz.underlying136
theorem CU:kZ bG 136 true 7:=sD
theorem HV:yq bG 76 2:=Ag (.agg #[(.int .i64 0),(.int .i64 0)])
theorem KY:tF bG 76 [(0,1),(1,1)] #[(.int .i64 0),(.int .i64 0)]:=tF.of (.agg #[(.int .i64 0),(.int .i64 0)]) Tryz.underlying76
theorem Jz:g8 bG 89:=iB Tryz.func89
theorem rN:l7 bG 136 3 3:=ni
theorem JA:g8 bG 90:=iB Tryz.func90
theorem CV:l7 bG 136 4 5:=ni
theorem KZ:g8 bG 55:=iB Tryz.func55
theorem Gw:Kz bG 136 2 3 2:=⟨fun _ _=>by kernel_rfl⟩
theorem xZ:Tryz.prog.underlying 29=some (.slice 43):=by kernel_rfl
theorem JB:g8 bG 27:=iB Tryz.func27
theorem LI:g8 bG 8:=iB Tryz.func8
theorem DK:Tryz.prog.underlying 28=some (.slice 53):=by kernel_rfl
theorem E3:tz bG 28 53 5:=BM
theorem x0:kZ bG 53 true 5:=sD
theorem HW:yq bG 53 5:=Ag (.agg #[(.string ⟨#[]⟩),(.string ⟨#[]⟩),(.string ⟨#[]⟩),(.string ⟨#[]⟩),(.bool false)])
theorem sU:l7 bG 53 0 0:=ni
theorem Hj:Tryz.prog.underlying 196=some (.int .u64):=by kernel_rfl
theorem K0:g8 bG 92:=iB Tryz.func92
theorem K1:g8 bG 91:=iB Tryz.func91
theorem A5:g8 bG 56:=iB Tryz.func56
theorem sV:l7 bG 53 1 2:=ni
theorem K2:g8 bG 94:=iB Tryz.func94
theorem JC:g8 bG 58:=iB Tryz.func58
theorem HX:g8 bG 28:=iB Tryz.func28
theorem LJ:g8 bG 9:=iB Tryz.func9
theorem K3:tF bG 78 [(0,1),(1,1),(2,1),(3,2)] #[(.string ⟨#[]⟩),(.string ⟨#[]⟩),(.int .i64 0),(.int .i64 0),(.int .i64 0)]:=tF.of (.agg #[(.string ⟨#[]⟩),(.string ⟨#[]⟩),(.int .i64 0),(.int .i64 0),(.int .i64 0)]) Tryz.underlying78
theorem K4:tF bG 27 [(0,1),(1,1),(2,1),(3,1)] #[(.slice none 0 0),(.slice none 0 0),(.slice none 0 0),(.slice none 0 0)]:=tF.of (.agg #[(.slice none 0 0),(.slice none 0 0),(.slice none 0 0),(.slice none 0 0)]) Tryz.underlying27
theorem K5:yq bG 27 4:=Ag (.agg #[(.slice none 0 0),(.slice none 0 0),(.slice none 0 0),(.slice none 0 0)])
theorem sW:kZ bG 43 true 5:=sD
theorem sX:l7 bG 43 0 0:=ni
theorem zH:l7 bG 43 2 3:=ni
theorem zI:l7 bG 43 3 4:=ni
theorem vc:l7 bG 43 1 1:=ni
theorem JD:Hz bG 41 dF:=⟨fun M cs ds a b w ha hb=>by
  obtain⟨_,_,rfl,rfl,rfl⟩:=ha
  obtain⟨_,_,rfl,rfl,rfl⟩:=hb
  refine(kJ 9999 Tryz.underlying41 (yt.cons (by decide) (dT xU _) (dT xU _) (oz Jb _ _ w) (yt.cons (by decide) (dT cH _) (dT cH _) (jG Ek _ _ w) yt.nil))).trans ?_
  congr 1
  cases a;cases b;unfold pO
  rw [fX]
  simp,by kernel_rfl⟩
theorem HY:g8 bG 59:=iB Tryz.func59
theorem JE:Hz bG 43 bS:=⟨fun M cs ds a b w ha hb=>by
  obtain⟨_,_,rfl,rfl,⟨_,_,rfl,⟨_,_,rfl,rfl,rfl⟩,⟨_,_,rfl,rfl,rfl⟩⟩⟩:=ha
  obtain⟨_,_,rfl,rfl,⟨_,_,rfl,⟨_,_,rfl,rfl,rfl⟩,⟨_,_,rfl,rfl,rfl⟩⟩⟩:=hb
  refine(kJ 9999 Tryz.underlying43 (yt.cons (by decide) (dT xU _) (dT xU _) (oz Jb _ _ w) (yt.cons (by decide) (uW qQ rfl _) (uW qQ rfl _) (kJ 9998 Tryz.underlying40 (yt.cons (by decide) (dT xU _) (dT xU _) (oz Jb _ _ w) (yt.cons (by decide) (dT cH _) (dT cH _) (jG Ek _ _ w) yt.nil))) (yt.cons (by decide) (dT cH _) (dT cH _) (jG Ek _ _ w) (yt.cons (by decide) (dT cH _) (dT cH _) (jG Ek _ _ w) yt.nil))))).trans ?_
  congr 1
  obtain⟨_,⟨_,_⟩,_,_⟩:=a;obtain⟨_,⟨_,_⟩,_,_⟩:=b;unfold k9 pO
  rw [fX]
  simp,by kernel_rfl⟩
theorem K6:g8 bG 32:=iB Tryz.func32
theorem JF:g8 bG 13:=iB Tryz.func13
theorem JG:g8 bG 30:=iB Tryz.func30
theorem JH:Ih bG 143 [(.map none)]:=⟨(.map none),fun _=>by kernel_rfl,rfl⟩
theorem A6:kZ bG 143 false 1:=sD
theorem JI:g8 bG 60:=iB Tryz.func60
theorem CW:BW bG 143 3 4 Int Bool (false:Bool):=⟨by kernel_rfl,(wH.int Ek),CE (.bool false) (fun M=>⟨_,rfl,rfl⟩)⟩
theorem JJ:Ih bG 144 [(.pointer none)]:=⟨(.pointer none),fun _=>by kernel_rfl,rfl⟩
theorem A7:kZ bG 144 false 1:=sD
theorem JK:g8 bG 62:=iB Tryz.func62
theorem JL:Tryz.prog.underlying 124=some (.slice 41):=by kernel_rfl
theorem JM:g8 bG 36:=iB Tryz.func36
theorem K7:g8 bG 29:=iB Tryz.func29
theorem HZ:g8 bG 10:=iB Tryz.func10
theorem Gx:tz bG 35 4 1:=BM
theorem Lv:yq bG 4 1:=Ag (.bool false)
theorem JN:rG bG 35 4 1 1:=rG.of (.bool false)
theorem JO:g8 bG 31:=iB Tryz.func31
theorem JP:g8 bG 11:=iB Tryz.func11
theorem Gy:Tryz.prog.underlying 35=some (.slice 4):=by kernel_rfl
theorem JQ:g8 bG 14:=iB Tryz.func14
theorem K8:g8 bG 12:=iB Tryz.func12
def bF (E:World) (V:List HP) (res:Bool) (v:Value) (w:World):Prop:=v= (vb res)/\Holds E w V
def aP (E:World) (V:List HP) (res:Int) (v:Value) (w:World):Prop:=v= (vi res)/\Holds E w V
def kY (E:World) (V:List HP) (res: (List aI)) (v:Value) (w:World):Prop:=Holds E w ([own 74 v res]++V)
def ky (E:World) (V:List HP) (res: (List Int)) (v:Value) (w:World):Prop:=Holds E w ([own 3 v res]++V)
def kR (E:World) (V:List HP) (res: (List aA)) (v:Value) (w:World):Prop:=Holds E w ([own 187 v res]++V)
def oC (E:World) (V:List HP) (res:aI) (v:Value) (w:World):Prop:=Holds E w ([rd v res]++V)
def nN (E:World) (V:List HP) (res: (List dD)) (v:Value) (w:World):Prop:=Holds E w ([own 9 v res]++V)
def iP (E:World) (V:List HP) (b0:Nat) (v0_0 v0_1:Value) (v0_2 v0_3:Value) (v0_4 v0_5:Value) (v0_6 v0_7:Value) (v0_8 v0_9:Value) (v0_10 v0_11:Value) (res:Int) (v:Value) (w:World):Prop:=v= (vi res)/\Holds E w ([bc 126 b0 [v0_0,v0_1,v0_2,v0_3,v0_4,v0_5,v0_6,v0_7,v0_8,v0_9,v0_10,v0_11]]++V)
def mF (E:World) (V:List HP) (res:Option ((List (List aI))×(List aI)×(List bQ)×(List cQ)×(List (List aA))×(List aH)×(List (List Int))×(List cE)×(List Int)×(List Int)×(List Int)×(List dF))×Int) (v:Value) (w:World):Prop:=AF res.1 (v = .tuple #[(.pointer none),(vi res.2)]/\Holds E w V) (fun y=>∃(ub0:Nat) (u0_0 u0_1:Value) (u0_2 u0_3:Value) (u0_4 u0_5:Value) (u0_6 u0_7:Value) (u0_8 u0_9:Value) (u0_10 u0_11:Value),v = .tuple #[vp ub0 0,(vi res.2)]/\Holds E w ([bc 126 ub0 [u0_0,u0_1,u0_2,u0_3,u0_4,u0_5,u0_6,u0_7,u0_8,u0_9,u0_10,u0_11],rd u0_0 y.1,rd u0_1 y.2.1,rd u0_2 y.2.2.1,rd u0_3 y.2.2.2.1,own 132 u0_4 y.2.2.2.2.1,rd u0_5 y.2.2.2.2.2.1,rd u0_6 y.2.2.2.2.2.2.1,own 129 u0_7 y.2.2.2.2.2.2.2.1,rd u0_8 y.2.2.2.2.2.2.2.2.1,rd u0_9 y.2.2.2.2.2.2.2.2.2.1,own 3 u0_10 y.2.2.2.2.2.2.2.2.2.2.1,own 41 u0_11 y.2.2.2.2.2.2.2.2.2.2.2]++V))
def qR (E:World) (V:List HP) (res: (List bS)×Int) (v:Value) (w:World):Prop:=∃u0:Value,v = .tuple #[u0,(vi res.2)]/\Holds E w ([own 43 u0 res.1]++V)
end Go.Gk
namespace Go.Gk
open Go Go.Proofs
def v7 (H:Type) (d:DataW H):Nat:=YthioiiocofohiaaGreatDoor.Rows.uptoBulk d
def JT (H:Type) (d:List (DataW H)):Nat:=YthioiiocofohiaaGreatDoor.Rows.uptoBulkAll d
theorem gj:UB v7 JT where
  str:=fun H b=>by simp [v7,YthioiiocofohiaaGreatDoor.Rows.uptoBulk]
  pos:=fun H d=>by
    unfold v7
    cases d with
    | lit l=>cases l <;> simp [YthioiiocofohiaaGreatDoor.Rows.uptoBulk]
    | nil=>simp [YthioiiocofohiaaGreatDoor.Rows.uptoBulk]
    | ptr d=>simp [YthioiiocofohiaaGreatDoor.Rows.uptoBulk]
    | slice elems spare=>simp [YthioiiocofohiaaGreatDoor.Rows.uptoBulk]
    | agg parts=>simp [YthioiiocofohiaaGreatDoor.Rows.uptoBulk]
    | iface t d=>simp [YthioiiocofohiaaGreatDoor.Rows.uptoBulk]
    | map entries=>simp [YthioiiocofohiaaGreatDoor.Rows.uptoBulk]
    | held h=>simp [YthioiiocofohiaaGreatDoor.Rows.uptoBulk]
  sl:=fun H e s=>by simp [v7,JT,YthioiiocofohiaaGreatDoor.Rows.uptoBulk]
  ag:=fun H l=>by simp [v7,JT,YthioiiocofohiaaGreatDoor.Rows.uptoBulk]
  nil:=fun H=>by simp [JT,YthioiiocofohiaaGreatDoor.Rows.uptoBulkAll]
  cons:=fun H x l=>by simp [v7,JT,YthioiiocofohiaaGreatDoor.Rows.uptoBulkAll]
theorem El:iz v7 Tryz.prog 3 Int:=DQ gj (by kernel_rfl)
theorem K9:iz v7 Tryz.prog 74 aI:=jN gj (fun(x:aI)=>(x.X0,x.Y0,x.X1,x.Y1)) (fun b=>⟨b.1,b.2.1,b.2.2.1,b.2.2.2⟩) (fun b=>rfl) Tryz.underlying74 (eR gj El (eR gj El (eR gj El (mu gj El)))) (fun b=>by simp only [GF];omega)
theorem JU:iz v7 Tryz.prog 23 (List aI):=nO (e:=74) gj K9
theorem La:iz v7 Tryz.prog 22 (List (List aI)):=nO (e:=23) gj JU
theorem JV:iz v7 Tryz.prog 76 eK:=jN gj (fun(x:eK)=>(x.X,x.Y)) (fun b=>⟨b.1,b.2⟩) (fun b=>rfl) Tryz.underlying76 (eR gj El (mu gj El)) (fun b=>by simp only [Fg];omega)
theorem Lw:iz v7 Tryz.prog 4 Bool:=Cd gj (by kernel_rfl)
theorem JW:iz v7 Tryz.prog 117 bQ:=jN gj (fun(x:bQ)=>(x.At,x.eU,x.bR,x.To,x.gL)) (fun b=>⟨b.1,b.2.1,b.2.2.1,b.2.2.2.1,b.2.2.2.2⟩) (fun b=>rfl) Tryz.underlying117 (eR gj JV (eR gj El (eR gj El (eR gj El (mu gj Lw))))) (fun b=>by simp only [GG];omega)
theorem Lb:iz v7 Tryz.prog 24 (List bQ):=nO (e:=117) gj JW
theorem Kj:iz v7 Tryz.prog 9 dD:=DR gj (by kernel_rfl)
theorem Lc:iz v7 Tryz.prog 78 cQ:=jN gj (fun(x:cQ)=>(x.Part,x.fN,x.cU,x.At)) (fun b=>⟨b.1,b.2.1,b.2.2.1,b.2.2.2⟩) (fun b=>rfl) Tryz.underlying78 (eR gj Kj (eR gj Kj (eR gj El (mu gj JV)))) (fun b=>by simp only [CZ];omega)
theorem Ld:iz v7 Tryz.prog 25 (List cQ):=nO (e:=78) gj Lc
theorem Le:iz v7 Tryz.prog 27 iu:=jN gj (fun(x:iu)=>(x.aK,x.dA,x.aT,x.bD)) (fun b=>⟨b.1,b.2.1,b.2.2.1,b.2.2.2⟩) (fun b=>rfl) Tryz.underlying27 (eR gj La (eR gj JU (eR gj Lb (mu gj Ld)))) (fun b=>by simp only [Fh];omega)
theorem JX:iz v7 Tryz.prog 51 fN:=jN gj (fun(x:fN)=>(x.Part,x.fN)) (fun b=>⟨b.1,b.2⟩) (fun b=>rfl) Tryz.underlying51 (eR gj Kj (mu gj Kj)) (fun b=>by simp only [H0];omega)
theorem Lg:iz v7 Tryz.prog 53 Test:=jN gj (fun(x:Test)=>(x.A,x.B,x.Joined)) (fun b=>⟨b.1,b.2.1,b.2.2⟩) (fun b=>rfl) Tryz.underlying53 (eR gj JX (eR gj JX (mu gj Lw))) (fun b=>by simp only [GH];omega)
theorem Lh:iz v7 Tryz.prog 28 (List Test):=nO (e:=53) gj Lg
end Go.Gk
namespace Go.Proofs
open Go.Shelf Go.RowKit Go.Lib Go.Sort
def Tryz.lay100_ren : Go.Shelf.Ren := ⟨fun | 6 => 100 | 15 => 127 | 14 => 126 | 28 => 157 | 29 => 158 | 20 => 149 | 21 => 150 | 22 => 151 | 23 => 152 | 24 => 153 | 25 => 154 | 26 => 155 | 27 => 156 | 46 => 184 | 47 => 185 | 48 => 186 | 49 => 187 | 50 => 188 | 57 => 202 | n => n, fun | 22 => 23 | 24 => 74 | 25 => 118 | 3 => 3 | 39 => 196 | 0 => 0 | 53 => 221 | 55 => 223 | 4 => 4 | 46 => 215 | 45 => 214 | 50 => 94 | 5 => 5 | 9 => 9 | 66 => 239 | 70 => 243 | 76 => 256 | 77 => 257 | n => n, fun | n => n⟩
theorem Tryz.lay100 : Go.Proofs.SlLaysF0.n6 Tryz.prog Tryz.lay100_ren := {
  mixed := by kernel_rfl
  f6 := ⟨Tryz.f100.name, by decide, Tryz.func100.trans (congrArg some (by kernel_rfl))⟩
  f14 := ⟨Tryz.f126.name, by decide, Tryz.func126.trans (congrArg some (by kernel_rfl))⟩
  f15 := Tryz.func127.trans (congrArg some (by kernel_rfl))
  f20 := ⟨Tryz.f149.name, by decide, Tryz.func149.trans (congrArg some (by kernel_rfl))⟩
  f21 := ⟨Tryz.f150.name, by decide, Tryz.func150.trans (congrArg some (by kernel_rfl))⟩
  f22 := ⟨Tryz.f151.name, by decide, Tryz.func151.trans (congrArg some (by kernel_rfl))⟩
  f23 := ⟨Tryz.f152.name, by decide, Tryz.func152.trans (congrArg some (by kernel_rfl))⟩
  f24 := ⟨Tryz.f153.name, by decide, Tryz.func153.trans (congrArg some (by kernel_rfl))⟩
  f25 := ⟨Tryz.f154.name, by decide, Tryz.func154.trans (congrArg some (by kernel_rfl))⟩
  f26 := ⟨Tryz.f155.name, by decide, Tryz.func155.trans (congrArg some (by kernel_rfl))⟩
  f27 := ⟨Tryz.f156.name, by decide, Tryz.func156.trans (congrArg some (by kernel_rfl))⟩
  f28 := Tryz.func157.trans (congrArg some (by kernel_rfl))
  f29 := Tryz.func158.trans (congrArg some (by kernel_rfl))
  f46 := ⟨Tryz.f184.name, by decide, Tryz.func184.trans (congrArg some (by kernel_rfl))⟩
  f47 := Tryz.func185.trans (congrArg some (by kernel_rfl))
  f48 := Tryz.func186.trans (congrArg some (by kernel_rfl))
  f49 := ⟨Tryz.f187.name, by decide, Tryz.func187.trans (congrArg some (by kernel_rfl))⟩
  f50 := ⟨Tryz.f188.name, by decide, Tryz.func188.trans (congrArg some (by kernel_rfl))⟩
  f57 := ⟨Tryz.f202.name, by decide, Tryz.func202.trans (congrArg some (by kernel_rfl))⟩
  t0 := Tryz.underlying0
  a0 := Tryz.isAgg0
  z0 := Tryz.sizeOf0
  v0 := Tryz.zeroValue0
  t3 := Tryz.underlying3
  a3 := Tryz.isAgg3
  z3 := Tryz.sizeOf3
  v3 := Tryz.zeroValue3
  t4 := Tryz.underlying4
  a4 := Tryz.isAgg4
  z4 := Tryz.sizeOf4
  v4 := Tryz.zeroValue4
  t5 := Tryz.underlying5
  a5 := Tryz.isAgg5
  z5 := Tryz.sizeOf5
  v5 := Tryz.zeroValue5
  t9 := Tryz.underlying9
  a9 := Tryz.isAgg9
  z9 := Tryz.sizeOf9
  v9 := Tryz.zeroValue9
  t22 := Tryz.underlying23
  a22 := Tryz.isAgg23
  z22 := Tryz.sizeOf23
  v22 := Tryz.zeroValue23
  t25 := Tryz.underlying118
  a25 := Tryz.isAgg118
  z25 := Tryz.sizeOf118
  v25 := Tryz.zeroValue118
  t39 := Tryz.underlying196
  a39 := Tryz.isAgg196
  z39 := Tryz.sizeOf196
  v39 := Tryz.zeroValue196
  t45 := Tryz.underlying214
  a45 := Tryz.isAgg214
  z45 := Tryz.sizeOf214
  v45 := Tryz.zeroValue214
  t46 := Tryz.underlying215
  a46 := Tryz.isAgg215
  z46 := Tryz.sizeOf215
  v46 := Tryz.zeroValue215
  t50 := Tryz.underlying94
  a50 := Tryz.isAgg94
  z50 := Tryz.sizeOf94
  v50 := Tryz.zeroValue94
  t53 := Tryz.underlying221
  a53 := Tryz.isAgg221
  z53 := Tryz.sizeOf221
  v53 := Tryz.zeroValue221
  t55 := Tryz.underlying223
  a55 := Tryz.isAgg223
  z55 := Tryz.sizeOf223
  v55 := Tryz.zeroValue223
  t66 := Tryz.underlying239
  a66 := Tryz.isAgg239
  z66 := Tryz.sizeOf239
  v66 := Tryz.zeroValue239
  t70 := Tryz.underlying243
  a70 := Tryz.isAgg243
  z70 := Tryz.sizeOf243
  v70 := Tryz.zeroValue243
  t76 := Tryz.underlying256
  a76 := Tryz.isAgg256
  z76 := Tryz.sizeOf256
  v76 := Tryz.zeroValue256
  t77 := Tryz.underlying257
  a77 := Tryz.isAgg257
  z77 := Tryz.sizeOf257
  v77 := Tryz.zeroValue257 }
def Tryz.lay102_ren : Go.Shelf.Ren := ⟨fun | 5 => 102 | 8 => 127 | 7 => 128 | 19 => 157 | 20 => 158 | 10 => 159 | 11 => 160 | 12 => 161 | 13 => 162 | 14 => 163 | 15 => 164 | 16 => 165 | 17 => 166 | 18 => 167 | 30 => 189 | 31 => 185 | 32 => 186 | 33 => 190 | 34 => 191 | 35 => 192 | 40 => 203 | n => n, fun | 23 => 87 | 25 => 3 | 3 => 3 | 32 => 196 | 22 => 87 | 0 => 0 | 44 => 221 | 46 => 223 | 4 => 4 | 36 => 215 | 35 => 214 | 41 => 94 | 5 => 5 | 9 => 9 | 53 => 239 | 57 => 243 | 63 => 256 | 64 => 257 | n => n, fun | n => n⟩
theorem Tryz.lay102 : Go.Proofs.SlLaysM.n5 Tryz.prog Tryz.lay102_ren := {
  mixed := by kernel_rfl
  f5 := ⟨Tryz.f102.name, by decide, Tryz.func102.trans (congrArg some (by kernel_rfl))⟩
  f7 := ⟨Tryz.f128.name, by decide, Tryz.func128.trans (congrArg some (by kernel_rfl))⟩
  f8 := Tryz.func127.trans (congrArg some (by kernel_rfl))
  f10 := ⟨Tryz.f159.name, by decide, Tryz.func159.trans (congrArg some (by kernel_rfl))⟩
  f11 := ⟨Tryz.f160.name, by decide, Tryz.func160.trans (congrArg some (by kernel_rfl))⟩
  f12 := ⟨Tryz.f161.name, by decide, Tryz.func161.trans (congrArg some (by kernel_rfl))⟩
  f13 := ⟨Tryz.f162.name, by decide, Tryz.func162.trans (congrArg some (by kernel_rfl))⟩
  f14 := ⟨Tryz.f163.name, by decide, Tryz.func163.trans (congrArg some (by kernel_rfl))⟩
  f15 := ⟨Tryz.f164.name, by decide, Tryz.func164.trans (congrArg some (by kernel_rfl))⟩
  f16 := ⟨Tryz.f165.name, by decide, Tryz.func165.trans (congrArg some (by kernel_rfl))⟩
  f17 := ⟨Tryz.f166.name, by decide, Tryz.func166.trans (congrArg some (by kernel_rfl))⟩
  f18 := ⟨Tryz.f167.name, by decide, Tryz.func167.trans (congrArg some (by kernel_rfl))⟩
  f19 := Tryz.func157.trans (congrArg some (by kernel_rfl))
  f20 := Tryz.func158.trans (congrArg some (by kernel_rfl))
  f30 := ⟨Tryz.f189.name, by decide, Tryz.func189.trans (congrArg some (by kernel_rfl))⟩
  f31 := Tryz.func185.trans (congrArg some (by kernel_rfl))
  f32 := Tryz.func186.trans (congrArg some (by kernel_rfl))
  f33 := ⟨Tryz.f190.name, by decide, Tryz.func190.trans (congrArg some (by kernel_rfl))⟩
  f34 := ⟨Tryz.f191.name, by decide, Tryz.func191.trans (congrArg some (by kernel_rfl))⟩
  f35 := ⟨Tryz.f192.name, by decide, Tryz.func192.trans (congrArg some (by kernel_rfl))⟩
  f40 := ⟨Tryz.f203.name, by decide, Tryz.func203.trans (congrArg some (by kernel_rfl))⟩
  t0 := Tryz.underlying0
  a0 := Tryz.isAgg0
  z0 := Tryz.sizeOf0
  v0 := Tryz.zeroValue0
  t3 := Tryz.underlying3
  a3 := Tryz.isAgg3
  z3 := Tryz.sizeOf3
  v3 := Tryz.zeroValue3
  t4 := Tryz.underlying4
  a4 := Tryz.isAgg4
  z4 := Tryz.sizeOf4
  v4 := Tryz.zeroValue4
  t5 := Tryz.underlying5
  a5 := Tryz.isAgg5
  z5 := Tryz.sizeOf5
  v5 := Tryz.zeroValue5
  t9 := Tryz.underlying9
  a9 := Tryz.isAgg9
  z9 := Tryz.sizeOf9
  v9 := Tryz.zeroValue9
  t22 := Tryz.underlying87
  a22 := Tryz.isAgg87
  z22 := Tryz.sizeOf87
  v22 := Tryz.zeroValue87
  t23 := Tryz.underlying87
  a23 := Tryz.isAgg87
  z23 := Tryz.sizeOf87
  v23 := Tryz.zeroValue87
  t25 := Tryz.underlying3
  a25 := Tryz.isAgg3
  z25 := Tryz.sizeOf3
  v25 := Tryz.zeroValue3
  t32 := Tryz.underlying196
  a32 := Tryz.isAgg196
  z32 := Tryz.sizeOf196
  v32 := Tryz.zeroValue196
  t35 := Tryz.underlying214
  a35 := Tryz.isAgg214
  z35 := Tryz.sizeOf214
  v35 := Tryz.zeroValue214
  t36 := Tryz.underlying215
  a36 := Tryz.isAgg215
  z36 := Tryz.sizeOf215
  v36 := Tryz.zeroValue215
  t41 := Tryz.underlying94
  a41 := Tryz.isAgg94
  z41 := Tryz.sizeOf94
  v41 := Tryz.zeroValue94
  t44 := Tryz.underlying221
  a44 := Tryz.isAgg221
  z44 := Tryz.sizeOf221
  v44 := Tryz.zeroValue221
  t46 := Tryz.underlying223
  a46 := Tryz.isAgg223
  z46 := Tryz.sizeOf223
  v46 := Tryz.zeroValue223
  t53 := Tryz.underlying239
  a53 := Tryz.isAgg239
  z53 := Tryz.sizeOf239
  v53 := Tryz.zeroValue239
  t57 := Tryz.underlying243
  a57 := Tryz.isAgg243
  z57 := Tryz.sizeOf243
  v57 := Tryz.zeroValue243
  t63 := Tryz.underlying256
  a63 := Tryz.isAgg256
  z63 := Tryz.sizeOf256
  v63 := Tryz.zeroValue256
  t64 := Tryz.underlying257
  a64 := Tryz.isAgg257
  z64 := Tryz.sizeOf257
  v64 := Tryz.zeroValue257 }
end Go.Proofs
namespace Go.Gk
open Go Go.Proofs
variable (N:Nat) {E w:World} {i0 i1 i2:Nat} {p0 p1 p2 res:Int} {v0 v1 v2:Value} {V:List HP}
theorem v8 {res:Bool} (o:Holds E w V) (j:pK N p0 p1 p2=some res):
    Calls bG 135 [(vi p0),(vi p1),(vi p2)].toArray w (gH (bF E V res)):=by
 unfold pK at j
 refine enter Tryz.func135 zr zr (RC.sr (aM (vb false) (RL.ns (mv (vi p0) (mv (vi p1) (ic p0 p1 (mv (vb (decide (p0>=p1))) (RL.gs true (decide (p0>=p1)) (vi p0) zr zr zr dR ?_))))))))
 refine RL.gs true (decide (p0>=p1)) (vi p2) rfl rfl rfl dR (RL.gs true (decide (p0>=p1)) (vb (decide (p0<=p2))) rfl rfl rfl (dY .leq .i64 p0 p2 rfl (fun h=>by exact(cT h:cv (true&&((decide (p0>=p1))==true)) (vi p0)= (vi p0))) (fun h=>by exact(cT h:cv (true&&((decide (p0>=p1))==true)) (vi p2)= (vi p2))) rfl) (RL.pick (decide (p0>=p1)) (vb ((decide (p0>=p1))&&(decide (p0<=p2)))) (je true) (aM (vb ((decide (p0>=p1))&&(decide (p0<=p2)))) (RL.nt (RC.ret ?_)))))
 obtain rfl:=oi j
 exact cF ⟨rfl,o.drop 0⟩
theorem j5 {res:Bool} (o:Holds E w V) (j:jI N p0=some res):
    Calls bG 113 [(vi p0)].toArray w (gH (bF E V res)):=by
 unfold jI at j
 refine enter Tryz.func113 zr zr (RC.sr (aM (vb false) (RL.ns (mv (vi p0) ?_))))
 obtain⟨aa,ab,j⟩:=bd j
 refine RL.call zt zr Iz [(vi p0),(vi (-1000000)),(vi 1000000)] zr (aF (v8 N (p0:=p0) (p1:=(-1000000)) (p2:=1000000) o ab) ?_)
 rintro _ w ⟨rfl,o⟩
 refine aM (vb aa) (RL.nt (RC.ret ?_))
 obtain rfl:=oi j
 exact cF ⟨rfl,o.drop 0⟩
theorem ql {p0:aI} {res:Bool} (j:Holds E w V) (h0:V[i0]? =some (rd v0 p0)) (hb:kL N p0=some res):
    Calls bG 98 [v0].toArray w (gH (bF E V res)):=by
 unfold kL at hb
 refine enter Tryz.func98 zr zr ?_
 have j:=j.dup (i0+0) h0
 refine RC.sr (RL.cY 0 v0 j zr fun aq w j=>?_)
 refine aM (vb false) (RL.nq ?_)
 obtain⟨af,o,hb⟩:=bd hb
 refine RC.jn (fun(af:Bool)=>SH E V [(2,vb af)] []) af ?_ ?_
 ·refine RC.region (RL.aY zr jh (RL.aL 0 j zr eM cH ?_))
  obtain⟨aj,ak,o⟩:=bd o
  refine RL.call zt zr yG [(vi p0.X0)] zr (aF (j5 N (p0:=p0.X0) j ak) ?_)
  rintro _ w ⟨rfl,j⟩
  refine mv (vb aj) (fM o (fun aa o=>?_) fun aa o=>?_)
  rotate_left
  ·refine bJ aa (bJ aa (bJ aa (fI aa (vb false) (mv (vb false) (n9 (n9 (n9 (RL.pick false (vb false) zr ?_))))))))
   refine mv (vb false) (n9 (n9 (n9 (RL.pick false (vb false) zr (aM (vb false) (RL.nil ?_))))))
   obtain rfl:=oi o
   exact⟨rfl,j.sp 2 []⟩
  refine RL.aY (hg:=(cg aa)) zr jM (RL.aL (hg:=(cg aa)) 0 j zr eY cH ?_)
  obtain⟨ag,al,o⟩:=bd o
  refine RL.call (cg aa) zr yG [(vi p0.Y0)] zr (aF (j5 N (p0:=p0.Y0) j al) ?_)
  rintro _ w ⟨rfl,j⟩
  refine fI aa (vb ag) (mv (vb ag) (fM o (fun ab o=>?_) fun ab o=>?_))
  rotate_left
  ·refine bJ ab (bJ ab (bJ ab (fI ab (vb false) (mv (vb false) (n9 (n9 (n9 (RL.pick false (vb false) zr ?_))))))))
   refine aM (vb false) (RL.nil ?_)
   obtain rfl:=oi o
   exact⟨rfl,j.sp 2 []⟩
  refine RL.aY (hg:=(cg ab)) zr kx (RL.aL (hg:=(cg ab)) 0 j zr gk cH ?_)
  obtain⟨ah,an,o⟩:=bd o
  refine RL.call (cg ab) zr yG [(vi p0.X1)] zr (aF (j5 N (p0:=p0.X1) j an) ?_)
  rintro _ w ⟨rfl,j⟩
  refine fI ab (vb ah) (mv (vb ah) (fM o (fun ad o=>?_) fun ad o=>?_))
  rotate_left
  ·refine bJ ad (bJ ad (bJ ad (fI ad (vb false) (aM (vb false) (RL.nil ?_)))))
   obtain rfl:=oi o
   exact⟨rfl,j.sp 2 []⟩
  refine RL.aY (hg:=(cg ad)) zr nM (RL.aL (hg:=(cg ad)) 0 j zr jA cH ?_)
  obtain⟨ai,ao,o⟩:=bd o
  refine RL.call (cg ad) zr yG [(vi p0.Y1)] zr (aF (j5 N (p0:=p0.Y1) j ao) ?_)
  rintro _ w ⟨rfl,j⟩
  refine fI ad (vb ai) (aM (vb ai) (RL.nil ?_))
  obtain rfl:=oi o
  exact⟨rfl,j.sp 2 []⟩
 rintro _ w ⟨O,rfl,j⟩
 refine aG (RC.ret ?_)
 obtain rfl:=oi hb
 exact cF ⟨rfl,j.drop 0⟩
def s9 (E:World) (V:List HP) (r:Int) (U:Nat->Value) (w:World):Prop:=l6 bG 30 Tryz.f68 (aP E V r) .ret U w
theorem r6 {p0: (List aI)} (o:Holds E w V) (h0:V[i0]? =some (rd v0 p0)) (hb:jt N p0=some res):
    Calls bG 68 [v0].toArray w (gH (aP E V res)):=by
 unfold jt at hb
 refine enter Tryz.func68 zr zr ?_
 have o:=o.dup (i0+0) h0
 refine RC.sr (aM (vi 0) (RL.nq (RC.sr (mv v0 (RL.bB 0 p0 o og (ic ((p0.length:Int)) 2000 (RL.nt (eL hb (fun hc hb=>?_) fun hc hb=>?_))))))))
 ·refine RC.sr (aM (vi 2) (RL.nt (RC.rt ?_)))
  obtain rfl:=oi hb
  exact cF ⟨rfl,o.drop 1⟩
 refine RC.ss (RC.sr (mv v0 (RL.bB 0 p0 o og (mv (vi 0) (RL.nt ?_)))))
 obtain⟨aq,hN,hb⟩:=bd hb
 refine RC.range (fun(ae:Nat) (af:Unit)=>SH E V [(8,v0),(9,vi p0.length),(10,vi ae)] [rd v0 p0]) (fun(af:Unit)=>SH E V [] [rd v0 p0]) (s9 E V) hN ?_ ?_ ?_ ?_ ?_
 ·exact o.sp 1 [0]
 ·rintro hm af _ w ⟨O,rfl,o⟩
  refine RC.sr (ic ((p0.length:Int)) ((p0.length:Int)) (RL.nq (RC.cO l9 (RC.ex ?_))))
  exact⟨rfl,o.sp 1 [0]⟩
 ·rintro hm ae af fl _ w hk ⟨O,rfl,o⟩ hb
  refine RC.sr (ic ((ae:Int)) ((p0.length:Int)) (RL.nq (RC.cN (l8 hk) (RC.ss (RC.bs ?_)))))
  obtain⟨j,aj,hb⟩:=bd hb
  refine RL.cC 0 o ku aj fun au o=>(RL.bO 0 j o fC fun av o=>(RL.alloc o mo.z fun ab w o=>?_))
  refine RL.bA 0 o 1 zr fC fun w o=>?_
  refine RL.nq (RC.sr (RL.aS (f:=(fun x=>x)) 0 o zr Fd.self fC fun ak o=>?_))
  obtain⟨al,an,hb⟩:=bd hb
  refine RL.call zt zr IA [ak] zr (aF (ql N (i0:=0) o zr an) ?_)
  rintro _ w ⟨rfl,o⟩
  refine RL.not al (RL.nt (eL hb (fun hc hb=>?_) fun hc hb=>?_))
  ·refine RC.sr (aM (vi 1) (RL.nt (RC.rt (jF (bV ?_)))))
   obtain rfl:=oi hb
   exact⟨rfl,cF ⟨rfl,o.drop 5⟩⟩
  refine RC.sx (RL.aY rfl kx (RL.aL 1 o rfl gk cH (RL.aY rfl jh (RL.aL 1 o rfl eM cH (ic j.X1 j.X0 (mv (vb (decide (j.X1<=j.X0))) (RL.gs true (decide (j.X1<=j.X0)) (vp ab 3) rfl rfl rfl (dN nM) (RL.gs true (decide (j.X1<=j.X0)) (vi j.Y1) rfl rfl rfl (bW 1 rfl o (fun h=>by exact(cT h:cv (true&&((decide (j.X1<=j.X0))==false)) (vp ab 3)= (vp ab 3))) rfl jA cH) ?_))))))))
  refine RL.gs true (decide (j.X1<=j.X0)) (vp ab 1) rfl rfl rfl (dN jM) (RL.gs true (decide (j.X1<=j.X0)) (vi j.Y0) rfl rfl rfl (bW 1 rfl o (fun h=>by exact(cT h:cv (true&&((decide (j.X1<=j.X0))==false)) (vp ab 1)= (vp ab 1))) rfl eY cH) (RL.gs true (decide (j.X1<=j.X0)) (vb (decide (j.Y1<=j.Y0))) rfl rfl rfl (dY .leq .i64 j.Y1 j.Y0 rfl (fun h=>by exact(cT h:cv (true&&((decide (j.X1<=j.X0))==false)) (vi j.Y1)= (vi j.Y1))) (fun h=>by exact(cT h:cv (true&&((decide (j.X1<=j.X0))==false)) (vi j.Y0)= (vi j.Y0))) rfl) (RL.pick (decide (j.X1<=j.X0)) (vb ((decide (j.X1<=j.X0))||(decide (j.Y1<=j.Y0)))) (nE true rfl) (RL.nt (eL hb (fun hc hb=>?_) fun hc hb=>?_)))))
  rotate_left
  ·refine RC.skip (bL (aG (RC.region (RL.inc hk hm (mv (vi ((ae+1:Nat):Int)) (RL.nil ?_))))))
   obtain rfl:=oi hb
   exact⟨rfl,o.sp 5 [4]⟩
  refine RC.sr (aM (vi 13) (RL.nt (RC.rb (bV ?_))))
  obtain rfl:=oi hb
  exact⟨rfl,cF ⟨rfl,o.drop 5⟩⟩
 ·intro r U w e hK
  subst e
  refine bV ?_
  obtain rfl:=oi hb
  exact hK
 rintro af _ w rfl ⟨O,rfl,o⟩
 rw [Fo.f0] at hb
 refine aG (RC.sr (aM (vi 0) (RL.nt (RC.ret ?_))))
 obtain rfl:=oi hb
 exact cF ⟨rfl,o.drop 1⟩
theorem qS {p0: (List aI)} {res: (List aI)} (j:Holds E w V) (h0:V[i0]? =some (rd v0 p0)) (o:gT N p0=some res):
    Calls bG 99 [v0].toArray w (gH (kY E V res)):=by
 unfold gT at o
 refine enter Tryz.func99 zr zr ?_
 have j:=j.dup (i0+0) h0
 refine RC.sr (aM (.slice none 0 0) (RL.nq (RC.sr (mv v0 (RL.Iq (i:=0) zt zr j zr zr zr og (RL.nt (RC.cond (b:=(Gi v0)) zr (fun hc=>?_) (fun hc=>?_))))))))
 ·have hx:=j.Kt (i:=0) rfl hc
  rw [hx] at o
  replace o:some ([]: (List aI))=_:=o
  refine RC.sr (aM (.slice none 0 0) (RL.nt (RC.rt ?_)))
  obtain rfl:=oi o
  have j:=j.cS aI 74
  exact cF (j.pk 2 [0])
 refine RC.sx (RL.eJ ([]: (List aI)) j [] ku mo (fun M hs g=>zt) fun ae w j=>(mv v0 ?_))
 obtain⟨af,ab,o⟩:=bd o
 refine RL.app 0 1 j DC ab fun ad w j=>?_
 refine aM ad (RL.nt (RC.ret ?_))
 obtain rfl:=oi o
 exact cF (j.pk 2 [0])
theorem uc {p0 p1:aI} (j:Holds E w V) (h0:V[i0]? =some (rd v0 p0)) (h1:V[i1]? =some (rd v1 p1)) (o:iD N p0 p1=some res):
    Calls bG 101 [v0,v1].toArray w (gH (aP E V res)):=by
 unfold iD at o
 refine enter Tryz.func101 zr zr ?_
 have j:=(j.dup (i0+0) h0).dup (i1+1) h1
 refine RC.sr (RL.cY 1 v0 j zr fun aa w j=>?_)
 refine RL.cY 1 v1 j zr fun ab w j=>?_
 refine aM (vi 0) (RL.ns (RL.aY zr jM (RL.aL 1 j zr eY cH (RL.aY zr jM (RL.aL 0 j zr eY cH (RL.jl p0.Y0 p1.Y0 (aM (vi (IntKind.wrap .i64 (p0.Y0 - p1.Y0))) (RL.nt ?_))))))))
 refine RC.ret ?_
 obtain rfl:=oi o
 exact cF ⟨rfl,j.drop 4⟩
def qT (E:World) (V:List HP) (r: (List Int)) (U:Nat->Value) (w:World):Prop:=l6 bG 61 Tryz.f103 (ky E V r) .ret U w
theorem qs {p0: (List Int)} {res: (List Int)} (j:Holds E w (own 3 v0 p0::V)) (o:fJ N p0=some res):
    Calls bG 103 [v0].toArray w (gH (ky E V res)):=by
 unfold fJ at o
 refine enter Tryz.func103 zr zr (RC.sr (aM (.slice none 0 0) (RL.nq (RC.sr (mv v0 (RL.fG 0 p0 j lQ (ic ((p0.length:Int)) 2 (RL.nt ?_))))))))
 refine eL o (fun hc o=>?_) fun hc o=>?_
 ·refine RC.sr (mv v0 (aM v0 (RL.nt (RC.rt ?_))))
  obtain rfl:=oi o
  exact cF (j.pk 1 [0])
 refine RC.ss (RC.sr (aM (vi 1) (RL.nt ?_)))
 obtain⟨a2,hN,o⟩:=bd o
 refine RC.iter (fun(ab:Int)=>SH E V [(0,v0),(3,vi ab)] [own 3 v0 p0]) (fun(ab:Int)=>SH E V [(0,v0)] [own 3 v0 p0]) (qT E V) hN ?_ ?_ ?_ ?_
 ·exact j.sp 1 [0]
 ·rintro ab fl _ w ⟨O,rfl,j⟩ o
  refine RC.seq (RC.sr (mv (vi ab) (mv v0 (RL.fG 0 p0 j lQ (ic ab ((p0.length:Int)) (RL.nt (eL o (fun hc o=>?_) fun hc o=>?_)))))))
  rotate_left
  ·refine RC.ex ?_
   obtain rfl:=oi o
   exact⟨rfl,j.sp 1 [0]⟩
  refine RC.ss (RC.block (RC.seq (RC.xT mixed ?_)))
  have j:=j.drew
  refine RO.go (mv v0 (RO.nx (mv (vi ab) (RO.nx ?_))))
  obtain⟨au,al,o⟩:=bd o
  refine RL.bY 0 j zr zr eD al (RO.nx (RL.dJ (f:=(fun x=>x)) 0 j (jZ 0 j al 0) (bC al).2.1 Fd.self cH (RO.nx (mv v0 (RO.nx (mv (vi ab) (RO.nx (RL.jl ab 1 ?_))))))))
  refine RO.nx ?_
  obtain⟨av,an,o⟩:=bd o
  refine RL.bY 0 j zr zr eD an (RO.nx (RL.dJ (f:=(fun x=>x)) 0 j (jZ 0 j an 0) (bC an).2.1 Fd.self cH (RO.nx (ic au av (RO.last (aG (eL o (fun hc o=>?_) fun hc o=>?_)))))))
  rotate_left
  ·refine RC.skip (bL (aG (RC.region (mv (vi ab) (RL.jl ab 1 (aM (vi (IntKind.wrap .i64 (ab+1))) (RL.nil ?_)))))))
   obtain rfl:=oi o
   exact⟨rfl,j.sp 1 [0]⟩
  refine RC.sr (mv v0 (mv (vi ab) ?_))
  obtain⟨a3,af,o⟩:=bd o
  refine RL.view 0 ab zr j zr zr eD af (aM (vw v0 (Int.toNat ab) 1) (RL.nq (RC.sr (aM (vi 1) (RL.nt ?_)))))
  obtain⟨a4,hN,o⟩:=bd o
  refine RC.iter (fun(aa: (List Int)×Int×Int)=>SH E V [(0,v0),(3,vi aa.2.1),(4,(vw v0 (Int.toNat ab) 1)),(5,vi aa.2.2)] [own 3 v0 aa.1]) (fun(aa: (List Int)×Int×Int)=>SH E V [(0,v0),(3,vi aa.2.1)] [own 3 v0 aa.1]) (fun(r:Empty) _ _=>r.elim) hN ?_ ?_ ?_ ?_
  ·exact j.sp 1 [0]
  ·rintro aa fl _ w ⟨O,rfl,j⟩ o
   refine RC.seq (RC.sr (mv (vi aa.2.2) (mv (vw v0 (Int.toNat ab) 1) (RL.HD (i:=0) (l:=aa.1) zt zr j zr zr lQ (ic aa.2.2 ((((aa.1.length - Int.toNat ab):Nat):Int)) (RL.nt (eL o (fun hc o=>?_) fun hc o=>?_)))))))
   rotate_left
   ·refine RC.ex ?_
    obtain rfl:=oi o
    exact⟨rfl,j.sp 1 [0]⟩
   refine RC.ss (RC.block (RC.seq (RC.xT mixed ?_)))
   have j:=j.drew
   refine RO.go (mv (vw v0 (Int.toNat ab) 1) (RO.nx (mv (vi aa.2.2) (RO.nx ?_))))
   obtain⟨aw,ag,o⟩:=bd o
   refine RL.Ey 0 ab zr j zr zr zr eD (B0 af) (iS ag).1 (iS ag).2 (RO.nx (RL.dJ (f:=(fun x=>x)) 0 j (jZ 0 j (iS ag).2 0) (bC (iS ag).2).2.1 Fd.self cH (RO.nx (mv (vw v0 (Int.toNat ab) 1) (RO.nx (mv (vi aa.2.2) (RO.nx (RL.jl aa.2.2 1 ?_))))))))
   refine RO.nx ?_
   obtain⟨ax,ah,o⟩:=bd o
   refine RL.Ey 0 ab zr j zr zr zr eD (B0 af) (iS ah).1 (iS ah).2 (RO.nx (RL.dJ (f:=(fun x=>x)) 0 j (jZ 0 j (iS ah).2 0) (bC (iS ah).2).2.1 Fd.self cH (RO.nx (ic aw ax (RO.last (aG ?_))))))
   obtain⟨ai,hj,o⟩:=bd o
   refine RC.jn (fun(ai: (List Int)×Int)=>SH E V [(0,v0),(3,vi ai.2),(4,(vw v0 (Int.toNat ab) 1)),(5,vi aa.2.2)] [own 3 v0 ai.1]) ai ?_ ?_
   ·refine eL hj (fun hc hj=>?_) fun hc hj=>?_
    rotate_left
    ·refine RC.skip ?_
     obtain rfl:=oi hj
     exact⟨rfl,j.sp 1 [0]⟩
    refine RC.sr (mv v0 (mv (vi aa.2.1) (mv (vw v0 (Int.toNat ab) 1) (mv (vi aa.2.2) ?_))))
    obtain⟨ay,aj,hj⟩:=bd hj
    refine RL.Ey 0 ab zr j zr zr zr eD (B0 af) (iS aj).1 (iS aj).2 (RL.dJ (f:=(fun x=>x)) 0 j (jZ 0 j (iS aj).2 0) (bC (iS aj).2).2.1 Fd.self cH ?_)
    obtain⟨a5,ao,hj⟩:=bd hj
    refine RL.bY 0 j zr zr eD ao ?_
    have j:=j.sc Int ay
    refine RL.gr (f:=(fun _ y=>y)) 1 0 j (jZ 1 j ao 0) (bC ao).2.1 zr Fs.self cH fun w j=>?_
    refine RL.nt (RC.region (mv (vi aa.2.1) (RL.jl aa.2.1 1 (aM (vi (IntKind.wrap .i64 (aa.2.1+1))) (RL.nil ?_)))))
    obtain rfl:=oi hj
    exact⟨rfl,j.sp 2 [1]⟩
   rintro _ w ⟨O,rfl,j⟩
   refine bL (aG (RC.region (mv (vi aa.2.2) (RL.jl aa.2.2 1 (aM (vi (IntKind.wrap .i64 (aa.2.2+1))) (RL.nil ?_))))))
   obtain rfl:=oi o
   exact⟨rfl,j.sp 1 [0]⟩
  ·intro r _ _ _ _
   exact r.elim
  rintro aa _ w rfl ⟨O,rfl,j⟩
  rw [Fo.f0] at o
  refine aG (RC.sr (mv v0 (mv (vi aa.2.1) ?_)))
  obtain⟨a6,aq,o⟩:=bd o
  refine RL.view 0 aa.2.1 zr j zr zr eD aq (RL.Az 0 zt j zr zr tU Ii (Ez aq) fun w j=>(RL.ns (mv v0 (mv (vi aa.2.1) ?_))))
  obtain⟨a7,az,o⟩:=bd o
  refine RL.zh 0 zr j zr zr eD (.inr ⟨rfl,zr⟩) az fun a0 j=>(aM a0 (RL.nt (RC.rb (bV ?_))))
  obtain rfl:=oi o
  exact⟨rfl,cF (j.pk 1 [0])⟩
 ·intro r U w e hK
  subst e
  refine bV ?_
  obtain rfl:=oi o
  exact hK
 rintro ab _ w rfl ⟨O,rfl,j⟩
 rw [Fo.f0] at o
 refine aG (RC.sr (mv v0 (aM v0 (RL.nt (RC.ret ?_)))))
 obtain rfl:=oi o
 exact cF (j.pk 1 [0])
theorem ud {p0:aI} {p1: (List Int)} {res:Bool} (j:Holds E w V) (h0:V[i0]? =some (rd v0 p0)) (h1:V[i1]? =some (pt v1 p1)) (h2:V[i2]? =some (pt v2 p2)) (o:lU N p0 p1 p2=some res):
    Calls bG 105 [v0,v1,v2].toArray w (gH (bF E V res)):=by
 unfold lU at o
 refine enter Tryz.func105 zr zr ?_
 have j:=((j.dup (i0+0) h0).wE (i:=i1+1) h1).wE (i:=i2+2) h2
 refine RC.sr (RL.cY 2 v0 j zr fun ad w j=>?_)
 refine aM (vb false) (RL.nq (RC.xT mixed ?_))
 have j:=j.drew
 refine RO.go (RL.aY zr nM (RO.nx (RL.aL 0 j zr jA cH (RO.nx (RL.bO 2 p1 j fz fun ae j=>(RO.nx (RL.bI p2 2 j cH (RO.nx ?_))))))))
 obtain⟨aa,ab,o⟩:=bd o
 refine RL.cC 0 j eD ab fun af j=>(RO.nx (RL.bI aa 0 j cH (RO.nx (ic p0.Y1 aa (RO.nx (aM (vb (decide (p0.Y1<=aa))) (RO.last (aG ?_))))))))
 refine RC.ret ?_
 obtain rfl:=oi o
 exact cF ⟨rfl,j.drop 6⟩
def pj (E:World) (V:List HP) (r:Int) (U:Nat->Value) (w:World):Prop:=l6 bG 19 Tryz.f117 (aP E V r) .ret U w
theorem oS {p0: (List aI)} {p1:aI->Option Bool} (j:Holds E w V) (h0:V[i0]? =some (rd v0 p0)) (h1:F4 bG E V v1 p1 (fun(r:Bool)=>Value.bool r)) (o:j6 N p0 p1=some res):
    Calls bG 117 [v0,v1].toArray w (gH (aP E V res)):=by
 unfold j6 at o
 refine enter Tryz.func117 zr zr ?_
 have j:=j.dup (i0+0) h0
 refine RC.sr (aM (vi 0) (RL.nq (RC.sr (mv v0 (RL.bB 0 p0 j og (mv (vi 0) (RL.nt ?_)))))))
 obtain⟨al,hN,o⟩:=bd o
 refine RC.range (fun(aa:Nat) (ab:Unit)=>SH E V [(0,v0),(1,v1),(7,vi p0.length),(8,vi aa)] [rd v0 p0]) (fun(ab:Unit)=>SH E V [] [rd v0 p0]) (pj E V) hN ?_ ?_ ?_ ?_ ?_
 ·exact j.sp 1 [0]
 ·rintro hm ab _ w ⟨O,rfl,j⟩
  refine RC.sr (ic ((p0.length:Int)) ((p0.length:Int)) (RL.nq (RC.cO l9 (RC.ex ?_))))
  exact⟨rfl,j.sp 1 [0]⟩
 ·rintro hm aa ab fl _ w hk ⟨O,rfl,j⟩ o
  refine RC.sr (ic ((aa:Int)) ((p0.length:Int)) (RL.nq (RC.cN (l8 hk) (RC.ss (RC.bs (mv (vi aa) (aM (vi aa) (RL.ns ?_))))))))
  refine mv v1 (mv v0 (mv (vi aa) ?_))
  obtain⟨ag,ah,o⟩:=bd o
  refine RL.cC 0 j ku ah fun ao j=>(RL.bO 0 ag j fC fun aq j=>?_)
  obtain⟨ar,ai,o⟩:=bd o
  refine RL.zg 0 zr j zr h1 3 zr zr zr ai fun w j=>(RL.nt (eL o (fun hc o=>?_) fun hc o=>?_))
  rotate_left
  ·refine RC.skip (bL (aG (RC.region (RL.inc hk hm (mv (vi ((aa+1:Nat):Int)) (RL.nil ?_))))))
   obtain rfl:=oi o
   exact⟨rfl,j.sp 3 [2]⟩
  refine RC.sr (mv (vi aa) (aM (vi aa) (RL.nt (RC.rb (bV ?_)))))
  obtain rfl:=oi o
  exact⟨rfl,cF ⟨rfl,j.drop 3⟩⟩
 ·intro r U w e hK
  subst e
  refine bV ?_
  obtain rfl:=oi o
  exact hK
 rintro ab _ w rfl ⟨O,rfl,j⟩
 rw [Fo.f0] at o
 refine aG (RC.sr (aM (vi (-1)) (RL.nt (RC.ret ?_))))
 obtain rfl:=oi o
 exact cF ⟨rfl,j.drop 1⟩
def kz (E:World) (V:List HP) (v0:Value) (p0: (List aI)) (res:Int) (v:Value) (w:World):Prop:=v= (vi res)/\Holds E w ([own 74 v0 p0]++V)
def nP (E:World) (V:List HP) (v0:Value) (p0: (List aI)) (r:Int) (U:Nat->Value) (w:World):Prop:=l6 bG 19 Tryz.f117 (kz E V v0 p0 r) .ret U w
theorem np {p0: (List aI)} {p1:aI->Option Bool} (o:Holds E w (own 74 v0 p0::V)) (h1:F4 bG E V v1 p1 (fun(r:Bool)=>Value.bool r)) (j:jf N p0 p1=some res):
    Calls bG 117 [v0,v1].toArray w (gH (kz E V v0 p0 res)):=by
 unfold jf at j
 refine enter Tryz.func117 zr zr (RC.sr (aM (vi 0) (RL.nq (RC.sr (mv v0 (RL.fG 0 p0 o og (mv (vi 0) (RL.nt ?_))))))))
 obtain⟨ak,hN,j⟩:=bd j
 refine RC.range (fun(aa:Nat) (ab:Unit)=>SH E V [(0,v0),(1,v1),(7,vi p0.length),(8,vi aa)] [own 74 v0 p0]) (fun(ab:Unit)=>SH E V [(0,v0)] [own 74 v0 p0]) (nP E V v0 p0) hN ?_ ?_ ?_ ?_ ?_
 ·exact o.sp 1 [0]
 ·rintro hm ab _ w ⟨O,rfl,o⟩
  refine RC.sr (ic ((p0.length:Int)) ((p0.length:Int)) (RL.nq (RC.cO l9 (RC.ex ?_))))
  exact⟨rfl,o.sp 1 [0]⟩
 ·rintro hm aa ab fl _ w hk ⟨O,rfl,o⟩ j
  refine RC.sr (ic ((aa:Int)) ((p0.length:Int)) (RL.nq (RC.cN (l8 hk) (RC.ss (RC.bs (mv (vi aa) (aM (vi aa) (RL.ns ?_))))))))
  refine mv v1 (mv v0 (mv (vi aa) ?_))
  obtain⟨an,ad,j⟩:=bd j
  refine RL.bY 0 o zr zr ku ad (RL.kK (f:=(fun x=>x)) 0 o (jZ 0 o ad 0) (bC ad).2.1 Fd.self fC fun ao o=>?_)
  obtain⟨aq,ah,j⟩:=bd j
  refine RL.zg 0 zr o zr h1 2 zr zr zr ah fun w o=>(RL.nt (eL j (fun hc j=>?_) fun hc j=>?_))
  rotate_left
  ·refine RC.skip (bL (aG (RC.region (RL.inc hk hm (mv (vi ((aa+1:Nat):Int)) (RL.nil ?_))))))
   obtain rfl:=oi j
   exact⟨rfl,o.sp 2 [1]⟩
  refine RC.sr (mv (vi aa) (aM (vi aa) (RL.nt (RC.rb (bV ?_)))))
  obtain rfl:=oi j
  exact⟨rfl,cF ⟨rfl,o.pk 2 [1]⟩⟩
 ·intro r U w e hK
  subst e
  refine bV ?_
  obtain rfl:=oi j
  exact hK
 rintro ab _ w rfl ⟨O,rfl,o⟩
 rw [Fo.f0] at j
 refine aG (RC.sr (aM (vi (-1)) (RL.nt (RC.ret ?_))))
 obtain rfl:=oi j
 exact cF ⟨rfl,o.pk 1 [0]⟩
theorem oj {p0: (List aI)} {p1:aI->Option Bool} {res: (List aI)} (j:Holds E w (own 74 v0 p0::V)) (h1:F4 bG E V v1 p1 (fun(r:Bool)=>Value.bool r)) (o:f9 N p0 p1=some res):
    Calls bG 104 [v0,v1].toArray w (gH (kY E V res)):=by
 unfold f9 at o
 refine enter Tryz.func104 zr zr (RC.sr (aM (.slice none 0 0) (RL.ns (mv v0 (mv v1 ?_)))))
 have j:=j.pull 0
 obtain⟨ad,aj,o⟩:=bd o
 refine RL.call zt zr G4 [v0,v1] zr (aF (np N j (h1.lift 1 zr) aj) ?_)
 rintro _ w ⟨rfl,j⟩
 refine aM (vi ad) (RL.nq (RC.sr (mv (vi ad) (ic ad ((-1)) (RL.nt (eL o (fun hc o=>?_) fun hc o=>?_))))))
 ·refine RC.sr (mv v0 (aM v0 (RL.nt (RC.rt ?_))))
  obtain rfl:=oi o
  exact cF (j.pk 2 [0])
 refine RC.ss (RC.sr (mv (vi ad) (RL.jl ad 1 (aM (vi (IntKind.wrap .i64 (ad+1))) (RL.nt ?_)))))
 obtain⟨ar,hN,o⟩:=bd o
 refine RC.iter (fun(aa: (List aI)×Int×Int)=>SH E V [(0,v0),(1,v1),(5,vi aa.2.1),(6,vi aa.2.2)] [own 74 v0 aa.1]) (fun(aa: (List aI)×Int×Int)=>SH E V [(0,v0),(5,vi aa.2.1)] [own 74 v0 aa.1]) (fun(r:Empty) _ _=>r.elim) hN ?_ ?_ ?_ ?_
 ·exact j.sp 2 [0]
 ·rintro aa fl _ w ⟨O,rfl,j⟩ o
  refine RC.seq (RC.sr (mv (vi aa.2.2) (mv v0 (RL.fG 0 aa.1 j og (ic aa.2.2 ((aa.1.length:Int)) (RL.nt (eL o (fun hc o=>?_) fun hc o=>?_)))))))
  rotate_left
  ·refine RC.ex ?_
   obtain rfl:=oi o
   exact⟨rfl,j.sp 1 [0]⟩
  refine RC.ss (RC.bs (mv v0 (mv (vi aa.2.2) ?_)))
  obtain⟨av,ag,o⟩:=bd o
  refine RL.bY 0 j zr zr ku ag (RL.kK (f:=(fun x=>x)) 0 j (jZ 0 j ag 0) (bC ag).2.1 Fd.self fC fun aw j=>?_)
  refine RL.alloc j mo.z fun ax w j=>?_
  refine RL.bA 0 j 1 zr fC fun w j=>?_
  refine RL.ns (mv v1 (RL.aS (f:=(fun x=>x)) 0 j zr Fd.self fC fun ay j=>?_))
  obtain⟨al,an,o⟩:=bd o
  refine RL.zg 0 zr j zr h1 4 zr zr zr an fun w j=>(RL.not al (RL.nt ?_))
  obtain⟨af,hj,o⟩:=bd o
  refine RC.jn (fun(af: (List aI)×Int)=>SH E V [(0,v0),(1,v1),(5,vi af.2),(6,vi aa.2.2)] [own 74 v0 af.1]) af ?_ ?_
  ·refine eL hj (fun hc hj=>?_) fun hc hj=>?_
   rotate_left
   ·refine RC.skip ?_
    obtain rfl:=oi hj
    exact⟨rfl,j.sp 4 [3]⟩
   refine RC.sr (mv v0 (mv (vi aa.2.1) (RL.aS (f:=(fun x=>x)) 1 j zr Fd.self fC fun az j=>?_)))
   obtain⟨a0,ah,hj⟩:=bd hj
   refine RL.bY 4 j zr zr ku ah (RL.gr (f:=(fun _ y=>y)) 4 0 j (jZ 4 j ah 0) (bC ah).2.1 zr Fs.self fC fun w j=>?_)
   refine RL.nt (RC.region (mv (vi aa.2.1) (RL.jl aa.2.1 1 (aM (vi (IntKind.wrap .i64 (aa.2.1+1))) (RL.nil ?_)))))
   obtain rfl:=oi hj
   exact⟨rfl,j.sp 5 [4]⟩
  rintro _ w ⟨O,rfl,j⟩
  refine bL (aG (RC.region (mv (vi aa.2.2) (RL.jl aa.2.2 1 (aM (vi (IntKind.wrap .i64 (aa.2.2+1))) (RL.nil ?_))))))
  obtain rfl:=oi o
  exact⟨rfl,j.sp 1 [0]⟩
 ·intro r _ _ _ _
  exact r.elim
 rintro aa _ w rfl ⟨O,rfl,j⟩
 rw [Fo.f0] at o
 refine aG (RC.sr (mv v0 (mv (vi aa.2.1) ?_)))
 obtain⟨a1,ai,o⟩:=bd o
 refine RL.view 0 aa.2.1 zr j zr zr ku ai (RL.Az 0 zt j zr zr DC KC (Ez ai) fun w j=>(RL.ns (mv v0 (mv (vi aa.2.1) ?_))))
 obtain⟨a2,ao,o⟩:=bd o
 refine RL.zh 0 zr j zr zr ku (.inr ⟨rfl,zr⟩) ao fun aq j=>(aM aq (RL.nt (RC.ret ?_)))
 obtain rfl:=oi o
 exact cF (j.pk 1 [0])
theorem qt {p0 p1:aI} (j:Holds E w V) (h0:V[i0]? =some (rd v0 p0)) (h1:V[i1]? =some (rd v1 p1)) (o:fK N p0 p1=some res):
    Calls bG 130 [v0,v1].toArray w (gH (aP E V res)):=by
 unfold fK at o
 refine enter Tryz.func130 zr zr ?_
 have j:=(j.dup (i0+0) h0).dup (i1+1) h1
 refine RC.sr (RL.cY 1 v0 j zr fun aa w j=>?_)
 refine RL.cY 1 v1 j zr fun ab w j=>?_
 refine aM (vi 0) (RL.ns (RL.aY zr jh (RL.aL 1 j zr eM cH (RL.aY zr jh (RL.aL 0 j zr eM cH (RL.jl p0.X0 p1.X0 (aM (vi (IntKind.wrap .i64 (p0.X0 - p1.X0))) (RL.nt ?_))))))))
 refine RC.ret ?_
 obtain rfl:=oi o
 exact cF ⟨rfl,j.drop 4⟩
def ue (E:World) (V:List HP) (v0:Value) (res: (List Int)×(List aI)) (v:Value) (w:World):Prop:=Holds E w ([own 3 v res.1,own 74 v0 res.2]++V)
theorem tc {p0: (List aI)} {res: (List Int)×(List aI)} (j:Holds E w (own 74 v0 p0::V)) (hb:g9 N p0=some res):
    Calls bG 107 [v0].toArray w (gH (ue E V v0 res)):=by
 unfold g9 at hb
 refine enter Tryz.func107 zr zr (RC.sr (aM (.slice none 0 0) (RL.ns (mv v0 ?_))))
 obtain⟨af,a1,hb⟩:=bd hb
 have j:=j.pull 0
 refine RL.call zt zr G3 [v0,(.func (.func 130) #[] #[])] zr (aF (C0 Tryz.lay100 aI zr fC.F3 fC.sz IH (fun j hi o hr=>qt N j hi o hr) j a1) ?_)
 rintro _ w ⟨rfl,j⟩
 refine RL.ns (aM (.slice none 0 0) (RL.nq (RC.sr (mv v0 (RL.fG 0 af j og (mv (vi 0) (RL.nt ?_)))))))
 have j:=j.cS Int 3
 obtain⟨aa,hN,hb⟩:=bd hb
 refine RC.fold (fun(ah:Nat) (aa: (List Int)) U w=>∃av:Value,SH E V [(0,v0),(3,av),(9,v0),(10,vi af.length),(11,vi ah)] [own 74 v0 af,own 3 av aa] U w) (fun(aa: (List Int)) U w=>∃ai:Value,SH E V [(0,v0),(3,ai)] [own 74 v0 af,own 3 ai aa] U w) hN ?_ ?_ ?_ ?_
 ·exact⟨(.slice none 0 0),j.sp 3 [1,0]⟩
 ·rintro hm aa _ w ⟨a3,O,rfl,j⟩
  refine RC.sr (ic ((af.length:Int)) ((af.length:Int)) (RL.nq (RC.cO l9 (RC.ex ?_))))
  exact⟨rfl,a3,j.sp 2 [0,1]⟩
 ·rintro hm ah aa s' _ w hk ⟨ag,O,rfl,j⟩ hb
  refine RC.sr (ic ((ah:Int)) ((af.length:Int)) (RL.nq (RC.cN (l8 hk) (RC.ss (RC.bs ?_)))))
  obtain⟨ae,ak,hb⟩:=bd hb
  refine RL.bY 0 j zr zr ku ak (RL.kK (f:=(fun x=>x)) 0 j (jZ 0 j ak 0) (bC ak).2.1 Fd.self fC fun a6 j=>?_)
  refine RL.alloc j mo.z fun ay w j=>?_
  refine RL.bA 0 j 1 zr fC fun w j=>?_
  refine RL.ns (mv ag (RL.fG 3 aa j lQ (RL.jl (aa.length:Int) 1 (aM (vi (IntKind.wrap .i64 ((aa.length:Int) - 1))) (RL.nq ?_)))))
  obtain⟨al,o,hb⟩:=bd hb
  refine RC.jn (fun(al:Bool)=>SH E V [(0,v0),(3,ag),(5,vp ay 0),(6,(vi (IntKind.wrap .i64 ((aa.length:Int) - 1)))),(9,v0),(10,vi af.length),(11,vi ah),(28,vb al)] [own 74 v0 af,own 3 ag aa,bx 74 ay ae]) al ?_ ?_
  ·refine RC.xT mixed ?_
   have j:=j.drew
   refine RO.go (mv (vi (IntKind.wrap .i64 ((aa.length:Int) - 1))) (RO.nx (ic ((IntKind.wrap .i64 ((aa.length:Int) - 1))) 0 (RO.nx (mv (vb (decide ((IntKind.wrap .i64 ((aa.length:Int) - 1))>=0))) (fM o (fun ab o=>?_) fun ab o=>?_))))))
   rotate_left
   ·refine RO.nx (bJ ab (RO.nx (bJ ab (RO.nx (bJ ab (RO.nx (bJ ab (RO.nx ?_))))))))
    refine bJ ab (RO.nx (bJ ab (RO.nx (bJ ab (RO.nx (fI ab (vb false) (RO.last ?_)))))))
    obtain rfl:=oi o
    exact⟨rfl,j.sp 4 [2,3,0]⟩
   refine RO.nx (RL.aY (hg:=(cg ab)) zr jh (RO.nx (RL.aL (hg:=(cg ab)) 0 j zr eM cH (RO.nx (RL.move ag (cg ab) (RO.nx (RL.move (vi (IntKind.wrap .i64 ((aa.length:Int) - 1))) (cg ab) (RO.nx ?_))))))))
   obtain⟨az,an,o⟩:=bd o
   refine RL.bY (hg:=(cg ab)) 3 j zr zr eD an (RO.nx (RL.dJ (hg:=(cg ab)) (f:=(fun x=>x)) 3 j (jZ 3 j an 0) (bC an).2.1 Fd.self cH (RO.nx (RL.jk ae.X0 az (cg ab) (RO.nx (fI ab (vb (decide (ae.X0<=az))) (RO.last ?_)))))))
   obtain rfl:=oi o
   exact⟨rfl,j.sp 4 [2,3,0]⟩
  rintro _ w ⟨O,rfl,j⟩
  refine aG ?_
  obtain⟨ao,o,hb⟩:=bd hb
  refine RC.jn (fun(ao: (List Int)) U w=>∃aj:Value,SH E V [(0,v0),(3,aj),(9,v0),(10,vi af.length),(11,vi ah)] [own 74 v0 af,own 3 aj ao] U w) ao ?_ ?_
  ·refine eL o (fun hc o=>?_) fun hc o=>?_
   rotate_left
   ·refine RC.region (mv ag (RL.aY zr jh (RL.aL 2 j zr eM cH (RL.aY zr kx (RL.aL 2 j zr gk cH ?_)))))
    have j:=(j.sc Int ae.X0).sc Int ae.X1
    refine RL.eJ ([ae.X0,ae.X1]: (List Int)) j [(vi ae.X0),(vi ae.X1)] eD Ej (fun M hs g=>⟨(g.sat 1 _ zr).1,⟨(g.sat 0 _ zr).1,zt⟩⟩) fun a7 w j=>?_
    have j:=j.freeze 0
    obtain⟨a8,a5,o⟩:=bd o
    refine RL.app 4 0 j tU a5 fun a0 w j=>?_
    refine aM a0 (RL.nil ?_)
    obtain rfl:=oi o
    exact⟨rfl,a0,j.sp 6 [3,4]⟩
   refine RC.wk mixed [0,0,0,0,0,0,0,0,0,0,2] [0,1,2,3,4,5,6,7,8,9,10] ?_
   have j:=j.drew
   refine DP.e0 zr (mv ag (bU zr (mv (vi (IntKind.wrap .i64 ((aa.length:Int) - 1))) (bU zr (mv ag (bU zr (mv (vi (IntKind.wrap .i64 ((aa.length:Int) - 1))) (bU zr ?_))))))))
   obtain⟨aq,ar,o⟩:=bd o
   refine RL.bY 1 j zr zr eD ar (bU zr (RL.dJ (f:=(fun x=>x)) 1 j (jZ 1 j ar 0) (bC ar).2.1 Fd.self cH (bU zr (RL.aY zr kx (bU zr (RL.aL 2 j zr gk cH (bU zr (RL.max aq ae.X1 ?_))))))))
   refine bU zr ?_
   obtain⟨a9,au,o⟩:=bd o
   refine RL.bY 1 j zr zr eD au (sS zr ?_)
   have j:=j.sc Int (if aq<ae.X1 then ae.X1 else aq)
   refine RL.gr (f:=(fun _ y=>y)) 2 0 j (jZ 2 j au 0) (bC au).2.1 zr Fs.self cH fun w j=>?_
   refine DP.d2 zt (DP.z ?_)
   obtain rfl:=oi o
   exact⟨rfl,ag,j.sp 4 [1,2]⟩
  rintro _ w ⟨aj,O,rfl,j⟩
  refine bL (aG (RC.region (RL.inc hk hm (mv (vi ((ah+1:Nat):Int)) (RL.nil ?_)))))
  obtain rfl:=oi hb
  exact⟨rfl,aj,j.sp 2 [0,1]⟩
 rintro _ w ⟨ai,O,rfl,j⟩
 refine aG (RC.sr (mv ai (aM ai (RL.nt (RC.ret ?_)))))
 obtain rfl:=oi hb
 exact cF (j.pk 2 [1,0])
def te (E:World) (V:List HP) (r:Bool) (U:Nat->Value) (w:World):Prop:=l6 bG 26 Tryz.f129 (bF E V r) .ret U w
theorem r7 {p0: (List Int)} {p1: (List Int)} {res:Bool} (j:Holds E w V) (h0:V[i0]? =some (rd v0 p0)) (h1:V[i1]? =some (rd v1 p1)) (o:kM N p0 p1=some res):
    Calls bG 129 [v0,v1].toArray w (gH (bF E V res)):=by
 unfold kM at o
 refine enter Tryz.func129 zr zr ?_
 have j:=(j.dup (i0+0) h0).dup (i1+1) h1
 refine RC.sr (aM (vb false) (RL.nq (RC.sr (mv v0 (RL.bB 1 p0 j lQ (mv v1 (RL.bB 0 p1 j lQ (ic ((p0.length:Int)) ((p1.length:Int)) ?_))))))))
 refine RL.nt (eL o (fun hc o=>?_) fun hc o=>?_)
 ·refine RC.sr (aM (vb false) (RL.nt (RC.rt ?_)))
  obtain rfl:=oi o
  exact cF ⟨rfl,j.drop 2⟩
 refine RC.ss (RC.sr (mv v0 (RL.bB 1 p0 j lQ (mv (vi 0) (RL.nt ?_)))))
 obtain⟨an,hN,o⟩:=bd o
 refine RC.range (fun(aa:Nat) (ab:Unit)=>SH E V [(0,v0),(1,v1),(12,vi p0.length),(13,vi aa)] [rd v0 p0,rd v1 p1]) (fun(ab:Unit)=>SH E V [] [rd v0 p0,rd v1 p1]) (te E V) hN ?_ ?_ ?_ ?_ ?_
 ·exact j.sp 2 [1,0]
 ·rintro hm ab _ w ⟨O,rfl,j⟩
  refine RC.sr (ic ((p0.length:Int)) ((p0.length:Int)) (RL.nq (RC.cO l9 (RC.ex ?_))))
  exact⟨rfl,j.sp 2 [0,1]⟩
 ·rintro hm aa ab fl _ w hk ⟨O,rfl,j⟩ o
  refine RC.sr (ic ((aa:Int)) ((p0.length:Int)) (RL.nq (RC.cN (l8 hk) (RC.ss (RC.bs (mv (vi aa) (aM (vi aa) (RL.nq ?_))))))))
  refine RC.xT mixed ?_
  have j:=j.drew
  refine RO.go (mv v0 (RO.nx (mv (vi aa) (RO.nx ?_))))
  obtain⟨ag,aj,o⟩:=bd o
  refine RL.cC 0 j eD aj fun aq j=>(RO.nx (RL.bI ag 0 j cH (RO.nx (mv v1 (RO.nx (mv (vi aa) (RO.nx ?_)))))))
  obtain⟨ah,ak,o⟩:=bd o
  refine RL.cC 2 j eD ak fun ar j=>(RO.nx (RL.bI ah 0 j cH (RO.nx (ic ag ah (RO.last (aG (eL o (fun hc o=>?_) fun hc o=>?_)))))))
  rotate_left
  ·refine RC.skip (bL (aG (RC.region (RL.inc hk hm (mv (vi ((aa+1:Nat):Int)) (RL.nil ?_))))))
   obtain rfl:=oi o
   exact⟨rfl,j.sp 4 [2,3]⟩
  refine RC.sr (aM (vb false) (RL.nt (RC.rb (bV ?_))))
  obtain rfl:=oi o
  exact⟨rfl,cF ⟨rfl,j.drop 4⟩⟩
 ·intro r U w e hK
  subst e
  refine bV ?_
  obtain rfl:=oi o
  exact hK
 rintro ab _ w rfl ⟨O,rfl,j⟩
 rw [Fo.f0] at o
 refine aG (RC.sr (aM (vb true) (RL.nt (RC.ret ?_))))
 obtain rfl:=oi o
 exact cF ⟨rfl,j.drop 2⟩
theorem oD {p0: (List aA)} {p1:aA} {res: (List aA)} (j:Holds E w (own 187 v0 p0::V)) (h1:V[i1]? =some (rd v1 p1)) (hb:gN N p0 p1=some res):
    Calls bG 106 [v0,v1].toArray w (gH (kR E V res)):=by
 unfold gN at hb
 refine enter Tryz.func106 zr zr ?_
 have j:=j.dup (i1+1) h1
 refine RC.sr (RL.cY 0 v1 j zr fun ae w j=>?_)
 refine aM (.slice none 0 0) (RL.nq (RC.sr (RL.aY zr kd (RL.aS 0 j zr dB fz fun aw j=>(RL.bB 0 p1.Xs j lQ (ic ((p1.Xs.length:Int)) 0 (mv (vb ((p1.Xs.length:Int)==0)) (RL.gs true ((p1.Xs.length:Int)==0) (vp ae 1) zr zr zr (dN ly) ?_))))))))
 refine RL.gs true ((p1.Xs.length:Int)==0) (vi p1.Y1) rfl rfl rfl (bW 1 rfl j (fun h=>by exact(cT h:cv (true&&(((p1.Xs.length:Int)==0)==false)) (vp ae 1)= (vp ae 1))) rfl eC cH) (RL.gs true ((p1.Xs.length:Int)==0) (vp ae 0) rfl rfl rfl (dN nk) (RL.gs true ((p1.Xs.length:Int)==0) (vi p1.Y0) rfl rfl rfl (bW 1 rfl j (fun h=>by exact(cT h:cv (true&&(((p1.Xs.length:Int)==0)==false)) (vp ae 0)= (vp ae 0))) rfl fH cH) (RL.gs true ((p1.Xs.length:Int)==0) (vb (decide (p1.Y1<=p1.Y0))) rfl rfl rfl (dY .leq .i64 p1.Y1 p1.Y0 rfl (fun h=>by exact(cT h:cv (true&&(((p1.Xs.length:Int)==0)==false)) (vi p1.Y1)= (vi p1.Y1))) (fun h=>by exact(cT h:cv (true&&(((p1.Xs.length:Int)==0)==false)) (vi p1.Y0)= (vi p1.Y0))) rfl) (RL.pick ((p1.Xs.length:Int)==0) (vb (((p1.Xs.length:Int)==0)||(decide (p1.Y1<=p1.Y0)))) (nE true rfl) (RL.nt (eL hb (fun hc hb=>?_) fun hc hb=>?_))))))
 ·refine RC.sr (mv v0 (aM v0 (RL.nt (RC.rt ?_))))
  obtain rfl:=oi hb
  exact cF (j.pk 4 [3])
 refine RC.ss (RC.sr (mv v0 (RL.fG 3 p0 j m5 (RL.jl (p0.length:Int) 1 (aM (vi (IntKind.wrap .i64 ((p0.length:Int) - 1))) (RL.nq ?_))))))
 obtain⟨aj,hj,hb⟩:=bd hb
 refine RC.jn (fun(aj:Bool)=>SH E V [(0,v0),(3,vp ae 0),(5,(vi (IntKind.wrap .i64 ((p0.length:Int) - 1)))),(42,vb aj)] [own 187 v0 p0,bx 187 ae p1]) aj ?_ ?_
 ·refine RC.wk mixed [0,0,0,0,0,0,0,0,0,0,0,0,0,0,0,0,0,0,0,0,2,0] [0,1,2,3,4,5,6,7,8,9,10,11,12,13,14,15,16,17,18,19,20,21] ?_
  have j:=j.drew
  refine DP.e0 zr (mv (vi (IntKind.wrap .i64 ((p0.length:Int) - 1))) (bU zr (ic ((IntKind.wrap .i64 ((p0.length:Int) - 1))) 0 (bU zr (mv (vb (decide ((IntKind.wrap .i64 ((p0.length:Int) - 1))>=0))) (DP.d0 (fM hj (fun o hj=>?_) fun o hj=>?_)))))))
  rotate_left
  ·refine DP.e0 zr (bJ o (bU zr (bJ o (bU zr (bJ o (bU zr (bJ o (bU zr ?_))))))))
   refine bJ o (bU zr (bJ o (bU zr (bJ o (bU zr (bJ o (bU zr (fI o (vb false) ?_))))))))
   refine bU zr (mv (vb false) (bU zr (n9 (bU zr (n9 (bU zr (n9 (bU zr ?_))))))))
   refine n9 (bU zr (n9 (bU zr (n9 (bU zr (n9 (sS zr (n9 ?_))))))))
   refine wm zr (RL.pick false (vb false) zr (DP.d0 (DP.z ?_)))
   obtain rfl:=oi hj
   exact⟨rfl,j.sp 4 [3,1]⟩
  refine DP.e0 zr (RL.move v0 (cg o) (bU zr (RL.move (vi (IntKind.wrap .i64 ((p0.length:Int) - 1))) (cg o) (bU zr ?_))))
  obtain⟨ak,af,hj⟩:=bd hj
  refine RL.bY (hg:=(cg o)) 3 j zr zr jW af (bU zr (RL.mS (hg:=(cg o)) (α:=aA) (jZ 3 j af 0) ly (bU zr (RL.dJ (hg:=(cg o)) 3 j (jZ 3 j af 1) (bC af).2.1 eC cH (bU zr (RL.aY (hg:=(cg o)) zr nk (bU zr (RL.aL (hg:=(cg o)) 1 j zr fH cH ?_))))))))
  refine bU zr (RL.jk ak.Y1 p1.Y0 (cg o) (bU zr (fI o (vb (ak.Y1==p1.Y0)) (bU zr (mv (vb (ak.Y1==p1.Y0)) (DP.d0 (fM hj (fun aa hj=>?_) fun aa hj=>?_)))))))
  rotate_left
  ·refine DP.e0 zr (bJ aa (bU zr (bJ aa (bU zr (bJ aa (bU zr (bJ aa (bU zr ?_))))))))
   refine bJ aa (bU zr (bJ aa (bU zr (bJ aa (sS zr (bJ aa (wm zr (fI aa (vb false) ?_))))))))
   refine DP.d0 (DP.z ?_)
   obtain rfl:=oi hj
   exact⟨rfl,j.sp 4 [3,1]⟩
  refine DP.e0 zr (RL.move v0 (cg aa) (bU zr (RL.move (vi (IntKind.wrap .i64 ((p0.length:Int) - 1))) (cg aa) (bU zr ?_))))
  obtain⟨ax,ag,hj⟩:=bd hj
  refine RL.bY (hg:=(cg aa)) 3 j zr zr jW ag (bU zr (RL.mS (hg:=(cg aa)) (α:=aA) (jZ 3 j ag 0) kd (bU zr (RL.kK (hg:=(cg aa)) 3 j (jZ 3 j ag 2) (bC ag).2.1 dB fz fun al j=>?_))))
  refine bU zr (RL.aY (hg:=(cg aa)) zr kd (bU zr (RL.aS (hg:=(cg aa)) 2 j zr dB fz fun an j=>(sS zr ?_))))
  obtain⟨ao,aq,hj⟩:=bd hj
  refine RL.call (cg aa) zr IJ [al,an] zr (aF (r7 N (i0:=1) (i1:=0) j zr zr aq) ?_)
  rintro _ w ⟨rfl,j⟩
  refine wm zr (fI aa (vb ao) (DP.d0 (DP.z ?_)))
  obtain rfl:=oi hj
  exact⟨rfl,j.sp 6 [5,3]⟩
 rintro _ w ⟨O,rfl,j⟩
 refine aG (eL hb (fun hc hb=>?_) fun hc hb=>?_)
 rotate_left
 ·refine RC.sx (mv v0 (RL.aS (f:=(fun x=>x)) 1 j zr Fd.self tV fun ar j=>(RL.eJ ([p1]: (List aA)) j [ar] jW A1 (fun M hs g=>⟨(g.sat 0 _ zr).1,zt⟩) fun ay w j=>?_)))
  have j:=j.freeze 0
  obtain⟨az,au,hb⟩:=bd hb
  refine RL.app 2 0 j IK au fun av w j=>?_
  refine aM av (RL.nt (RC.ret ?_))
  obtain rfl:=oi hb
  exact cF (j.pk 4 [2])
 refine RC.sr (mv v0 (mv (vi (IntKind.wrap .i64 ((p0.length:Int) - 1))) (RL.aY zr ly (RL.aL 1 j zr eC cH ?_))))
 obtain⟨a0,ah,hb⟩:=bd hb
 refine RL.bY 0 j zr zr jW ah (RL.mS (α:=aA) (jZ 0 j ah 0) ly ?_)
 have j:=j.sc Int p1.Y1
 refine RL.gr 1 0 j (jZ 1 j ah 1) (bC ah).2.1 zr mV cH fun w j=>?_
 refine RL.ns (mv v0 (aM v0 (RL.nt (RC.rt ?_))))
 obtain rfl:=oi hb
 exact cF (j.pk 3 [1])
theorem kA {p0: (List aI)} {res: (List aA)} (o:Holds E w V) (h0:V[i0]? =some (rd v0 p0)) (hb:fP N p0=some res):
    Calls bG 70 [v0].toArray w (gH (kR E V res)):=by
 unfold fP at hb
 refine enter Tryz.func70 zr zr ?_
 have o:=o.dup (i0+0) h0
 refine RC.sr (aM (.slice none 0 0) (RL.ns (mv v0 ?_)))
 obtain⟨cf,bn,hb⟩:=bd hb
 refine RL.call zt zr KB [v0] zr (aF (qS N (i0:=0) o zr bn) ?_)
 rintro ae w o
 refine aM ae (RL.ns (mv ae ?_))
 obtain⟨ah,bo,hb⟩:=bd hb
 have o:=o.pull 0
 refine RL.call zt zr G3 [ae,(.func (.func 101) #[] #[])] zr (aF (C0 Tryz.lay100 aI zr fC.F3 fC.sz IB (fun o hi hj hr=>uc N o hi hj hr) o bo) ?_)
 rintro _ w ⟨rfl,o⟩
 refine RL.ns (RL.o4 o IC fun ag w o=>?_)
 refine RL.nq (RC.sr (mv ae (RL.fG 1 ah o og (mv (vi 0) (RL.nt ?_)))))
 obtain⟨ao,hN,hb⟩:=bd hb
 refine RC.fold (fun(aw:Nat) (ao: (List Int)) U w=>∃a6:Value,SH E V [(0,ae),(3,vp ag 0),(14,ae),(15,vi ah.length),(16,vi aw)] [own 74 ae ah,bc 87 ag [a6],own 3 a6 ao] U w) (fun(ao: (List Int)) U w=>∃an:Value,SH E V [(0,ae),(3,vp ag 0)] [own 74 ae ah,bc 87 ag [an],own 3 an ao] U w) hN ?_ ?_ ?_ ?_
 ·have o:=o.cS Int 3
  exact⟨(.slice none 0 0),o.sp 5 [2,1,0]⟩
 ·rintro hm ao _ w ⟨bp,O,rfl,o⟩
  refine RC.sr (ic ((ah.length:Int)) ((ah.length:Int)) (RL.nq (RC.cO l9 (RC.ex ?_))))
  exact⟨rfl,bp,o.sp 3 [0,1,2]⟩
 ·rintro hm aw ao s' _ w hk ⟨bq,O,rfl,o⟩ hb
  refine RC.sr (ic ((aw:Int)) ((ah.length:Int)) (RL.nq (RC.cN (l8 hk) (RC.ss (RC.bs ?_)))))
  obtain⟨aq,a1,hb⟩:=bd hb
  refine RL.bY 0 o zr zr ku a1 (RL.kK (f:=(fun x=>x)) 0 o (jZ 0 o a1 0) (bC a1).2.1 Fd.self fC fun ch o=>?_)
  refine RL.alloc o mo.z fun cj w o=>?_
  refine RL.bA 0 o 1 zr fC fun w o=>?_
  refine RL.nt (RC.region (RL.aW 3 bq o fz (RL.aY zr jM (RL.aL 0 o zr eY cH (RL.aY zr nM (RL.aL 0 o zr jA cH ?_))))))
  have o:=(o.sc Int aq.Y0).sc Int aq.Y1
  refine RL.eJ ([aq.Y0,aq.Y1]: (List Int)) o [(vi aq.Y0),(vi aq.Y1)] eD Ej (fun M hs g=>⟨(g.sat 1 _ zr).1,⟨(g.sat 0 _ zr).1,zt⟩⟩) fun ck w o=>?_
  have o:=o.freeze 0
  obtain⟨cl,br,hb⟩:=bd hb
  refine RL.app 7 0 o tU br fun a9 w o=>?_
  refine RL.gK 6 a9 o zr zr (ir 7 o) fz fun w o=>?_
  refine RL.nil (bL (aG (RC.region (RL.inc hk hm (mv (vi ((aw+1:Nat):Int)) (RL.nil ?_))))))
  obtain rfl:=oi hb
  exact⟨rfl,a9,o.sp 8 [5,6,7]⟩
 rintro _ w ⟨an,O,rfl,o⟩
 refine aG (RC.sr (RL.aW 1 an o fz ?_))
 obtain⟨cm,bt,hb⟩:=bd hb
 have o:=o.pull 2
 refine RL.call zt zr ID [an] zr (aF (Fj Tryz.lay102 o bt) ?_)
 rintro _ w ⟨rfl,o⟩
 refine RL.ns (RL.aW 2 an o fz ?_)
 have o:=o.pull 0
 obtain⟨ai,bu,hb⟩:=bd hb
 refine RL.call zt zr IE [an] zr (aF (qs N o bu) ?_)
 rintro bw w o
 refine RL.gK 3 bw o zr zr (ir 0 o) fz fun w o=>?_
 refine RL.ns (aM (.slice none 0 0) (RL.ns (aM (.slice none 0 0) (RL.ns (aM (vi 0) (RL.nq (RC.sr (RL.alloc o Ej.z fun bz w o=>?_))))))))
 have o:=o.sc Int 0
 refine RL.bA 1 o 0 zr cH fun w o=>?_
 refine RL.nt ?_
 have o:=((((o.freeze 2).Ev (i:=5) (x:=ai) rfl (fun M hs g=>(kX (g.sat 2 _ rfl).1))).gx (i:=5) rfl).cS aA 187).cS aI 74
 obtain⟨cn,hN,hb⟩:=bd hb
 refine RC.iter (fun(ab: (List aA)×(List aI)×Int×Int) U w=>∃(ba bb:Value) (bf:Nat),SH E V [(0,ae),(3,vp ag 0),(6,ba),(7,bb),(8,vi ab.2.2.1),(9,vp bf 0)] [own 74 ae ah,pt (vp ag 0) ai,own 187 ba ab.1,own 74 bb ab.2.1,bx 3 bf ab.2.2.2] U w) (fun(ab: (List aA)×(List aI)×Int×Int) U w=>∃av:Value,SH E V [(6,av)] [own 74 ae ah,pt (vp ag 0) ai,own 187 av ab.1] U w) (fun(r:Empty) _ _=>r.elim) hN ?_ ?_ ?_ ?_
 ·exact⟨(.slice none 0 0),(.slice none 0 0),bz,o.sp 9 [6,7,1,0,3]⟩
 ·rintro ab fl _ w ⟨ak,bg,al,O,rfl,o⟩ hb
  refine RC.seq (RC.sr (RL.aL (f:=(fun x=>x)) 4 o zr Fd.self cH (RL.jl ab.2.2.2 1 (RL.bO 1 ai o fz fun cp o=>(RL.bB 0 ai o lQ (ic ((IntKind.wrap .i64 (ab.2.2.2+1))) ((ai.length:Int)) (RL.nt (eL hb (fun hc hb=>?_) fun hc hb=>?_))))))))
  rotate_left
  ·refine RC.ex ?_
   obtain rfl:=oi hb
   exact⟨rfl,ak,o.sp 6 [1,2,3]⟩
  refine RC.ss (RC.bs (mv bg ?_))
  have o:=o.gx (i:=5) rfl
  refine RL.makeFunc [(vp ag 0),(vp al 0)] ?_
  have o:=o.pull 4
  obtain⟨cq,b1,hb⟩:=bd hb
  refine RL.call trivial rfl IG [bg,(.func (.func 105) #[] #[(vp ag 0),(vp al 0)])] rfl (aF (oj N o ⟨105,[(vp ag 0),(vp al 0)],rfl,IF,fun w Γl v y0 r i o hi hr=>by exact aF (ud N (i0:=i) (i1:=Γl.length+2) (i2:=Γl.length+5) o hi (zf rfl) (zf rfl) hr) fun _ _ h=>h⟩ b1) ?_)
  rintro bh w o
  refine aM bh (RL.nq ?_)
  obtain⟨cr,hN,hb⟩:=bd hb
  refine RC.iter (fun(af: (List aI)×Int) U w=>∃bj:Value,SH E V [(0,ae),(3,vp ag 0),(6,ak),(7,bj),(8,vi af.2),(9,vp al 0)] [own 74 ae ah,pt (vp ag 0) ai,own 187 ak ab.1,pt (vp al 0) ab.2.2.2,own 74 bj af.1] U w) (fun(af: (List aI)×Int) U w=>∃ar:Value,SH E V [(0,ae),(3,vp ag 0),(6,ak),(7,ar),(8,vi af.2),(9,vp al 0)] [own 74 ae ah,pt (vp ag 0) ai,own 187 ak ab.1,pt (vp al 0) ab.2.2.2,own 74 ar af.1] U w) (fun(r:Empty) _ _=>r.elim) hN ?_ ?_ ?_ ?_
  ·exact⟨bh,o.sp 7 [2,3,4,6,0]⟩
  ·rintro af fl _ w ⟨ax,O,rfl,o⟩ hb
   refine RC.seq (RC.seq ?_)
   obtain⟨a3,hj,hb⟩:=bd hb
   refine RC.jn (fun(a3:Bool)=>SH E V [(0,ae),(3,vp ag 0),(6,ak),(7,ax),(8,vi af.2),(9,vp al 0),(57,vb a3)] [own 74 ae ah,pt (vp ag 0) ai,own 187 ak ab.1,own 74 ax af.1,pt (vp al 0) ab.2.2.2]) a3 ?_ ?_
   ·refine RC.xT mixed ?_
    have o:=o.drew
    refine RO.go (mv (vi af.2) (RO.nx (mv ae (RO.nx (RL.fG 0 ah o og (RO.nx (ic af.2 ((ah.length:Int)) (RO.nx ?_))))))))
    refine mv (vb (decide (af.2< (ah.length:Int)))) (fM hj (fun ad hj=>?_) fun ad hj=>?_)
    rotate_left
    ·refine RO.nx (bJ ad (RO.nx (bJ ad (RO.nx (bJ ad (RO.nx (bJ ad (RO.nx ?_))))))))
     refine bJ ad (RO.nx (bJ ad (RO.nx (bJ ad (RO.nx (bJ ad (RO.nx (bJ ad ?_))))))))
     refine RO.nx (bJ ad (RO.nx (fI ad (vb false) (RO.last ?_))))
     obtain rfl:=oi hj
     exact⟨rfl,o.sp 5 [0,1,2,4,3]⟩
    refine RO.nx (RL.move ae (cg ad) (RO.nx (RL.move (vi af.2) (cg ad) (RO.nx ?_))))
    obtain⟨bk,ay,hj⟩:=bd hj
    refine RL.bY (hg:=(cg ad)) 0 o zr zr ku ay (RO.nx (RL.mS (hg:=(cg ad)) (α:=aI) (jZ 0 o ay 0) jM (RO.nx (RL.dJ (hg:=(cg ad)) 0 o (jZ 0 o ay 1) (bC ay).2.1 eY cH (RO.nx (RL.bO (hg:=(cg ad)) 1 ai o fz fun ct o=>?_))))))
    refine RO.nx (RL.bI (hg:=(cg ad)) ab.2.2.2 4 o cH (RO.nx ?_))
    obtain⟨a4,b2,hj⟩:=bd hj
    refine RL.cC (hg:=(cg ad)) 0 o eD b2 fun cu o=>(RO.nx (RL.bI (hg:=(cg ad)) a4 0 o cH (RO.nx (RL.jk bk.Y0 a4 (cg ad) (RO.nx (fI ad (vb (decide (bk.Y0<=a4))) (RO.last ?_)))))))
    obtain rfl:=oi hj
    exact⟨rfl,o.sp 7 [2,3,4,6,5]⟩
   rintro _ w ⟨O,rfl,o⟩
   refine aG (eL hb (fun hc hb=>?_) fun hc hb=>?_)
   rotate_left
   ·refine RC.ex ?_
    obtain rfl:=oi hb
    exact⟨rfl,ax,o.sp 5 [0,1,2,4,3]⟩
   refine RC.sn (RC.block (RC.region (mv ax (mv ae (mv (vi af.2) ?_)))))
   obtain⟨b3,a5,hb⟩:=bd hb
   refine RL.bY 0 o zr zr ku a5 (RL.kK (f:=(fun x=>x)) 0 o (jZ 0 o a5 0) (bC a5).2.1 Fd.self fC fun b4 o=>?_)
   refine RL.eJ ([b3]: (List aI)) o [b4] ku mo (fun M hs g=>⟨(g.sat 0 _ zr).1,zt⟩) fun cv w o=>?_
   have o:=o.freeze 0
   obtain⟨cw,b5,hb⟩:=bd hb
   refine RL.app 5 0 o DC b5 fun bl w o=>?_
   refine mv (vi af.2) (RL.jl af.2 1 (aM bl (aM (vi (IntKind.wrap .i64 (af.2+1))) (RL.nil (bL ?_)))))
   obtain rfl:=oi hb
   exact⟨rfl,bl,o.sp 7 [2,3,4,6,5]⟩
  ·intro r _ _ _ _
   exact r.elim
  rintro af _ w rfl ⟨ar,O,rfl,o⟩
  rw [Fo.f0] at hb
  refine aG (RC.wk mixed [1,1,1,1,1,1,1,1,1,1,0,2,0,2,0] [0,1,2,3,4,5,6,7,8,9,10,11,12,13,14] ?_)
  have o:=o.drew
  refine DP.e1 ak zr (fun w=>RL.move ak zt DP.d1) (DP.vY ai 1 zr o fz fun cx a305 cy o=>(DP.CM ab.2.2.2 5 zr zr zr o zr zr cH fun a307 cz o=>?_))
  obtain⟨az,b6,hb⟩:=bd hb
  refine DP.HL 2 zr zr zt zr o zr zr zr eD b6 fun c0 o=>(DP.CM az 0 zr zr zr o zr zr cH fun a311 c1 o=>(DP.vY ai 6 zr o fz fun c2 a314 c3 o=>(DP.CM ab.2.2.2 10 zr zr zr o zr zr cH fun a316 c4 o=>(DP.e1 (vi (IntKind.wrap .i64 (ab.2.2.2+1))) zr (fun w=>RL.jl ab.2.2.2 1 DP.d1) ?_))))
  obtain⟨a0,b7,hb⟩:=bd hb
  refine DP.HL 2 zr zr zt zr o zr zr zr eD b7 fun c5 o=>(DP.CM a0 0 zr zr zr o zr zr cH fun a320 c6 o=>(DP.e0 zr (mv ar (sS zr ?_))))
  have o:=o.pull 14
  obtain⟨b8,b9,hb⟩:=bd hb
  refine RL.call zt zr II [ar] zr (aF (tc N o b9) ?_)
  rintro ca w o
  refine DP.d2 (⟨⟨⟨⟨⟨⟨zt,o.jV 10⟩,o.jV 9⟩,o.jV 7⟩,o.jV 5⟩,o.jV 4⟩,o.jV 2⟩) (DP.e0 zr ?_)
  have o:=((o.sc Int az).sc Int a0).freeze 2
  refine RL.build (⟨az,a0,b8.1⟩:aA) trivial rfl o [(0,vi az),(1,vi a0),(2,ca)] rfl G5 rfl (fun M hs g=>by have h:=tT M;exact cL.cons (f:=fun(x:aA) y=>{x with Y0:=y}) h qg (g.sat 1 _ rfl).1 fun _ h=>cL.cons (f:=fun(x:aA) y=>{x with Y1:=y}) h mV (g.sat 0 _ rfl).1 fun _ h=>cL.cons (f:=fun(x:aA) y=>{x with Xs:=y}) h qh (g.sat 2 _ rfl).1 fun _ h=>cL.nil h) fun cb o=>?_
  refine sS zr ?_
  have o:=o.pull 17
  obtain⟨c7,cc,hb⟩:=bd hb
  refine RL.call zt zr G6 [ak,cb] zr (aF (oD N (i1:=0) o zr cc) ?_)
  rintro bm w o
  refine DP.d2 (⟨⟨⟨⟨⟨⟨zt,o.jV 14⟩,o.jV 13⟩,o.jV 11⟩,o.jV 9⟩,o.jV 8⟩,o.jV 6⟩) (DP.e0 zr (aM bm (DP.d0 ?_)))
  have o:=o.pl 21 [0,1,2,3,4,5,7,10,12,15,16,17,18,19,20]
  refine DP.z (bL (aG (RC.seq (RC.sr (RL.bI ab.2.2.2 13 o cH (RL.nt (RC.region (RL.alloc o Ej.z fun cd w o=>?_))))))))
  have o:=o.sc Int ab.2.2.2
  refine RL.bA 1 o 0 zr cH fun w o=>?_
  refine RL.nt (RC.region (RL.aL (f:=(fun x=>x)) 1 o zr Fd.self cH (RL.jl ab.2.2.2 1 ?_)))
  have o:=o.sc Int (IntKind.wrap .i64 (ab.2.2.2+1))
  refine RL.Eo (i:=2) (j:=0) zt o zr zr zr zr cH fun w o=>?_
  refine RL.nil ?_
  obtain rfl:=oi hb
  exact⟨rfl,bm,ar,cd,o.sp 18 [13,14,3,8,2]⟩
 ·intro r _ _ _ _
  exact r.elim
 rintro ab _ w rfl ⟨av,O,rfl,o⟩
 rw [Fo.f0] at hb
 refine aG (RC.sr (mv av (aM av (RL.nt (RC.ret ?_)))))
 obtain rfl:=oi hb
 exact cF (o.pk 3 [2])
theorem lE {p0: (List aA)} {res: (List aI)} (j:Holds E w V) (h0:V[i0]? =some (rd v0 p0)) (o:hG N p0=some res):
    Calls bG 71 [v0].toArray w (gH (kY E V res)):=by
 unfold hG at o
 refine enter Tryz.func71 zr zr ?_
 have j:=j.dup (i0+0) h0
 refine RC.sr (aM (.slice none 0 0) (RL.ns (aM (.slice none 0 0) (RL.nq (RC.sr (mv v0 (RL.bB 0 p0 j m5 (mv (vi 0) ?_))))))))
 refine RL.nt ?_
 obtain⟨ad,hN,o⟩:=bd o
 refine RC.fold (fun(ae:Nat) (ad: (List aI)) U w=>∃an:Value,SH E V [(3,an),(7,v0),(8,vi p0.length),(9,vi ae)] [rd v0 p0,own 74 an ad] U w) (fun(ad: (List aI)) U w=>∃af:Value,SH E V [(3,af)] [rd v0 p0,own 74 af ad] U w) hN ?_ ?_ ?_ ?_
 ·have j:=j.cS aI 74
  exact⟨(.slice none 0 0),j.sp 2 [1,0]⟩
 ·rintro hm ad _ w ⟨av,O,rfl,j⟩
  refine RC.sr (ic ((p0.length:Int)) ((p0.length:Int)) (RL.nq (RC.cO l9 (RC.ex ?_))))
  exact⟨rfl,av,j.sp 2 [0,1]⟩
 ·rintro hm ae ad s' _ w hk ⟨aw,O,rfl,j⟩ o
  refine RC.sr (ic ((ae:Int)) ((p0.length:Int)) (RL.nq (RC.cN (l8 hk) (RC.ss (RC.bs ?_)))))
  obtain⟨ab,ax,o⟩:=bd o
  refine RL.cC 0 j jW ax fun a3 j=>(RL.bO 0 ab j tV fun a4 j=>(RL.alloc j A1.z fun ak w j=>?_))
  refine RL.bA 0 j 1 zr tV fun w j=>?_
  refine RL.ns (aM (vi 0) (RL.nt ?_))
  obtain⟨a5,hN,o⟩:=bd o
  refine RC.iter (fun(aa: (List aI)×Int) U w=>∃ar:Value,SH E V [(3,ar),(5,vp ak 0),(6,vi aa.2),(7,v0),(8,vi p0.length),(9,vi ae)] [bx 187 ak ab,rd v0 p0,own 74 ar aa.1] U w) (fun(aa: (List aI)×Int) U w=>∃ai:Value,SH E V [(3,ai),(7,v0),(8,vi p0.length),(9,vi ae)] [bx 187 ak ab,rd v0 p0,own 74 ai aa.1] U w) (fun(r:Empty) _ _=>r.elim) hN ?_ ?_ ?_ ?_
  ·exact⟨aw,j.sp 5 [0,3,4]⟩
  ·rintro aa fl _ w ⟨al,O,rfl,j⟩ o
   refine RC.seq (RC.sr (mv (vi aa.2) (RL.aY zr kd (RL.aS 0 j zr dB fz fun a7 j=>(RL.bB 0 ab.Xs j lQ (ic aa.2 ((ab.Xs.length:Int)) (RL.nt (eL o (fun hc o=>?_) fun hc o=>?_))))))))
   rotate_left
   ·refine RC.ex ?_
    obtain rfl:=oi o
    exact⟨rfl,al,j.sp 4 [1,2,3]⟩
   refine RC.ss (RC.block (RC.wk mixed [1,0,0,0,0,0,0,0,0,0,0,0,0,0,0,0,0,2,2,0] [0,1,2,3,4,5,6,7,8,9,10,11,12,13,14,15,16,17,18,19] ?_))
   have j:=j.drew
   refine DP.e1 al zr (fun w=>RL.move al zt DP.d1) (DP.e0 zr (RL.aY zr kd (bU zr (RL.aS 1 j zr dB fz fun a8 j=>(bU zr (mv (vi aa.2) (bU zr ?_)))))))
   obtain⟨ag,az,o⟩:=bd o
   refine RL.cC 0 j eD az fun a9 j=>(bU zr (RL.bI ag 0 j cH (bU zr (RL.aY zr nk (bU zr (RL.aL 3 j zr fH cH (bU zr (RL.aY zr kd ?_))))))))
   refine bU zr (RL.aS 3 j zr dB fz fun ba j=>(bU zr (mv (vi aa.2) (bU zr (RL.jl aa.2 1 (bU zr ?_))))))
   obtain⟨ah,a0,o⟩:=bd o
   refine RL.cC 0 j eD a0 fun bb j=>(bU zr (RL.bI ah 0 j cH (bU zr (RL.aY zr ly (bU zr (RL.aL 5 j zr eC cH (bU zr ?_)))))))
   have j:=(((j.sc Int ag).sc Int ab.Y0).sc Int ah).sc Int ab.Y1
   refine RL.build (⟨ag,ab.Y0,ah,ab.Y1⟩:aI) trivial rfl j [(0,vi ag),(1,vi ab.Y0),(2,vi ah),(3,vi ab.Y1)] rfl B7 rfl (fun M hs g=>by have h:=qN M;exact cL.cons (f:=fun(x:aI) y=>{x with X0:=y}) h o7 (g.sat 3 _ rfl).1 fun _ h=>cL.cons (f:=fun(x:aI) y=>{x with Y0:=y}) h rH (g.sat 2 _ rfl).1 fun _ h=>cL.cons (f:=fun(x:aI) y=>{x with X1:=y}) h nA (g.sat 1 _ rfl).1 fun _ h=>cL.cons (f:=fun(x:aI) y=>{x with Y1:=y}) h o8 (g.sat 0 _ rfl).1 fun _ h=>cL.nil h) fun a1 j=>?_
   refine sS zr (RL.eJ ([(⟨ag,ab.Y0,ah,ab.Y1⟩:aI)]: (List aI)) j [a1] ku mo (fun M hs g=>⟨(g.sat 0 _ zr).1,zt⟩) fun bc w j=>(Gp zr ?_))
   have j:=j.freeze 0
   obtain⟨bf,a2,o⟩:=bd o
   refine RL.app 13 0 j DC a2 fun au w j=>?_
   refine wm zr (aM au (DP.d0 (DP.z (bL (aG (RC.region (mv (vi aa.2) (RL.jl aa.2 2 ?_))))))))
   refine aM (vi (IntKind.wrap .i64 (aa.2+2))) (RL.nil ?_)
   obtain rfl:=oi o
   exact⟨rfl,au,j.sp 14 [11,12,13]⟩
  ·intro r _ _ _ _
   exact r.elim
  rintro aa _ w rfl ⟨ai,O,rfl,j⟩
  rw [Fo.f0] at o
  refine bL (aG (RC.region (RL.inc hk hm (mv (vi ((ae+1:Nat):Int)) (RL.nil ?_)))))
  obtain rfl:=oi o
  exact⟨rfl,ai,j.sp 3 [1,2]⟩
 rintro _ w ⟨af,O,rfl,j⟩
 refine aG (RC.sr (mv af (aM af (RL.nt (RC.ret ?_)))))
 obtain rfl:=oi o
 exact cF (j.pk 2 [1])
def r8 (E:World) (V:List HP) (r:Bool) (U:Nat->Value) (w:World):Prop:=l6 bG 26 Tryz.f69 (bF E V r) .ret U w
theorem qU {p0: (List aI)} {p1: (List aI)} {res:Bool} (j:Holds E w V) (h0:V[i0]? =some (rd v0 p0)) (h1:V[i1]? =some (rd v1 p1)) (o:iZ N p0 p1=some res):
    Calls bG 69 [v0,v1].toArray w (gH (bF E V res)):=by
 unfold iZ at o
 refine enter Tryz.func69 zr zr ?_
 have j:=(j.dup (i0+0) h0).dup (i1+1) h1
 refine RC.sr (aM (vb false) (RL.nq (RC.sr (mv v0 (RL.bB 1 p0 j og (mv v1 (RL.bB 0 p1 j og (ic ((p0.length:Int)) ((p1.length:Int)) ?_))))))))
 refine RL.nt (eL o (fun hc o=>?_) fun hc o=>?_)
 ·refine RC.sr (aM (vb false) (RL.nt (RC.rt ?_)))
  obtain rfl:=oi o
  exact cF ⟨rfl,j.drop 2⟩
 refine RC.ss (RC.sr (mv v0 (RL.bB 1 p0 j og (mv (vi 0) (RL.nt ?_)))))
 obtain⟨an,hN,o⟩:=bd o
 refine RC.range (fun(aa:Nat) (ab:Unit)=>SH E V [(0,v0),(1,v1),(12,vi p0.length),(13,vi aa)] [rd v0 p0,rd v1 p1]) (fun(ab:Unit)=>SH E V [] [rd v0 p0,rd v1 p1]) (r8 E V) hN ?_ ?_ ?_ ?_ ?_
 ·exact j.sp 2 [1,0]
 ·rintro hm ab _ w ⟨O,rfl,j⟩
  refine RC.sr (ic ((p0.length:Int)) ((p0.length:Int)) (RL.nq (RC.cO l9 (RC.ex ?_))))
  exact⟨rfl,j.sp 2 [0,1]⟩
 ·rintro hm aa ab fl _ w hk ⟨O,rfl,j⟩ o
  refine RC.sr (ic ((aa:Int)) ((p0.length:Int)) (RL.nq (RC.cN (l8 hk) (RC.ss (RC.bs (mv (vi aa) (aM (vi aa) (RL.nq ?_))))))))
  refine RC.xT mixed ?_
  have j:=j.drew
  refine RO.go (mv v0 (RO.nx (mv (vi aa) (RO.nx ?_))))
  obtain⟨ag,aj,o⟩:=bd o
  refine RL.cC 0 j ku aj fun aq j=>(RO.nx (RL.bO 0 ag j fC fun ar j=>(RO.nx (mv v1 (RO.nx (mv (vi aa) (RO.nx ?_)))))))
  obtain⟨ah,ak,o⟩:=bd o
  refine RL.cC 3 j ku ak fun au j=>(RO.nx (RL.bO 0 ah j fC fun av j=>(RO.nx (RL.Lr 2 0 ag ah zt zr j zr zr zr zr IL zr (RO.last (aG (eL o (fun hc o=>?_) fun hc o=>?_)))))))
  rotate_left
  ·refine RC.skip (bL (aG (RC.region (RL.inc hk hm (mv (vi ((aa+1:Nat):Int)) (RL.nil ?_))))))
   obtain rfl:=oi o
   exact⟨rfl,j.sp 6 [4,5]⟩
  refine RC.sr (aM (vb false) (RL.nt (RC.rb (bV ?_))))
  obtain rfl:=oi o
  exact⟨rfl,cF ⟨rfl,j.drop 6⟩⟩
 ·intro r U w e hK
  subst e
  refine bV ?_
  obtain rfl:=oi o
  exact hK
 rintro ab _ w rfl ⟨O,rfl,j⟩
 rw [Fo.f0] at o
 refine aG (RC.sr (aM (vb true) (RL.nt (RC.ret ?_))))
 obtain rfl:=oi o
 exact cF ⟨rfl,j.drop 2⟩
def r9 (E:World) (V:List HP) (r:Int) (U:Nat->Value) (w:World):Prop:=l6 bG 52 Tryz.f46 (aP E V r) .ret U w
theorem mK {p0: (List aI)} (j:Holds E w V) (h0:V[i0]? =some (rd v0 p0)) (hb:gU N p0=some res):
    Calls bG 46 [v0].toArray w (gH (aP E V res)):=by
 unfold gU at hb
 refine enter Tryz.func46 zr zr ?_
 have j:=j.dup (i0+0) h0
 refine RC.sr (aM (vi 0) (RL.nq (RC.sr (mv v0 ?_))))
 obtain⟨au,ax,hb⟩:=bd hb
 refine RL.call zt zr KA [v0] zr (aF (r6 N (i0:=0) j zr ax) ?_)
 rintro _ w ⟨rfl,j⟩
 refine aM (vi au) (RL.ns (mv (vi au) (ic au 0 (RL.nt (eL hb (fun hc hb=>?_) fun hc hb=>?_)))))
 ·refine RC.sr (mv (vi au) (aM (vi au) (RL.nt (RC.rt ?_))))
  obtain rfl:=oi hb
  exact cF ⟨rfl,j.drop 1⟩
 refine RC.ss (RC.sr (aM (vi 1) (RL.nt ?_)))
 obtain⟨bf,hN,hb⟩:=bd hb
 refine RC.iter (fun(an:Int)=>SH E V [(0,v0),(4,vi an)] [rd v0 p0]) (fun(an:Int)=>SH E V [(0,v0)] [rd v0 p0]) (r9 E V) hN ?_ ?_ ?_ ?_
 ·exact j.sp 1 [0]
 ·rintro an fl _ w ⟨O,rfl,j⟩ hb
  refine RC.seq (RC.sr (mv (vi an) (mv v0 (RL.bB 0 p0 j og (ic an ((p0.length:Int)) (RL.nt (eL hb (fun hc hb=>?_) fun hc hb=>?_)))))))
  rotate_left
  ·refine RC.ex ?_
   obtain rfl:=oi hb
   exact⟨rfl,j.sp 1 [0]⟩
  refine RC.ss (RC.block (RC.seq ?_))
  obtain⟨o,a0,hb⟩:=bd hb
  obtain⟨aa,a1,hb⟩:=bd hb
  refine RC.Ei E V mixed [1,1,1,0,0,1,1,0,0,0,0,0,0] [3,4,7,8,9,10,11,12] (fun(x:Value×Value×Value×Value×Nat×Nat)=>(fun ag ah ai aj ad ae=>[(0,18,v0),(1,19,(vi an)),(2,20,(vi (IntKind.wrap .i64 (an - 1)))),(3,21,ag),(4,22,ah),(5,23,v0),(6,24,(vi an)),(7,25,ai),(8,26,aj),(9,5,(vp ad 0)),(10,6,(vp ae 0))]) x.1 x.2.1 x.2.2.1 x.2.2.2.1 x.2.2.2.2.1 x.2.2.2.2.2) [(0,v0),(4,vi an)] [] (fun(D:Nat->Bool) (x:Value×Value×Value×Value×Nat×Nat)=>(fun ag ah ai aj ad ae=>[bif D 0 then (pt ag o) else aX,bif D 1 then (rd ah o) else aX,bif D 2 then (pt ai aa) else aX,bif D 3 then (rd aj aa) else aX,bif D 6 then (bx 74 ad o) else (bif D 4 then (raw 74 ad 4) else aX),bif D 7 then (bx 74 ae aa) else (bif D 5 then (raw 74 ae 4) else aX),rd v0 p0]) x.1 x.2.1 x.2.2.1 x.2.2.2.1 x.2.2.2.2.1 x.2.2.2.2.2) (fun x=>by kernel_rfl) ?_ ⟨fun _=>jD gn,fun _=>jD gn,fun _=>Gn gn rfl,?_,?_,fun _=>jD gn,fun _=>jD gn,?_,?_,?_,?_,?_,?_,trivial⟩ ?_
  ·have j:=((((((j.drew).aX).aX).aX).aX).aX).aX
   exact⟨(undef,undef,undef,undef,0,0),eF.none,(CN zr),zt,j⟩
  ·rintro D U w hD af ao ⟨⟨ag,ah,ai,aj,ad,ae⟩,hv,ha,_,j⟩
   obtain⟨O,rfl⟩:=(ac (hv.at 0 rfl (af.1 rfl)) (ac (hv.at 2 rfl (af.2.1 rfl)) az)).fx
   have j:=j.cA 0 hD
   refine RL.cC 6 j ku a0 fun a2 j=>?_
   have j:=(j.pl 8 [0,2,3,4,5,6,7]).cK 0 true aX
   exact RL.nil ⟨rfl,(a2,ah,ai,aj,ad,ae),hv.pu 3,ha.u,zt,j⟩
  ·rintro D U w hD af ao ⟨⟨ag,ah,ai,aj,ad,ae⟩,hv,ha,_,j⟩
   obtain⟨O,rfl⟩:=(ac (hv.at 3 rfl (af.1 rfl)) az).fx
   have j:=(j.cJ 0 (af.1 rfl)).cA 1 hD
   refine RL.bO 0 o j fC fun a3 j=>?_
   have j:=((j.pl 8 [1,0,3,4,5,6,7]).cK (hb:=af.1 rfl) 0 (D 3) aX).cK 1 true aX
   exact RL.nil ⟨rfl,(ag,a3,ai,aj,ad,ae),hv.pu 4,ha.u,zt,j⟩
  ·rintro D U w hD af ao ⟨⟨ag,ah,ai,aj,ad,ae⟩,hv,ha,_,j⟩
   obtain⟨O,rfl⟩:=(ac (hv.at 5 rfl (af.1 rfl)) (ac (hv.at 6 rfl (af.2.1 rfl)) az)).fx
   have j:=j.cA 2 hD
   refine RL.cC 6 j ku a1 fun a4 j=>?_
   have j:=(j.pl 8 [1,2,0,4,5,6,7]).cK 2 true aX
   exact RL.nil ⟨rfl,(ag,ah,a4,aj,ad,ae),hv.pu 7,ha.u,zt,j⟩
  ·rintro D U w hD af ao ⟨⟨ag,ah,ai,aj,ad,ae⟩,hv,ha,_,j⟩
   obtain⟨O,rfl⟩:=(ac (hv.at 7 rfl (af.1 rfl)) az).fx
   have j:=(j.cJ 2 (af.1 rfl)).cA 3 hD
   refine RL.bO 2 aa j fC fun a5 j=>?_
   have j:=((j.pl 8 [1,2,3,0,5,6,7]).cK (hb:=af.1 rfl) 2 (D 7) aX).cK 3 true aX
   exact RL.nil ⟨rfl,(ag,ah,ai,a5,ad,ae),hv.pu 8,ha.u,zt,j⟩
  ·rintro D U w hD af ao ⟨⟨ag,ah,ai,aj,ad,ae⟩,hv,ha,_,j⟩
   obtain⟨O,rfl⟩:=(az (U:=U)).fx
   have j:=(j.cA 4 (nh ao hD 11)).cA 4 hD
   refine RL.alloc j mo.z fun av w j=>?_
   have j:=((j.pl 8 [1,2,3,4,0,6,7]).cK 4 true aX).fu 4 (D 11) (nh ao hD 11) (bx 74 av o)
   exact RL.nil ⟨rfl,(ag,ah,ai,aj,av,ae),hv.pu 9,ha.u,zt,j⟩
  ·rintro D U w hD af ao ⟨⟨ag,ah,ai,aj,ad,ae⟩,hv,ha,_,j⟩
   obtain⟨O,rfl⟩:=(az (U:=U)).fx
   have j:=(j.cA 5 (nh ao hD 12)).cA 5 hD
   refine RL.alloc j mo.z fun aw w j=>?_
   have j:=((j.pl 8 [1,2,3,4,5,0,7]).cK 5 true aX).fu 5 (D 12) (nh ao hD 12) (bx 74 aw aa)
   exact RL.nil ⟨rfl,(ag,ah,ai,aj,ad,aw),hv.pu 10,ha.u,zt,j⟩
  ·rintro D U w hD af ao ⟨⟨ag,ah,ai,aj,ad,ae⟩,hv,ha,_,j⟩
   obtain⟨O,rfl⟩:=(ac (hv.at 4 rfl (af.2.1 rfl)) (ac (hv.at 9 rfl (af.1 rfl)) az)).fx
   have j:=((j.cJ 1 (af.2.1 rfl)).cA 4 hD).cJ 4 (af.1 rfl)
   refine RL.bA 4 j 1 zr fC fun w j=>?_
   have j:=(j.cK (hb:=af.2.1 rfl) 1 (D 4) aX).cK 4 true (bif D 9 then (raw 74 ad 4) else aX)
   exact RL.nil ⟨rfl,(ag,ah,ai,aj,ad,ae),hv.n1,ha,zt,j⟩
  ·rintro D U w hD af ao ⟨⟨ag,ah,ai,aj,ad,ae⟩,hv,ha,_,j⟩
   obtain⟨O,rfl⟩:=(ac (hv.at 8 rfl (af.2.1 rfl)) (ac (hv.at 10 rfl (af.1 rfl)) az)).fx
   have j:=((j.cJ 3 (af.2.1 rfl)).cA 5 hD).cJ 5 (af.1 rfl)
   refine RL.bA 5 j 3 zr fC fun w j=>?_
   have j:=(j.cK (hb:=af.2.1 rfl) 3 (D 8) aX).cK 5 true (bif D 10 then (raw 74 ae 4) else aX)
   exact RL.nil ⟨rfl,(ag,ah,ai,aj,ad,ae),hv.n1,ha,zt,j⟩
  rintro D U w aq ⟨⟨ag,ah,ai,aj,ad,ae⟩,hv,ha,_,j⟩
  have j:=(((((j.cJ 0 (jT aq 3)).cJ 1 (jT aq 4)).cJ 2 (jT aq 7)).cJ 3 (jT aq 8)).cJ 4 (jT aq 11)).cJ 5 (jT aq 12)
  obtain⟨O,rfl⟩:=(ac (hv.at 9 rfl (jT aq 9)) (ac (hv.at 10 rfl (jT aq 10)) (ac (ha.at 0 rfl) (ac (ha.at 1 rfl) az)))).fx
  refine aG (RC.sr (RL.aY zr jM (RL.aL 5 j zr eY cH (RL.aY zr jM (RL.aL 4 j zr eY cH (ic aa.Y0 o.Y0 (mv (vb (decide (aa.Y0<o.Y0))) (RL.gs true (decide (aa.Y0<o.Y0)) (vp ae 1) zr zr zr (dN jM) ?_))))))))
  refine RL.gs true (decide (aa.Y0<o.Y0)) (vi aa.Y0) rfl rfl rfl (bW 5 rfl j (fun h=>by exact(cT h:cv (true&&((decide (aa.Y0<o.Y0))==false)) (vp ae 1)= (vp ae 1))) rfl eY cH) (RL.gs true (decide (aa.Y0<o.Y0)) (vp ad 1) rfl rfl rfl (dN jM) (RL.gs true (decide (aa.Y0<o.Y0)) (vi o.Y0) rfl rfl rfl (bW 4 rfl j (fun h=>by exact(cT h:cv (true&&((decide (aa.Y0<o.Y0))==false)) (vp ad 1)= (vp ad 1))) rfl eY cH) (RL.gs true (decide (aa.Y0<o.Y0)) (vb (aa.Y0==o.Y0)) rfl rfl rfl (dY .eql .i64 aa.Y0 o.Y0 rfl (fun h=>by exact(cT h:cv (true&&((decide (aa.Y0<o.Y0))==false)) (vi aa.Y0)= (vi aa.Y0))) (fun h=>by exact(cT h:cv (true&&((decide (aa.Y0<o.Y0))==false)) (vi o.Y0)= (vi o.Y0))) rfl) (RL.gs true (decide (aa.Y0<o.Y0)) (vb (aa.Y0==o.Y0)) rfl rfl rfl (dR (hx:=fun h=>by exact(cT h:cv (true&&((decide (aa.Y0<o.Y0))==false)) (vb (aa.Y0==o.Y0))= (vb (aa.Y0==o.Y0))))) (RL.gs (true&&((decide (aa.Y0<o.Y0))==false)) (aa.Y0==o.Y0) (vp ae 0) rfl rfl rfl (dN jh) (RL.gs (true&&((decide (aa.Y0<o.Y0))==false)) (aa.Y0==o.Y0) (vi aa.X0) rfl rfl rfl (bW 5 rfl j (fun h=>by exact(cT h:cv ((true&&((decide (aa.Y0<o.Y0))==false))&&((aa.Y0==o.Y0)==true)) (vp ae 0)= (vp ae 0))) rfl eM cH) (RL.gs (true&&((decide (aa.Y0<o.Y0))==false)) (aa.Y0==o.Y0) (vp ad 0) rfl rfl rfl (dN jh) (RL.gs (true&&((decide (aa.Y0<o.Y0))==false)) (aa.Y0==o.Y0) (vi o.X0) rfl rfl rfl (bW 4 rfl j (fun h=>by exact(cT h:cv ((true&&((decide (aa.Y0<o.Y0))==false))&&((aa.Y0==o.Y0)==true)) (vp ad 0)= (vp ad 0))) rfl eM cH) ?_))))))))
  refine RL.gs (true&&((decide (aa.Y0<o.Y0))==false)) (aa.Y0==o.Y0) (vb (decide (aa.X0<=o.X0))) rfl rfl rfl (dY .leq .i64 aa.X0 o.X0 rfl (fun h=>by exact(cT h:cv ((true&&((decide (aa.Y0<o.Y0))==false))&&((aa.Y0==o.Y0)==true)) (vi aa.X0)= (vi aa.X0))) (fun h=>by exact(cT h:cv ((true&&((decide (aa.Y0<o.Y0))==false))&&((aa.Y0==o.Y0)==true)) (vi o.X0)= (vi o.X0))) rfl) (RL.gs true (decide (aa.Y0<o.Y0)) (vb ((aa.Y0==o.Y0)&&(decide (aa.X0<=o.X0)))) rfl rfl rfl (oy (aa.Y0==o.Y0) rfl (fun h=>by exact(cT h:cv (true&&((decide (aa.Y0<o.Y0))==false)) (vb (aa.Y0==o.Y0))= (vb (aa.Y0==o.Y0)))) (fun h=>by exact je (h:=h) (true&&((decide (aa.Y0<o.Y0))==false)))) (RL.pick (decide (aa.Y0<o.Y0)) (vb ((decide (aa.Y0<o.Y0))||((aa.Y0==o.Y0)&&(decide (aa.X0<=o.X0))))) (nE true rfl) (RL.nt (eL hb (fun hc hb=>?_) fun hc hb=>?_))))
  ·refine RC.sr (aM (vi 8) (RL.nt (RC.rb (bV ?_))))
   obtain rfl:=oi hb
   exact⟨rfl,cF ⟨rfl,j.drop 7⟩⟩
  refine RC.skip (bL (aG (RC.region (mv (vi an) (RL.jl an 1 (aM (vi (IntKind.wrap .i64 (an+1))) (RL.nil ?_)))))))
  obtain rfl:=oi hb
  exact⟨rfl,j.sp 7 [6]⟩
 ·intro r U w e hK
  subst e
  refine bV ?_
  obtain rfl:=oi hb
  exact hK
 rintro an _ w rfl ⟨O,rfl,j⟩
 rw [Fo.f0] at hb
 refine aG (RC.seq (RC.sr (mv v0 ?_)))
 obtain⟨bh,a7,hb⟩:=bd hb
 refine RL.call zt zr ES [v0] zr (aF (kA N (i0:=0) j zr a7) ?_)
 rintro a8 w j
 have j:=j.freeze 0
 obtain⟨bj,a9,hb⟩:=bd hb
 refine RL.call zt zr HN [a8] zr (aF (lE N (i0:=0) j zr a9) ?_)
 rintro ba w j
 refine mv v0 ?_
 have j:=j.freeze 0
 obtain⟨bb,bc,hb⟩:=bd hb
 refine RL.call zt zr KD [ba,v0] zr (aF (qU N (i0:=0) (i1:=2) j zr zr bc) ?_)
 rintro _ w ⟨rfl,j⟩
 refine RL.not bb (RL.nt (eL hb (fun hc hb=>?_) fun hc hb=>?_))
 ·refine RC.sr (aM (vi 3) (RL.nt (RC.rt ?_)))
  obtain rfl:=oi hb
  exact cF ⟨rfl,j.drop 3⟩
 refine RC.sx (aM (vi 0) (RL.nt (RC.ret ?_)))
 obtain rfl:=oi hb
 exact cF ⟨rfl,j.drop 3⟩
theorem kS {res:Bool} (o:Holds E w V) (j:fW N p0 p1 p2=some res):
    Calls bG 73 [(vi p0),(vi p1),(vi p2)].toArray w (gH (bF E V res)):=by
 unfold fW at j
 refine enter Tryz.func73 zr zr (RC.sr (aM (vb false) (RL.ns (mv (vi p0) (mv (vi p1) (ic p0 p1 (mv (vb (decide (p0>=p1))) (RL.gs true (decide (p0>=p1)) (vi p0) zr zr zr dR ?_))))))))
 refine RL.gs true (decide (p0>=p1)) (vi p2) rfl rfl rfl dR (RL.gs true (decide (p0>=p1)) (vb (decide (p0<=p2))) rfl rfl rfl (dY .leq .i64 p0 p2 rfl (fun h=>by exact(cT h:cv (true&&((decide (p0>=p1))==true)) (vi p0)= (vi p0))) (fun h=>by exact(cT h:cv (true&&((decide (p0>=p1))==true)) (vi p2)= (vi p2))) rfl) (RL.pick (decide (p0>=p1)) (vb ((decide (p0>=p1))&&(decide (p0<=p2)))) (je true) (aM (vb ((decide (p0>=p1))&&(decide (p0<=p2)))) (RL.nt (RC.ret ?_)))))
 obtain rfl:=oi j
 exact cF ⟨rfl,o.drop 0⟩
theorem po {p0:eK} {res:Bool} (j:Holds E w V) (h0:V[i0]? =some (rd v0 p0)) (hb:iv N p0=some res):
    Calls bG 76 [v0].toArray w (gH (bF E V res)):=by
 unfold iv at hb
 refine enter Tryz.func76 zr zr ?_
 have j:=j.dup (i0+0) h0
 refine RC.sr (RL.cY 0 v0 j zr fun ai w j=>?_)
 refine aM (vb false) (RL.nq ?_)
 obtain⟨ad,o,hb⟩:=bd hb
 refine RC.jn (fun(ad:Bool)=>SH E V [(2,vb ad)] []) ad ?_ ?_
 ·refine RC.region (RL.aY zr qP (RL.aL 0 j zr kr cH ?_))
  obtain⟨af,ag,o⟩:=bd o
  refine RL.call zt zr yG [(vi p0.X)] zr (aF (j5 N (p0:=p0.X) j ag) ?_)
  rintro _ w ⟨rfl,j⟩
  refine mv (vb af) (fM o (fun aa o=>?_) fun aa o=>?_)
  rotate_left
  ·refine bJ aa (bJ aa (bJ aa (fI aa (vb false) (aM (vb false) (RL.nil ?_)))))
   obtain rfl:=oi o
   exact⟨rfl,j.sp 2 []⟩
  refine RL.aY (hg:=(cg aa)) zr oO (RL.aL (hg:=(cg aa)) 0 j zr jg cH ?_)
  obtain⟨ae,ah,o⟩:=bd o
  refine RL.call (cg aa) zr yG [(vi p0.Y)] zr (aF (j5 N (p0:=p0.Y) j ah) ?_)
  rintro _ w ⟨rfl,j⟩
  refine fI aa (vb ae) (aM (vb ae) (RL.nil ?_))
  obtain rfl:=oi o
  exact⟨rfl,j.sp 2 []⟩
 rintro _ w ⟨O,rfl,j⟩
 refine aG (RC.ret ?_)
 obtain rfl:=oi hb
 exact cF ⟨rfl,j.drop 0⟩
end Go.Gk
