/-
  Printed texts: Go functions as plain functions, and that they are. No statement of the seed is proved here.
-/
import Derived.Test.YtgjiokjfpghfgacGreatDoorProg
import Derived.Test.YtgjiokjfpghfgacGreatDoorE1
import Derived.Test.YtgjiokjfpghfgacGreatDoorA1
import Derived.Test.YtgjiokjfpghfgacGreatDoorA2
import Derived.Test.YtgjiokjfpghfgacGreatDoorRows
import Derived.Shelf.SlGeneric
import Derived.Ground.SlsfProg
import Derived.Ground.SlgmProg
set_option linter.unusedVariables false
set_option linter.unusedSimpArgs false
set_option linter.unusedSectionVars false
set_option maxRecDepth 100000
set_option maxHeartbeats 4000000
namespace Go.Gk
open Go Go.Proofs
noncomputable abbrev bF:=Tryz.prog
def kL (x:aI):=(x.X0,x.Y0,x.X1,x.Y1)
instance instGTRect:GT aI:=GT.via kL
instance instKVRect:KV aI:=instKVvia (fun(x:aI)=>(x.X0,x.Y0,x.X1,x.Y1))
theorem eG:Fd 0 (fun x:aI=>x.X0):= .v kL (.fst .self)
theorem oG:Fs 0 Int (fun(x:aI) y=>{x with X0:=y}):= .v kL (.fst .self)
theorem eQ:Fd 1 (fun x:aI=>x.Y0):= .v kL (.snd (.fst .self))
theorem qT:Fs 1 Int (fun(x:aI) y=>{x with Y0:=y}):= .v kL (.snd (.fst .self))
theorem fW:Fd 2 (fun x:aI=>x.X1):= .v kL (.snd (.snd (.fst .self)))
theorem mZ:Fs 2 Int (fun(x:aI) y=>{x with X1:=y}):= .v kL (.snd (.snd (.fst .self)))
theorem jh:Fd 3 (fun x:aI=>x.Y1):= .v kL (.snd (.snd (.snd (.self))))
theorem oH:Fs 3 Int (fun(x:aI) y=>{x with Y1:=y}):= .v kL (.snd (.snd (.snd (.self))))
def oI (x:eF):=(x.X,x.Y)
instance instGTPoint:GT eF:=GT.via oI
instance instKVPoint:KV eF:=instKVvia (fun(x:eF)=>(x.X,x.Y))
theorem kc:Fd 0 (fun x:eF=>x.X):= .v oI (.fst .self)
theorem AZ:Fs 0 Int (fun(x:eF) y=>{x with X:=y}):= .v oI (.fst .self)
theorem iW:Fd 1 (fun x:eF=>x.Y):= .v oI (.snd (.self))
theorem A0:Fs 1 Int (fun(x:eF) y=>{x with Y:=y}):= .v oI (.snd (.self))
def oJ (x:bU):=(x.At,x.eN,x.bM,x.To,x.gA)
instance instGTBore:GT bU:=GT.via oJ
theorem uv:Fd 0 (fun x:bU=>x.At):= .v oJ (.fst .self)
theorem oK:Fd 2 (fun x:bU=>x.eN):= .v oJ (.snd (.fst .self))
theorem lS:Fd 3 (fun x:bU=>x.bM):= .v oJ (.snd (.snd (.fst .self)))
theorem m0:Fd 4 (fun x:bU=>x.To):= .v oJ (.snd (.snd (.snd (.fst .self))))
theorem qU:Fd 5 (fun x:bU=>x.gA):= .v oJ (.snd (.snd (.snd (.snd (.self)))))
def ni (x:cV):=(x.Part,x.fD,x.cR,x.At)
instance instGTLand:GT cV:=GT.via ni
theorem xR:Fd 0 (fun x:cV=>x.Part):= .v ni (.fst .self)
theorem Cs:Fs 0 dC (fun(x:cV) y=>{x with Part:=y}):= .v ni (.fst .self)
theorem xS:Fd 1 (fun x:cV=>x.fD):= .v ni (.snd (.fst .self))
theorem Ct:Fs 1 dC (fun(x:cV) y=>{x with fD:=y}):= .v ni (.snd (.fst .self))
theorem uw:Fd 2 (fun x:cV=>x.cR):= .v ni (.snd (.snd (.fst .self)))
theorem ux:Fd 3 (fun x:cV=>x.At):= .v ni (.snd (.snd (.snd (.self))))
def ti (x:jT):=(x.aL,x.dU,x.aV,x.bH)
instance instGTArt:GT jT:=GT.via ti
theorem oL:Fd 0 (fun x:jT=>x.aL):= .v ti (.fst .self)
theorem vY:Fd 1 (fun x:jT=>x.dU):= .v ti (.snd (.fst .self))
theorem qd:Fd 2 (fun x:jT=>x.aV):= .v ti (.snd (.snd (.fst .self)))
theorem qe:Fd 3 (fun x:jT=>x.bH):= .v ti (.snd (.snd (.snd (.self))))
def qV (x:fD):=(x.Part,x.fD)
instance instGTPin:GT fD:=GT.via qV
instance instKVPin:KV fD:=instKVvia (fun(x:fD)=>(x.Part,x.fD))
theorem zX:Fd 0 (fun x:fD=>x.Part):= .v qV (.fst .self)
theorem vZ:Fs 0 dC (fun(x:fD) y=>{x with Part:=y}):= .v qV (.fst .self)
theorem zY:Fd 1 (fun x:fD=>x.fD):= .v qV (.snd (.self))
theorem v7:Fs 1 dC (fun(x:fD) y=>{x with fD:=y}):= .v qV (.snd (.self))
def iu (x:aA):=(x.Y0,x.Y1,x.Xs)
instance instGTshape_Band:GT aA:=GT.via iu
theorem fB:Fd 0 (fun x:aA=>x.Y0):= .v iu (.fst .self)
theorem pC:Fs 0 Int (fun(x:aA) y=>{x with Y0:=y}):= .v iu (.fst .self)
theorem dZ:Fd 1 (fun x:aA=>x.Y1):= .v iu (.snd (.fst .self))
theorem mB:Fs 1 Int (fun(x:aA) y=>{x with Y1:=y}):= .v iu (.snd (.fst .self))
theorem cZ:Fd 2 (fun x:aA=>x.Xs):= .v iu (.snd (.snd (.self)))
theorem pD:Fs 2 (List Int) (fun(x:aA) y=>{x with Xs:=y}):= .v iu (.snd (.snd (.self)))
def hU (x:aH):=(x.cR,x.Set,x.iD)
instance instGTcopper_Piece:GT aH:=GT.via hU
theorem jU:Fd 0 (fun x:aH=>x.cR):= .v hU (.fst .self)
theorem tj:Fs 0 Int (fun(x:aH) y=>{x with cR:=y}):= .v hU (.fst .self)
theorem tk:Fs 1 (List aA) (fun(x:aH) y=>{x with Set:=y}):= .v hU (.snd (.fst .self))
theorem jV:Fd 2 (fun x:aH=>x.iD):= .v hU (.snd (.snd (.self)))
theorem tl:Fs 2 (List aI) (fun(x:aH) y=>{x with iD:=y}):= .v hU (.snd (.snd (.self)))
def xT (x:cL):=(x.mz,x.aV,x.gC)
instance instGTGroup:GT cL:=GT.via xT
theorem A1:Fd 2 (fun x:cL=>x.gC):= .v xT (.snd (.snd (.self)))
def o9 (x:dO):=(x.bU,x.Number)
instance instGTHop:GT dO:=GT.via o9
instance instKVHop:KV dO:=instKVvia (fun(x:dO)=>(x.bU,x.Number))
theorem v8:Fd 0 (fun x:dO=>x.bU):= .v o9 (.fst .self)
theorem zZ:Fs 0 Bool (fun(x:dO) y=>{x with bU:=y}):= .v o9 (.fst .self)
theorem nj:Fd 1 (fun x:dO=>x.Number):= .v o9 (.snd (.self))
theorem tm:Fs 1 Int (fun(x:dO) y=>{x with Number:=y}):= .v o9 (.snd (.self))
def kM (x:bY):=(x.Open,x.dO,x.A,x.B)
instance instGTFlaw:GT bY:=GT.via kM
theorem lT:Fd 0 (fun x:bY=>x.Open):= .v kM (.fst .self)
theorem Cu:Fs 0 Bool (fun(x:bY) y=>{x with Open:=y}):= .v kM (.fst .self)
theorem m4:Fd 1 (fun x:bY=>x.dO):= .v kM (.snd (.fst .self))
theorem Cv:Fs 1 dO (fun(x:bY) y=>{x with dO:=y}):= .v kM (.snd (.fst .self))
theorem qW:Fd 3 (fun x:bY=>x.A):= .v kM (.snd (.snd (.fst .self)))
theorem Cw:Fs 3 Int (fun(x:bY) y=>{x with A:=y}):= .v kM (.snd (.snd (.fst .self)))
theorem qX:Fd 4 (fun x:bY=>x.B):= .v kM (.snd (.snd (.snd (.self))))
theorem Cx:Fs 4 Int (fun(x:bY) y=>{x with B:=y}):= .v kM (.snd (.snd (.snd (.self))))
def pd (x:o0):=(x.A,x.B,x.gU,x.bM,x.To)
instance instGTGap:GT o0:=GT.via pd
theorem DG:Fd 2 (fun x:o0=>x.gU):= .v pd (.snd (.snd (.fst .self)))
theorem DH:Fs 2 Int (fun(x:o0) y=>{x with gU:=y}):= .v pd (.snd (.snd (.fst .self)))
theorem qf:Fd 3 (fun x:o0=>x.bM):= .v pd (.snd (.snd (.snd (.fst .self))))
theorem DI:Fs 3 eF (fun(x:o0) y=>{x with bM:=y}):= .v pd (.snd (.snd (.snd (.fst .self))))
theorem DJ:Fd 5 (fun x:o0=>x.To):= .v pd (.snd (.snd (.snd (.snd (.self)))))
theorem DK:Fs 5 eF (fun(x:o0) y=>{x with To:=y}):= .v pd (.snd (.snd (.snd (.snd (.self)))))
theorem DL (M:dE):GT.ok M (#[(.string ⟨#[]⟩),(.string ⟨#[]⟩)]:Array Value).toList (⟨⟨[]⟩,⟨[]⟩⟩:fD):=⟨[(.string ⟨#[]⟩)],[(.string ⟨#[]⟩)],rfl,(show GT.ok M [(.string ⟨#[]⟩)] (⟨[]⟩:dC) from rfl),(show GT.ok M [(.string ⟨#[]⟩)] (⟨[]⟩:dC) from rfl)⟩
theorem v9 (M:dE):GT.ok M (#[(.bool false),(.int .i64 0)]:Array Value).toList (⟨false,0⟩:dO):=⟨[(.bool false)],[(.int .i64 0)],rfl,(show GT.ok M [(.bool false)] (false:Bool) from rfl),(show GT.ok M [(.int .i64 0)] (0:Int) from rfl)⟩
theorem DM (M:dE):GT.ok M (#[(.bool false),(.bool false),(.int .i64 0),(.int .i64 0),(.int .i64 0)]:Array Value).toList (⟨false,⟨false,0⟩,0,0⟩:bY):=⟨[(.bool false)],[(.bool false),(.int .i64 0),(.int .i64 0),(.int .i64 0)],rfl,(show GT.ok M [(.bool false)] (false:Bool) from rfl),⟨[(.bool false),(.int .i64 0)],[(.int .i64 0),(.int .i64 0)],rfl,(show GT.ok M [(.bool false),(.int .i64 0)] (⟨false,0⟩:dO) from v9 M),⟨[(.int .i64 0)],[(.int .i64 0)],rfl,(show GT.ok M [(.int .i64 0)] (0:Int) from rfl),(show GT.ok M [(.int .i64 0)] (0:Int) from rfl)⟩⟩⟩
theorem qg (M:dE):GT.ok M (#[(.int .i64 0),(.int .i64 0),(.int .i64 0),(.int .i64 0)]:Array Value).toList (⟨0,0,0,0⟩:aI):=⟨[(.int .i64 0)],[(.int .i64 0),(.int .i64 0),(.int .i64 0)],rfl,(show GT.ok M [(.int .i64 0)] (0:Int) from rfl),⟨[(.int .i64 0)],[(.int .i64 0),(.int .i64 0)],rfl,(show GT.ok M [(.int .i64 0)] (0:Int) from rfl),⟨[(.int .i64 0)],[(.int .i64 0)],rfl,(show GT.ok M [(.int .i64 0)] (0:Int) from rfl),(show GT.ok M [(.int .i64 0)] (0:Int) from rfl)⟩⟩⟩
theorem vE (M:dE):GT.ok M (#[(.int .i64 0),(.int .i64 0)]:Array Value).toList (⟨0,0⟩:eF):=⟨[(.int .i64 0)],[(.int .i64 0)],rfl,(show GT.ok M [(.int .i64 0)] (0:Int) from rfl),(show GT.ok M [(.int .i64 0)] (0:Int) from rfl)⟩
theorem Gv (M:dE):GT.ok M (#[(.string ⟨#[]⟩),(.string ⟨#[]⟩),(.int .i64 0),(.int .i64 0),(.int .i64 0)]:Array Value).toList (⟨⟨[]⟩,⟨[]⟩,0,⟨0,0⟩⟩:cV):=⟨[(.string ⟨#[]⟩)],[(.string ⟨#[]⟩),(.int .i64 0),(.int .i64 0),(.int .i64 0)],rfl,(show GT.ok M [(.string ⟨#[]⟩)] (⟨[]⟩:dC) from rfl),⟨[(.string ⟨#[]⟩)],[(.int .i64 0),(.int .i64 0),(.int .i64 0)],rfl,(show GT.ok M [(.string ⟨#[]⟩)] (⟨[]⟩:dC) from rfl),⟨[(.int .i64 0)],[(.int .i64 0),(.int .i64 0)],rfl,(show GT.ok M [(.int .i64 0)] (0:Int) from rfl),(show GT.ok M [(.int .i64 0),(.int .i64 0)] (⟨0,0⟩:eF) from vE M)⟩⟩⟩
theorem wc (M:dE):GT.ok M (#[(.int .i64 0),(.slice none 0 0),(.slice none 0 0)]:Array Value).toList (⟨0,[],[]⟩:aH):=⟨[(.int .i64 0)],[(.slice none 0 0),(.slice none 0 0)],rfl,(show GT.ok M [(.int .i64 0)] (0:Int) from rfl),⟨[(.slice none 0 0)],[(.slice none 0 0)],rfl,(show GT.ok M [(.slice none 0 0)] ([]: (List aA)) from ⟨_,rfl,none,0,0,rfl,rfl,bL _,by simp [maxLen],fun _ _ h=>by simp at h⟩),(show GT.ok M [(.slice none 0 0)] ([]: (List aI)) from ⟨_,rfl,none,0,0,rfl,rfl,bL _,by simp [maxLen],fun _ _ h=>by simp at h⟩)⟩⟩
theorem Hf (M:dE):GT.ok M (#[(.int .i64 0),(.int .i64 0),(.int .i64 0),(.int .i64 0),(.int .i64 0),(.int .i64 0),(.int .i64 0)]:Array Value).toList (⟨0,0,0,⟨0,0⟩,⟨0,0⟩⟩:o0):=⟨[(.int .i64 0)],[(.int .i64 0),(.int .i64 0),(.int .i64 0),(.int .i64 0),(.int .i64 0),(.int .i64 0)],rfl,(show GT.ok M [(.int .i64 0)] (0:Int) from rfl),⟨[(.int .i64 0)],[(.int .i64 0),(.int .i64 0),(.int .i64 0),(.int .i64 0),(.int .i64 0)],rfl,(show GT.ok M [(.int .i64 0)] (0:Int) from rfl),⟨[(.int .i64 0)],[(.int .i64 0),(.int .i64 0),(.int .i64 0),(.int .i64 0)],rfl,(show GT.ok M [(.int .i64 0)] (0:Int) from rfl),⟨[(.int .i64 0),(.int .i64 0)],[(.int .i64 0),(.int .i64 0)],rfl,(show GT.ok M [(.int .i64 0),(.int .i64 0)] (⟨0,0⟩:eF) from vE M),(show GT.ok M [(.int .i64 0),(.int .i64 0)] (⟨0,0⟩:eF) from vE M)⟩⟩⟩⟩
theorem tn (M:dE):GT.ok M (#[(.int .i64 0),(.int .i64 0),(.slice none 0 0)]:Array Value).toList (⟨0,0,[]⟩:aA):=⟨[(.int .i64 0)],[(.int .i64 0),(.slice none 0 0)],rfl,(show GT.ok M [(.int .i64 0)] (0:Int) from rfl),⟨[(.int .i64 0)],[(.slice none 0 0)],rfl,(show GT.ok M [(.int .i64 0)] (0:Int) from rfl),(show GT.ok M [(.slice none 0 0)] ([]: (List Int)) from ⟨_,rfl,none,0,0,rfl,rfl,bL _,by simp [maxLen],fun _ _ h=>by simp at h⟩)⟩⟩
structure bZ where
  mz: (List Int)
  aV: (List Int)
  gC:RV
  deriving Inhabited
def pf (x:bZ):=(x.mz,x.aV,x.gC)
instance instGTGroup_r2:GT bZ:=GT.via pf
theorem xl:Fd 2 (fun x:bZ=>x.gC):= .v pf (.snd (.snd (.self)))
theorem xm:Fs 2 RV (fun(x:bZ) y=>{x with gC:=y}):= .v pf (.snd (.snd (.self)))
def bS:XT bZ cL:=⟨fun u x=>u.mz=x.mz/\u.aV=x.aV,fun M h u x=>(u.mz=x.mz/\u.aV=x.aV)/\rY 29 M h u.gC.v x.gC,fun{M M' h u x} hk hh=>⟨hh.1,(own 29 u.gC.v x.gC).mono hk hh.2⟩,fun h=>h.1⟩
theorem qh:XO bS 29 2 (fun u=>u.gC) (fun u r=>{u with gC:=r}) (fun x=>x.gC) (fun x y=>{x with gC:=y}):=⟨xl,xm,by decide,fun h=>h.2,fun hr ho=>⟨hr,ho⟩⟩
theorem yE (M h:dE) (u:bZ) (x:cL) (cs:List Value) (hd: ∀b o,h b=some o->M b=none) (hx:bS.ok M h u x) (hc:GT.ok M cs u):GT.ok (nK M h) cs x:=by
  obtain⟨⟨e0,e1⟩,ho⟩:=hx
  obtain⟨c0,d0,hd0,a0,c1,d1,hd1,a1,a2⟩:=hc
  exact⟨c0,d0,hd0,GT.mono (qS M h) (show GT.ok M c0 x.mz from e0▸(show GT.ok M c0 u.mz from a0)),⟨c1,d1,hd1,GT.mono (qS M h) (show GT.ok M c1 x.aV from e1▸(show GT.ok M c1 u.aV from a1)),⟨u.gC.v,a2,rY.sl hd ho⟩⟩⟩
theorem vo:kX bF 27 true 4:=r9
theorem uy:lQ bF 27 0 0:=ng
theorem Cy:kX bF 22 false 1:=r9
theorem z5:Tryz.prog.underlying 22=some (.slice 23):=by kernel_rfl
theorem DN:lQ bF 27 1 1:=ng
theorem we:kX bF 23 false 1:=r9
theorem nL:Tryz.prog.underlying 23=some (.slice 50):=by kernel_rfl
theorem A2:ui bF 22 23 1:=BW
theorem kd:ui bF 23 50 4:=BW
theorem eZ:kX bF 50 true 4:=r9
theorem lU:zi bF 50 4:=AJ (.agg #[(.int .i64 0),(.int .i64 0),(.int .i64 0),(.int .i64 0)])
theorem iX:lQ bF 50 0 0:=ng
theorem cG:kX bF 3 false 1:=r9
theorem IJ:hZ bF 90:=iI Tryz.func90
theorem Cz:hZ bF 74:=iI Tryz.func74
theorem jy:lQ bF 50 1 1:=ng
theorem ke:lQ bF 50 2 2:=ng
theorem nk:lQ bF 50 3 3:=ng
theorem Hg:hZ bF 59:=iI Tryz.func59
theorem IK:hZ bF 35:=iI Tryz.func35
theorem mixed:Tryz.prog.follows .mixedOrders=true:=by kernel_rfl
theorem CA:rJ bF 23 50 4 32:=rJ.of (.agg #[(.int .i64 0),(.int .i64 0),(.int .i64 0),(.int .i64 0)])
theorem IL:hZ bF 60:=iI Tryz.func60
theorem IM:hZ bF 62:=iI Tryz.func62
theorem Hh:hZ bF 61:=iI Tryz.func61
theorem Hi:GX bF 46 [(.slice none 0 0)]:=⟨(.slice none 0 0),fun _=>by kernel_rfl,rfl⟩
theorem eU:kX bF 46 false 1:=r9
theorem eE:ui bF 46 3 1:=BW
theorem DO:zi bF 3 1:=AJ (.int .i64 0)
theorem tp:rJ bF 46 3 1 8:=rJ.of (.int .i64 0)
theorem IN:hZ bF 63:=iI Tryz.func63
theorem lx:Tryz.prog.underlying 46=some (.slice 3):=by kernel_rfl
theorem GY:EW bF 3 (0:Int):=EW.of (.int .i64 0) (fun M=>rfl)
theorem IP:hZ bF 64:=iI Tryz.func64
theorem Hj:hZ bF 78:=iI Tryz.func78
theorem IQ:EW bF 50 (⟨0,0,0,0⟩:aI):=EW.of (.agg #[(.int .i64 0),(.int .i64 0),(.int .i64 0),(.int .i64 0)]) (fun M=>(qg M))
theorem IS:hZ bF 66:=iI Tryz.func66
theorem IT:hZ bF 65:=iI Tryz.func65
theorem IU:hZ bF 85:=iI Tryz.func85
theorem IV:hZ bF 68:=iI Tryz.func68
theorem F1:sZ bF 129 [(0,1),(1,1),(2,1)] #[(.int .i64 0),(.int .i64 0),(.slice none 0 0)]:=sZ.of (.agg #[(.int .i64 0),(.int .i64 0),(.slice none 0 0)]) Tryz.underlying129
theorem jW:lQ bF 129 2 2:=ng
theorem kZ:lQ bF 129 1 1:=ng
theorem mQ:lQ bF 129 0 0:=ng
theorem rn:Tryz.prog.underlying 76=some (.slice 129):=by kernel_rfl
theorem mC:ui bF 76 129 3:=BW
theorem IW:hZ bF 84:=iI Tryz.func84
theorem tq:kX bF 129 true 3:=r9
theorem z6:zi bF 129 3:=AJ (.agg #[(.int .i64 0),(.int .i64 0),(.slice none 0 0)])
theorem IX:rJ bF 76 129 3 40:=rJ.of (.agg #[(.int .i64 0),(.int .i64 0),(.slice none 0 0)])
theorem Hk:hZ bF 67:=iI Tryz.func67
theorem DQ:hZ bF 37:=iI Tryz.func37
theorem A3:sZ bF 50 [(0,1),(1,1),(2,1),(3,1)] #[(.int .i64 0),(.int .i64 0),(.int .i64 0),(.int .i64 0)]:=sZ.of (.agg #[(.int .i64 0),(.int .i64 0),(.int .i64 0),(.int .i64 0)]) Tryz.underlying50
theorem Gw:hZ bF 38:=iI Tryz.func38
theorem De:Tryz.prog.underlying 3=some (.int .i64):=by kernel_rfl
theorem Hl:FW bF 50 aI:=⟨fun M cs ds a b w ha hb=>by
  obtain⟨_,_,rfl,rfl,⟨_,_,rfl,rfl,⟨_,_,rfl,rfl,rfl⟩⟩⟩:=ha
  obtain⟨_,_,rfl,rfl,⟨_,_,rfl,rfl,⟨_,_,rfl,rfl,rfl⟩⟩⟩:=hb
  refine(ja 9999 Tryz.underlying50 (vO.cons (by decide) (cX cG _) (cX cG _) (jq De _ _ w) (vO.cons (by decide) (cX cG _) (cX cG _) (jq De _ _ w) (vO.cons (by decide) (cX cG _) (cX cG _) (jq De _ _ w) (vO.cons (by decide) (cX cG _) (cX cG _) (jq De _ _ w) vO.nil))))).trans ?_
  congr 1
  cases a;cases b;unfold kL
  rw [fz]
  simp,by kernel_rfl⟩
theorem IY:hZ bF 36:=iI Tryz.func36
theorem Hm:hZ bF 13:=iI Tryz.func13
theorem lV:lQ bF 27 2 2:=ng
theorem uz:kX bF 24 false 1:=r9
theorem wg:Tryz.prog.underlying 24=some (.slice 60):=by kernel_rfl
theorem yF:ui bF 24 60 6:=BW
theorem nM:kX bF 60 true 6:=r9
theorem CB:zi bF 60 6:=AJ (.agg #[(.int .i64 0),(.int .i64 0),(.int .i64 0),(.int .i64 0),(.int .i64 0),(.bool false)])
theorem wh:lQ bF 60 1 2:=ng
theorem Fi:hZ bF 40:=iI Tryz.func40
theorem A4:lQ bF 60 0 0:=ng
theorem rp:kX bF 52 true 2:=r9
theorem qj:lQ bF 52 0 0:=ng
theorem oh:lQ bF 52 1 1:=ng
theorem Hn:hZ bF 43:=iI Tryz.func43
theorem CC:hZ bF 17:=iI Tryz.func17
theorem IZ:hZ bF 86:=iI Tryz.func86
theorem I0:hZ bF 69:=iI Tryz.func69
theorem I1:hZ bF 39:=iI Tryz.func39
theorem sd:lQ bF 60 2 3:=ng
theorem uA:lQ bF 60 3 4:=ng
theorem I2:hZ bF 14:=iI Tryz.func14
theorem uB:lQ bF 27 3 3:=ng
theorem CD:kX bF 25 false 1:=r9
theorem DR:Tryz.prog.underlying 25=some (.slice 54):=by kernel_rfl
theorem CE:ui bF 25 54 5:=BW
theorem wi:kX bF 54 true 5:=r9
theorem Gx:zi bF 54 5:=AJ (.agg #[(.string ⟨#[]⟩),(.string ⟨#[]⟩),(.int .i64 0),(.int .i64 0),(.int .i64 0)])
theorem DS:lQ bF 54 0 0:=ng
theorem A5:kX bF 9 false 1:=r9
theorem yG:Tryz.prog.underlying 9=some (.string):=by kernel_rfl
theorem I3 (a:dC) (b:Int) (w:World): (callFunc 129 [(str a),(.int .u8 b)].toArray).run bF w = .ok (.value (vi ((Lib.countByte a.cK (Int.toNat b).toUInt8:Nat):Int))) w:=vN Extern.BytealgCount.count Tryz.func129 (Lib.run_countString _ _ w)
theorem dH (a:dC) (b:Int) (w:World): (callFunc 117 [(str a),(.int .u8 b)].toArray).run bF w = .ok (.value (vi (Lib.indexByte a.cK (Int.toNat b).toUInt8))) w:=vN Extern.BytealgIndexByte.indexByte Tryz.func117 (Lib.run_indexByteString _ _ w)
theorem Ho:hZ bF 89:=iI Tryz.func89
theorem Hp:hZ bF 130:=iI Tryz.func130
theorem F2:hZ bF 116:=iI Tryz.func116
theorem Hq:hZ bF 115:=iI Tryz.func115
theorem Hr:rJ bF 131 9 1 16:=rJ.of (.string ⟨#[]⟩)
theorem Kt:EW bF 9 (⟨[]⟩:dC):=EW.of (.string ⟨#[]⟩) (fun M=>rfl)
theorem BX:ui bF 131 9 1:=BW
theorem I4:hZ bF 88:=iI Tryz.func88
theorem I5:hZ bF 71:=iI Tryz.func71
theorem Hs:Tryz.prog.underlying 131=some (.slice 9):=by kernel_rfl
theorem I6:hZ bF 87:=iI Tryz.func87
theorem I7:hZ bF 73:=iI Tryz.func73
theorem Ht:hZ bF 42:=iI Tryz.func42
theorem I8:hZ bF 72:=iI Tryz.func72
theorem I9:hZ bF 70:=iI Tryz.func70
theorem Ja:hZ bF 41:=iI Tryz.func41
theorem DT:lQ bF 54 1 1:=ng
theorem A6:lQ bF 54 2 2:=ng
theorem A7:lQ bF 54 3 3:=ng
theorem Hu:zi bF 29 2:=AJ (.agg #[(.string ⟨#[]⟩),(.string ⟨#[]⟩)])
theorem Gy:sZ bF 29 [(0,1),(1,1)] #[(.string ⟨#[]⟩),(.string ⟨#[]⟩)]:=sZ.of (.agg #[(.string ⟨#[]⟩),(.string ⟨#[]⟩)]) Tryz.underlying29
theorem tr:kX bF 29 true 2:=r9
theorem Fj:hZ bF 34:=iI Tryz.func34
theorem DU:lQ bF 29 0 0:=ng
theorem Dz (a b:dC) (w:World): (callFunc 94 [(str a),(str b)].toArray).run bF w = .ok (.value (vi (Lib.compareBytes a.cK b.cK))) w:=vN Extern.BytealgCompare.compare Tryz.func94 (Lib.run_compareString _ _ w)
theorem Jb:hZ bF 80:=iI Tryz.func80
theorem Hv:hZ bF 58:=iI Tryz.func58
theorem DV:lQ bF 29 1 1:=ng
theorem Hx:hZ bF 33:=iI Tryz.func33
theorem Jc:hZ bF 15:=iI Tryz.func15
theorem Hy:hZ bF 44:=iI Tryz.func44
theorem Fk:hZ bF 16:=iI Tryz.func16
theorem Jd:sZ bF 69 [(0,4),(4,1),(5,1),(6,1),(7,1),(8,1),(9,1),(10,1),(11,1)] #[(.slice none 0 0),(.slice none 0 0),(.slice none 0 0),(.slice none 0 0),(.slice none 0 0),(.slice none 0 0),(.slice none 0 0),(.slice none 0 0),(.slice none 0 0),(.slice none 0 0),(.slice none 0 0),(.slice none 0 0)]:=sZ.of (.agg #[(.slice none 0 0),(.slice none 0 0),(.slice none 0 0),(.slice none 0 0),(.slice none 0 0),(.slice none 0 0),(.slice none 0 0),(.slice none 0 0),(.slice none 0 0),(.slice none 0 0),(.slice none 0 0),(.slice none 0 0)]) Tryz.underlying69
theorem mD:lQ bF 69 0 0:=ng
theorem Gz:hZ bF 45:=iI Tryz.func45
theorem DW:ui bF 63 76 1:=BW
theorem GA:zi bF 76 1:=AJ (.slice none 0 0)
theorem Hz:Tryz.prog.underlying 63=some (.slice 76):=by kernel_rfl
theorem HA:kX bF 76 false 1:=r9
theorem HB:hZ bF 91:=iI Tryz.func91
theorem HC:Tryz.prog.underlying 4=some (.bool):=by kernel_rfl
theorem Je:hZ bF 92:=iI Tryz.func92
theorem Jf:hZ bF 76:=iI Tryz.func76
theorem Jg:hZ bF 75:=iI Tryz.func75
theorem Jh:hZ bF 46:=iI Tryz.func46
theorem Ji:hZ bF 47:=iI Tryz.func47
theorem DX:lQ bF 69 1 4:=ng
theorem HD:kX bF 63 false 1:=r9
theorem HE:rJ bF 63 76 1 24:=rJ.of (.slice none 0 0)
theorem GB:hZ bF 77:=iI Tryz.func77
theorem z7:AT bF 87 3 3 Int Int (0:Int):=⟨by kernel_rfl,(vP.int De),BN (.int .i64 0) (fun M=>⟨_,rfl,rfl⟩)⟩
theorem HF:zi bF 23 1:=AJ (.slice none 0 0)
theorem Jj:rJ bF 22 23 1 24:=rJ.of (.slice none 0 0)
theorem Jk:hZ bF 48:=iI Tryz.func48
theorem mE:lQ bF 69 2 5:=ng
theorem vq:kX bF 64 false 1:=r9
theorem Jl:sZ bF 78 [(0,1),(1,1),(2,1)] #[(.int .i64 0),(.slice none 0 0),(.slice none 0 0)]:=sZ.of (.agg #[(.int .i64 0),(.slice none 0 0),(.slice none 0 0)]) Tryz.underlying78
theorem CF:ui bF 64 78 3:=BW
theorem Fm:zi bF 78 3:=AJ (.agg #[(.int .i64 0),(.slice none 0 0),(.slice none 0 0)])
theorem Jm:rJ bF 64 78 3 56:=rJ.of (.agg #[(.int .i64 0),(.slice none 0 0),(.slice none 0 0)])
theorem z8:Tryz.prog.underlying 64=some (.slice 78):=by kernel_rfl
theorem Jn:hZ bF 18:=iI Tryz.func18
theorem Jo:hZ bF 51:=iI Tryz.func51
theorem CG:kX bF 78 true 3:=r9
theorem yH:lQ bF 60 4 5:=ng
theorem xU:kX bF 4 false 1:=r9
theorem yI:lQ bF 78 0 0:=ng
theorem yJ:lQ bF 78 2 2:=ng
theorem Jp:hZ bF 50:=iI Tryz.func50
theorem HG:hZ bF 49:=iI Tryz.func49
theorem yK:lQ bF 69 3 6:=ng
theorem Fp:kX bF 65 false 1:=r9
theorem A8:ui bF 65 46 1:=BW
theorem HH:zi bF 46 1:=AJ (.slice none 0 0)
theorem HI:rJ bF 65 46 1 24:=rJ.of (.slice none 0 0)
theorem Jq:hZ bF 19:=iI Tryz.func19
theorem HJ:sZ bF 117 [(0,1)] #[(.slice none 0 0)]:=sZ.of (.agg #[(.slice none 0 0)]) Tryz.underlying117
theorem mR:lQ bF 117 0 0:=ng
theorem HK:hZ bF 25:=iI Tryz.func25
theorem Fq:Tryz.prog.underlying 65=some (.slice 46):=by kernel_rfl
theorem CH:hZ bF 28:=iI Tryz.func28
theorem HL:hZ bF 27:=iI Tryz.func27
theorem uC:lQ bF 69 5 8:=ng
theorem wj:lQ bF 69 6 9:=ng
theorem Jr:hZ bF 52:=iI Tryz.func52
theorem Js:GX bF 73 [(.slice none 0 0),(.slice none 0 0),(.slice none 0 0)]:=⟨(.agg #[(.slice none 0 0),(.slice none 0 0),(.slice none 0 0)]),fun _=>by kernel_rfl,rfl⟩
theorem sf:lQ bF 69 4 7:=ng
theorem A9:kX bF 66 false 1:=r9
theorem HM:Tryz.prog.underlying 66=some (.slice 73):=by kernel_rfl
theorem Ba:lQ bF 73 0 0:=ng
theorem Bb:lQ bF 73 1 1:=ng
theorem Jt:kX bF 73 true 3:=r9
theorem Ft:ui bF 66 73 3:=BW
theorem Ju:zi bF 73 3:=AJ (.agg #[(.slice none 0 0),(.slice none 0 0),(.slice none 0 0)])
theorem Jv:rJ bF 66 73 3 72:=rJ.of (.agg #[(.slice none 0 0),(.slice none 0 0),(.slice none 0 0)])
theorem Fu:zi bF 38 2:=AJ (.agg #[(.bool false),(.int .i64 0)])
theorem Jw:hZ bF 93:=iI Tryz.func93
theorem HN:hZ bF 79:=iI Tryz.func79
theorem CI:sZ bF 38 [(0,1),(1,1)] #[(.bool false),(.int .i64 0)]:=sZ.of (.agg #[(.bool false),(.int .i64 0)]) Tryz.underlying38
theorem ql:kX bF 38 true 2:=r9
theorem Jx:hZ bF 53:=iI Tryz.func53
theorem Bc:lQ bF 38 0 0:=ng
theorem sg:lQ bF 38 1 1:=ng
theorem Jy:hZ bF 54:=iI Tryz.func54
theorem Be:lQ bF 73 2 2:=ng
theorem GC:kX bF 71 false 1:=r9
theorem Jz:ui bF 71 29 2:=BW
theorem JA:rJ bF 71 29 2 32:=rJ.of (.agg #[(.string ⟨#[]⟩),(.string ⟨#[]⟩)])
theorem Bf:lQ bF 69 7 10:=ng
theorem Bg:lQ bF 69 8 11:=ng
theorem GD:kX bF 67 false 1:=r9
theorem HO:ui bF 67 38 2:=BW
theorem JB:rJ bF 67 38 2 16:=rJ.of (.agg #[(.bool false),(.int .i64 0)])
theorem JC:hZ bF 20:=iI Tryz.func20
theorem Kj:hZ bF 7:=iI Tryz.func7
theorem GF:hZ bF 21:=iI Tryz.func21
theorem JD:GX bF 30 [(.slice none 0 0)]:=⟨(.slice none 0 0),fun _=>by kernel_rfl,rfl⟩
theorem vr:kX bF 42 false 1:=r9
theorem JE:Tryz.prog.underlying 71=some (.slice 29):=by kernel_rfl
theorem CJ:kX bF 30 false 1:=r9
theorem HQ:sZ bF 40 [(0,1),(1,2),(3,1),(4,1)] #[(.bool false),(.bool false),(.int .i64 0),(.int .i64 0),(.int .i64 0)]:=sZ.of (.agg #[(.bool false),(.bool false),(.int .i64 0),(.int .i64 0),(.int .i64 0)]) Tryz.underlying40
theorem vt:ui bF 30 40 5:=BW
theorem yL:zi bF 40 5:=AJ (.agg #[(.bool false),(.bool false),(.int .i64 0),(.int .i64 0),(.int .i64 0)])
theorem GG:rJ bF 30 40 5 40:=rJ.of (.agg #[(.bool false),(.bool false),(.int .i64 0),(.int .i64 0),(.int .i64 0)])
theorem HR:hZ bF 22:=iI Tryz.func22
theorem HS:zi bF 80 7:=AJ (.agg #[(.int .i64 0),(.int .i64 0),(.int .i64 0),(.int .i64 0),(.int .i64 0),(.int .i64 0),(.int .i64 0)])
theorem JF:sZ bF 80 [(0,1),(1,1),(2,1),(3,2),(5,2)] #[(.int .i64 0),(.int .i64 0),(.int .i64 0),(.int .i64 0),(.int .i64 0),(.int .i64 0),(.int .i64 0)]:=sZ.of (.agg #[(.int .i64 0),(.int .i64 0),(.int .i64 0),(.int .i64 0),(.int .i64 0),(.int .i64 0),(.int .i64 0)]) Tryz.underlying80
theorem Fv:kX bF 80 true 7:=r9
theorem GH:zi bF 52 2:=AJ (.agg #[(.int .i64 0),(.int .i64 0)])
theorem JG:sZ bF 52 [(0,1),(1,1)] #[(.int .i64 0),(.int .i64 0)]:=sZ.of (.agg #[(.int .i64 0),(.int .i64 0)]) Tryz.underlying52
theorem HT:hZ bF 55:=iI Tryz.func55
theorem uD:lQ bF 80 3 3:=ng
theorem HU:hZ bF 56:=iI Tryz.func56
theorem DY:lQ bF 80 4 5:=ng
theorem JH:hZ bF 23:=iI Tryz.func23
theorem GI:II bF 80 2 3 2:=⟨fun _ _=>by kernel_rfl⟩
theorem yM:Tryz.prog.underlying 30=some (.slice 40):=by kernel_rfl
theorem Ku:hZ bF 8:=iI Tryz.func8
theorem JI:GX bF 83 [(.map none)]:=⟨(.map none),fun _=>by kernel_rfl,rfl⟩
theorem DZ:kX bF 83 false 1:=r9
theorem si:kX bF 40 true 5:=r9
theorem sj:lQ bF 40 0 0:=ng
theorem uE:lQ bF 40 1 1:=ng
theorem HV:hZ bF 24:=iI Tryz.func24
theorem Fw:AT bF 83 3 4 Int Bool (false:Bool):=⟨by kernel_rfl,(vP.int De),BN (.bool false) (fun M=>⟨_,rfl,rfl⟩)⟩
theorem JJ:GX bF 84 [(.pointer none)]:=⟨(.pointer none),fun _=>by kernel_rfl,rfl⟩
theorem D0:kX bF 84 false 1:=r9
theorem HW:hZ bF 26:=iI Tryz.func26
theorem yN:lQ bF 40 2 3:=ng
theorem yO:lQ bF 40 3 4:=ng
theorem JK:Tryz.prog.underlying 67=some (.slice 38):=by kernel_rfl
theorem JL:hZ bF 9:=iI Tryz.func9
theorem JM:hZ bF 10:=iI Tryz.func10
theorem Kv:hZ bF 4:=iI Tryz.func4
theorem HX:FW bF 29 fD:=⟨fun M cs ds a b w ha hb=>by
  obtain⟨_,_,rfl,rfl,rfl⟩:=ha
  obtain⟨_,_,rfl,rfl,rfl⟩:=hb
  refine(ja 9999 Tryz.underlying29 (vO.cons (by decide) (cX A5 _) (cX A5 _) (r5 yG _ _ w) (vO.cons (by decide) (cX A5 _) (cX A5 _) (r5 yG _ _ w) vO.nil))).trans ?_
  congr 1
  cases a;cases b;unfold qV
  rw [fz]
  simp,by kernel_rfl⟩
theorem JN:sZ bF 54 [(0,1),(1,1),(2,1),(3,2)] #[(.string ⟨#[]⟩),(.string ⟨#[]⟩),(.int .i64 0),(.int .i64 0),(.int .i64 0)]:=sZ.of (.agg #[(.string ⟨#[]⟩),(.string ⟨#[]⟩),(.int .i64 0),(.int .i64 0),(.int .i64 0)]) Tryz.underlying54
theorem JO:sZ bF 27 [(0,1),(1,1),(2,1),(3,1)] #[(.slice none 0 0),(.slice none 0 0),(.slice none 0 0),(.slice none 0 0)]:=sZ.of (.agg #[(.slice none 0 0),(.slice none 0 0),(.slice none 0 0),(.slice none 0 0)]) Tryz.underlying27
theorem JP:zi bF 27 4:=AJ (.agg #[(.slice none 0 0),(.slice none 0 0),(.slice none 0 0),(.slice none 0 0)])
theorem HY:FW bF 38 dO:=⟨fun M cs ds a b w ha hb=>by
  obtain⟨_,_,rfl,rfl,rfl⟩:=ha
  obtain⟨_,_,rfl,rfl,rfl⟩:=hb
  refine(ja 9999 Tryz.underlying38 (vO.cons (by decide) (cX xU _) (cX xU _) (me HC _ _ w) (vO.cons (by decide) (cX cG _) (cX cG _) (jq De _ _ w) vO.nil))).trans ?_
  congr 1
  cases a;cases b;unfold o9
  rw [fz]
  simp,by kernel_rfl⟩
theorem GJ:hZ bF 29:=iI Tryz.func29
theorem HZ:FW bF 40 bY:=⟨fun M cs ds a b w ha hb=>by
  obtain⟨_,_,rfl,rfl,⟨_,_,rfl,⟨_,_,rfl,rfl,rfl⟩,⟨_,_,rfl,rfl,rfl⟩⟩⟩:=ha
  obtain⟨_,_,rfl,rfl,⟨_,_,rfl,⟨_,_,rfl,rfl,rfl⟩,⟨_,_,rfl,rfl,rfl⟩⟩⟩:=hb
  refine(ja 9999 Tryz.underlying40 (vO.cons (by decide) (cX xU _) (cX xU _) (me HC _ _ w) (vO.cons (by decide) (um ql rfl _) (um ql rfl _) (ja 9998 Tryz.underlying37 (vO.cons (by decide) (cX xU _) (cX xU _) (me HC _ _ w) (vO.cons (by decide) (cX cG _) (cX cG _) (jq De _ _ w) vO.nil))) (vO.cons (by decide) (cX cG _) (cX cG _) (jq De _ _ w) (vO.cons (by decide) (cX cG _) (cX cG _) (jq De _ _ w) vO.nil))))).trans ?_
  congr 1
  obtain⟨_,⟨_,_⟩,_,_⟩:=a;obtain⟨_,⟨_,_⟩,_,_⟩:=b;unfold kM o9
  rw [fz]
  simp,by kernel_rfl⟩
theorem JQ:hZ bF 57:=iI Tryz.func57
theorem JR:hZ bF 30:=iI Tryz.func30
theorem JS:hZ bF 11:=iI Tryz.func11
theorem F3:Tryz.prog.underlying 119=some (.int .u64):=by kernel_rfl
theorem JT:hZ bF 32:=iI Tryz.func32
theorem JU:hZ bF 31:=iI Tryz.func31
theorem H0:hZ bF 12:=iI Tryz.func12
theorem JV:hZ bF 6:=iI Tryz.func6
theorem JW:hZ bF 5:=iI Tryz.func5
def iE (E:World) (V:List HP) (b0:Nat) (v0_0 v0_1:Value) (v0_2 v0_3:Value) (v0_4 v0_5:Value) (v0_6 v0_7:Value) (v0_8 v0_9:Value) (v0_10 v0_11:Value) (res:Int) (v:Value) (w:World):Prop:=v= (vi res)/\Holds E w ([bc 69 b0 [v0_0,v0_1,v0_2,v0_3,v0_4,v0_5,v0_6,v0_7,v0_8,v0_9,v0_10,v0_11]]++V)
def nW (E:World) (V:List HP) (res:aI) (v:Value) (w:World):Prop:=Holds E w ([rd v res]++V)
def nn (E:World) (V:List HP) (res: (List dC)) (v:Value) (w:World):Prop:=Holds E w ([own 9 v res]++V)
def bD (E:World) (V:List HP) (res:Bool) (v:Value) (w:World):Prop:=v= (vb res)/\Holds E w V
def aQ (E:World) (V:List HP) (res:Int) (v:Value) (w:World):Prop:=v= (vi res)/\Holds E w V
def kI (E:World) (V:List HP) (res: (List aI)) (v:Value) (w:World):Prop:=Holds E w ([own 50 v res]++V)
def kf (E:World) (V:List HP) (res: (List Int)) (v:Value) (w:World):Prop:=Holds E w ([own 3 v res]++V)
def kB (E:World) (V:List HP) (res: (List aA)) (v:Value) (w:World):Prop:=Holds E w ([own 129 v res]++V)
end Go.Gk
namespace Go.Gk
open Go Go.Proofs
def vG (H:Type) (d:DataW H):Nat:=YtgjiokjfpghfgacGreatDoor.Rows.uptoBulk d
def H4 (H:Type) (d:List (DataW H)):Nat:=YtgjiokjfpghfgacGreatDoor.Rows.uptoBulkAll d
theorem gM:UB vG H4 where
  str:=fun H b=>by simp [vG,YtgjiokjfpghfgacGreatDoor.Rows.uptoBulk]
  pos:=fun H d=>by
    unfold vG
    cases d with
    | lit l=>cases l <;> simp [YtgjiokjfpghfgacGreatDoor.Rows.uptoBulk]
    | nil=>simp [YtgjiokjfpghfgacGreatDoor.Rows.uptoBulk]
    | ptr d=>simp [YtgjiokjfpghfgacGreatDoor.Rows.uptoBulk]
    | slice elems spare=>simp [YtgjiokjfpghfgacGreatDoor.Rows.uptoBulk]
    | agg parts=>simp [YtgjiokjfpghfgacGreatDoor.Rows.uptoBulk]
    | iface t d=>simp [YtgjiokjfpghfgacGreatDoor.Rows.uptoBulk]
    | map entries=>simp [YtgjiokjfpghfgacGreatDoor.Rows.uptoBulk]
    | held h=>simp [YtgjiokjfpghfgacGreatDoor.Rows.uptoBulk]
  sl:=fun H e s=>by simp [vG,H4,YtgjiokjfpghfgacGreatDoor.Rows.uptoBulk]
  ag:=fun H l=>by simp [vG,H4,YtgjiokjfpghfgacGreatDoor.Rows.uptoBulk]
  nil:=fun H=>by simp [H4,YtgjiokjfpghfgacGreatDoor.Rows.uptoBulkAll]
  cons:=fun H x l=>by simp [vG,H4,YtgjiokjfpghfgacGreatDoor.Rows.uptoBulkAll]
theorem Df:iv vG Tryz.prog 3 Int:=CO gM (by kernel_rfl)
theorem JX:iv vG Tryz.prog 50 aI:=kC gM (fun(x:aI)=>(x.X0,x.Y0,x.X1,x.Y1)) (fun b=>⟨b.1,b.2.1,b.2.2.1,b.2.2.2⟩) (fun b=>rfl) Tryz.underlying50 (fG gM Df (fG gM Df (fG gM Df (m5 gM Df)))) (fun b=>by simp only [FC];omega)
theorem H5:iv vG Tryz.prog 23 (List aI):=po (e:=50) gM JX
theorem JY:iv vG Tryz.prog 22 (List (List aI)):=po (e:=23) gM H5
theorem H6:iv vG Tryz.prog 52 eF:=kC gM (fun(x:eF)=>(x.X,x.Y)) (fun b=>⟨b.1,b.2⟩) (fun b=>rfl) Tryz.underlying52 (fG gM Df (m5 gM Df)) (fun b=>by simp only [Ec];omega)
theorem Kw:iv vG Tryz.prog 4 Bool:=Bl gM (by kernel_rfl)
theorem JZ:iv vG Tryz.prog 60 bU:=kC gM (fun(x:bU)=>(x.At,x.eN,x.bM,x.To,x.gA)) (fun b=>⟨b.1,b.2.1,b.2.2.1,b.2.2.2.1,b.2.2.2.2⟩) (fun b=>rfl) Tryz.underlying60 (fG gM H6 (fG gM Df (fG gM Df (fG gM Df (m5 gM Kw))))) (fun b=>by simp only [FD];omega)
theorem J0:iv vG Tryz.prog 24 (List bU):=po (e:=60) gM JZ
theorem Is:iv vG Tryz.prog 9 dC:=CP gM (by kernel_rfl)
theorem J3:iv vG Tryz.prog 54 cV:=kC gM (fun(x:cV)=>(x.Part,x.fD,x.cR,x.At)) (fun b=>⟨b.1,b.2.1,b.2.2.1,b.2.2.2⟩) (fun b=>rfl) Tryz.underlying54 (fG gM Is (fG gM Is (fG gM Df (m5 gM H6)))) (fun b=>by simp only [B0];omega)
theorem J4:iv vG Tryz.prog 25 (List cV):=po (e:=54) gM J3
theorem J5:iv vG Tryz.prog 27 jT:=kC gM (fun(x:jT)=>(x.aL,x.dU,x.aV,x.bH)) (fun b=>⟨b.1,b.2.1,b.2.2.1,b.2.2.2⟩) (fun b=>rfl) Tryz.underlying27 (fG gM JY (fG gM H5 (fG gM J0 (m5 gM J4)))) (fun b=>by simp only [Ed];omega)
theorem H7:iv vG Tryz.prog 29 fD:=kC gM (fun(x:fD)=>(x.Part,x.fD)) (fun b=>⟨b.1,b.2⟩) (fun b=>rfl) Tryz.underlying29 (fG gM Is (m5 gM Is)) (fun b=>by simp only [GK];omega)
end Go.Gk
namespace Go.Proofs
open Go.Shelf Go.RowKit Go.Lib Go.Sort
def Tryz.lay61_ren : Go.Shelf.Ren := ⟨fun | 6 => 61 | 15 => 82 | 14 => 81 | 28 => 103 | 29 => 104 | 20 => 95 | 21 => 96 | 22 => 97 | 23 => 98 | 24 => 99 | 25 => 100 | 26 => 101 | 27 => 102 | 46 => 118 | 47 => 119 | 48 => 120 | 49 => 121 | 50 => 122 | 57 => 131 | n => n, fun | 22 => 23 | 24 => 50 | 25 => 61 | 3 => 3 | 39 => 119 | 0 => 0 | 53 => 155 | 55 => 157 | 4 => 4 | 46 => 149 | 45 => 148 | 50 => 88 | 5 => 5 | 9 => 9 | 66 => 165 | 70 => 169 | 76 => 176 | 77 => 177 | n => n, fun | n => n⟩
theorem Tryz.lay61 : Go.Proofs.SlLaysF0.n6 Tryz.prog Tryz.lay61_ren := {
  mixed := by kernel_rfl
  f6 := ⟨Tryz.f61.name, by decide, Tryz.func61.trans (congrArg some (by kernel_rfl))⟩
  f14 := ⟨Tryz.f81.name, by decide, Tryz.func81.trans (congrArg some (by kernel_rfl))⟩
  f15 := Tryz.func82.trans (congrArg some (by kernel_rfl))
  f20 := ⟨Tryz.f95.name, by decide, Tryz.func95.trans (congrArg some (by kernel_rfl))⟩
  f21 := ⟨Tryz.f96.name, by decide, Tryz.func96.trans (congrArg some (by kernel_rfl))⟩
  f22 := ⟨Tryz.f97.name, by decide, Tryz.func97.trans (congrArg some (by kernel_rfl))⟩
  f23 := ⟨Tryz.f98.name, by decide, Tryz.func98.trans (congrArg some (by kernel_rfl))⟩
  f24 := ⟨Tryz.f99.name, by decide, Tryz.func99.trans (congrArg some (by kernel_rfl))⟩
  f25 := ⟨Tryz.f100.name, by decide, Tryz.func100.trans (congrArg some (by kernel_rfl))⟩
  f26 := ⟨Tryz.f101.name, by decide, Tryz.func101.trans (congrArg some (by kernel_rfl))⟩
  f27 := ⟨Tryz.f102.name, by decide, Tryz.func102.trans (congrArg some (by kernel_rfl))⟩
  f28 := Tryz.func103.trans (congrArg some (by kernel_rfl))
  f29 := Tryz.func104.trans (congrArg some (by kernel_rfl))
  f46 := ⟨Tryz.f118.name, by decide, Tryz.func118.trans (congrArg some (by kernel_rfl))⟩
  f47 := Tryz.func119.trans (congrArg some (by kernel_rfl))
  f48 := Tryz.func120.trans (congrArg some (by kernel_rfl))
  f49 := ⟨Tryz.f121.name, by decide, Tryz.func121.trans (congrArg some (by kernel_rfl))⟩
  f50 := ⟨Tryz.f122.name, by decide, Tryz.func122.trans (congrArg some (by kernel_rfl))⟩
  f57 := ⟨Tryz.f131.name, by decide, Tryz.func131.trans (congrArg some (by kernel_rfl))⟩
  t0 := Tryz.underlying0
  a0 := Tryz.isAgg0
  z0 := Tryz.sizeOf0
  v0 := Tryz.zeroValue0
  t3 := Tryz.underlying3
  a3 := Tryz.isAgg3
  z3 := Tryz.sizeOf3
  v3 := Tryz.zeroValue3
  t4 := Tryz.underlying4
  a4 := Tryz.isAgg4
  z4 := Tryz.sizeOf4
  v4 := Tryz.zeroValue4
  t5 := Tryz.underlying5
  a5 := Tryz.isAgg5
  z5 := Tryz.sizeOf5
  v5 := Tryz.zeroValue5
  t9 := Tryz.underlying9
  a9 := Tryz.isAgg9
  z9 := Tryz.sizeOf9
  v9 := Tryz.zeroValue9
  t22 := Tryz.underlying23
  a22 := Tryz.isAgg23
  z22 := Tryz.sizeOf23
  v22 := Tryz.zeroValue23
  t25 := Tryz.underlying61
  a25 := Tryz.isAgg61
  z25 := Tryz.sizeOf61
  v25 := Tryz.zeroValue61
  t39 := Tryz.underlying119
  a39 := Tryz.isAgg119
  z39 := Tryz.sizeOf119
  v39 := Tryz.zeroValue119
  t45 := Tryz.underlying148
  a45 := Tryz.isAgg148
  z45 := Tryz.sizeOf148
  v45 := Tryz.zeroValue148
  t46 := Tryz.underlying149
  a46 := Tryz.isAgg149
  z46 := Tryz.sizeOf149
  v46 := Tryz.zeroValue149
  t50 := Tryz.underlying88
  a50 := Tryz.isAgg88
  z50 := Tryz.sizeOf88
  v50 := Tryz.zeroValue88
  t53 := Tryz.underlying155
  a53 := Tryz.isAgg155
  z53 := Tryz.sizeOf155
  v53 := Tryz.zeroValue155
  t55 := Tryz.underlying157
  a55 := Tryz.isAgg157
  z55 := Tryz.sizeOf157
  v55 := Tryz.zeroValue157
  t66 := Tryz.underlying165
  a66 := Tryz.isAgg165
  z66 := Tryz.sizeOf165
  v66 := Tryz.zeroValue165
  t70 := Tryz.underlying169
  a70 := Tryz.isAgg169
  z70 := Tryz.sizeOf169
  v70 := Tryz.zeroValue169
  t76 := Tryz.underlying176
  a76 := Tryz.isAgg176
  z76 := Tryz.sizeOf176
  v76 := Tryz.zeroValue176
  t77 := Tryz.underlying177
  a77 := Tryz.isAgg177
  z77 := Tryz.sizeOf177
  v77 := Tryz.zeroValue177 }
def Tryz.lay63_ren : Go.Shelf.Ren := ⟨fun | 5 => 63 | 8 => 82 | 7 => 83 | 19 => 103 | 20 => 104 | 10 => 105 | 11 => 106 | 12 => 107 | 13 => 108 | 14 => 109 | 15 => 110 | 16 => 111 | 17 => 112 | 18 => 113 | 30 => 123 | 31 => 119 | 32 => 120 | 33 => 124 | 34 => 125 | 35 => 126 | 40 => 132 | n => n, fun | 23 => 46 | 25 => 3 | 3 => 3 | 32 => 119 | 22 => 46 | 0 => 0 | 44 => 155 | 46 => 157 | 4 => 4 | 36 => 149 | 35 => 148 | 41 => 88 | 5 => 5 | 9 => 9 | 53 => 165 | 57 => 169 | 63 => 176 | 64 => 177 | n => n, fun | n => n⟩
theorem Tryz.lay63 : Go.Proofs.SlLaysM.n5 Tryz.prog Tryz.lay63_ren := {
  mixed := by kernel_rfl
  f5 := ⟨Tryz.f63.name, by decide, Tryz.func63.trans (congrArg some (by kernel_rfl))⟩
  f7 := ⟨Tryz.f83.name, by decide, Tryz.func83.trans (congrArg some (by kernel_rfl))⟩
  f8 := Tryz.func82.trans (congrArg some (by kernel_rfl))
  f10 := ⟨Tryz.f105.name, by decide, Tryz.func105.trans (congrArg some (by kernel_rfl))⟩
  f11 := ⟨Tryz.f106.name, by decide, Tryz.func106.trans (congrArg some (by kernel_rfl))⟩
  f12 := ⟨Tryz.f107.name, by decide, Tryz.func107.trans (congrArg some (by kernel_rfl))⟩
  f13 := ⟨Tryz.f108.name, by decide, Tryz.func108.trans (congrArg some (by kernel_rfl))⟩
  f14 := ⟨Tryz.f109.name, by decide, Tryz.func109.trans (congrArg some (by kernel_rfl))⟩
  f15 := ⟨Tryz.f110.name, by decide, Tryz.func110.trans (congrArg some (by kernel_rfl))⟩
  f16 := ⟨Tryz.f111.name, by decide, Tryz.func111.trans (congrArg some (by kernel_rfl))⟩
  f17 := ⟨Tryz.f112.name, by decide, Tryz.func112.trans (congrArg some (by kernel_rfl))⟩
  f18 := ⟨Tryz.f113.name, by decide, Tryz.func113.trans (congrArg some (by kernel_rfl))⟩
  f19 := Tryz.func103.trans (congrArg some (by kernel_rfl))
  f20 := Tryz.func104.trans (congrArg some (by kernel_rfl))
  f30 := ⟨Tryz.f123.name, by decide, Tryz.func123.trans (congrArg some (by kernel_rfl))⟩
  f31 := Tryz.func119.trans (congrArg some (by kernel_rfl))
  f32 := Tryz.func120.trans (congrArg some (by kernel_rfl))
  f33 := ⟨Tryz.f124.name, by decide, Tryz.func124.trans (congrArg some (by kernel_rfl))⟩
  f34 := ⟨Tryz.f125.name, by decide, Tryz.func125.trans (congrArg some (by kernel_rfl))⟩
  f35 := ⟨Tryz.f126.name, by decide, Tryz.func126.trans (congrArg some (by kernel_rfl))⟩
  f40 := ⟨Tryz.f132.name, by decide, Tryz.func132.trans (congrArg some (by kernel_rfl))⟩
  t0 := Tryz.underlying0
  a0 := Tryz.isAgg0
  z0 := Tryz.sizeOf0
  v0 := Tryz.zeroValue0
  t3 := Tryz.underlying3
  a3 := Tryz.isAgg3
  z3 := Tryz.sizeOf3
  v3 := Tryz.zeroValue3
  t4 := Tryz.underlying4
  a4 := Tryz.isAgg4
  z4 := Tryz.sizeOf4
  v4 := Tryz.zeroValue4
  t5 := Tryz.underlying5
  a5 := Tryz.isAgg5
  z5 := Tryz.sizeOf5
  v5 := Tryz.zeroValue5
  t9 := Tryz.underlying9
  a9 := Tryz.isAgg9
  z9 := Tryz.sizeOf9
  v9 := Tryz.zeroValue9
  t22 := Tryz.underlying46
  a22 := Tryz.isAgg46
  z22 := Tryz.sizeOf46
  v22 := Tryz.zeroValue46
  t23 := Tryz.underlying46
  a23 := Tryz.isAgg46
  z23 := Tryz.sizeOf46
  v23 := Tryz.zeroValue46
  t25 := Tryz.underlying3
  a25 := Tryz.isAgg3
  z25 := Tryz.sizeOf3
  v25 := Tryz.zeroValue3
  t32 := Tryz.underlying119
  a32 := Tryz.isAgg119
  z32 := Tryz.sizeOf119
  v32 := Tryz.zeroValue119
  t35 := Tryz.underlying148
  a35 := Tryz.isAgg148
  z35 := Tryz.sizeOf148
  v35 := Tryz.zeroValue148
  t36 := Tryz.underlying149
  a36 := Tryz.isAgg149
  z36 := Tryz.sizeOf149
  v36 := Tryz.zeroValue149
  t41 := Tryz.underlying88
  a41 := Tryz.isAgg88
  z41 := Tryz.sizeOf88
  v41 := Tryz.zeroValue88
  t44 := Tryz.underlying155
  a44 := Tryz.isAgg155
  z44 := Tryz.sizeOf155
  v44 := Tryz.zeroValue155
  t46 := Tryz.underlying157
  a46 := Tryz.isAgg157
  z46 := Tryz.sizeOf157
  v46 := Tryz.zeroValue157
  t53 := Tryz.underlying165
  a53 := Tryz.isAgg165
  z53 := Tryz.sizeOf165
  v53 := Tryz.zeroValue165
  t57 := Tryz.underlying169
  a57 := Tryz.isAgg169
  z57 := Tryz.sizeOf169
  v57 := Tryz.zeroValue169
  t63 := Tryz.underlying176
  a63 := Tryz.isAgg176
  z63 := Tryz.sizeOf176
  v63 := Tryz.zeroValue176
  t64 := Tryz.underlying177
  a64 := Tryz.isAgg177
  z64 := Tryz.sizeOf177
  v64 := Tryz.zeroValue177 }
end Go.Proofs
namespace Go.Gk
open Go Go.Proofs
variable (N:Nat) {E w:World} {i0 i1 i2:Nat} {p0 p1 p2 res:Int} {v0 v1 v2:Value} {V:List HP}
theorem vu {res:Bool} (o:Holds E w V) (j:o5 N p0 p1 p2=some res):
    Calls bF 90 [(vi p0),(vi p1),(vi p2)].toArray w (gT (bD E V res)):=by
 unfold o5 at j
 refine enter Tryz.func90 zr zr (RC.sr (aP (vb false) (RL.ns (mv (vi p0) (mv (vi p1) (ic p0 p1 (mv (vb (decide (p0>=p1))) (RL.gs true (decide (p0>=p1)) (vi p0) zr zr zr dQ ?_))))))))
 refine RL.gs true (decide (p0>=p1)) (vi p2) rfl rfl rfl dQ (RL.gs true (decide (p0>=p1)) (vb (decide (p0<=p2))) rfl rfl rfl (dT .leq .i64 p0 p2 rfl (fun h=>by exact(cQ h:cv (true&&((decide (p0>=p1))==true)) (vi p0)= (vi p0))) (fun h=>by exact(cQ h:cv (true&&((decide (p0>=p1))==true)) (vi p2)= (vi p2))) rfl) (RL.pick (decide (p0>=p1)) (vb ((decide (p0>=p1))&&(decide (p0<=p2)))) (iU true) (aP (vb ((decide (p0>=p1))&&(decide (p0<=p2)))) (RL.nt (RC.ret ?_)))))
 obtain rfl:=oi j
 exact cI ⟨rfl,o.drop 0⟩
theorem jL {res:Bool} (o:Holds E w V) (j:jt N p0=some res):
    Calls bF 74 [(vi p0)].toArray w (gT (bD E V res)):=by
 unfold jt at j
 refine enter Tryz.func74 zr zr (RC.sr (aP (vb false) (RL.ns (mv (vi p0) ?_))))
 obtain⟨aa,ab,j⟩:=bd j
 refine RL.call zt zr IJ [(vi p0),(vi (-1000000)),(vi 1000000)] zr (aF (vu N (p0:=p0) (p1:=(-1000000)) (p2:=1000000) o ab) ?_)
 rintro _ w ⟨rfl,o⟩
 refine aP (vb aa) (RL.nt (RC.ret ?_))
 obtain rfl:=oi j
 exact cI ⟨rfl,o.drop 0⟩
theorem pE {p0:aI} {res:Bool} (j:Holds E w V) (h0:V[i0]? =some (rd v0 p0)) (hb:ku N p0=some res):
    Calls bF 59 [v0].toArray w (gT (bD E V res)):=by
 unfold ku at hb
 refine enter Tryz.func59 zr zr ?_
 have j:=j.dup (i0+0) h0
 refine RC.sr (RL.dD 0 v0 j zr fun aq w j=>?_)
 refine aP (vb false) (RL.nq ?_)
 obtain⟨af,o,hb⟩:=bd hb
 refine RC.jn (fun(af:Bool)=>SH E V [(2,vb af)] []) af ?_ ?_
 ·refine RC.region (RL.aZ zr iX (RL.aK 0 j zr eG cG ?_))
  obtain⟨aj,ak,o⟩:=bd o
  refine RL.call zt zr Cz [(vi p0.X0)] zr (aF (jL N (p0:=p0.X0) j ak) ?_)
  rintro _ w ⟨rfl,j⟩
  refine mv (vb aj) (fY o (fun aa o=>?_) fun aa o=>?_)
  rotate_left
  ·refine bR aa (bR aa (bR aa (fV aa (vb false) (mv (vb false) (nI (nI (nI (RL.pick false (vb false) zr ?_))))))))
   refine mv (vb false) (nI (nI (nI (RL.pick false (vb false) zr (aP (vb false) (RL.nil ?_))))))
   obtain rfl:=oi o
   exact⟨rfl,j.sp 2 []⟩
  refine RL.aZ (hg:=(cg aa)) zr jy (RL.aK (hg:=(cg aa)) 0 j zr eQ cG ?_)
  obtain⟨ag,al,o⟩:=bd o
  refine RL.call (cg aa) zr Cz [(vi p0.Y0)] zr (aF (jL N (p0:=p0.Y0) j al) ?_)
  rintro _ w ⟨rfl,j⟩
  refine fV aa (vb ag) (mv (vb ag) (fY o (fun ab o=>?_) fun ab o=>?_))
  rotate_left
  ·refine bR ab (bR ab (bR ab (fV ab (vb false) (mv (vb false) (nI (nI (nI (RL.pick false (vb false) zr ?_))))))))
   refine aP (vb false) (RL.nil ?_)
   obtain rfl:=oi o
   exact⟨rfl,j.sp 2 []⟩
  refine RL.aZ (hg:=(cg ab)) zr ke (RL.aK (hg:=(cg ab)) 0 j zr fW cG ?_)
  obtain⟨ah,an,o⟩:=bd o
  refine RL.call (cg ab) zr Cz [(vi p0.X1)] zr (aF (jL N (p0:=p0.X1) j an) ?_)
  rintro _ w ⟨rfl,j⟩
  refine fV ab (vb ah) (mv (vb ah) (fY o (fun ad o=>?_) fun ad o=>?_))
  rotate_left
  ·refine bR ad (bR ad (bR ad (fV ad (vb false) (aP (vb false) (RL.nil ?_)))))
   obtain rfl:=oi o
   exact⟨rfl,j.sp 2 []⟩
  refine RL.aZ (hg:=(cg ad)) zr nk (RL.aK (hg:=(cg ad)) 0 j zr jh cG ?_)
  obtain⟨ai,ao,o⟩:=bd o
  refine RL.call (cg ad) zr Cz [(vi p0.Y1)] zr (aF (jL N (p0:=p0.Y1) j ao) ?_)
  rintro _ w ⟨rfl,j⟩
  refine fV ad (vb ai) (aP (vb ai) (RL.nil ?_))
  obtain rfl:=oi o
  exact⟨rfl,j.sp 2 []⟩
 rintro _ w ⟨O,rfl,j⟩
 refine aG (RC.ret ?_)
 obtain rfl:=oi hb
 exact cI ⟨rfl,j.drop 0⟩
def su (E:World) (V:List HP) (r:Int) (U:Nat->Value) (w:World):Prop:=mx bF 30 Tryz.f35 (aQ E V r) .ret U w
theorem rq {p0: (List aI)} (o:Holds E w V) (h0:V[i0]? =some (rd v0 p0)) (hb:jc N p0=some res):
    Calls bF 35 [v0].toArray w (gT (aQ E V res)):=by
 unfold jc at hb
 refine enter Tryz.func35 zr zr ?_
 have o:=o.dup (i0+0) h0
 refine RC.sr (aP (vi 0) (RL.nq (RC.sr (mv v0 (RL.bE 0 p0 o nL (ic ((p0.length:Int)) 2000 (RL.nt (fH hb (fun hc hb=>?_) fun hc hb=>?_))))))))
 ·refine RC.sr (aP (vi 2) (RL.nt (RC.rt ?_)))
  obtain rfl:=oi hb
  exact cI ⟨rfl,o.drop 1⟩
 refine RC.ss (RC.sr (mv v0 (RL.bE 0 p0 o nL (mv (vi 0) (RL.nt ?_)))))
 obtain⟨aq,hN,hb⟩:=bd hb
 refine RC.range (fun(ae:Nat) (af:Unit)=>SH E V [(8,v0),(9,vi p0.length),(10,vi ae)] [rd v0 p0]) (fun(af:Unit)=>SH E V [] [rd v0 p0]) (su E V) hN ?_ ?_ ?_ ?_ ?_
 ·exact o.sp 1 [0]
 ·rintro hm af _ w ⟨O,rfl,o⟩
  refine RC.sr (ic ((p0.length:Int)) ((p0.length:Int)) (RL.nq (RC.cT mc (RC.ex ?_))))
  exact⟨rfl,o.sp 1 [0]⟩
 ·rintro hm ae af fl _ w hk ⟨O,rfl,o⟩ hb
  refine RC.sr (ic ((ae:Int)) ((p0.length:Int)) (RL.nq (RC.cS (mb hk) (RC.ss (RC.bs ?_)))))
  obtain⟨j,aj,hb⟩:=bd hb
  refine RL.cB 0 o kd aj fun au o=>(RL.bP 0 j o eZ fun av o=>(RL.alloc o lU.z fun ab w o=>?_))
  refine RL.bA 0 o 1 zr eZ fun w o=>?_
  refine RL.nq (RC.sr (RL.aX (f:=(fun x=>x)) 0 o zr Fd.self eZ fun ak o=>?_))
  obtain⟨al,an,hb⟩:=bd hb
  refine RL.call zt zr Hg [ak] zr (aF (pE N (i0:=0) o zr an) ?_)
  rintro _ w ⟨rfl,o⟩
  refine RL.not al (RL.nt (fH hb (fun hc hb=>?_) fun hc hb=>?_))
  ·refine RC.sr (aP (vi 1) (RL.nt (RC.rt (lR (cC ?_)))))
   obtain rfl:=oi hb
   exact⟨rfl,cI ⟨rfl,o.drop 5⟩⟩
  refine RC.sx (RL.aZ rfl ke (RL.aK 1 o rfl fW cG (RL.aZ rfl iX (RL.aK 1 o rfl eG cG (ic j.X1 j.X0 (mv (vb (decide (j.X1<=j.X0))) (RL.gs true (decide (j.X1<=j.X0)) (vp ab 3) rfl rfl rfl (dI nk) (RL.gs true (decide (j.X1<=j.X0)) (vi j.Y1) rfl rfl rfl (bQ 1 rfl o (fun h=>by exact(cQ h:cv (true&&((decide (j.X1<=j.X0))==false)) (vp ab 3)= (vp ab 3))) rfl jh cG) ?_))))))))
  refine RL.gs true (decide (j.X1<=j.X0)) (vp ab 1) rfl rfl rfl (dI jy) (RL.gs true (decide (j.X1<=j.X0)) (vi j.Y0) rfl rfl rfl (bQ 1 rfl o (fun h=>by exact(cQ h:cv (true&&((decide (j.X1<=j.X0))==false)) (vp ab 1)= (vp ab 1))) rfl eQ cG) (RL.gs true (decide (j.X1<=j.X0)) (vb (decide (j.Y1<=j.Y0))) rfl rfl rfl (dT .leq .i64 j.Y1 j.Y0 rfl (fun h=>by exact(cQ h:cv (true&&((decide (j.X1<=j.X0))==false)) (vi j.Y1)= (vi j.Y1))) (fun h=>by exact(cQ h:cv (true&&((decide (j.X1<=j.X0))==false)) (vi j.Y0)= (vi j.Y0))) rfl) (RL.pick (decide (j.X1<=j.X0)) (vb ((decide (j.X1<=j.X0))||(decide (j.Y1<=j.Y0)))) (m7 true rfl) (RL.nt (fH hb (fun hc hb=>?_) fun hc hb=>?_)))))
  rotate_left
  ·refine RC.skip (bT (aG (RC.region (RL.inc hk hm (mv (vi ((ae+1:Nat):Int)) (RL.nil ?_))))))
   obtain rfl:=oi hb
   exact⟨rfl,o.sp 5 [4]⟩
  refine RC.sr (aP (vi 13) (RL.nt (RC.rb (cC ?_))))
  obtain rfl:=oi hb
  exact⟨rfl,cI ⟨rfl,o.drop 5⟩⟩
 ·intro r U w e hK
  subst e
  refine cC ?_
  obtain rfl:=oi hb
  exact hK
 rintro af _ w rfl ⟨O,rfl,o⟩
 rw [Fo.gx] at hb
 refine aG (RC.sr (aP (vi 0) (RL.nt (RC.ret ?_))))
 obtain rfl:=oi hb
 exact cI ⟨rfl,o.drop 1⟩
theorem qm {p0: (List aI)} {res: (List aI)} (j:Holds E w V) (h0:V[i0]? =some (rd v0 p0)) (o:gJ N p0=some res):
    Calls bF 60 [v0].toArray w (gT (kI E V res)):=by
 unfold gJ at o
 refine enter Tryz.func60 zr zr ?_
 have j:=j.dup (i0+0) h0
 refine RC.sr (aP (.slice none 0 0) (RL.nq (RC.sr (mv v0 (RL.G6 (i:=0) zt zr j zr zr zr nL (RL.nt (RC.cond (b:=(Fb v0)) zr (fun hc=>?_) (fun hc=>?_))))))))
 ·have hx:=j.IC (i:=0) rfl hc
  rw [hx] at o
  replace o:some ([]: (List aI))=_:=o
  refine RC.sr (aP (.slice none 0 0) (RL.nt (RC.rt ?_)))
  obtain rfl:=oi o
  have j:=j.dB aI 50
  exact cI (j.pk 2 [0])
 refine RC.sx (RL.eP ([]: (List aI)) j [] kd lU (fun M hs g=>zt) fun ae w j=>(mv v0 ?_))
 obtain⟨af,ab,o⟩:=bd o
 refine RL.app 0 1 j CA ab fun ad w j=>?_
 refine aP ad (RL.nt (RC.ret ?_))
 obtain rfl:=oi o
 exact cI (j.pk 2 [0])
theorem tw {p0 p1:aI} (j:Holds E w V) (h0:V[i0]? =some (rd v0 p0)) (h1:V[i1]? =some (rd v1 p1)) (o:ij N p0 p1=some res):
    Calls bF 62 [v0,v1].toArray w (gT (aQ E V res)):=by
 unfold ij at o
 refine enter Tryz.func62 zr zr ?_
 have j:=(j.dup (i0+0) h0).dup (i1+1) h1
 refine RC.sr (RL.dD 1 v0 j zr fun aa w j=>?_)
 refine RL.dD 1 v1 j zr fun ab w j=>?_
 refine aP (vi 0) (RL.ns (RL.aZ zr jy (RL.aK 1 j zr eQ cG (RL.aZ zr jy (RL.aK 0 j zr eQ cG (RL.jo p0.Y0 p1.Y0 (aP (vi (IntKind.wrap .i64 (p0.Y0 - p1.Y0))) (RL.nt ?_))))))))
 refine RC.ret ?_
 obtain rfl:=oi o
 exact cI ⟨rfl,j.drop 4⟩
def qo (E:World) (V:List HP) (r: (List Int)) (U:Nat->Value) (w:World):Prop:=mx bF 61 Tryz.f64 (kf E V r) .ret U w
theorem pK {p0: (List Int)} {res: (List Int)} (j:Holds E w (own 3 v0 p0::V)) (o:fE N p0=some res):
    Calls bF 64 [v0].toArray w (gT (kf E V res)):=by
 unfold fE at o
 refine enter Tryz.func64 zr zr (RC.sr (aP (.slice none 0 0) (RL.nq (RC.sr (mv v0 (RL.fA 0 p0 j lx (ic ((p0.length:Int)) 2 (RL.nt ?_))))))))
 refine fH o (fun hc o=>?_) fun hc o=>?_
 ·refine RC.sr (mv v0 (aP v0 (RL.nt (RC.rt ?_))))
  obtain rfl:=oi o
  exact cI (j.pk 1 [0])
 refine RC.ss (RC.sr (aP (vi 1) (RL.nt ?_)))
 obtain⟨a2,hN,o⟩:=bd o
 refine RC.iter (fun(ab:Int)=>SH E V [(0,v0),(3,vi ab)] [own 3 v0 p0]) (fun(ab:Int)=>SH E V [(0,v0)] [own 3 v0 p0]) (qo E V) hN ?_ ?_ ?_ ?_
 ·exact j.sp 1 [0]
 ·rintro ab fl _ w ⟨O,rfl,j⟩ o
  refine RC.seq (RC.sr (mv (vi ab) (mv v0 (RL.fA 0 p0 j lx (ic ab ((p0.length:Int)) (RL.nt (fH o (fun hc o=>?_) fun hc o=>?_)))))))
  rotate_left
  ·refine RC.ex ?_
   obtain rfl:=oi o
   exact⟨rfl,j.sp 1 [0]⟩
  refine RC.ss (RC.block (RC.seq (RC.xf mixed ?_)))
  have j:=j.drew
  refine RO.go (mv v0 (RO.nx (mv (vi ab) (RO.nx ?_))))
  obtain⟨au,al,o⟩:=bd o
  refine RL.bV 0 j zr zr eE al (RO.nx (RL.dR (f:=(fun x=>x)) 0 j (jQ 0 j al 0) (bB al).2.1 Fd.self cG (RO.nx (mv v0 (RO.nx (mv (vi ab) (RO.nx (RL.jo ab 1 ?_))))))))
  refine RO.nx ?_
  obtain⟨av,an,o⟩:=bd o
  refine RL.bV 0 j zr zr eE an (RO.nx (RL.dR (f:=(fun x=>x)) 0 j (jQ 0 j an 0) (bB an).2.1 Fd.self cG (RO.nx (ic au av (RO.last (aG (fH o (fun hc o=>?_) fun hc o=>?_)))))))
  rotate_left
  ·refine RC.skip (bT (aG (RC.region (mv (vi ab) (RL.jo ab 1 (aP (vi (IntKind.wrap .i64 (ab+1))) (RL.nil ?_)))))))
   obtain rfl:=oi o
   exact⟨rfl,j.sp 1 [0]⟩
  refine RC.sr (mv v0 (mv (vi ab) ?_))
  obtain⟨a3,af,o⟩:=bd o
  refine RL.view 0 ab zr j zr zr eE af (aP (vw v0 (Int.toNat ab) 1) (RL.nq (RC.sr (aP (vi 1) (RL.nt ?_)))))
  obtain⟨a4,hN,o⟩:=bd o
  refine RC.iter (fun(aa: (List Int)×Int×Int)=>SH E V [(0,v0),(3,vi aa.2.1),(4,(vw v0 (Int.toNat ab) 1)),(5,vi aa.2.2)] [own 3 v0 aa.1]) (fun(aa: (List Int)×Int×Int)=>SH E V [(0,v0),(3,vi aa.2.1)] [own 3 v0 aa.1]) (fun(r:Empty) _ _=>r.elim) hN ?_ ?_ ?_ ?_
  ·exact j.sp 1 [0]
  ·rintro aa fl _ w ⟨O,rfl,j⟩ o
   refine RC.seq (RC.sr (mv (vi aa.2.2) (mv (vw v0 (Int.toNat ab) 1) (RL.Gl (i:=0) (l:=aa.1) zt zr j zr zr lx (ic aa.2.2 ((((aa.1.length - Int.toNat ab):Nat):Int)) (RL.nt (fH o (fun hc o=>?_) fun hc o=>?_)))))))
   rotate_left
   ·refine RC.ex ?_
    obtain rfl:=oi o
    exact⟨rfl,j.sp 1 [0]⟩
   refine RC.ss (RC.block (RC.seq (RC.xf mixed ?_)))
   have j:=j.drew
   refine RO.go (mv (vw v0 (Int.toNat ab) 1) (RO.nx (mv (vi aa.2.2) (RO.nx ?_))))
   obtain⟨aw,ag,o⟩:=bd o
   refine RL.Dt 0 ab zr j zr zr zr eE (AW af) (iG ag).1 (iG ag).2 (RO.nx (RL.dR (f:=(fun x=>x)) 0 j (jQ 0 j (iG ag).2 0) (bB (iG ag).2).2.1 Fd.self cG (RO.nx (mv (vw v0 (Int.toNat ab) 1) (RO.nx (mv (vi aa.2.2) (RO.nx (RL.jo aa.2.2 1 ?_))))))))
   refine RO.nx ?_
   obtain⟨ax,ah,o⟩:=bd o
   refine RL.Dt 0 ab zr j zr zr zr eE (AW af) (iG ah).1 (iG ah).2 (RO.nx (RL.dR (f:=(fun x=>x)) 0 j (jQ 0 j (iG ah).2 0) (bB (iG ah).2).2.1 Fd.self cG (RO.nx (ic aw ax (RO.last (aG ?_))))))
   obtain⟨ai,hj,o⟩:=bd o
   refine RC.jn (fun(ai: (List Int)×Int)=>SH E V [(0,v0),(3,vi ai.2),(4,(vw v0 (Int.toNat ab) 1)),(5,vi aa.2.2)] [own 3 v0 ai.1]) ai ?_ ?_
   ·refine fH hj (fun hc hj=>?_) fun hc hj=>?_
    rotate_left
    ·refine RC.skip ?_
     obtain rfl:=oi hj
     exact⟨rfl,j.sp 1 [0]⟩
    refine RC.sr (mv v0 (mv (vi aa.2.1) (mv (vw v0 (Int.toNat ab) 1) (mv (vi aa.2.2) ?_))))
    obtain⟨ay,aj,hj⟩:=bd hj
    refine RL.Dt 0 ab zr j zr zr zr eE (AW af) (iG aj).1 (iG aj).2 (RL.dR (f:=(fun x=>x)) 0 j (jQ 0 j (iG aj).2 0) (bB (iG aj).2).2.1 Fd.self cG ?_)
    obtain⟨a5,ao,hj⟩:=bd hj
    refine RL.bV 0 j zr zr eE ao ?_
    have j:=j.sc Int ay
    refine RL.ga (f:=(fun _ y=>y)) 1 0 j (jQ 1 j ao 0) (bB ao).2.1 zr Fs.self cG fun w j=>?_
    refine RL.nt (RC.region (mv (vi aa.2.1) (RL.jo aa.2.1 1 (aP (vi (IntKind.wrap .i64 (aa.2.1+1))) (RL.nil ?_)))))
    obtain rfl:=oi hj
    exact⟨rfl,j.sp 2 [1]⟩
   rintro _ w ⟨O,rfl,j⟩
   refine bT (aG (RC.region (mv (vi aa.2.2) (RL.jo aa.2.2 1 (aP (vi (IntKind.wrap .i64 (aa.2.2+1))) (RL.nil ?_))))))
   obtain rfl:=oi o
   exact⟨rfl,j.sp 1 [0]⟩
  ·intro r _ _ _ _
   exact r.elim
  rintro aa _ w rfl ⟨O,rfl,j⟩
  rw [Fo.gx] at o
  refine aG (RC.sr (mv v0 (mv (vi aa.2.1) ?_)))
  obtain⟨a6,aq,o⟩:=bd o
  refine RL.view 0 aa.2.1 zr j zr zr eE aq (RL.zH 0 zt j zr zr tp GY (Du aq) fun w j=>(RL.ns (mv v0 (mv (vi aa.2.1) ?_))))
  obtain⟨a7,az,o⟩:=bd o
  refine RL.yq 0 zr j zr zr eE (.inr ⟨rfl,zr⟩) az fun a0 j=>(aP a0 (RL.nt (RC.rb (cC ?_))))
  obtain rfl:=oi o
  exact⟨rfl,cI (j.pk 1 [0])⟩
 ·intro r U w e hK
  subst e
  refine cC ?_
  obtain rfl:=oi o
  exact hK
 rintro ab _ w rfl ⟨O,rfl,j⟩
 rw [Fo.gx] at o
 refine aG (RC.sr (mv v0 (aP v0 (RL.nt (RC.ret ?_)))))
 obtain rfl:=oi o
 exact cI (j.pk 1 [0])
theorem tx {p0:aI} {p1: (List Int)} {res:Bool} (j:Holds E w V) (h0:V[i0]? =some (rd v0 p0)) (h1:V[i1]? =some (pt v1 p1)) (h2:V[i2]? =some (pt v2 p2)) (o:lC N p0 p1 p2=some res):
    Calls bF 66 [v0,v1,v2].toArray w (gT (bD E V res)):=by
 unfold lC at o
 refine enter Tryz.func66 zr zr ?_
 have j:=((j.dup (i0+0) h0).vL (i:=i1+1) h1).vL (i:=i2+2) h2
 refine RC.sr (RL.dD 2 v0 j zr fun ad w j=>?_)
 refine aP (vb false) (RL.nq (RC.xf mixed ?_))
 have j:=j.drew
 refine RO.go (RL.aZ zr nk (RO.nx (RL.aK 0 j zr jh cG (RO.nx (RL.bP 2 p1 j eU fun ae j=>(RO.nx (RL.bG p2 2 j cG (RO.nx ?_))))))))
 obtain⟨aa,ab,o⟩:=bd o
 refine RL.cB 0 j eE ab fun af j=>(RO.nx (RL.bG aa 0 j cG (RO.nx (ic p0.Y1 aa (RO.nx (aP (vb (decide (p0.Y1<=aa))) (RO.last (aG ?_))))))))
 refine RC.ret ?_
 obtain rfl:=oi o
 exact cI ⟨rfl,j.drop 6⟩
def oN (E:World) (V:List HP) (r:Int) (U:Nat->Value) (w:World):Prop:=mx bF 19 Tryz.f78 (aQ E V r) .ret U w
theorem ot {p0: (List aI)} {p1:aI->Option Bool} (j:Holds E w V) (h0:V[i0]? =some (rd v0 p0)) (h1:EU bF E V v1 p1 (fun(r:Bool)=>Value.bool r)) (o:jM N p0 p1=some res):
    Calls bF 78 [v0,v1].toArray w (gT (aQ E V res)):=by
 unfold jM at o
 refine enter Tryz.func78 zr zr ?_
 have j:=j.dup (i0+0) h0
 refine RC.sr (aP (vi 0) (RL.nq (RC.sr (mv v0 (RL.bE 0 p0 j nL (mv (vi 0) (RL.nt ?_)))))))
 obtain⟨al,hN,o⟩:=bd o
 refine RC.range (fun(aa:Nat) (ab:Unit)=>SH E V [(0,v0),(1,v1),(7,vi p0.length),(8,vi aa)] [rd v0 p0]) (fun(ab:Unit)=>SH E V [] [rd v0 p0]) (oN E V) hN ?_ ?_ ?_ ?_ ?_
 ·exact j.sp 1 [0]
 ·rintro hm ab _ w ⟨O,rfl,j⟩
  refine RC.sr (ic ((p0.length:Int)) ((p0.length:Int)) (RL.nq (RC.cT mc (RC.ex ?_))))
  exact⟨rfl,j.sp 1 [0]⟩
 ·rintro hm aa ab fl _ w hk ⟨O,rfl,j⟩ o
  refine RC.sr (ic ((aa:Int)) ((p0.length:Int)) (RL.nq (RC.cS (mb hk) (RC.ss (RC.bs (mv (vi aa) (aP (vi aa) (RL.ns ?_))))))))
  refine mv v1 (mv v0 (mv (vi aa) ?_))
  obtain⟨ag,ah,o⟩:=bd o
  refine RL.cB 0 j kd ah fun ao j=>(RL.bP 0 ag j eZ fun aq j=>?_)
  obtain⟨ar,ai,o⟩:=bd o
  refine RL.yp 0 zr j zr h1 3 zr zr zr ai fun w j=>(RL.nt (fH o (fun hc o=>?_) fun hc o=>?_))
  rotate_left
  ·refine RC.skip (bT (aG (RC.region (RL.inc hk hm (mv (vi ((aa+1:Nat):Int)) (RL.nil ?_))))))
   obtain rfl:=oi o
   exact⟨rfl,j.sp 3 [2]⟩
  refine RC.sr (mv (vi aa) (aP (vi aa) (RL.nt (RC.rb (cC ?_)))))
  obtain rfl:=oi o
  exact⟨rfl,cI ⟨rfl,j.drop 3⟩⟩
 ·intro r U w e hK
  subst e
  refine cC ?_
  obtain rfl:=oi o
  exact hK
 rintro ab _ w rfl ⟨O,rfl,j⟩
 rw [Fo.gx] at o
 refine aG (RC.sr (aP (vi (-1)) (RL.nt (RC.ret ?_))))
 obtain rfl:=oi o
 exact cI ⟨rfl,j.drop 1⟩
def kg (E:World) (V:List HP) (v0:Value) (p0: (List aI)) (res:Int) (v:Value) (w:World):Prop:=v= (vi res)/\Holds E w ([own 50 v0 p0]++V)
def np (E:World) (V:List HP) (v0:Value) (p0: (List aI)) (r:Int) (U:Nat->Value) (w:World):Prop:=mx bF 19 Tryz.f78 (kg E V v0 p0 r) .ret U w
theorem mS {p0: (List aI)} {p1:aI->Option Bool} (o:Holds E w (own 50 v0 p0::V)) (h1:EU bF E V v1 p1 (fun(r:Bool)=>Value.bool r)) (j:iV N p0 p1=some res):
    Calls bF 78 [v0,v1].toArray w (gT (kg E V v0 p0 res)):=by
 unfold iV at j
 refine enter Tryz.func78 zr zr (RC.sr (aP (vi 0) (RL.nq (RC.sr (mv v0 (RL.fA 0 p0 o nL (mv (vi 0) (RL.nt ?_))))))))
 obtain⟨ak,hN,j⟩:=bd j
 refine RC.range (fun(aa:Nat) (ab:Unit)=>SH E V [(0,v0),(1,v1),(7,vi p0.length),(8,vi aa)] [own 50 v0 p0]) (fun(ab:Unit)=>SH E V [(0,v0)] [own 50 v0 p0]) (np E V v0 p0) hN ?_ ?_ ?_ ?_ ?_
 ·exact o.sp 1 [0]
 ·rintro hm ab _ w ⟨O,rfl,o⟩
  refine RC.sr (ic ((p0.length:Int)) ((p0.length:Int)) (RL.nq (RC.cT mc (RC.ex ?_))))
  exact⟨rfl,o.sp 1 [0]⟩
 ·rintro hm aa ab fl _ w hk ⟨O,rfl,o⟩ j
  refine RC.sr (ic ((aa:Int)) ((p0.length:Int)) (RL.nq (RC.cS (mb hk) (RC.ss (RC.bs (mv (vi aa) (aP (vi aa) (RL.ns ?_))))))))
  refine mv v1 (mv v0 (mv (vi aa) ?_))
  obtain⟨an,ad,j⟩:=bd j
  refine RL.bV 0 o zr zr kd ad (RL.jR (f:=(fun x=>x)) 0 o (jQ 0 o ad 0) (bB ad).2.1 Fd.self eZ fun ao o=>?_)
  obtain⟨aq,ah,j⟩:=bd j
  refine RL.yp 0 zr o zr h1 2 zr zr zr ah fun w o=>(RL.nt (fH j (fun hc j=>?_) fun hc j=>?_))
  rotate_left
  ·refine RC.skip (bT (aG (RC.region (RL.inc hk hm (mv (vi ((aa+1:Nat):Int)) (RL.nil ?_))))))
   obtain rfl:=oi j
   exact⟨rfl,o.sp 2 [1]⟩
  refine RC.sr (mv (vi aa) (aP (vi aa) (RL.nt (RC.rb (cC ?_)))))
  obtain rfl:=oi j
  exact⟨rfl,cI ⟨rfl,o.pk 2 [1]⟩⟩
 ·intro r U w e hK
  subst e
  refine cC ?_
  obtain rfl:=oi j
  exact hK
 rintro ab _ w rfl ⟨O,rfl,o⟩
 rw [Fo.gx] at j
 refine aG (RC.sr (aP (vi (-1)) (RL.nt (RC.ret ?_))))
 obtain rfl:=oi j
 exact cI ⟨rfl,o.pk 1 [0]⟩
theorem nN {p0: (List aI)} {p1:aI->Option Bool} {res: (List aI)} (j:Holds E w (own 50 v0 p0::V)) (h1:EU bF E V v1 p1 (fun(r:Bool)=>Value.bool r)) (o:fQ N p0 p1=some res):
    Calls bF 65 [v0,v1].toArray w (gT (kI E V res)):=by
 unfold fQ at o
 refine enter Tryz.func65 zr zr (RC.sr (aP (.slice none 0 0) (RL.ns (mv v0 (mv v1 ?_)))))
 have j:=j.pull 0
 obtain⟨ad,aj,o⟩:=bd o
 refine RL.call zt zr Hj [v0,v1] zr (aF (mS N j (h1.lift 1 zr) aj) ?_)
 rintro _ w ⟨rfl,j⟩
 refine aP (vi ad) (RL.nq (RC.sr (mv (vi ad) (ic ad ((-1)) (RL.nt (fH o (fun hc o=>?_) fun hc o=>?_))))))
 ·refine RC.sr (mv v0 (aP v0 (RL.nt (RC.rt ?_))))
  obtain rfl:=oi o
  exact cI (j.pk 2 [0])
 refine RC.ss (RC.sr (mv (vi ad) (RL.jo ad 1 (aP (vi (IntKind.wrap .i64 (ad+1))) (RL.nt ?_)))))
 obtain⟨ar,hN,o⟩:=bd o
 refine RC.iter (fun(aa: (List aI)×Int×Int)=>SH E V [(0,v0),(1,v1),(5,vi aa.2.1),(6,vi aa.2.2)] [own 50 v0 aa.1]) (fun(aa: (List aI)×Int×Int)=>SH E V [(0,v0),(5,vi aa.2.1)] [own 50 v0 aa.1]) (fun(r:Empty) _ _=>r.elim) hN ?_ ?_ ?_ ?_
 ·exact j.sp 2 [0]
 ·rintro aa fl _ w ⟨O,rfl,j⟩ o
  refine RC.seq (RC.sr (mv (vi aa.2.2) (mv v0 (RL.fA 0 aa.1 j nL (ic aa.2.2 ((aa.1.length:Int)) (RL.nt (fH o (fun hc o=>?_) fun hc o=>?_)))))))
  rotate_left
  ·refine RC.ex ?_
   obtain rfl:=oi o
   exact⟨rfl,j.sp 1 [0]⟩
  refine RC.ss (RC.bs (mv v0 (mv (vi aa.2.2) ?_)))
  obtain⟨av,ag,o⟩:=bd o
  refine RL.bV 0 j zr zr kd ag (RL.jR (f:=(fun x=>x)) 0 j (jQ 0 j ag 0) (bB ag).2.1 Fd.self eZ fun aw j=>?_)
  refine RL.alloc j lU.z fun ax w j=>?_
  refine RL.bA 0 j 1 zr eZ fun w j=>?_
  refine RL.ns (mv v1 (RL.aX (f:=(fun x=>x)) 0 j zr Fd.self eZ fun ay j=>?_))
  obtain⟨al,an,o⟩:=bd o
  refine RL.yp 0 zr j zr h1 4 zr zr zr an fun w j=>(RL.not al (RL.nt ?_))
  obtain⟨af,hj,o⟩:=bd o
  refine RC.jn (fun(af: (List aI)×Int)=>SH E V [(0,v0),(1,v1),(5,vi af.2),(6,vi aa.2.2)] [own 50 v0 af.1]) af ?_ ?_
  ·refine fH hj (fun hc hj=>?_) fun hc hj=>?_
   rotate_left
   ·refine RC.skip ?_
    obtain rfl:=oi hj
    exact⟨rfl,j.sp 4 [3]⟩
   refine RC.sr (mv v0 (mv (vi aa.2.1) (RL.aX (f:=(fun x=>x)) 1 j zr Fd.self eZ fun az j=>?_)))
   obtain⟨a0,ah,hj⟩:=bd hj
   refine RL.bV 4 j zr zr kd ah (RL.ga (f:=(fun _ y=>y)) 4 0 j (jQ 4 j ah 0) (bB ah).2.1 zr Fs.self eZ fun w j=>?_)
   refine RL.nt (RC.region (mv (vi aa.2.1) (RL.jo aa.2.1 1 (aP (vi (IntKind.wrap .i64 (aa.2.1+1))) (RL.nil ?_)))))
   obtain rfl:=oi hj
   exact⟨rfl,j.sp 5 [4]⟩
  rintro _ w ⟨O,rfl,j⟩
  refine bT (aG (RC.region (mv (vi aa.2.2) (RL.jo aa.2.2 1 (aP (vi (IntKind.wrap .i64 (aa.2.2+1))) (RL.nil ?_))))))
  obtain rfl:=oi o
  exact⟨rfl,j.sp 1 [0]⟩
 ·intro r _ _ _ _
  exact r.elim
 rintro aa _ w rfl ⟨O,rfl,j⟩
 rw [Fo.gx] at o
 refine aG (RC.sr (mv v0 (mv (vi aa.2.1) ?_)))
 obtain⟨a1,ai,o⟩:=bd o
 refine RL.view 0 aa.2.1 zr j zr zr kd ai (RL.zH 0 zt j zr zr CA IQ (Du ai) fun w j=>(RL.ns (mv v0 (mv (vi aa.2.1) ?_))))
 obtain⟨a2,ao,o⟩:=bd o
 refine RL.yq 0 zr j zr zr kd (.inr ⟨rfl,zr⟩) ao fun aq j=>(aP aq (RL.nt (RC.ret ?_)))
 obtain rfl:=oi o
 exact cI (j.pk 1 [0])
theorem pL {p0 p1:aI} (j:Holds E w V) (h0:V[i0]? =some (rd v0 p0)) (h1:V[i1]? =some (rd v1 p1)) (o:fF N p0 p1=some res):
    Calls bF 85 [v0,v1].toArray w (gT (aQ E V res)):=by
 unfold fF at o
 refine enter Tryz.func85 zr zr ?_
 have j:=(j.dup (i0+0) h0).dup (i1+1) h1
 refine RC.sr (RL.dD 1 v0 j zr fun aa w j=>?_)
 refine RL.dD 1 v1 j zr fun ab w j=>?_
 refine aP (vi 0) (RL.ns (RL.aZ zr iX (RL.aK 1 j zr eG cG (RL.aZ zr iX (RL.aK 0 j zr eG cG (RL.jo p0.X0 p1.X0 (aP (vi (IntKind.wrap .i64 (p0.X0 - p1.X0))) (RL.nt ?_))))))))
 refine RC.ret ?_
 obtain rfl:=oi o
 exact cI ⟨rfl,j.drop 4⟩
def tz (E:World) (V:List HP) (v0:Value) (res: (List Int)×(List aI)) (v:Value) (w:World):Prop:=Holds E w ([own 3 v res.1,own 50 v0 res.2]++V)
theorem sw {p0: (List aI)} {res: (List Int)×(List aI)} (j:Holds E w (own 50 v0 p0::V)) (hb:gR N p0=some res):
    Calls bF 68 [v0].toArray w (gT (tz E V v0 res)):=by
 unfold gR at hb
 refine enter Tryz.func68 zr zr (RC.sr (aP (.slice none 0 0) (RL.ns (mv v0 ?_))))
 obtain⟨af,a0,hb⟩:=bd hb
 have j:=j.pull 0
 refine RL.call zt zr Hh [v0,(.func (.func 85) #[] #[])] zr (aF (B1 Tryz.lay61 aI zr eZ.E1 eZ.sz IU (fun j hi o hr=>pL N j hi o hr) j a0) ?_)
 rintro _ w ⟨rfl,j⟩
 refine RL.ns (aP (.slice none 0 0) (RL.nq (RC.sr (mv v0 (RL.fA 0 af j nL (mv (vi 0) (RL.nt ?_)))))))
 have j:=j.dB Int 3
 obtain⟨aa,hN,hb⟩:=bd hb
 refine RC.fold (fun(ah:Nat) (aa: (List Int)) U w=>∃au:Value,SH E V [(0,v0),(3,au),(9,v0),(10,vi af.length),(11,vi ah)] [own 50 v0 af,own 3 au aa] U w) (fun(aa: (List Int)) U w=>∃ai:Value,SH E V [(0,v0),(3,ai)] [own 50 v0 af,own 3 ai aa] U w) hN ?_ ?_ ?_ ?_
 ·exact⟨(.slice none 0 0),j.sp 3 [1,0]⟩
 ·rintro hm aa _ w ⟨a2,O,rfl,j⟩
  refine RC.sr (ic ((af.length:Int)) ((af.length:Int)) (RL.nq (RC.cT mc (RC.ex ?_))))
  exact⟨rfl,a2,j.sp 2 [0,1]⟩
 ·rintro hm ah aa s' _ w hk ⟨ag,O,rfl,j⟩ hb
  refine RC.sr (ic ((ah:Int)) ((af.length:Int)) (RL.nq (RC.cS (mb hk) (RC.ss (RC.bs ?_)))))
  obtain⟨ae,ak,hb⟩:=bd hb
  refine RL.bV 0 j zr zr kd ak (RL.jR (f:=(fun x=>x)) 0 j (jQ 0 j ak 0) (bB ak).2.1 Fd.self eZ fun a5 j=>?_)
  refine RL.alloc j lU.z fun ax w j=>?_
  refine RL.bA 0 j 1 zr eZ fun w j=>?_
  refine RL.ns (mv ag (RL.fA 3 aa j lx (RL.jo (aa.length:Int) 1 (aP (vi (IntKind.wrap .i64 ((aa.length:Int) - 1))) (RL.nq ?_)))))
  obtain⟨al,o,hb⟩:=bd hb
  refine RC.jn (fun(al:Bool)=>SH E V [(0,v0),(3,ag),(5,vp ax 0),(6,(vi (IntKind.wrap .i64 ((aa.length:Int) - 1)))),(9,v0),(10,vi af.length),(11,vi ah),(28,vb al)] [own 50 v0 af,own 3 ag aa,bx 50 ax ae]) al ?_ ?_
  ·refine RC.xf mixed ?_
   have j:=j.drew
   refine RO.go (mv (vi (IntKind.wrap .i64 ((aa.length:Int) - 1))) (RO.nx (ic ((IntKind.wrap .i64 ((aa.length:Int) - 1))) 0 (RO.nx (mv (vb (decide ((IntKind.wrap .i64 ((aa.length:Int) - 1))>=0))) (fY o (fun ab o=>?_) fun ab o=>?_))))))
   rotate_left
   ·refine RO.nx (bR ab (RO.nx (bR ab (RO.nx (bR ab (RO.nx (bR ab (RO.nx ?_))))))))
    refine bR ab (RO.nx (bR ab (RO.nx (bR ab (RO.nx (fV ab (vb false) (RO.last ?_)))))))
    obtain rfl:=oi o
    exact⟨rfl,j.sp 4 [2,3,0]⟩
   refine RO.nx (RL.aZ (hg:=(cg ab)) zr iX (RO.nx (RL.aK (hg:=(cg ab)) 0 j zr eG cG (RO.nx (RL.move ag (cg ab) (RO.nx (RL.move (vi (IntKind.wrap .i64 ((aa.length:Int) - 1))) (cg ab) (RO.nx ?_))))))))
   obtain⟨ay,an,o⟩:=bd o
   refine RL.bV (hg:=(cg ab)) 3 j zr zr eE an (RO.nx (RL.dR (hg:=(cg ab)) (f:=(fun x=>x)) 3 j (jQ 3 j an 0) (bB an).2.1 Fd.self cG (RO.nx (RL.jY ae.X0 ay (cg ab) (RO.nx (fV ab (vb (decide (ae.X0<=ay))) (RO.last ?_)))))))
   obtain rfl:=oi o
   exact⟨rfl,j.sp 4 [2,3,0]⟩
  rintro _ w ⟨O,rfl,j⟩
  refine aG ?_
  obtain⟨ao,o,hb⟩:=bd hb
  refine RC.jn (fun(ao: (List Int)) U w=>∃aj:Value,SH E V [(0,v0),(3,aj),(9,v0),(10,vi af.length),(11,vi ah)] [own 50 v0 af,own 3 aj ao] U w) ao ?_ ?_
  ·refine fH o (fun hc o=>?_) fun hc o=>?_
   rotate_left
   ·refine RC.region (mv ag (RL.aZ zr iX (RL.aK 2 j zr eG cG (RL.aZ zr ke (RL.aK 2 j zr fW cG ?_)))))
    have j:=(j.sc Int ae.X0).sc Int ae.X1
    refine RL.eP ([ae.X0,ae.X1]: (List Int)) j [(vi ae.X0),(vi ae.X1)] eE DO (fun M hs g=>⟨(g.sat 1 _ zr).1,⟨(g.sat 0 _ zr).1,zt⟩⟩) fun a6 w j=>?_
    have j:=j.freeze 0
    obtain⟨a7,a4,o⟩:=bd o
    refine RL.app 4 0 j tp a4 fun az w j=>?_
    refine aP az (RL.nil ?_)
    obtain rfl:=oi o
    exact⟨rfl,az,j.sp 6 [3,4]⟩
   refine RC.yC mixed [0,0,0,0,0,0,0,0,0,0,2] [0,1,2,3,4,5,6,7,8,9,10] ?_
   have j:=j.drew
   refine DP.e0 zr (mv ag (cE zr (mv (vi (IntKind.wrap .i64 ((aa.length:Int) - 1))) (cE zr (mv ag (cE zr (mv (vi (IntKind.wrap .i64 ((aa.length:Int) - 1))) (cE zr ?_))))))))
   obtain⟨Dz,aq,o⟩:=bd o
   refine RL.bV 1 j zr zr eE aq (cE zr (RL.dR (f:=(fun x=>x)) 1 j (jQ 1 j aq 0) (bB aq).2.1 Fd.self cG (cE zr (RL.aZ zr ke (cE zr (RL.aK 2 j zr fW cG (cE zr (RL.max Dz ae.X1 ?_))))))))
   refine cE zr ?_
   obtain⟨a8,ar,o⟩:=bd o
   refine RL.bV 1 j zr zr eE ar (vX zr ?_)
   have j:=j.sc Int (if Dz<ae.X1 then ae.X1 else Dz)
   refine RL.ga (f:=(fun _ y=>y)) 2 0 j (jQ 2 j ar 0) (bB ar).2.1 zr Fs.self cG fun w j=>?_
   refine DP.d2 zt (DP.z ?_)
   obtain rfl:=oi o
   exact⟨rfl,ag,j.sp 4 [1,2]⟩
  rintro _ w ⟨aj,O,rfl,j⟩
  refine bT (aG (RC.region (RL.inc hk hm (mv (vi ((ah+1:Nat):Int)) (RL.nil ?_)))))
  obtain rfl:=oi hb
  exact⟨rfl,aj,j.sp 2 [0,1]⟩
 rintro _ w ⟨ai,O,rfl,j⟩
 refine aG (RC.sr (mv ai (aP ai (RL.nt (RC.ret ?_)))))
 obtain rfl:=oi hb
 exact cI (j.pk 2 [1,0])
def sA (E:World) (V:List HP) (r:Bool) (U:Nat->Value) (w:World):Prop:=mx bF 26 Tryz.f84 (bD E V r) .ret U w
theorem ru {p0: (List Int)} {p1: (List Int)} {res:Bool} (j:Holds E w V) (h0:V[i0]? =some (rd v0 p0)) (h1:V[i1]? =some (rd v1 p1)) (o:kx N p0 p1=some res):
    Calls bF 84 [v0,v1].toArray w (gT (bD E V res)):=by
 unfold kx at o
 refine enter Tryz.func84 zr zr ?_
 have j:=(j.dup (i0+0) h0).dup (i1+1) h1
 refine RC.sr (aP (vb false) (RL.nq (RC.sr (mv v0 (RL.bE 1 p0 j lx (mv v1 (RL.bE 0 p1 j lx (ic ((p0.length:Int)) ((p1.length:Int)) ?_))))))))
 refine RL.nt (fH o (fun hc o=>?_) fun hc o=>?_)
 ·refine RC.sr (aP (vb false) (RL.nt (RC.rt ?_)))
  obtain rfl:=oi o
  exact cI ⟨rfl,j.drop 2⟩
 refine RC.ss (RC.sr (mv v0 (RL.bE 1 p0 j lx (mv (vi 0) (RL.nt ?_)))))
 obtain⟨an,hN,o⟩:=bd o
 refine RC.range (fun(aa:Nat) (ab:Unit)=>SH E V [(0,v0),(1,v1),(12,vi p0.length),(13,vi aa)] [rd v0 p0,rd v1 p1]) (fun(ab:Unit)=>SH E V [] [rd v0 p0,rd v1 p1]) (sA E V) hN ?_ ?_ ?_ ?_ ?_
 ·exact j.sp 2 [1,0]
 ·rintro hm ab _ w ⟨O,rfl,j⟩
  refine RC.sr (ic ((p0.length:Int)) ((p0.length:Int)) (RL.nq (RC.cT mc (RC.ex ?_))))
  exact⟨rfl,j.sp 2 [0,1]⟩
 ·rintro hm aa ab fl _ w hk ⟨O,rfl,j⟩ o
  refine RC.sr (ic ((aa:Int)) ((p0.length:Int)) (RL.nq (RC.cS (mb hk) (RC.ss (RC.bs (mv (vi aa) (aP (vi aa) (RL.nq ?_))))))))
  refine RC.xf mixed ?_
  have j:=j.drew
  refine RO.go (mv v0 (RO.nx (mv (vi aa) (RO.nx ?_))))
  obtain⟨ag,aj,o⟩:=bd o
  refine RL.cB 0 j eE aj fun aq j=>(RO.nx (RL.bG ag 0 j cG (RO.nx (mv v1 (RO.nx (mv (vi aa) (RO.nx ?_)))))))
  obtain⟨ah,ak,o⟩:=bd o
  refine RL.cB 2 j eE ak fun ar j=>(RO.nx (RL.bG ah 0 j cG (RO.nx (ic ag ah (RO.last (aG (fH o (fun hc o=>?_) fun hc o=>?_)))))))
  rotate_left
  ·refine RC.skip (bT (aG (RC.region (RL.inc hk hm (mv (vi ((aa+1:Nat):Int)) (RL.nil ?_))))))
   obtain rfl:=oi o
   exact⟨rfl,j.sp 4 [2,3]⟩
  refine RC.sr (aP (vb false) (RL.nt (RC.rb (cC ?_))))
  obtain rfl:=oi o
  exact⟨rfl,cI ⟨rfl,j.drop 4⟩⟩
 ·intro r U w e hK
  subst e
  refine cC ?_
  obtain rfl:=oi o
  exact hK
 rintro ab _ w rfl ⟨O,rfl,j⟩
 rw [Fo.gx] at o
 refine aG (RC.sr (aP (vb true) (RL.nt (RC.ret ?_))))
 obtain rfl:=oi o
 exact cI ⟨rfl,j.drop 2⟩
theorem nX {p0: (List aA)} {p1:aA} {res: (List aA)} (j:Holds E w (own 129 v0 p0::V)) (h1:V[i1]? =some (rd v1 p1)) (hb:gD N p0 p1=some res):
    Calls bF 67 [v0,v1].toArray w (gT (kB E V res)):=by
 unfold gD at hb
 refine enter Tryz.func67 zr zr ?_
 have j:=j.dup (i1+1) h1
 refine RC.sr (RL.dD 0 v1 j zr fun ae w j=>?_)
 refine aP (.slice none 0 0) (RL.nq (RC.sr (RL.aZ zr jW (RL.aX 0 j zr cZ eU fun aw j=>(RL.bE 0 p1.Xs j lx (ic ((p1.Xs.length:Int)) 0 (mv (vb ((p1.Xs.length:Int)==0)) (RL.gs true ((p1.Xs.length:Int)==0) (vp ae 1) zr zr zr (dI kZ) ?_))))))))
 refine RL.gs true ((p1.Xs.length:Int)==0) (vi p1.Y1) rfl rfl rfl (bQ 1 rfl j (fun h=>by exact(cQ h:cv (true&&(((p1.Xs.length:Int)==0)==false)) (vp ae 1)= (vp ae 1))) rfl dZ cG) (RL.gs true ((p1.Xs.length:Int)==0) (vp ae 0) rfl rfl rfl (dI mQ) (RL.gs true ((p1.Xs.length:Int)==0) (vi p1.Y0) rfl rfl rfl (bQ 1 rfl j (fun h=>by exact(cQ h:cv (true&&(((p1.Xs.length:Int)==0)==false)) (vp ae 0)= (vp ae 0))) rfl fB cG) (RL.gs true ((p1.Xs.length:Int)==0) (vb (decide (p1.Y1<=p1.Y0))) rfl rfl rfl (dT .leq .i64 p1.Y1 p1.Y0 rfl (fun h=>by exact(cQ h:cv (true&&(((p1.Xs.length:Int)==0)==false)) (vi p1.Y1)= (vi p1.Y1))) (fun h=>by exact(cQ h:cv (true&&(((p1.Xs.length:Int)==0)==false)) (vi p1.Y0)= (vi p1.Y0))) rfl) (RL.pick ((p1.Xs.length:Int)==0) (vb (((p1.Xs.length:Int)==0)||(decide (p1.Y1<=p1.Y0)))) (m7 true rfl) (RL.nt (fH hb (fun hc hb=>?_) fun hc hb=>?_))))))
 ·refine RC.sr (mv v0 (aP v0 (RL.nt (RC.rt ?_))))
  obtain rfl:=oi hb
  exact cI (j.pk 4 [3])
 refine RC.ss (RC.sr (mv v0 (RL.fA 3 p0 j rn (RL.jo (p0.length:Int) 1 (aP (vi (IntKind.wrap .i64 ((p0.length:Int) - 1))) (RL.nq ?_))))))
 obtain⟨aj,hj,hb⟩:=bd hb
 refine RC.jn (fun(aj:Bool)=>SH E V [(0,v0),(3,vp ae 0),(5,(vi (IntKind.wrap .i64 ((p0.length:Int) - 1)))),(42,vb aj)] [own 129 v0 p0,bx 129 ae p1]) aj ?_ ?_
 ·refine RC.yC mixed [0,0,0,0,0,0,0,0,0,0,0,0,0,0,0,0,0,0,0,0,2,0] [0,1,2,3,4,5,6,7,8,9,10,11,12,13,14,15,16,17,18,19,20,21] ?_
  have j:=j.drew
  refine DP.e0 zr (mv (vi (IntKind.wrap .i64 ((p0.length:Int) - 1))) (cE zr (ic ((IntKind.wrap .i64 ((p0.length:Int) - 1))) 0 (cE zr (mv (vb (decide ((IntKind.wrap .i64 ((p0.length:Int) - 1))>=0))) (DP.d0 (fY hj (fun o hj=>?_) fun o hj=>?_)))))))
  rotate_left
  ·refine DP.e0 zr (bR o (cE zr (bR o (cE zr (bR o (cE zr (bR o (cE zr ?_))))))))
   refine bR o (cE zr (bR o (cE zr (bR o (cE zr (bR o (cE zr (fV o (vb false) ?_))))))))
   refine cE zr (mv (vb false) (cE zr (nI (cE zr (nI (cE zr (nI (cE zr ?_))))))))
   refine nI (cE zr (nI (cE zr (nI (cE zr (nI (vX zr (nI ?_))))))))
   refine AI zr (RL.pick false (vb false) zr (DP.d0 (DP.z ?_)))
   obtain rfl:=oi hj
   exact⟨rfl,j.sp 4 [3,1]⟩
  refine DP.e0 zr (RL.move v0 (cg o) (cE zr (RL.move (vi (IntKind.wrap .i64 ((p0.length:Int) - 1))) (cg o) (cE zr ?_))))
  obtain⟨ak,af,hj⟩:=bd hj
  refine RL.bV (hg:=(cg o)) 3 j zr zr mC af (cE zr (RL.my (hg:=(cg o)) (α:=aA) (jQ 3 j af 0) kZ (cE zr (RL.dR (hg:=(cg o)) 3 j (jQ 3 j af 1) (bB af).2.1 dZ cG (cE zr (RL.aZ (hg:=(cg o)) zr mQ (cE zr (RL.aK (hg:=(cg o)) 1 j zr fB cG ?_))))))))
  refine cE zr (RL.jY ak.Y1 p1.Y0 (cg o) (cE zr (fV o (vb (ak.Y1==p1.Y0)) (cE zr (mv (vb (ak.Y1==p1.Y0)) (DP.d0 (fY hj (fun aa hj=>?_) fun aa hj=>?_)))))))
  rotate_left
  ·refine DP.e0 zr (bR aa (cE zr (bR aa (cE zr (bR aa (cE zr (bR aa (cE zr ?_))))))))
   refine bR aa (cE zr (bR aa (cE zr (bR aa (vX zr (bR aa (AI zr (fV aa (vb false) ?_))))))))
   refine DP.d0 (DP.z ?_)
   obtain rfl:=oi hj
   exact⟨rfl,j.sp 4 [3,1]⟩
  refine DP.e0 zr (RL.move v0 (cg aa) (cE zr (RL.move (vi (IntKind.wrap .i64 ((p0.length:Int) - 1))) (cg aa) (cE zr ?_))))
  obtain⟨ax,ag,hj⟩:=bd hj
  refine RL.bV (hg:=(cg aa)) 3 j zr zr mC ag (cE zr (RL.my (hg:=(cg aa)) (α:=aA) (jQ 3 j ag 0) jW (cE zr (RL.jR (hg:=(cg aa)) 3 j (jQ 3 j ag 2) (bB ag).2.1 cZ eU fun al j=>?_))))
  refine cE zr (RL.aZ (hg:=(cg aa)) zr jW (cE zr (RL.aX (hg:=(cg aa)) 2 j zr cZ eU fun an j=>(vX zr ?_))))
  obtain⟨ao,aq,hj⟩:=bd hj
  refine RL.call (cg aa) zr IW [al,an] zr (aF (ru N (i0:=1) (i1:=0) j zr zr aq) ?_)
  rintro _ w ⟨rfl,j⟩
  refine AI zr (fV aa (vb ao) (DP.d0 (DP.z ?_)))
  obtain rfl:=oi hj
  exact⟨rfl,j.sp 6 [5,3]⟩
 rintro _ w ⟨O,rfl,j⟩
 refine aG (fH hb (fun hc hb=>?_) fun hc hb=>?_)
 rotate_left
 ·refine RC.sx (mv v0 (RL.aX (f:=(fun x=>x)) 1 j zr Fd.self tq fun ar j=>(RL.eP ([p1]: (List aA)) j [ar] mC z6 (fun M hs g=>⟨(g.sat 0 _ zr).1,zt⟩) fun ay w j=>?_)))
  have j:=j.freeze 0
  obtain⟨az,au,hb⟩:=bd hb
  refine RL.app 2 0 j IX au fun av w j=>?_
  refine aP av (RL.nt (RC.ret ?_))
  obtain rfl:=oi hb
  exact cI (j.pk 4 [2])
 refine RC.sr (mv v0 (mv (vi (IntKind.wrap .i64 ((p0.length:Int) - 1))) (RL.aZ zr kZ (RL.aK 1 j zr dZ cG ?_))))
 obtain⟨a0,ah,hb⟩:=bd hb
 refine RL.bV 0 j zr zr mC ah (RL.my (α:=aA) (jQ 0 j ah 0) kZ ?_)
 have j:=j.sc Int p1.Y1
 refine RL.ga 1 0 j (jQ 1 j ah 1) (bB ah).2.1 zr mB cG fun w j=>?_
 refine RL.ns (mv v0 (aP v0 (RL.nt (RC.rt ?_))))
 obtain rfl:=oi hb
 exact cI (j.pk 3 [1])
theorem kh {p0: (List aI)} {res: (List aA)} (o:Holds E w V) (h0:V[i0]? =some (rd v0 p0)) (hb:fJ N p0=some res):
    Calls bF 37 [v0].toArray w (gT (kB E V res)):=by
 unfold fJ at hb
 refine enter Tryz.func37 zr zr ?_
 have o:=o.dup (i0+0) h0
 refine RC.sr (aP (.slice none 0 0) (RL.ns (mv v0 ?_)))
 obtain⟨cf,bn,hb⟩:=bd hb
 refine RL.call zt zr IL [v0] zr (aF (qm N (i0:=0) o zr bn) ?_)
 rintro ae w o
 refine aP ae (RL.ns (mv ae ?_))
 obtain⟨ah,bo,hb⟩:=bd hb
 have o:=o.pull 0
 refine RL.call zt zr Hh [ae,(.func (.func 62) #[] #[])] zr (aF (B1 Tryz.lay61 aI zr eZ.E1 eZ.sz IM (fun o hi hj hr=>tw N o hi hj hr) o bo) ?_)
 rintro _ w ⟨rfl,o⟩
 refine RL.ns (RL.oE o Hi fun ag w o=>?_)
 refine RL.nq (RC.sr (mv ae (RL.fA 1 ah o nL (mv (vi 0) (RL.nt ?_)))))
 obtain⟨ao,hN,hb⟩:=bd hb
 refine RC.fold (fun(aw:Nat) (ao: (List Int)) U w=>∃a6:Value,SH E V [(0,ae),(3,vp ag 0),(14,ae),(15,vi ah.length),(16,vi aw)] [own 50 ae ah,bc 46 ag [a6],own 3 a6 ao] U w) (fun(ao: (List Int)) U w=>∃an:Value,SH E V [(0,ae),(3,vp ag 0)] [own 50 ae ah,bc 46 ag [an],own 3 an ao] U w) hN ?_ ?_ ?_ ?_
 ·have o:=o.dB Int 3
  exact⟨(.slice none 0 0),o.sp 5 [2,1,0]⟩
 ·rintro hm ao _ w ⟨bp,O,rfl,o⟩
  refine RC.sr (ic ((ah.length:Int)) ((ah.length:Int)) (RL.nq (RC.cT mc (RC.ex ?_))))
  exact⟨rfl,bp,o.sp 3 [0,1,2]⟩
 ·rintro hm aw ao s' _ w hk ⟨bq,O,rfl,o⟩ hb
  refine RC.sr (ic ((aw:Int)) ((ah.length:Int)) (RL.nq (RC.cS (mb hk) (RC.ss (RC.bs ?_)))))
  obtain⟨aq,a1,hb⟩:=bd hb
  refine RL.bV 0 o zr zr kd a1 (RL.jR (f:=(fun x=>x)) 0 o (jQ 0 o a1 0) (bB a1).2.1 Fd.self eZ fun ch o=>?_)
  refine RL.alloc o lU.z fun cj w o=>?_
  refine RL.bA 0 o 1 zr eZ fun w o=>?_
  refine RL.nt (RC.region (RL.aU 3 bq o eU (RL.aZ zr jy (RL.aK 0 o zr eQ cG (RL.aZ zr nk (RL.aK 0 o zr jh cG ?_))))))
  have o:=(o.sc Int aq.Y0).sc Int aq.Y1
  refine RL.eP ([aq.Y0,aq.Y1]: (List Int)) o [(vi aq.Y0),(vi aq.Y1)] eE DO (fun M hs g=>⟨(g.sat 1 _ zr).1,⟨(g.sat 0 _ zr).1,zt⟩⟩) fun ck w o=>?_
  have o:=o.freeze 0
  obtain⟨cl,br,hb⟩:=bd hb
  refine RL.app 7 0 o tp br fun a9 w o=>?_
  refine RL.gz 6 a9 o zr zr (gZ 7 o) eU fun w o=>?_
  refine RL.nil (bT (aG (RC.region (RL.inc hk hm (mv (vi ((aw+1:Nat):Int)) (RL.nil ?_))))))
  obtain rfl:=oi hb
  exact⟨rfl,a9,o.sp 8 [5,6,7]⟩
 rintro _ w ⟨an,O,rfl,o⟩
 refine aG (RC.sr (RL.aU 1 an o eU ?_))
 obtain⟨cm,bt,hb⟩:=bd hb
 have o:=o.pull 2
 refine RL.call zt zr IN [an] zr (aF (Ef Tryz.lay63 o bt) ?_)
 rintro _ w ⟨rfl,o⟩
 refine RL.ns (RL.aU 2 an o eU ?_)
 have o:=o.pull 0
 obtain⟨ai,bu,hb⟩:=bd hb
 refine RL.call zt zr IP [an] zr (aF (pK N o bu) ?_)
 rintro bw w o
 refine RL.gz 3 bw o zr zr (gZ 0 o) eU fun w o=>?_
 refine RL.ns (aP (.slice none 0 0) (RL.ns (aP (.slice none 0 0) (RL.ns (aP (vi 0) (RL.nq (RC.sr (RL.alloc o DO.z fun bz w o=>?_))))))))
 have o:=o.sc Int 0
 refine RL.bA 1 o 0 zr cG fun w o=>?_
 refine RL.nt ?_
 have o:=((((o.freeze 2).Dp (i:=5) (x:=ai) rfl (fun M hs g=>(pW (g.sat 2 _ rfl).1))).fT (i:=5) rfl).dB aA 129).dB aI 50
 obtain⟨cn,hN,hb⟩:=bd hb
 refine RC.iter (fun(ab: (List aA)×(List aI)×Int×Int) U w=>∃(ba bb:Value) (bf:Nat),SH E V [(0,ae),(3,vp ag 0),(6,ba),(7,bb),(8,vi ab.2.2.1),(9,vp bf 0)] [own 50 ae ah,pt (vp ag 0) ai,own 129 ba ab.1,own 50 bb ab.2.1,bx 3 bf ab.2.2.2] U w) (fun(ab: (List aA)×(List aI)×Int×Int) U w=>∃av:Value,SH E V [(6,av)] [own 50 ae ah,pt (vp ag 0) ai,own 129 av ab.1] U w) (fun(r:Empty) _ _=>r.elim) hN ?_ ?_ ?_ ?_
 ·exact⟨(.slice none 0 0),(.slice none 0 0),bz,o.sp 9 [6,7,1,0,3]⟩
 ·rintro ab fl _ w ⟨ak,bg,al,O,rfl,o⟩ hb
  refine RC.seq (RC.sr (RL.aK (f:=(fun x=>x)) 4 o zr Fd.self cG (RL.jo ab.2.2.2 1 (RL.bP 1 ai o eU fun cp o=>(RL.bE 0 ai o lx (ic ((IntKind.wrap .i64 (ab.2.2.2+1))) ((ai.length:Int)) (RL.nt (fH hb (fun hc hb=>?_) fun hc hb=>?_))))))))
  rotate_left
  ·refine RC.ex ?_
   obtain rfl:=oi hb
   exact⟨rfl,ak,o.sp 6 [1,2,3]⟩
  refine RC.ss (RC.bs (mv bg ?_))
  have o:=o.fT (i:=5) rfl
  refine RL.makeFunc [(vp ag 0),(vp al 0)] ?_
  have o:=o.pull 4
  obtain⟨cq,b1,hb⟩:=bd hb
  refine RL.call trivial rfl IT [bg,(.func (.func 66) #[] #[(vp ag 0),(vp al 0)])] rfl (aF (nN N o ⟨66,[(vp ag 0),(vp al 0)],rfl,IS,fun w Γl v y0 r i o hi hr=>by exact aF (tx N (i0:=i) (i1:=Γl.length+2) (i2:=Γl.length+5) o hi (yo rfl) (yo rfl) hr) fun _ _ h=>h⟩ b1) ?_)
  rintro bh w o
  refine aP bh (RL.nq ?_)
  obtain⟨cr,hN,hb⟩:=bd hb
  refine RC.iter (fun(af: (List aI)×Int) U w=>∃bj:Value,SH E V [(0,ae),(3,vp ag 0),(6,ak),(7,bj),(8,vi af.2),(9,vp al 0)] [own 50 ae ah,pt (vp ag 0) ai,own 129 ak ab.1,pt (vp al 0) ab.2.2.2,own 50 bj af.1] U w) (fun(af: (List aI)×Int) U w=>∃ar:Value,SH E V [(0,ae),(3,vp ag 0),(6,ak),(7,ar),(8,vi af.2),(9,vp al 0)] [own 50 ae ah,pt (vp ag 0) ai,own 129 ak ab.1,pt (vp al 0) ab.2.2.2,own 50 ar af.1] U w) (fun(r:Empty) _ _=>r.elim) hN ?_ ?_ ?_ ?_
  ·exact⟨bh,o.sp 7 [2,3,4,6,0]⟩
  ·rintro af fl _ w ⟨ax,O,rfl,o⟩ hb
   refine RC.seq (RC.seq ?_)
   obtain⟨a3,hj,hb⟩:=bd hb
   refine RC.jn (fun(a3:Bool)=>SH E V [(0,ae),(3,vp ag 0),(6,ak),(7,ax),(8,vi af.2),(9,vp al 0),(57,vb a3)] [own 50 ae ah,pt (vp ag 0) ai,own 129 ak ab.1,own 50 ax af.1,pt (vp al 0) ab.2.2.2]) a3 ?_ ?_
   ·refine RC.xf mixed ?_
    have o:=o.drew
    refine RO.go (mv (vi af.2) (RO.nx (mv ae (RO.nx (RL.fA 0 ah o nL (RO.nx (ic af.2 ((ah.length:Int)) (RO.nx ?_))))))))
    refine mv (vb (decide (af.2< (ah.length:Int)))) (fY hj (fun ad hj=>?_) fun ad hj=>?_)
    rotate_left
    ·refine RO.nx (bR ad (RO.nx (bR ad (RO.nx (bR ad (RO.nx (bR ad (RO.nx ?_))))))))
     refine bR ad (RO.nx (bR ad (RO.nx (bR ad (RO.nx (bR ad (RO.nx (bR ad ?_))))))))
     refine RO.nx (bR ad (RO.nx (fV ad (vb false) (RO.last ?_))))
     obtain rfl:=oi hj
     exact⟨rfl,o.sp 5 [0,1,2,4,3]⟩
    refine RO.nx (RL.move ae (cg ad) (RO.nx (RL.move (vi af.2) (cg ad) (RO.nx ?_))))
    obtain⟨bk,ay,hj⟩:=bd hj
    refine RL.bV (hg:=(cg ad)) 0 o zr zr kd ay (RO.nx (RL.my (hg:=(cg ad)) (α:=aI) (jQ 0 o ay 0) jy (RO.nx (RL.dR (hg:=(cg ad)) 0 o (jQ 0 o ay 1) (bB ay).2.1 eQ cG (RO.nx (RL.bP (hg:=(cg ad)) 1 ai o eU fun ct o=>?_))))))
    refine RO.nx (RL.bG (hg:=(cg ad)) ab.2.2.2 4 o cG (RO.nx ?_))
    obtain⟨a4,b2,hj⟩:=bd hj
    refine RL.cB (hg:=(cg ad)) 0 o eE b2 fun cu o=>(RO.nx (RL.bG (hg:=(cg ad)) a4 0 o cG (RO.nx (RL.jY bk.Y0 a4 (cg ad) (RO.nx (fV ad (vb (decide (bk.Y0<=a4))) (RO.last ?_)))))))
    obtain rfl:=oi hj
    exact⟨rfl,o.sp 7 [2,3,4,6,5]⟩
   rintro _ w ⟨O,rfl,o⟩
   refine aG (fH hb (fun hc hb=>?_) fun hc hb=>?_)
   rotate_left
   ·refine RC.ex ?_
    obtain rfl:=oi hb
    exact⟨rfl,ax,o.sp 5 [0,1,2,4,3]⟩
   refine RC.sn (RC.block (RC.region (mv ax (mv ae (mv (vi af.2) ?_)))))
   obtain⟨b3,a5,hb⟩:=bd hb
   refine RL.bV 0 o zr zr kd a5 (RL.jR (f:=(fun x=>x)) 0 o (jQ 0 o a5 0) (bB a5).2.1 Fd.self eZ fun b4 o=>?_)
   refine RL.eP ([b3]: (List aI)) o [b4] kd lU (fun M hs g=>⟨(g.sat 0 _ zr).1,zt⟩) fun cv w o=>?_
   have o:=o.freeze 0
   obtain⟨cw,b5,hb⟩:=bd hb
   refine RL.app 5 0 o CA b5 fun bl w o=>?_
   refine mv (vi af.2) (RL.jo af.2 1 (aP bl (aP (vi (IntKind.wrap .i64 (af.2+1))) (RL.nil (bT ?_)))))
   obtain rfl:=oi hb
   exact⟨rfl,bl,o.sp 7 [2,3,4,6,5]⟩
  ·intro r _ _ _ _
   exact r.elim
  rintro af _ w rfl ⟨ar,O,rfl,o⟩
  rw [Fo.gx] at hb
  refine aG (RC.yC mixed [1,1,1,1,1,1,1,1,1,1,0,2,0,2,0] [0,1,2,3,4,5,6,7,8,9,10,11,12,13,14] ?_)
  have o:=o.drew
  refine DP.e1 ak zr (fun w=>RL.move ak zt DP.d1) (DP.uu ai 1 zr o eU fun cx a305 cy o=>(DP.BV ab.2.2.2 5 zr zr zr o zr zr cG fun a307 cz o=>?_))
  obtain⟨az,b6,hb⟩:=bd hb
  refine DP.Gu 2 zr zr zt zr o zr zr zr eE b6 fun c0 o=>(DP.BV az 0 zr zr zr o zr zr cG fun a311 c1 o=>(DP.uu ai 6 zr o eU fun c2 a314 c3 o=>(DP.BV ab.2.2.2 10 zr zr zr o zr zr cG fun a316 c4 o=>(DP.e1 (vi (IntKind.wrap .i64 (ab.2.2.2+1))) zr (fun w=>RL.jo ab.2.2.2 1 DP.d1) ?_))))
  obtain⟨a0,b7,hb⟩:=bd hb
  refine DP.Gu 2 zr zr zt zr o zr zr zr eE b7 fun c5 o=>(DP.BV a0 0 zr zr zr o zr zr cG fun a320 c6 o=>(DP.e0 zr (mv ar (vX zr ?_))))
  have o:=o.pull 14
  obtain⟨b8,b9,hb⟩:=bd hb
  refine RL.call zt zr IV [ar] zr (aF (sw N o b9) ?_)
  rintro ca w o
  refine DP.d2 (⟨⟨⟨⟨⟨⟨zt,o.j3 10⟩,o.j3 9⟩,o.j3 7⟩,o.j3 5⟩,o.j3 4⟩,o.j3 2⟩) (DP.e0 zr ?_)
  have o:=((o.sc Int az).sc Int a0).freeze 2
  refine RL.build (⟨az,a0,b8.1⟩:aA) trivial rfl o [(0,vi az),(1,vi a0),(2,ca)] rfl F1 rfl (fun M hs g=>by have h:=tn M;exact cH.cons (f:=fun(x:aA) y=>{x with Y0:=y}) h pC (g.sat 1 _ rfl).1 fun _ h=>cH.cons (f:=fun(x:aA) y=>{x with Y1:=y}) h mB (g.sat 0 _ rfl).1 fun _ h=>cH.cons (f:=fun(x:aA) y=>{x with Xs:=y}) h pD (g.sat 2 _ rfl).1 fun _ h=>cH.nil h) fun cb o=>?_
  refine vX zr ?_
  have o:=o.pull 17
  obtain⟨c7,cc,hb⟩:=bd hb
  refine RL.call zt zr Hk [ak,cb] zr (aF (nX N (i1:=0) o zr cc) ?_)
  rintro bm w o
  refine DP.d2 (⟨⟨⟨⟨⟨⟨zt,o.j3 14⟩,o.j3 13⟩,o.j3 11⟩,o.j3 9⟩,o.j3 8⟩,o.j3 6⟩) (DP.e0 zr (aP bm (DP.d0 ?_)))
  have o:=o.pl 21 [0,1,2,3,4,5,7,10,12,15,16,17,18,19,20]
  refine DP.z (bT (aG (RC.seq (RC.sr (RL.bG ab.2.2.2 13 o cG (RL.nt (RC.region (RL.alloc o DO.z fun cd w o=>?_))))))))
  have o:=o.sc Int ab.2.2.2
  refine RL.bA 1 o 0 zr cG fun w o=>?_
  refine RL.nt (RC.region (RL.aK (f:=(fun x=>x)) 1 o zr Fd.self cG (RL.jo ab.2.2.2 1 ?_)))
  have o:=o.sc Int (IntKind.wrap .i64 (ab.2.2.2+1))
  refine RL.Di (i:=2) (j:=0) zt o zr zr zr zr cG fun w o=>?_
  refine RL.nil ?_
  obtain rfl:=oi hb
  exact⟨rfl,bm,ar,cd,o.sp 18 [13,14,3,8,2]⟩
 ·intro r _ _ _ _
  exact r.elim
 rintro ab _ w rfl ⟨av,O,rfl,o⟩
 rw [Fo.gx] at hb
 refine aG (RC.sr (mv av (aP av (RL.nt (RC.ret ?_)))))
 obtain rfl:=oi hb
 exact cI (o.pk 3 [2])
theorem k9 {p0: (List aA)} {res: (List aI)} (j:Holds E w V) (h0:V[i0]? =some (rd v0 p0)) (o:gS N p0=some res):
    Calls bF 38 [v0].toArray w (gT (kI E V res)):=by
 unfold gS at o
 refine enter Tryz.func38 zr zr ?_
 have j:=j.dup (i0+0) h0
 refine RC.sr (aP (.slice none 0 0) (RL.ns (aP (.slice none 0 0) (RL.nq (RC.sr (mv v0 (RL.bE 0 p0 j rn (mv (vi 0) ?_))))))))
 refine RL.nt ?_
 obtain⟨ad,hN,o⟩:=bd o
 refine RC.fold (fun(ae:Nat) (ad: (List aI)) U w=>∃an:Value,SH E V [(3,an),(7,v0),(8,vi p0.length),(9,vi ae)] [rd v0 p0,own 50 an ad] U w) (fun(ad: (List aI)) U w=>∃af:Value,SH E V [(3,af)] [rd v0 p0,own 50 af ad] U w) hN ?_ ?_ ?_ ?_
 ·have j:=j.dB aI 50
  exact⟨(.slice none 0 0),j.sp 2 [1,0]⟩
 ·rintro hm ad _ w ⟨av,O,rfl,j⟩
  refine RC.sr (ic ((p0.length:Int)) ((p0.length:Int)) (RL.nq (RC.cT mc (RC.ex ?_))))
  exact⟨rfl,av,j.sp 2 [0,1]⟩
 ·rintro hm ae ad s' _ w hk ⟨aw,O,rfl,j⟩ o
  refine RC.sr (ic ((ae:Int)) ((p0.length:Int)) (RL.nq (RC.cS (mb hk) (RC.ss (RC.bs ?_)))))
  obtain⟨ab,ax,o⟩:=bd o
  refine RL.cB 0 j mC ax fun a3 j=>(RL.bP 0 ab j tq fun a4 j=>(RL.alloc j z6.z fun ak w j=>?_))
  refine RL.bA 0 j 1 zr tq fun w j=>?_
  refine RL.ns (aP (vi 0) (RL.nt ?_))
  obtain⟨a5,hN,o⟩:=bd o
  refine RC.iter (fun(aa: (List aI)×Int) U w=>∃ar:Value,SH E V [(3,ar),(5,vp ak 0),(6,vi aa.2),(7,v0),(8,vi p0.length),(9,vi ae)] [bx 129 ak ab,rd v0 p0,own 50 ar aa.1] U w) (fun(aa: (List aI)×Int) U w=>∃ai:Value,SH E V [(3,ai),(7,v0),(8,vi p0.length),(9,vi ae)] [bx 129 ak ab,rd v0 p0,own 50 ai aa.1] U w) (fun(r:Empty) _ _=>r.elim) hN ?_ ?_ ?_ ?_
  ·exact⟨aw,j.sp 5 [0,3,4]⟩
  ·rintro aa fl _ w ⟨al,O,rfl,j⟩ o
   refine RC.seq (RC.sr (mv (vi aa.2) (RL.aZ zr jW (RL.aX 0 j zr cZ eU fun a7 j=>(RL.bE 0 ab.Xs j lx (ic aa.2 ((ab.Xs.length:Int)) (RL.nt (fH o (fun hc o=>?_) fun hc o=>?_))))))))
   rotate_left
   ·refine RC.ex ?_
    obtain rfl:=oi o
    exact⟨rfl,al,j.sp 4 [1,2,3]⟩
   refine RC.ss (RC.block (RC.yC mixed [1,0,0,0,0,0,0,0,0,0,0,0,0,0,0,0,0,2,2,0] [0,1,2,3,4,5,6,7,8,9,10,11,12,13,14,15,16,17,18,19] ?_))
   have j:=j.drew
   refine DP.e1 al zr (fun w=>RL.move al zt DP.d1) (DP.e0 zr (RL.aZ zr jW (cE zr (RL.aX 1 j zr cZ eU fun a8 j=>(cE zr (mv (vi aa.2) (cE zr ?_)))))))
   obtain⟨ag,az,o⟩:=bd o
   refine RL.cB 0 j eE az fun a9 j=>(cE zr (RL.bG ag 0 j cG (cE zr (RL.aZ zr mQ (cE zr (RL.aK 3 j zr fB cG (cE zr (RL.aZ zr jW ?_))))))))
   refine cE zr (RL.aX 3 j zr cZ eU fun ba j=>(cE zr (mv (vi aa.2) (cE zr (RL.jo aa.2 1 (cE zr ?_))))))
   obtain⟨ah,a0,o⟩:=bd o
   refine RL.cB 0 j eE a0 fun bb j=>(cE zr (RL.bG ah 0 j cG (cE zr (RL.aZ zr kZ (cE zr (RL.aK 5 j zr dZ cG (cE zr ?_)))))))
   have j:=(((j.sc Int ag).sc Int ab.Y0).sc Int ah).sc Int ab.Y1
   refine RL.build (⟨ag,ab.Y0,ah,ab.Y1⟩:aI) trivial rfl j [(0,vi ag),(1,vi ab.Y0),(2,vi ah),(3,vi ab.Y1)] rfl A3 rfl (fun M hs g=>by have h:=qg M;exact cH.cons (f:=fun(x:aI) y=>{x with X0:=y}) h oG (g.sat 3 _ rfl).1 fun _ h=>cH.cons (f:=fun(x:aI) y=>{x with Y0:=y}) h qT (g.sat 2 _ rfl).1 fun _ h=>cH.cons (f:=fun(x:aI) y=>{x with X1:=y}) h mZ (g.sat 1 _ rfl).1 fun _ h=>cH.cons (f:=fun(x:aI) y=>{x with Y1:=y}) h oH (g.sat 0 _ rfl).1 fun _ h=>cH.nil h) fun a1 j=>?_
   refine vX zr (RL.eP ([(⟨ag,ab.Y0,ah,ab.Y1⟩:aI)]: (List aI)) j [a1] kd lU (fun M hs g=>⟨(g.sat 0 _ zr).1,zt⟩) fun bc w j=>(Gs zr ?_))
   have j:=j.freeze 0
   obtain⟨bf,a2,o⟩:=bd o
   refine RL.app 13 0 j CA a2 fun au w j=>?_
   refine AI zr (aP au (DP.d0 (DP.z (bT (aG (RC.region (mv (vi aa.2) (RL.jo aa.2 2 ?_))))))))
   refine aP (vi (IntKind.wrap .i64 (aa.2+2))) (RL.nil ?_)
   obtain rfl:=oi o
   exact⟨rfl,au,j.sp 14 [11,12,13]⟩
  ·intro r _ _ _ _
   exact r.elim
  rintro aa _ w rfl ⟨ai,O,rfl,j⟩
  rw [Fo.gx] at o
  refine bT (aG (RC.region (RL.inc hk hm (mv (vi ((ae+1:Nat):Int)) (RL.nil ?_)))))
  obtain rfl:=oi o
  exact⟨rfl,ai,j.sp 3 [1,2]⟩
 rintro _ w ⟨af,O,rfl,j⟩
 refine aG (RC.sr (mv af (aP af (RL.nt (RC.ret ?_)))))
 obtain rfl:=oi o
 exact cI (j.pk 2 [1])
def ry (E:World) (V:List HP) (r:Bool) (U:Nat->Value) (w:World):Prop:=mx bF 26 Tryz.f36 (bD E V r) .ret U w
theorem qp {p0: (List aI)} {p1: (List aI)} {res:Bool} (j:Holds E w V) (h0:V[i0]? =some (rd v0 p0)) (h1:V[i1]? =some (rd v1 p1)) (o:iM N p0 p1=some res):
    Calls bF 36 [v0,v1].toArray w (gT (bD E V res)):=by
 unfold iM at o
 refine enter Tryz.func36 zr zr ?_
 have j:=(j.dup (i0+0) h0).dup (i1+1) h1
 refine RC.sr (aP (vb false) (RL.nq (RC.sr (mv v0 (RL.bE 1 p0 j nL (mv v1 (RL.bE 0 p1 j nL (ic ((p0.length:Int)) ((p1.length:Int)) ?_))))))))
 refine RL.nt (fH o (fun hc o=>?_) fun hc o=>?_)
 ·refine RC.sr (aP (vb false) (RL.nt (RC.rt ?_)))
  obtain rfl:=oi o
  exact cI ⟨rfl,j.drop 2⟩
 refine RC.ss (RC.sr (mv v0 (RL.bE 1 p0 j nL (mv (vi 0) (RL.nt ?_)))))
 obtain⟨an,hN,o⟩:=bd o
 refine RC.range (fun(aa:Nat) (ab:Unit)=>SH E V [(0,v0),(1,v1),(12,vi p0.length),(13,vi aa)] [rd v0 p0,rd v1 p1]) (fun(ab:Unit)=>SH E V [] [rd v0 p0,rd v1 p1]) (ry E V) hN ?_ ?_ ?_ ?_ ?_
 ·exact j.sp 2 [1,0]
 ·rintro hm ab _ w ⟨O,rfl,j⟩
  refine RC.sr (ic ((p0.length:Int)) ((p0.length:Int)) (RL.nq (RC.cT mc (RC.ex ?_))))
  exact⟨rfl,j.sp 2 [0,1]⟩
 ·rintro hm aa ab fl _ w hk ⟨O,rfl,j⟩ o
  refine RC.sr (ic ((aa:Int)) ((p0.length:Int)) (RL.nq (RC.cS (mb hk) (RC.ss (RC.bs (mv (vi aa) (aP (vi aa) (RL.nq ?_))))))))
  refine RC.xf mixed ?_
  have j:=j.drew
  refine RO.go (mv v0 (RO.nx (mv (vi aa) (RO.nx ?_))))
  obtain⟨ag,aj,o⟩:=bd o
  refine RL.cB 0 j kd aj fun aq j=>(RO.nx (RL.bP 0 ag j eZ fun ar j=>(RO.nx (mv v1 (RO.nx (mv (vi aa) (RO.nx ?_)))))))
  obtain⟨ah,ak,o⟩:=bd o
  refine RL.cB 3 j kd ak fun au j=>(RO.nx (RL.bP 0 ah j eZ fun av j=>(RO.nx (RL.Kf 2 0 ag ah zt zr j zr zr zr zr Hl zr (RO.last (aG (fH o (fun hc o=>?_) fun hc o=>?_)))))))
  rotate_left
  ·refine RC.skip (bT (aG (RC.region (RL.inc hk hm (mv (vi ((aa+1:Nat):Int)) (RL.nil ?_))))))
   obtain rfl:=oi o
   exact⟨rfl,j.sp 6 [4,5]⟩
  refine RC.sr (aP (vb false) (RL.nt (RC.rb (cC ?_))))
  obtain rfl:=oi o
  exact⟨rfl,cI ⟨rfl,j.drop 6⟩⟩
 ·intro r U w e hK
  subst e
  refine cC ?_
  obtain rfl:=oi o
  exact hK
 rintro ab _ w rfl ⟨O,rfl,j⟩
 rw [Fo.gx] at o
 refine aG (RC.sr (aP (vb true) (RL.nt (RC.ret ?_))))
 obtain rfl:=oi o
 exact cI ⟨rfl,j.drop 2⟩
def rz (E:World) (V:List HP) (r:Int) (U:Nat->Value) (w:World):Prop:=mx bF 52 Tryz.f13 (aQ E V r) .ret U w
theorem mj {p0: (List aI)} (j:Holds E w V) (h0:V[i0]? =some (rd v0 p0)) (hb:gK N p0=some res):
    Calls bF 13 [v0].toArray w (gT (aQ E V res)):=by
 unfold gK at hb
 refine enter Tryz.func13 zr zr ?_
 have j:=j.dup (i0+0) h0
 refine RC.sr (aP (vi 0) (RL.nq (RC.sr (mv v0 ?_))))
 obtain⟨au,ax,hb⟩:=bd hb
 refine RL.call zt zr IK [v0] zr (aF (rq N (i0:=0) j zr ax) ?_)
 rintro _ w ⟨rfl,j⟩
 refine aP (vi au) (RL.ns (mv (vi au) (ic au 0 (RL.nt (fH hb (fun hc hb=>?_) fun hc hb=>?_)))))
 ·refine RC.sr (mv (vi au) (aP (vi au) (RL.nt (RC.rt ?_))))
  obtain rfl:=oi hb
  exact cI ⟨rfl,j.drop 1⟩
 refine RC.ss (RC.sr (aP (vi 1) (RL.nt ?_)))
 obtain⟨bf,hN,hb⟩:=bd hb
 refine RC.iter (fun(an:Int)=>SH E V [(0,v0),(4,vi an)] [rd v0 p0]) (fun(an:Int)=>SH E V [(0,v0)] [rd v0 p0]) (rz E V) hN ?_ ?_ ?_ ?_
 ·exact j.sp 1 [0]
 ·rintro an fl _ w ⟨O,rfl,j⟩ hb
  refine RC.seq (RC.sr (mv (vi an) (mv v0 (RL.bE 0 p0 j nL (ic an ((p0.length:Int)) (RL.nt (fH hb (fun hc hb=>?_) fun hc hb=>?_)))))))
  rotate_left
  ·refine RC.ex ?_
   obtain rfl:=oi hb
   exact⟨rfl,j.sp 1 [0]⟩
  refine RC.ss (RC.block (RC.seq ?_))
  obtain⟨o,a0,hb⟩:=bd hb
  obtain⟨aa,a1,hb⟩:=bd hb
  refine RC.DA E V mixed [1,1,1,0,0,1,1,0,0,0,0,0,0] [3,4,7,8,9,10,11,12] (fun(x:Value×Value×Value×Value×Nat×Nat)=>(fun ag ah ai aj ad ae=>[(0,18,v0),(1,19,(vi an)),(2,20,(vi (IntKind.wrap .i64 (an - 1)))),(3,21,ag),(4,22,ah),(5,23,v0),(6,24,(vi an)),(7,25,ai),(8,26,aj),(9,5,(vp ad 0)),(10,6,(vp ae 0))]) x.1 x.2.1 x.2.2.1 x.2.2.2.1 x.2.2.2.2.1 x.2.2.2.2.2) [(0,v0),(4,vi an)] [] (fun(D:Nat->Bool) (x:Value×Value×Value×Value×Nat×Nat)=>(fun ag ah ai aj ad ae=>[bif D 0 then (pt ag o) else aY,bif D 1 then (rd ah o) else aY,bif D 2 then (pt ai aa) else aY,bif D 3 then (rd aj aa) else aY,bif D 6 then (bx 50 ad o) else (bif D 4 then (raw 50 ad 4) else aY),bif D 7 then (bx 50 ae aa) else (bif D 5 then (raw 50 ae 4) else aY),rd v0 p0]) x.1 x.2.1 x.2.2.1 x.2.2.2.1 x.2.2.2.2.1 x.2.2.2.2.2) (fun x=>by kernel_rfl) ?_ ⟨fun _=>jF gn,fun _=>jF gn,fun _=>Fg gn rfl,?_,?_,fun _=>jF gn,fun _=>jF gn,?_,?_,?_,?_,?_,?_,trivial⟩ ?_
  ·have j:=((((((j.drew).aY).aY).aY).aY).aY).aY
   exact⟨(undef,undef,undef,undef,0,0),eC.none,(Cq zr),zt,j⟩
  ·rintro D U w hD af ao ⟨⟨ag,ah,ai,aj,ad,ae⟩,hv,ha,_,j⟩
   obtain⟨O,rfl⟩:=(ac (hv.at 0 rfl (af.1 rfl)) (ac (hv.at 2 rfl (af.2.1 rfl)) az)).fC
   have j:=j.bX 0 hD
   refine RL.cB 6 j kd a0 fun a2 j=>?_
   have j:=(j.pl 8 [0,2,3,4,5,6,7]).cO 0 true aY
   exact RL.nil ⟨rfl,(a2,ah,ai,aj,ad,ae),hv.pu 3,ha.u,zt,j⟩
  ·rintro D U w hD af ao ⟨⟨ag,ah,ai,aj,ad,ae⟩,hv,ha,_,j⟩
   obtain⟨O,rfl⟩:=(ac (hv.at 3 rfl (af.1 rfl)) az).fC
   have j:=(j.cN 0 (af.1 rfl)).bX 1 hD
   refine RL.bP 0 o j eZ fun a3 j=>?_
   have j:=((j.pl 8 [1,0,3,4,5,6,7]).cO (hb:=af.1 rfl) 0 (D 3) aY).cO 1 true aY
   exact RL.nil ⟨rfl,(ag,a3,ai,aj,ad,ae),hv.pu 4,ha.u,zt,j⟩
  ·rintro D U w hD af ao ⟨⟨ag,ah,ai,aj,ad,ae⟩,hv,ha,_,j⟩
   obtain⟨O,rfl⟩:=(ac (hv.at 5 rfl (af.1 rfl)) (ac (hv.at 6 rfl (af.2.1 rfl)) az)).fC
   have j:=j.bX 2 hD
   refine RL.cB 6 j kd a1 fun a4 j=>?_
   have j:=(j.pl 8 [1,2,0,4,5,6,7]).cO 2 true aY
   exact RL.nil ⟨rfl,(ag,ah,a4,aj,ad,ae),hv.pu 7,ha.u,zt,j⟩
  ·rintro D U w hD af ao ⟨⟨ag,ah,ai,aj,ad,ae⟩,hv,ha,_,j⟩
   obtain⟨O,rfl⟩:=(ac (hv.at 7 rfl (af.1 rfl)) az).fC
   have j:=(j.cN 2 (af.1 rfl)).bX 3 hD
   refine RL.bP 2 aa j eZ fun a5 j=>?_
   have j:=((j.pl 8 [1,2,3,0,5,6,7]).cO (hb:=af.1 rfl) 2 (D 7) aY).cO 3 true aY
   exact RL.nil ⟨rfl,(ag,ah,ai,a5,ad,ae),hv.pu 8,ha.u,zt,j⟩
  ·rintro D U w hD af ao ⟨⟨ag,ah,ai,aj,ad,ae⟩,hv,ha,_,j⟩
   obtain⟨O,rfl⟩:=(az (U:=U)).fC
   have j:=(j.bX 4 (nh ao hD 11)).bX 4 hD
   refine RL.alloc j lU.z fun av w j=>?_
   have j:=((j.pl 8 [1,2,3,4,0,6,7]).cO 4 true aY).eR 4 (D 11) (nh ao hD 11) (bx 50 av o)
   exact RL.nil ⟨rfl,(ag,ah,ai,aj,av,ae),hv.pu 9,ha.u,zt,j⟩
  ·rintro D U w hD af ao ⟨⟨ag,ah,ai,aj,ad,ae⟩,hv,ha,_,j⟩
   obtain⟨O,rfl⟩:=(az (U:=U)).fC
   have j:=(j.bX 5 (nh ao hD 12)).bX 5 hD
   refine RL.alloc j lU.z fun aw w j=>?_
   have j:=((j.pl 8 [1,2,3,4,5,0,7]).cO 5 true aY).eR 5 (D 12) (nh ao hD 12) (bx 50 aw aa)
   exact RL.nil ⟨rfl,(ag,ah,ai,aj,ad,aw),hv.pu 10,ha.u,zt,j⟩
  ·rintro D U w hD af ao ⟨⟨ag,ah,ai,aj,ad,ae⟩,hv,ha,_,j⟩
   obtain⟨O,rfl⟩:=(ac (hv.at 4 rfl (af.2.1 rfl)) (ac (hv.at 9 rfl (af.1 rfl)) az)).fC
   have j:=((j.cN 1 (af.2.1 rfl)).bX 4 hD).cN 4 (af.1 rfl)
   refine RL.bA 4 j 1 zr eZ fun w j=>?_
   have j:=(j.cO (hb:=af.2.1 rfl) 1 (D 4) aY).cO 4 true (bif D 9 then (raw 50 ad 4) else aY)
   exact RL.nil ⟨rfl,(ag,ah,ai,aj,ad,ae),hv.n1,ha,zt,j⟩
  ·rintro D U w hD af ao ⟨⟨ag,ah,ai,aj,ad,ae⟩,hv,ha,_,j⟩
   obtain⟨O,rfl⟩:=(ac (hv.at 8 rfl (af.2.1 rfl)) (ac (hv.at 10 rfl (af.1 rfl)) az)).fC
   have j:=((j.cN 3 (af.2.1 rfl)).bX 5 hD).cN 5 (af.1 rfl)
   refine RL.bA 5 j 3 zr eZ fun w j=>?_
   have j:=(j.cO (hb:=af.2.1 rfl) 3 (D 8) aY).cO 5 true (bif D 10 then (raw 50 ae 4) else aY)
   exact RL.nil ⟨rfl,(ag,ah,ai,aj,ad,ae),hv.n1,ha,zt,j⟩
  rintro D U w aq ⟨⟨ag,ah,ai,aj,ad,ae⟩,hv,ha,_,j⟩
  have j:=(((((j.cN 0 (jS aq 3)).cN 1 (jS aq 4)).cN 2 (jS aq 7)).cN 3 (jS aq 8)).cN 4 (jS aq 11)).cN 5 (jS aq 12)
  obtain⟨O,rfl⟩:=(ac (hv.at 9 rfl (jS aq 9)) (ac (hv.at 10 rfl (jS aq 10)) (ac (ha.at 0 rfl) (ac (ha.at 1 rfl) az)))).fC
  refine aG (RC.sr (RL.aZ zr jy (RL.aK 5 j zr eQ cG (RL.aZ zr jy (RL.aK 4 j zr eQ cG (ic aa.Y0 o.Y0 (mv (vb (decide (aa.Y0<o.Y0))) (RL.gs true (decide (aa.Y0<o.Y0)) (vp ae 1) zr zr zr (dI jy) ?_))))))))
  refine RL.gs true (decide (aa.Y0<o.Y0)) (vi aa.Y0) rfl rfl rfl (bQ 5 rfl j (fun h=>by exact(cQ h:cv (true&&((decide (aa.Y0<o.Y0))==false)) (vp ae 1)= (vp ae 1))) rfl eQ cG) (RL.gs true (decide (aa.Y0<o.Y0)) (vp ad 1) rfl rfl rfl (dI jy) (RL.gs true (decide (aa.Y0<o.Y0)) (vi o.Y0) rfl rfl rfl (bQ 4 rfl j (fun h=>by exact(cQ h:cv (true&&((decide (aa.Y0<o.Y0))==false)) (vp ad 1)= (vp ad 1))) rfl eQ cG) (RL.gs true (decide (aa.Y0<o.Y0)) (vb (aa.Y0==o.Y0)) rfl rfl rfl (dT .eql .i64 aa.Y0 o.Y0 rfl (fun h=>by exact(cQ h:cv (true&&((decide (aa.Y0<o.Y0))==false)) (vi aa.Y0)= (vi aa.Y0))) (fun h=>by exact(cQ h:cv (true&&((decide (aa.Y0<o.Y0))==false)) (vi o.Y0)= (vi o.Y0))) rfl) (RL.gs true (decide (aa.Y0<o.Y0)) (vb (aa.Y0==o.Y0)) rfl rfl rfl (dQ (hx:=fun h=>by exact(cQ h:cv (true&&((decide (aa.Y0<o.Y0))==false)) (vb (aa.Y0==o.Y0))= (vb (aa.Y0==o.Y0))))) (RL.gs (true&&((decide (aa.Y0<o.Y0))==false)) (aa.Y0==o.Y0) (vp ae 0) rfl rfl rfl (dI iX) (RL.gs (true&&((decide (aa.Y0<o.Y0))==false)) (aa.Y0==o.Y0) (vi aa.X0) rfl rfl rfl (bQ 5 rfl j (fun h=>by exact(cQ h:cv ((true&&((decide (aa.Y0<o.Y0))==false))&&((aa.Y0==o.Y0)==true)) (vp ae 0)= (vp ae 0))) rfl eG cG) (RL.gs (true&&((decide (aa.Y0<o.Y0))==false)) (aa.Y0==o.Y0) (vp ad 0) rfl rfl rfl (dI iX) (RL.gs (true&&((decide (aa.Y0<o.Y0))==false)) (aa.Y0==o.Y0) (vi o.X0) rfl rfl rfl (bQ 4 rfl j (fun h=>by exact(cQ h:cv ((true&&((decide (aa.Y0<o.Y0))==false))&&((aa.Y0==o.Y0)==true)) (vp ad 0)= (vp ad 0))) rfl eG cG) ?_))))))))
  refine RL.gs (true&&((decide (aa.Y0<o.Y0))==false)) (aa.Y0==o.Y0) (vb (decide (aa.X0<=o.X0))) rfl rfl rfl (dT .leq .i64 aa.X0 o.X0 rfl (fun h=>by exact(cQ h:cv ((true&&((decide (aa.Y0<o.Y0))==false))&&((aa.Y0==o.Y0)==true)) (vi aa.X0)= (vi aa.X0))) (fun h=>by exact(cQ h:cv ((true&&((decide (aa.Y0<o.Y0))==false))&&((aa.Y0==o.Y0)==true)) (vi o.X0)= (vi o.X0))) rfl) (RL.gs true (decide (aa.Y0<o.Y0)) (vb ((aa.Y0==o.Y0)&&(decide (aa.X0<=o.X0)))) rfl rfl rfl (nU (aa.Y0==o.Y0) rfl (fun h=>by exact(cQ h:cv (true&&((decide (aa.Y0<o.Y0))==false)) (vb (aa.Y0==o.Y0))= (vb (aa.Y0==o.Y0)))) (fun h=>by exact iU (h:=h) (true&&((decide (aa.Y0<o.Y0))==false)))) (RL.pick (decide (aa.Y0<o.Y0)) (vb ((decide (aa.Y0<o.Y0))||((aa.Y0==o.Y0)&&(decide (aa.X0<=o.X0))))) (m7 true rfl) (RL.nt (fH hb (fun hc hb=>?_) fun hc hb=>?_))))
  ·refine RC.sr (aP (vi 8) (RL.nt (RC.rb (cC ?_))))
   obtain rfl:=oi hb
   exact⟨rfl,cI ⟨rfl,j.drop 7⟩⟩
  refine RC.skip (bT (aG (RC.region (mv (vi an) (RL.jo an 1 (aP (vi (IntKind.wrap .i64 (an+1))) (RL.nil ?_)))))))
  obtain rfl:=oi hb
  exact⟨rfl,j.sp 7 [6]⟩
 ·intro r U w e hK
  subst e
  refine cC ?_
  obtain rfl:=oi hb
  exact hK
 rintro an _ w rfl ⟨O,rfl,j⟩
 rw [Fo.gx] at hb
 refine aG (RC.seq (RC.sr (mv v0 ?_)))
 obtain⟨bh,a7,hb⟩:=bd hb
 refine RL.call zt zr DQ [v0] zr (aF (kh N (i0:=0) j zr a7) ?_)
 rintro a8 w j
 have j:=j.freeze 0
 obtain⟨bj,a9,hb⟩:=bd hb
 refine RL.call zt zr Gw [a8] zr (aF (k9 N (i0:=0) j zr a9) ?_)
 rintro ba w j
 refine mv v0 ?_
 have j:=j.freeze 0
 obtain⟨bb,bc,hb⟩:=bd hb
 refine RL.call zt zr IY [ba,v0] zr (aF (qp N (i0:=0) (i1:=2) j zr zr bc) ?_)
 rintro _ w ⟨rfl,j⟩
 refine RL.not bb (RL.nt (fH hb (fun hc hb=>?_) fun hc hb=>?_))
 ·refine RC.sr (aP (vi 3) (RL.nt (RC.rt ?_)))
  obtain rfl:=oi hb
  exact cI ⟨rfl,j.drop 3⟩
 refine RC.sx (aP (vi 0) (RL.nt (RC.ret ?_)))
 obtain rfl:=oi hb
 exact cI ⟨rfl,j.drop 3⟩
theorem kD {res:Bool} (o:Holds E w V) (j:fO N p0 p1 p2=some res):
    Calls bF 40 [(vi p0),(vi p1),(vi p2)].toArray w (gT (bD E V res)):=by
 unfold fO at j
 refine enter Tryz.func40 zr zr (RC.sr (aP (vb false) (RL.ns (mv (vi p0) (mv (vi p1) (ic p0 p1 (mv (vb (decide (p0>=p1))) (RL.gs true (decide (p0>=p1)) (vi p0) zr zr zr dQ ?_))))))))
 refine RL.gs true (decide (p0>=p1)) (vi p2) rfl rfl rfl dQ (RL.gs true (decide (p0>=p1)) (vb (decide (p0<=p2))) rfl rfl rfl (dT .leq .i64 p0 p2 rfl (fun h=>by exact(cQ h:cv (true&&((decide (p0>=p1))==true)) (vi p0)= (vi p0))) (fun h=>by exact(cQ h:cv (true&&((decide (p0>=p1))==true)) (vi p2)= (vi p2))) rfl) (RL.pick (decide (p0>=p1)) (vb ((decide (p0>=p1))&&(decide (p0<=p2)))) (iU true) (aP (vb ((decide (p0>=p1))&&(decide (p0<=p2)))) (RL.nt (RC.ret ?_)))))
 obtain rfl:=oi j
 exact cI ⟨rfl,o.drop 0⟩
theorem oO {p0:eF} {res:Bool} (j:Holds E w V) (h0:V[i0]? =some (rd v0 p0)) (hb:g8 N p0=some res):
    Calls bF 43 [v0].toArray w (gT (bD E V res)):=by
 unfold g8 at hb
 refine enter Tryz.func43 zr zr ?_
 have j:=j.dup (i0+0) h0
 refine RC.sr (RL.dD 0 v0 j zr fun ai w j=>?_)
 refine aP (vb false) (RL.nq ?_)
 obtain⟨ad,o,hb⟩:=bd hb
 refine RC.jn (fun(ad:Bool)=>SH E V [(2,vb ad)] []) ad ?_ ?_
 ·refine RC.region (RL.aZ zr qj (RL.aK 0 j zr kc cG ?_))
  obtain⟨af,ag,o⟩:=bd o
  refine RL.call zt zr Cz [(vi p0.X)] zr (aF (jL N (p0:=p0.X) j ag) ?_)
  rintro _ w ⟨rfl,j⟩
  refine mv (vb af) (fY o (fun aa o=>?_) fun aa o=>?_)
  rotate_left
  ·refine bR aa (bR aa (bR aa (fV aa (vb false) (aP (vb false) (RL.nil ?_)))))
   obtain rfl:=oi o
   exact⟨rfl,j.sp 2 []⟩
  refine RL.aZ (hg:=(cg aa)) zr oh (RL.aK (hg:=(cg aa)) 0 j zr iW cG ?_)
  obtain⟨ae,ah,o⟩:=bd o
  refine RL.call (cg aa) zr Cz [(vi p0.Y)] zr (aF (jL N (p0:=p0.Y) j ah) ?_)
  rintro _ w ⟨rfl,j⟩
  refine fV aa (vb ae) (aP (vb ae) (RL.nil ?_))
  obtain rfl:=oi o
  exact⟨rfl,j.sp 2 []⟩
 rintro _ w ⟨O,rfl,j⟩
 refine aG (RC.ret ?_)
 obtain rfl:=oi hb
 exact cI ⟨rfl,j.drop 0⟩
end Go.Gk
