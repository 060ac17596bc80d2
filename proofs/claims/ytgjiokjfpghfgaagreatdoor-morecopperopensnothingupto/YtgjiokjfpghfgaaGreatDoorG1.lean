/-
  Printed texts: Go functions as plain functions, and that they are. No statement of the seed is proved here.
-/
import Derived.Test.YtgjiokjfpghfgaaGreatDoorProg
import Derived.Test.YtgjiokjfpghfgaaGreatDoorE1
import Derived.Test.YtgjiokjfpghfgaaGreatDoorA1
import Derived.Test.YtgjiokjfpghfgaaGreatDoorA2
import Derived.Test.YtgjiokjfpghfgaaGreatDoorRows
import Derived.Shelf.SlGeneric
import Derived.Ground.SlsfProg
import Derived.Ground.SlgmProg
set_option linter.unusedVariables false
set_option linter.unusedSimpArgs false
set_option linter.unusedSectionVars false
set_option maxRecDepth 100000
set_option maxHeartbeats 4000000
namespace Go.Gk
open Go Go.Proofs
noncomputable abbrev bG:=Tryz.prog
def kC (x:aG):=(x.X0,x.Y0,x.X1,x.Y1)
instance instGTRect:GT aG:=GT.via kC
instance instKVRect:KV aG:=instKVvia (fun(x:aG)=>(x.X0,x.Y0,x.X1,x.Y1))
theorem eQ:Fd 0 (fun x:aG=>x.X0):= .v kC (.fst .self)
theorem n7:Fs 0 Int (fun(x:aG) y=>{x with X0:=y}):= .v kC (.fst .self)
theorem fB:Fd 1 (fun x:aG=>x.Y0):= .v kC (.snd (.fst .self))
theorem qD:Fs 1 Int (fun(x:aG) y=>{x with Y0:=y}):= .v kC (.snd (.fst .self))
theorem fQ:Fd 2 (fun x:aG=>x.X1):= .v kC (.snd (.snd (.fst .self)))
theorem n8:Fs 2 Int (fun(x:aG) y=>{x with X1:=y}):= .v kC (.snd (.snd (.fst .self)))
theorem i5:Fd 3 (fun x:aG=>x.Y1):= .v kC (.snd (.snd (.snd (.self))))
theorem qE:Fs 3 Int (fun(x:aG) y=>{x with Y1:=y}):= .v kC (.snd (.snd (.snd (.self))))
def tv (x:iU):=(x.X,x.Y)
instance instGTPoint:GT iU:=GT.via tv
instance instKVPoint:KV iU:=instKVvia (fun(x:iU)=>(x.X,x.Y))
theorem oQ:Fd 0 (fun x:iU=>x.X):= .v tv (.fst .self)
theorem oR:Fd 1 (fun x:iU=>x.Y):= .v tv (.snd (.self))
def mJ (x:bH):=(x.At,x.eD,x.cM,x.To,x.iF)
instance instGTBore:GT bH:=GT.via mJ
theorem tw:Fd 0 (fun x:bH=>x.At):= .v mJ (.fst .self)
theorem n9:Fd 2 (fun x:bH=>x.eD):= .v mJ (.snd (.fst .self))
theorem A7:Fs 2 Int (fun(x:bH) y=>{x with eD:=y}):= .v mJ (.snd (.fst .self))
theorem lG:Fd 3 (fun x:bH=>x.cM):= .v mJ (.snd (.snd (.fst .self)))
theorem my:Fd 4 (fun x:bH=>x.To):= .v mJ (.snd (.snd (.snd (.fst .self))))
theorem tx:Fd 5 (fun x:bH=>x.iF):= .v mJ (.snd (.snd (.snd (.snd (.self)))))
def pQ (x:bW):=(x.Part,x.fH,x.cY,x.At)
instance instGTLand:GT bW:=GT.via pQ
theorem wx:Fd 0 (fun x:bW=>x.Part):= .v pQ (.fst .self)
theorem wy:Fd 1 (fun x:bW=>x.fH):= .v pQ (.snd (.fst .self))
theorem tz:Fd 2 (fun x:bW=>x.cY):= .v pQ (.snd (.snd (.fst .self)))
theorem tA:Fd 3 (fun x:bW=>x.At):= .v pQ (.snd (.snd (.snd (.self))))
def sq (x:eL):=(x.aH,x.cI,x.aU,x.bC)
instance instGTArt:GT eL:=GT.via sq
theorem i6:Fd 0 (fun x:eL=>x.aH):= .v sq (.fst .self)
theorem su:Fd 1 (fun x:eL=>x.cI):= .v sq (.snd (.fst .self))
theorem oc:Fd 2 (fun x:eL=>x.aU):= .v sq (.snd (.snd (.fst .self)))
theorem oe:Fd 3 (fun x:eL=>x.bC):= .v sq (.snd (.snd (.snd (.self))))
def qF (x:fH):=(x.Part,x.fH)
instance instGTPin:GT fH:=GT.via qF
instance instKVPin:KV fH:=instKVvia (fun(x:fH)=>(x.Part,x.fH))
theorem yt:Fd 0 (fun x:fH=>x.Part):= .v qF (.fst .self)
theorem Ch:Fs 0 dA (fun(x:fH) y=>{x with Part:=y}):= .v qF (.fst .self)
theorem yu:Fd 1 (fun x:fH=>x.fH):= .v qF (.snd (.self))
theorem Ci:Fs 1 dA (fun(x:fH) y=>{x with fH:=y}):= .v qF (.snd (.self))
def gT (x:aA):=(x.Y0,x.Y1,x.Xs)
instance instGTshape_Band:GT aA:=GT.via gT
theorem eX:Fd 0 (fun x:aA=>x.Y0):= .v gT (.fst .self)
theorem pd:Fs 0 Int (fun(x:aA) y=>{x with Y0:=y}):= .v gT (.fst .self)
theorem dS:Fd 1 (fun x:aA=>x.Y1):= .v gT (.snd (.fst .self))
theorem l7:Fs 1 Int (fun(x:aA) y=>{x with Y1:=y}):= .v gT (.snd (.fst .self))
theorem cR:Fd 2 (fun x:aA=>x.Xs):= .v gT (.snd (.snd (.self)))
theorem pf:Fs 2 (List Int) (fun(x:aA) y=>{x with Xs:=y}):= .v gT (.snd (.snd (.self)))
def gI (x:aI):=(x.cY,x.Set,x.gk)
instance instGTcopper_Piece:GT aI:=GT.via gI
theorem nn:Fd 0 (fun x:aI=>x.cY):= .v gI (.fst .self)
theorem sw:Fs 0 Int (fun(x:aI) y=>{x with cY:=y}):= .v gI (.fst .self)
theorem sA:Fs 1 (List aA) (fun(x:aI) y=>{x with Set:=y}):= .v gI (.snd (.fst .self))
theorem np:Fd 2 (fun x:aI=>x.gk):= .v gI (.snd (.snd (.self)))
theorem sB:Fs 2 (List aG) (fun(x:aI) y=>{x with gk:=y}):= .v gI (.snd (.snd (.self)))
def A8 (x:cL):=(x.l5,x.aU,x.hU)
instance instGTGroup:GT cL:=GT.via A8
def sC (x:iN):=(x.bH,x.Number)
instance instGTHop:GT iN:=GT.via sC
instance instKVHop:KV iN:=instKVvia (fun(x:iN)=>(x.bH,x.Number))
theorem Cj:Fd 0 (fun x:iN=>x.bH):= .v sC (.fst .self)
theorem Ck:Fs 0 Bool (fun(x:iN) y=>{x with bH:=y}):= .v sC (.fst .self)
theorem yv:Fd 1 (fun x:iN=>x.Number):= .v sC (.snd (.self))
theorem yw:Fs 1 Int (fun(x:iN) y=>{x with Number:=y}):= .v sC (.snd (.self))
theorem Fz (M:cZ):GT.ok M (#[(.string ⟨#[]⟩),(.string ⟨#[]⟩)]:Array Value).toList (⟨⟨[]⟩,⟨[]⟩⟩:fH):=⟨[(.string ⟨#[]⟩)],[(.string ⟨#[]⟩)],rfl,(show GT.ok M [(.string ⟨#[]⟩)] (⟨[]⟩:dA) from rfl),(show GT.ok M [(.string ⟨#[]⟩)] (⟨[]⟩:dA) from rfl)⟩
theorem rG (M:cZ):GT.ok M (#[(.int .i64 0),(.int .i64 0),(.int .i64 0),(.int .i64 0)]:Array Value).toList (⟨0,0,0,0⟩:aG):=⟨[(.int .i64 0)],[(.int .i64 0),(.int .i64 0),(.int .i64 0)],rfl,(show GT.ok M [(.int .i64 0)] (0:Int) from rfl),⟨[(.int .i64 0)],[(.int .i64 0),(.int .i64 0)],rfl,(show GT.ok M [(.int .i64 0)] (0:Int) from rfl),⟨[(.int .i64 0)],[(.int .i64 0)],rfl,(show GT.ok M [(.int .i64 0)] (0:Int) from rfl),(show GT.ok M [(.int .i64 0)] (0:Int) from rfl)⟩⟩⟩
theorem DI (M:cZ):GT.ok M (#[(.int .i64 0),(.int .i64 0)]:Array Value).toList (⟨0,0⟩:iU):=⟨[(.int .i64 0)],[(.int .i64 0)],rfl,(show GT.ok M [(.int .i64 0)] (0:Int) from rfl),(show GT.ok M [(.int .i64 0)] (0:Int) from rfl)⟩
theorem ES (M:cZ):GT.ok M (#[(.int .i64 0),(.int .i64 0),(.int .i64 0),(.int .i64 0),(.int .i64 0),(.bool false)]:Array Value).toList (⟨⟨0,0⟩,0,0,0,false⟩:bH):=⟨[(.int .i64 0),(.int .i64 0)],[(.int .i64 0),(.int .i64 0),(.int .i64 0),(.bool false)],rfl,(show GT.ok M [(.int .i64 0),(.int .i64 0)] (⟨0,0⟩:iU) from DI M),⟨[(.int .i64 0)],[(.int .i64 0),(.int .i64 0),(.bool false)],rfl,(show GT.ok M [(.int .i64 0)] (0:Int) from rfl),⟨[(.int .i64 0)],[(.int .i64 0),(.bool false)],rfl,(show GT.ok M [(.int .i64 0)] (0:Int) from rfl),⟨[(.int .i64 0)],[(.bool false)],rfl,(show GT.ok M [(.int .i64 0)] (0:Int) from rfl),(show GT.ok M [(.bool false)] (false:Bool) from rfl)⟩⟩⟩⟩
theorem sD (M:cZ):GT.ok M (#[(.int .i64 0),(.int .i64 0),(.slice none 0 0)]:Array Value).toList (⟨0,0,[]⟩:aA):=⟨[(.int .i64 0)],[(.int .i64 0),(.slice none 0 0)],rfl,(show GT.ok M [(.int .i64 0)] (0:Int) from rfl),⟨[(.int .i64 0)],[(.slice none 0 0)],rfl,(show GT.ok M [(.int .i64 0)] (0:Int) from rfl),(show GT.ok M [(.slice none 0 0)] ([]: (List Int)) from ⟨_,rfl,none,0,0,rfl,rfl,bJ _,by simp [maxLen],fun _ _ h=>by simp at h⟩)⟩⟩
theorem uV (M:cZ):GT.ok M (#[(.int .i64 0),(.slice none 0 0),(.slice none 0 0)]:Array Value).toList (⟨0,[],[]⟩:aI):=⟨[(.int .i64 0)],[(.slice none 0 0),(.slice none 0 0)],rfl,(show GT.ok M [(.int .i64 0)] (0:Int) from rfl),⟨[(.slice none 0 0)],[(.slice none 0 0)],rfl,(show GT.ok M [(.slice none 0 0)] ([]: (List aA)) from ⟨_,rfl,none,0,0,rfl,rfl,bJ _,by simp [maxLen],fun _ _ h=>by simp at h⟩),(show GT.ok M [(.slice none 0 0)] ([]: (List aG)) from ⟨_,rfl,none,0,0,rfl,rfl,bJ _,by simp [maxLen],fun _ _ h=>by simp at h⟩)⟩⟩
theorem Cl (M:cZ):GT.ok M (#[(.bool false),(.int .i64 0)]:Array Value).toList (⟨false,0⟩:iN):=⟨[(.bool false)],[(.int .i64 0)],rfl,(show GT.ok M [(.bool false)] (false:Bool) from rfl),(show GT.ok M [(.int .i64 0)] (0:Int) from rfl)⟩
structure bN where
  l5: (List Int)
  aU: (List Int)
  hU:RV
  deriving Inhabited
def oS (x:bN):=(x.l5,x.aU,x.hU)
instance instGTGroup_r2:GT bN:=GT.via oS
theorem vV:Fd 2 (fun x:bN=>x.hU):= .v oS (.snd (.snd (.self)))
theorem vW:Fs 2 RV (fun(x:bN) y=>{x with hU:=y}):= .v oS (.snd (.snd (.self)))
def bL:XT bN cL:=⟨fun u x=>u.l5=x.l5/\u.aU=x.aU,fun M h u x=>(u.l5=x.l5/\u.aU=x.aU)/\rB 29 M h u.hU.v x.hU,fun{M M' h u x} hk hh=>⟨hh.1,(own 29 u.hU.v x.hU).mono hk hh.2⟩,fun h=>h.1⟩
theorem pR:XO bL 29 2 (fun u=>u.hU) (fun u r=>{u with hU:=r}) (fun x=>x.hU) (fun x y=>{x with hU:=y}):=⟨vV,vW,by decide,fun h=>h.2,fun hr ho=>⟨hr,ho⟩⟩
theorem w9 (M h:cZ) (u:bN) (x:cL) (cs:List Value) (hd: ∀b o,h b=some o->M b=none) (hx:bL.ok M h u x) (hc:GT.ok M cs u):GT.ok (mX M h) cs x:=by
  obtain⟨⟨e0,e1⟩,ho⟩:=hx
  obtain⟨c0,d0,hd0,a0,c1,d1,hd1,a1,a2⟩:=hc
  exact⟨c0,d0,hd0,GT.mono (qA M h) (show GT.ok M c0 x.l5 from e0▸(show GT.ok M c0 u.l5 from a0)),⟨c1,d1,hd1,GT.mono (qA M h) (show GT.ok M c1 x.aU from e1▸(show GT.ok M c1 u.aU from a1)),⟨u.hU.v,a2,rB.sl hd ho⟩⟩⟩
theorem fN:lD bG 27 true 4:=uo
theorem A9:zb bG 27 4:=A6 (.agg #[(.slice none 0 0),(.slice none 0 0),(.slice none 0 0),(.slice none 0 0)])
theorem jK:mj bG 27 0 0:=nZ
theorem pz:lD bG 22 false 1:=uo
theorem tC:Tryz.prog.underlying 22=some (.slice 23):=by kernel_rfl
theorem xc:mj bG 27 1 1:=nZ
theorem pS:lD bG 23 false 1:=uo
theorem pT:Tryz.prog.underlying 23=some (.slice 42):=by kernel_rfl
theorem tD:tp bG 22 23 1:=A5
theorem lh:tp bG 23 42 4:=A5
theorem gU:lD bG 42 true 4:=uo
theorem nL:zb bG 42 4:=A6 (.agg #[(.int .i64 0),(.int .i64 0),(.int .i64 0),(.int .i64 0)])
theorem jr:mj bG 42 0 0:=nZ
theorem cV:lD bG 3 false 1:=uo
theorem G6:hG bG 64:=iK Tryz.func64
theorem Ba:hG bG 45:=iK Tryz.func45
theorem j5:mj bG 42 1 1:=nZ
theorem j6:mj bG 42 2 2:=nZ
theorem mK:mj bG 42 3 3:=nZ
theorem FA:hG bG 46:=iK Tryz.func46
theorem G7:hG bG 27:=iK Tryz.func27
theorem mixed:Tryz.prog.follows .mixedOrders=true:=by kernel_rfl
theorem Bb:qC bG 23 42 4 32:=qC.of (.agg #[(.int .i64 0),(.int .i64 0),(.int .i64 0),(.int .i64 0)])
theorem ET:hG bG 30:=iK Tryz.func30
theorem G8:hG bG 32:=iK Tryz.func32
theorem FB:hG bG 31:=iK Tryz.func31
theorem FC:GL bG 70 [(.slice none 0 0)]:=⟨(.slice none 0 0),fun _=>by kernel_rfl,rfl⟩
theorem fw:lD bG 70 false 1:=uo
theorem fx:tp bG 70 3 1:=A5
theorem Dr:zb bG 3 1:=A6 (.int .i64 0)
theorem tE:qC bG 70 3 1 8:=qC.of (.int .i64 0)
theorem G9:hG bG 33:=iK Tryz.func33
theorem lT:Tryz.prog.underlying 70=some (.slice 3):=by kernel_rfl
theorem FD:Dm bG 3 (0:Int):=Dm.of (.int .i64 0) (fun M=>rfl)
theorem Ha:hG bG 34:=iK Tryz.func34
theorem FE:hG bG 61:=iK Tryz.func61
theorem Hb:Dm bG 42 (⟨0,0,0,0⟩:aG):=Dm.of (.agg #[(.int .i64 0),(.int .i64 0),(.int .i64 0),(.int .i64 0)]) (fun M=>(rG M))
theorem Hc:hG bG 36:=iK Tryz.func36
theorem Hd:hG bG 35:=iK Tryz.func35
theorem He:hG bG 63:=iK Tryz.func63
theorem Hf:hG bG 38:=iK Tryz.func38
theorem FF:uK bG 86 [(0,1),(1,1),(2,1)] #[(.int .i64 0),(.int .i64 0),(.slice none 0 0)]:=uK.of (.agg #[(.int .i64 0),(.int .i64 0),(.slice none 0 0)]) Tryz.underlying86
theorem lj:mj bG 86 2 2:=nZ
theorem l8:mj bG 86 1 1:=nZ
theorem oT:mj bG 86 0 0:=nZ
theorem qU:Tryz.prog.underlying 40=some (.slice 86):=by kernel_rfl
theorem l9:tp bG 40 86 3:=A5
theorem Hg:hG bG 62:=iK Tryz.func62
theorem xd:lD bG 86 true 3:=uo
theorem Cm:zb bG 86 3:=A6 (.agg #[(.int .i64 0),(.int .i64 0),(.slice none 0 0)])
theorem Hh:qC bG 40 86 3 40:=qC.of (.agg #[(.int .i64 0),(.int .i64 0),(.slice none 0 0)])
theorem FG:hG bG 37:=iK Tryz.func37
theorem xe:hG bG 16:=iK Tryz.func16
theorem Bc:uK bG 42 [(0,1),(1,1),(2,1),(3,1)] #[(.int .i64 0),(.int .i64 0),(.int .i64 0),(.int .i64 0)]:=uK.of (.agg #[(.int .i64 0),(.int .i64 0),(.int .i64 0),(.int .i64 0)]) Tryz.underlying42
theorem DJ:hG bG 29:=iK Tryz.func29
theorem EU:Tryz.prog.underlying 3=some (.int .i64):=by kernel_rfl
theorem Eg:Fb bG 42 aG:=⟨fun M cs ds a b w ha hb=>by
  obtain⟨_,_,rfl,rfl,⟨_,_,rfl,rfl,⟨_,_,rfl,rfl,rfl⟩⟩⟩:=ha
  obtain⟨_,_,rfl,rfl,⟨_,_,rfl,rfl,⟨_,_,rfl,rfl,rfl⟩⟩⟩:=hb
  refine(nV 9999 Tryz.underlying42 (B0.cons (by decide) (ig cV _) (ig cV _) (mD EU _ _ w) (B0.cons (by decide) (ig cV _) (ig cV _) (mD EU _ _ w) (B0.cons (by decide) (ig cV _) (ig cV _) (mD EU _ _ w) (B0.cons (by decide) (ig cV _) (ig cV _) (mD EU _ _ w) B0.nil))))).trans ?_
  congr 1
  cases a;cases b;unfold kC
  rw [f9]
  simp,by kernel_rfl⟩
theorem Hi:hG bG 28:=iK Tryz.func28
theorem DK:hG bG 15:=iK Tryz.func15
theorem ma:mj bG 27 2 2:=nZ
theorem uq:lD bG 24 false 1:=uo
theorem vX:Tryz.prog.underlying 24=some (.slice 48):=by kernel_rfl
theorem xf:tp bG 24 48 6:=A5
theorem mZ:lD bG 48 true 6:=uo
theorem zk:zb bG 48 6:=A6 (.agg #[(.int .i64 0),(.int .i64 0),(.int .i64 0),(.int .i64 0),(.int .i64 0),(.bool false)])
theorem uW:mj bG 48 1 2:=nZ
theorem Be:hG bG 14:=iK Tryz.func14
theorem zm:mj bG 48 0 0:=nZ
theorem DL:lD bG 46 true 2:=uo
theorem xg:mj bG 46 0 0:=nZ
theorem xh:mj bG 46 1 1:=nZ
theorem FH:hG bG 21:=iK Tryz.func21
theorem Bf:hG bG 22:=iK Tryz.func22
theorem Hj:hG bG 47:=iK Tryz.func47
theorem Hk:hG bG 23:=iK Tryz.func23
theorem FI:hG bG 10:=iK Tryz.func10
theorem rH:mj bG 48 2 3:=nZ
theorem tF:mj bG 48 3 4:=nZ
theorem Hl:hG bG 48:=iK Tryz.func48
theorem rI:mj bG 27 3 3:=nZ
theorem zn:lD bG 25 false 1:=uo
theorem Cn:Tryz.prog.underlying 25=some (.slice 92):=by kernel_rfl
theorem Bg:tp bG 25 92 5:=A5
theorem uX:lD bG 92 true 5:=uo
theorem EV:zb bG 92 5:=A6 (.agg #[(.string ⟨#[]⟩),(.string ⟨#[]⟩),(.int .i64 0),(.int .i64 0),(.int .i64 0)])
theorem Co:mj bG 92 0 0:=nZ
theorem zo:lD bG 9 false 1:=uo
theorem xk:Tryz.prog.underlying 9=some (.string):=by kernel_rfl
theorem iH (a:dA) (b:Int) (w:World): (callFunc 128 [(str a),(.int .u8 b)].toArray).run bG w = .ok (.value (vi ((Lib.countByte a.bY (Int.toNat b).toUInt8:Nat):Int))) w:=uN Extern.BytealgCount.count Tryz.func128 (Lib.run_countString _ _ w)
theorem Hm (a:dA) (b:Int) (w:World): (callFunc 125 [(str a),(.int .u8 b)].toArray).run bG w = .ok (.value (vi (Lib.indexByte a.bY (Int.toNat b).toUInt8))) w:=uN Extern.BytealgIndexByte.indexByte Tryz.func125 (Lib.run_indexByteString _ _ w)
theorem Eh:hG bG 117:=iK Tryz.func117
theorem FJ:hG bG 129:=iK Tryz.func129
theorem Ei:hG bG 124:=iK Tryz.func124
theorem FK:hG bG 123:=iK Tryz.func123
theorem FL:qC bG 148 9 1 16:=qC.of (.string ⟨#[]⟩)
theorem Iu:Dm bG 9 (⟨[]⟩:dA):=Dm.of (.string ⟨#[]⟩) (fun M=>rfl)
theorem Ak:tp bG 148 9 1:=A5
theorem FM:hG bG 116:=iK Tryz.func116
theorem Hn:hG bG 99:=iK Tryz.func99
theorem FN:Tryz.prog.underlying 148=some (.slice 9):=by kernel_rfl
theorem FO:hG bG 115:=iK Tryz.func115
theorem FP:hG bG 101:=iK Tryz.func101
theorem FQ:hG bG 66:=iK Tryz.func66
theorem FR:hG bG 100:=iK Tryz.func100
theorem Ho:hG bG 98:=iK Tryz.func98
theorem Hp:hG bG 65:=iK Tryz.func65
theorem Cp:mj bG 92 1 1:=nZ
theorem zp:mj bG 92 2 2:=nZ
theorem zq:mj bG 92 3 3:=nZ
theorem FT:zb bG 29 2:=A6 (.agg #[(.string ⟨#[]⟩),(.string ⟨#[]⟩)])
theorem Hq:uK bG 29 [(0,1),(1,1)] #[(.string ⟨#[]⟩),(.string ⟨#[]⟩)]:=uK.of (.agg #[(.string ⟨#[]⟩),(.string ⟨#[]⟩)]) Tryz.underlying29
theorem pA:lD bG 29 true 2:=uo
theorem DM:hG bG 57:=iK Tryz.func57
theorem Cq:mj bG 29 0 0:=nZ
theorem Hr (a b:dA) (w:World): (callFunc 119 [(str a),(str b)].toArray).run bG w = .ok (.value (vi (Lib.compareBytes a.bY b.bY))) w:=uN Extern.BytealgCompare.compare Tryz.func119 (Lib.run_compareString _ _ w)
theorem FU:hG bG 105:=iK Tryz.func105
theorem FV:hG bG 78:=iK Tryz.func78
theorem Cr:mj bG 29 1 1:=nZ
theorem FW:hG bG 56:=iK Tryz.func56
theorem Hs:hG bG 49:=iK Tryz.func49
theorem FX:hG bG 67:=iK Tryz.func67
theorem Ht:hG bG 50:=iK Tryz.func50
theorem Hu:uK bG 73 [(0,4),(4,1),(5,1),(6,1),(7,1),(8,1),(9,1),(10,1),(11,1)] #[(.slice none 0 0),(.slice none 0 0),(.slice none 0 0),(.slice none 0 0),(.slice none 0 0),(.slice none 0 0),(.slice none 0 0),(.slice none 0 0),(.slice none 0 0),(.slice none 0 0),(.slice none 0 0),(.slice none 0 0)]:=uK.of (.agg #[(.slice none 0 0),(.slice none 0 0),(.slice none 0 0),(.slice none 0 0),(.slice none 0 0),(.slice none 0 0),(.slice none 0 0),(.slice none 0 0),(.slice none 0 0),(.slice none 0 0),(.slice none 0 0),(.slice none 0 0)]) Tryz.underlying73
theorem pU:mj bG 73 0 0:=nZ
theorem EW:hG bG 68:=iK Tryz.func68
theorem Cs:tp bG 66 40 1:=A5
theorem EX:zb bG 40 1:=A6 (.slice none 0 0)
theorem FY:Tryz.prog.underlying 66=some (.slice 40):=by kernel_rfl
theorem FZ:lD bG 40 false 1:=uo
theorem F0:hG bG 43:=iK Tryz.func43
theorem Iv:Tryz.prog.underlying 4=some (.bool):=by kernel_rfl
theorem Hv:hG bG 44:=iK Tryz.func44
theorem Hx:hG bG 24:=iK Tryz.func24
theorem F1:hG bG 19:=iK Tryz.func19
theorem F2:hG bG 11:=iK Tryz.func11
theorem F3:hG bG 39:=iK Tryz.func39
theorem Ct:mj bG 73 1 4:=nZ
theorem F4:lD bG 66 false 1:=uo
theorem F5:qC bG 66 40 1 24:=qC.of (.slice none 0 0)
theorem Cu:hG bG 102:=iK Tryz.func102
theorem yx:AZ bG 152 3 3 Int Int (0:Int):=⟨by kernel_rfl,(vT.int EU),DA (Z:=(.int .i64 0)) (by kernel_rfl) (fun M=>⟨_,rfl,rfl⟩)⟩
theorem F6:zb bG 23 1:=A6 (.slice none 0 0)
theorem F7:qC bG 22 23 1 24:=qC.of (.slice none 0 0)
theorem Hy:hG bG 69:=iK Tryz.func69
theorem tG:mj bG 73 2 5:=nZ
theorem Bh:lD bG 67 false 1:=uo
theorem F8:uK bG 114 [(0,1),(1,1),(2,1)] #[(.int .i64 0),(.slice none 0 0),(.slice none 0 0)]:=uK.of (.agg #[(.int .i64 0),(.slice none 0 0),(.slice none 0 0)]) Tryz.underlying114
theorem EY:tp bG 67 114 3:=A5
theorem Cv:zb bG 114 3:=A6 (.agg #[(.int .i64 0),(.slice none 0 0),(.slice none 0 0)])
theorem Hz:qC bG 67 114 3 56:=qC.of (.agg #[(.int .i64 0),(.slice none 0 0),(.slice none 0 0)])
theorem DN:Tryz.prog.underlying 67=some (.slice 114):=by kernel_rfl
theorem HA:hG bG 51:=iK Tryz.func51
theorem HB:hG bG 72:=iK Tryz.func72
theorem Al:lD bG 114 true 3:=uo
theorem zu:mj bG 48 4 5:=nZ
theorem GO:lD bG 4 false 1:=uo
theorem Am:mj bG 114 0 0:=nZ
theorem An:mj bG 114 2 2:=nZ
theorem HC:hG bG 71:=iK Tryz.func71
theorem F9:hG bG 70:=iK Tryz.func70
theorem zv:mj bG 73 3 6:=nZ
theorem EZ:lD bG 68 false 1:=uo
theorem Bi:tp bG 68 70 1:=A5
theorem Ga:zb bG 70 1:=A6 (.slice none 0 0)
theorem Gb:qC bG 68 70 1 24:=qC.of (.slice none 0 0)
theorem HD:hG bG 52:=iK Tryz.func52
theorem Gc:uK bG 154 [(0,1)] #[(.slice none 0 0)]:=uK.of (.agg #[(.slice none 0 0)]) Tryz.underlying154
theorem mn:mj bG 154 0 0:=nZ
theorem HE:hG bG 73:=iK Tryz.func73
theorem E0:Tryz.prog.underlying 68=some (.slice 70):=by kernel_rfl
theorem Cw:hG bG 103:=iK Tryz.func103
theorem HF:hG bG 74:=iK Tryz.func74
theorem zw:mj bG 73 5 8:=nZ
theorem xl:mj bG 73 6 9:=nZ
theorem HG:hG bG 75:=iK Tryz.func75
theorem Gd:GL bG 123 [(.slice none 0 0),(.slice none 0 0),(.slice none 0 0)]:=⟨(.agg #[(.slice none 0 0),(.slice none 0 0),(.slice none 0 0)]),fun _=>by kernel_rfl,rfl⟩
theorem tH:mj bG 73 4 7:=nZ
theorem Bj:lD bG 69 false 1:=uo
theorem Ge:Tryz.prog.underlying 69=some (.slice 123):=by kernel_rfl
theorem xm:mj bG 123 0 0:=nZ
theorem xn:mj bG 123 1 1:=nZ
theorem Gf:lD bG 123 true 3:=uo
theorem E1:tp bG 69 123 3:=A5
theorem Gg:zb bG 123 3:=A6 (.agg #[(.slice none 0 0),(.slice none 0 0),(.slice none 0 0)])
theorem HH:qC bG 69 123 3 72:=qC.of (.agg #[(.slice none 0 0),(.slice none 0 0),(.slice none 0 0)])
theorem Cx:zb bG 125 2:=A6 (.agg #[(.bool false),(.int .i64 0)])
theorem Gh:hG bG 118:=iK Tryz.func118
theorem Ej:hG bG 104:=iK Tryz.func104
theorem Cy:uK bG 125 [(0,1),(1,1)] #[(.bool false),(.int .i64 0)]:=uK.of (.agg #[(.bool false),(.int .i64 0)]) Tryz.underlying125
theorem sE:lD bG 125 true 2:=uo
theorem HI:hG bG 76:=iK Tryz.func76
theorem DO:mj bG 125 0 0:=nZ
theorem Ao:mj bG 125 1 1:=nZ
theorem HJ:hG bG 77:=iK Tryz.func77
theorem Ap:mj bG 123 2 2:=nZ
theorem Ek:lD bG 121 false 1:=uo
theorem Gi:tp bG 121 29 2:=A5
theorem Gj:qC bG 121 29 2 32:=qC.of (.agg #[(.string ⟨#[]⟩),(.string ⟨#[]⟩)])
theorem xo:mj bG 73 7 10:=nZ
theorem Cz:mj bG 73 8 11:=nZ
theorem Gl:lD bG 71 false 1:=uo
theorem HK:tp bG 71 125 2:=A5
theorem HL:qC bG 71 125 2 16:=qC.of (.agg #[(.bool false),(.int .i64 0)])
theorem HM:hG bG 53:=iK Tryz.func53
theorem Gm:hG bG 25:=iK Tryz.func25
theorem DQ:hG bG 13:=iK Tryz.func13
theorem vY:uK bG 27 [(0,1),(1,1),(2,1),(3,1)] #[(.slice none 0 0),(.slice none 0 0),(.slice none 0 0),(.slice none 0 0)]:=uK.of (.agg #[(.slice none 0 0),(.slice none 0 0),(.slice none 0 0),(.slice none 0 0)]) Tryz.underlying27
theorem HN:hG bG 20:=iK Tryz.func20
theorem Iw:hG bG 9:=iK Tryz.func9
theorem Gn:hG bG 17:=iK Tryz.func17
theorem E2:GL bG 27 [(.slice none 0 0),(.slice none 0 0),(.slice none 0 0),(.slice none 0 0)]:=⟨(.agg #[(.slice none 0 0),(.slice none 0 0),(.slice none 0 0),(.slice none 0 0)]),fun _=>by kernel_rfl,rfl⟩
theorem HO:hG bG 40:=iK Tryz.func40
theorem HQ:qC bG 24 48 6 48:=qC.of (.agg #[(.int .i64 0),(.int .i64 0),(.int .i64 0),(.int .i64 0),(.int .i64 0),(.bool false)])
theorem HR:hG bG 41:=iK Tryz.func41
theorem HS:qC bG 25 92 5 56:=qC.of (.agg #[(.string ⟨#[]⟩),(.string ⟨#[]⟩),(.int .i64 0),(.int .i64 0),(.int .i64 0)])
theorem HT:hG bG 42:=iK Tryz.func42
theorem Gp:hG bG 18:=iK Tryz.func18
theorem Ig:hG bG 8:=iK Tryz.func8
theorem Ix:hG bG 4:=iK Tryz.func4
theorem HU:uK bG 48 [(0,2),(2,1),(3,1),(4,1),(5,1)] #[(.int .i64 0),(.int .i64 0),(.int .i64 0),(.int .i64 0),(.int .i64 0),(.bool false)]:=uK.of (.agg #[(.int .i64 0),(.int .i64 0),(.int .i64 0),(.int .i64 0),(.int .i64 0),(.bool false)]) Tryz.underlying48
theorem GP:hG bG 5:=iK Tryz.func5
theorem Iy:hG bG 6:=iK Tryz.func6
theorem El:Tryz.prog.underlying 105=some (.int .u64):=by kernel_rfl
theorem HV:hG bG 55:=iK Tryz.func55
theorem HW:hG bG 54:=iK Tryz.func54
theorem Gq:hG bG 26:=iK Tryz.func26
theorem Gr:hG bG 12:=iK Tryz.func12
theorem HX:hG bG 7:=iK Tryz.func7
theorem Gs:Fb bG 29 fH:=⟨fun M cs ds a b w ha hb=>by
  obtain⟨_,_,rfl,rfl,rfl⟩:=ha
  obtain⟨_,_,rfl,rfl,rfl⟩:=hb
  refine(nV 9999 Tryz.underlying29 (B0.cons (by decide) (ig zo _) (ig zo _) (rC xk _ _ w) (B0.cons (by decide) (ig zo _) (ig zo _) (rC xk _ _ w) B0.nil))).trans ?_
  congr 1
  cases a;cases b;unfold qF
  rw [f9]
  simp,by kernel_rfl⟩
def bD (E:World) (V:List HP) (res:Bool) (v:Value) (w:World):Prop:=v= (vb res)/\Holds E w V
def aQ (E:World) (V:List HP) (res:Int) (v:Value) (w:World):Prop:=v= (vi res)/\Holds E w V
def ky (E:World) (V:List HP) (res: (List aG)) (v:Value) (w:World):Prop:=Holds E w ([own 42 v res]++V)
def j7 (E:World) (V:List HP) (res: (List Int)) (v:Value) (w:World):Prop:=Holds E w ([own 3 v res]++V)
def i7 (E:World) (V:List HP) (res: (List aA)) (v:Value) (w:World):Prop:=Holds E w ([own 86 v res]++V)
def nr (E:World) (V:List HP) (res:aG) (v:Value) (w:World):Prop:=Holds E w ([rd v res]++V)
def mL (E:World) (V:List HP) (res: (List dA)) (v:Value) (w:World):Prop:=Holds E w ([own 9 v res]++V)
def g9 (E:World) (V:List HP) (res:eL×Int) (v:Value) (w:World):Prop:=∃u0:Value,v = .tuple #[u0,(vi res.2)]/\Holds E w ([rd u0 res.1]++V)
end Go.Gk
namespace Go.Gk
open Go Go.Proofs
def uD (H:Type) (d:DataW H):Nat:=YtgjiokjfpghfgaaGreatDoor.Rows.uptoBulk d
def Gu (H:Type) (d:List (DataW H)):Nat:=YtgjiokjfpghfgaaGreatDoor.Rows.uptoBulkAll d
theorem gz:UB uD Gu where
  str:=fun H b=>by simp [uD,YtgjiokjfpghfgaaGreatDoor.Rows.uptoBulk]
  pos:=fun H d=>by
    unfold uD
    cases d with
    | lit l=>cases l <;> simp [YtgjiokjfpghfgaaGreatDoor.Rows.uptoBulk]
    | nil=>simp [YtgjiokjfpghfgaaGreatDoor.Rows.uptoBulk]
    | ptr d=>simp [YtgjiokjfpghfgaaGreatDoor.Rows.uptoBulk]
    | slice elems spare=>simp [YtgjiokjfpghfgaaGreatDoor.Rows.uptoBulk]
    | agg parts=>simp [YtgjiokjfpghfgaaGreatDoor.Rows.uptoBulk]
    | iface t d=>simp [YtgjiokjfpghfgaaGreatDoor.Rows.uptoBulk]
    | map entries=>simp [YtgjiokjfpghfgaaGreatDoor.Rows.uptoBulk]
    | held h=>simp [YtgjiokjfpghfgaaGreatDoor.Rows.uptoBulk]
  sl:=fun H e s=>by simp [uD,Gu,YtgjiokjfpghfgaaGreatDoor.Rows.uptoBulk]
  ag:=fun H l=>by simp [uD,Gu,YtgjiokjfpghfgaaGreatDoor.Rows.uptoBulk]
  nil:=fun H=>by simp [Gu,YtgjiokjfpghfgaaGreatDoor.Rows.uptoBulkAll]
  cons:=fun H x l=>by simp [uD,Gu,YtgjiokjfpghfgaaGreatDoor.Rows.uptoBulkAll]
theorem CK:gV uD Tryz.prog 3 Int:=Bp gz (by kernel_rfl)
theorem HZ:gV uD Tryz.prog 42 aG:=kq gz (fun(x:aG)=>(x.X0,x.Y0,x.X1,x.Y1)) (fun b=>⟨b.1,b.2.1,b.2.2.1,b.2.2.2⟩) (fun b=>rfl) Tryz.underlying42 (fy gz CK (fy gz CK (fy gz CK (mA gz CK)))) (fun b=>by simp only [DW];omega)
theorem E5:gV uD Tryz.prog 23 (List aG):=oV (e:=42) gz HZ
theorem H0:gV uD Tryz.prog 22 (List (List aG)):=oV (e:=23) gz E5
theorem Gv:gV uD Tryz.prog 46 iU:=kq gz (fun(x:iU)=>(x.X,x.Y)) (fun b=>⟨b.1,b.2⟩) (fun b=>rfl) Tryz.underlying46 (fy gz CK (mA gz CK)) (fun b=>by simp only [CI];omega)
theorem Iz:gV uD Tryz.prog 4 Bool:=zA gz (by kernel_rfl)
theorem H2:gV uD Tryz.prog 48 bH:=kq gz (fun(x:bH)=>(x.At,x.eD,x.cM,x.To,x.iF)) (fun b=>⟨b.1,b.2.1,b.2.2.1,b.2.2.2.1,b.2.2.2.2⟩) (fun b=>rfl) Tryz.underlying48 (fy gz Gv (fy gz CK (fy gz CK (fy gz CK (mA gz Iz))))) (fun b=>by simp only [DX];omega)
theorem H3:gV uD Tryz.prog 24 (List bH):=oV (e:=48) gz H2
theorem GQ:gV uD Tryz.prog 9 dA:=Bq gz (by kernel_rfl)
theorem H4:gV uD Tryz.prog 92 bW:=kq gz (fun(x:bW)=>(x.Part,x.fH,x.cY,x.At)) (fun b=>⟨b.1,b.2.1,b.2.2.1,b.2.2.2⟩) (fun b=>rfl) Tryz.underlying92 (fy gz GQ (fy gz GQ (fy gz CK (mA gz Gv)))) (fun b=>by simp only [As];omega)
theorem H5:gV uD Tryz.prog 25 (List bW):=oV (e:=92) gz H4
theorem H6:gV uD Tryz.prog 27 eL:=kq gz (fun(x:eL)=>(x.aH,x.cI,x.aU,x.bC)) (fun b=>⟨b.1,b.2.1,b.2.2.1,b.2.2.2⟩) (fun b=>rfl) Tryz.underlying27 (fy gz H0 (fy gz E5 (fy gz H3 (mA gz H5)))) (fun b=>by simp only [CJ];omega)
theorem Gw:gV uD Tryz.prog 29 fH:=kq gz (fun(x:fH)=>(x.Part,x.fH)) (fun b=>⟨b.1,b.2⟩) (fun b=>rfl) Tryz.underlying29 (fy gz GQ (mA gz GQ)) (fun b=>by simp only [E4];omega)
end Go.Gk
namespace Go.Proofs
open Go.Shelf Go.RowKit Go.Lib Go.Sort
def Tryz.lay31_ren : Go.Shelf.Ren := ⟨fun | 6 => 31 | 15 => 59 | 14 => 58 | 28 => 87 | 29 => 88 | 20 => 79 | 21 => 80 | 22 => 81 | 23 => 82 | 24 => 83 | 25 => 84 | 26 => 85 | 27 => 86 | 46 => 106 | 47 => 107 | 48 => 108 | 49 => 109 | 50 => 110 | 57 => 120 | n => n, fun | 22 => 23 | 24 => 42 | 25 => 78 | 3 => 3 | 39 => 105 | 0 => 0 | 53 => 138 | 55 => 140 | 4 => 4 | 46 => 132 | 45 => 131 | 50 => 98 | 5 => 5 | 9 => 9 | 66 => 156 | 70 => 160 | 76 => 166 | 77 => 167 | n => n, fun | n => n⟩
theorem Tryz.lay31 : Go.Proofs.SlLaysF0.n6 Tryz.prog Tryz.lay31_ren := {
  mixed := by kernel_rfl
  f6 := ⟨Tryz.f31.name, by decide, Tryz.func31.trans (congrArg some (by kernel_rfl))⟩
  f14 := ⟨Tryz.f58.name, by decide, Tryz.func58.trans (congrArg some (by kernel_rfl))⟩
  f15 := Tryz.func59.trans (congrArg some (by kernel_rfl))
  f20 := ⟨Tryz.f79.name, by decide, Tryz.func79.trans (congrArg some (by kernel_rfl))⟩
  f21 := ⟨Tryz.f80.name, by decide, Tryz.func80.trans (congrArg some (by kernel_rfl))⟩
  f22 := ⟨Tryz.f81.name, by decide, Tryz.func81.trans (congrArg some (by kernel_rfl))⟩
  f23 := ⟨Tryz.f82.name, by decide, Tryz.func82.trans (congrArg some (by kernel_rfl))⟩
  f24 := ⟨Tryz.f83.name, by decide, Tryz.func83.trans (congrArg some (by kernel_rfl))⟩
  f25 := ⟨Tryz.f84.name, by decide, Tryz.func84.trans (congrArg some (by kernel_rfl))⟩
  f26 := ⟨Tryz.f85.name, by decide, Tryz.func85.trans (congrArg some (by kernel_rfl))⟩
  f27 := ⟨Tryz.f86.name, by decide, Tryz.func86.trans (congrArg some (by kernel_rfl))⟩
  f28 := Tryz.func87.trans (congrArg some (by kernel_rfl))
  f29 := Tryz.func88.trans (congrArg some (by kernel_rfl))
  f46 := ⟨Tryz.f106.name, by decide, Tryz.func106.trans (congrArg some (by kernel_rfl))⟩
  f47 := Tryz.func107.trans (congrArg some (by kernel_rfl))
  f48 := Tryz.func108.trans (congrArg some (by kernel_rfl))
  f49 := ⟨Tryz.f109.name, by decide, Tryz.func109.trans (congrArg some (by kernel_rfl))⟩
  f50 := ⟨Tryz.f110.name, by decide, Tryz.func110.trans (congrArg some (by kernel_rfl))⟩
  f57 := ⟨Tryz.f120.name, by decide, Tryz.func120.trans (congrArg some (by kernel_rfl))⟩
  t0 := Tryz.underlying0
  a0 := Tryz.isAgg0
  z0 := Tryz.sizeOf0
  v0 := Tryz.zeroValue0
  t3 := Tryz.underlying3
  a3 := Tryz.isAgg3
  z3 := Tryz.sizeOf3
  v3 := Tryz.zeroValue3
  t4 := Tryz.underlying4
  a4 := Tryz.isAgg4
  z4 := Tryz.sizeOf4
  v4 := Tryz.zeroValue4
  t5 := Tryz.underlying5
  a5 := Tryz.isAgg5
  z5 := Tryz.sizeOf5
  v5 := Tryz.zeroValue5
  t9 := Tryz.underlying9
  a9 := Tryz.isAgg9
  z9 := Tryz.sizeOf9
  v9 := Tryz.zeroValue9
  t22 := Tryz.underlying23
  a22 := Tryz.isAgg23
  z22 := Tryz.sizeOf23
  v22 := Tryz.zeroValue23
  t25 := Tryz.underlying78
  a25 := Tryz.isAgg78
  z25 := Tryz.sizeOf78
  v25 := Tryz.zeroValue78
  t39 := Tryz.underlying105
  a39 := Tryz.isAgg105
  z39 := Tryz.sizeOf105
  v39 := Tryz.zeroValue105
  t45 := Tryz.underlying131
  a45 := Tryz.isAgg131
  z45 := Tryz.sizeOf131
  v45 := Tryz.zeroValue131
  t46 := Tryz.underlying132
  a46 := Tryz.isAgg132
  z46 := Tryz.sizeOf132
  v46 := Tryz.zeroValue132
  t50 := Tryz.underlying98
  a50 := Tryz.isAgg98
  z50 := Tryz.sizeOf98
  v50 := Tryz.zeroValue98
  t53 := Tryz.underlying138
  a53 := Tryz.isAgg138
  z53 := Tryz.sizeOf138
  v53 := Tryz.zeroValue138
  t55 := Tryz.underlying140
  a55 := Tryz.isAgg140
  z55 := Tryz.sizeOf140
  v55 := Tryz.zeroValue140
  t66 := Tryz.underlying156
  a66 := Tryz.isAgg156
  z66 := Tryz.sizeOf156
  v66 := Tryz.zeroValue156
  t70 := Tryz.underlying160
  a70 := Tryz.isAgg160
  z70 := Tryz.sizeOf160
  v70 := Tryz.zeroValue160
  t76 := Tryz.underlying166
  a76 := Tryz.isAgg166
  z76 := Tryz.sizeOf166
  v76 := Tryz.zeroValue166
  t77 := Tryz.underlying167
  a77 := Tryz.isAgg167
  z77 := Tryz.sizeOf167
  v77 := Tryz.zeroValue167 }
def Tryz.lay33_ren : Go.Shelf.Ren := ⟨fun | 5 => 33 | 8 => 59 | 7 => 60 | 19 => 87 | 20 => 88 | 10 => 89 | 11 => 90 | 12 => 91 | 13 => 92 | 14 => 93 | 15 => 94 | 16 => 95 | 17 => 96 | 18 => 97 | 30 => 111 | 31 => 107 | 32 => 108 | 33 => 112 | 34 => 113 | 35 => 114 | 40 => 121 | n => n, fun | 23 => 70 | 25 => 3 | 3 => 3 | 32 => 105 | 22 => 70 | 0 => 0 | 44 => 138 | 46 => 140 | 4 => 4 | 36 => 132 | 35 => 131 | 41 => 98 | 5 => 5 | 9 => 9 | 53 => 156 | 57 => 160 | 63 => 166 | 64 => 167 | n => n, fun | n => n⟩
theorem Tryz.lay33 : Go.Proofs.SlLaysM.n5 Tryz.prog Tryz.lay33_ren := {
  mixed := by kernel_rfl
  f5 := ⟨Tryz.f33.name, by decide, Tryz.func33.trans (congrArg some (by kernel_rfl))⟩
  f7 := ⟨Tryz.f60.name, by decide, Tryz.func60.trans (congrArg some (by kernel_rfl))⟩
  f8 := Tryz.func59.trans (congrArg some (by kernel_rfl))
  f10 := ⟨Tryz.f89.name, by decide, Tryz.func89.trans (congrArg some (by kernel_rfl))⟩
  f11 := ⟨Tryz.f90.name, by decide, Tryz.func90.trans (congrArg some (by kernel_rfl))⟩
  f12 := ⟨Tryz.f91.name, by decide, Tryz.func91.trans (congrArg some (by kernel_rfl))⟩
  f13 := ⟨Tryz.f92.name, by decide, Tryz.func92.trans (congrArg some (by kernel_rfl))⟩
  f14 := ⟨Tryz.f93.name, by decide, Tryz.func93.trans (congrArg some (by kernel_rfl))⟩
  f15 := ⟨Tryz.f94.name, by decide, Tryz.func94.trans (congrArg some (by kernel_rfl))⟩
  f16 := ⟨Tryz.f95.name, by decide, Tryz.func95.trans (congrArg some (by kernel_rfl))⟩
  f17 := ⟨Tryz.f96.name, by decide, Tryz.func96.trans (congrArg some (by kernel_rfl))⟩
  f18 := ⟨Tryz.f97.name, by decide, Tryz.func97.trans (congrArg some (by kernel_rfl))⟩
  f19 := Tryz.func87.trans (congrArg some (by kernel_rfl))
  f20 := Tryz.func88.trans (congrArg some (by kernel_rfl))
  f30 := ⟨Tryz.f111.name, by decide, Tryz.func111.trans (congrArg some (by kernel_rfl))⟩
  f31 := Tryz.func107.trans (congrArg some (by kernel_rfl))
  f32 := Tryz.func108.trans (congrArg some (by kernel_rfl))
  f33 := ⟨Tryz.f112.name, by decide, Tryz.func112.trans (congrArg some (by kernel_rfl))⟩
  f34 := ⟨Tryz.f113.name, by decide, Tryz.func113.trans (congrArg some (by kernel_rfl))⟩
  f35 := ⟨Tryz.f114.name, by decide, Tryz.func114.trans (congrArg some (by kernel_rfl))⟩
  f40 := ⟨Tryz.f121.name, by decide, Tryz.func121.trans (congrArg some (by kernel_rfl))⟩
  t0 := Tryz.underlying0
  a0 := Tryz.isAgg0
  z0 := Tryz.sizeOf0
  v0 := Tryz.zeroValue0
  t3 := Tryz.underlying3
  a3 := Tryz.isAgg3
  z3 := Tryz.sizeOf3
  v3 := Tryz.zeroValue3
  t4 := Tryz.underlying4
  a4 := Tryz.isAgg4
  z4 := Tryz.sizeOf4
  v4 := Tryz.zeroValue4
  t5 := Tryz.underlying5
  a5 := Tryz.isAgg5
  z5 := Tryz.sizeOf5
  v5 := Tryz.zeroValue5
  t9 := Tryz.underlying9
  a9 := Tryz.isAgg9
  z9 := Tryz.sizeOf9
  v9 := Tryz.zeroValue9
  t22 := Tryz.underlying70
  a22 := Tryz.isAgg70
  z22 := Tryz.sizeOf70
  v22 := Tryz.zeroValue70
  t23 := Tryz.underlying70
  a23 := Tryz.isAgg70
  z23 := Tryz.sizeOf70
  v23 := Tryz.zeroValue70
  t25 := Tryz.underlying3
  a25 := Tryz.isAgg3
  z25 := Tryz.sizeOf3
  v25 := Tryz.zeroValue3
  t32 := Tryz.underlying105
  a32 := Tryz.isAgg105
  z32 := Tryz.sizeOf105
  v32 := Tryz.zeroValue105
  t35 := Tryz.underlying131
  a35 := Tryz.isAgg131
  z35 := Tryz.sizeOf131
  v35 := Tryz.zeroValue131
  t36 := Tryz.underlying132
  a36 := Tryz.isAgg132
  z36 := Tryz.sizeOf132
  v36 := Tryz.zeroValue132
  t41 := Tryz.underlying98
  a41 := Tryz.isAgg98
  z41 := Tryz.sizeOf98
  v41 := Tryz.zeroValue98
  t44 := Tryz.underlying138
  a44 := Tryz.isAgg138
  z44 := Tryz.sizeOf138
  v44 := Tryz.zeroValue138
  t46 := Tryz.underlying140
  a46 := Tryz.isAgg140
  z46 := Tryz.sizeOf140
  v46 := Tryz.zeroValue140
  t53 := Tryz.underlying156
  a53 := Tryz.isAgg156
  z53 := Tryz.sizeOf156
  v53 := Tryz.zeroValue156
  t57 := Tryz.underlying160
  a57 := Tryz.isAgg160
  z57 := Tryz.sizeOf160
  v57 := Tryz.zeroValue160
  t63 := Tryz.underlying166
  a63 := Tryz.isAgg166
  z63 := Tryz.sizeOf166
  v63 := Tryz.zeroValue166
  t64 := Tryz.underlying167
  a64 := Tryz.isAgg167
  z64 := Tryz.sizeOf167
  v64 := Tryz.zeroValue167 }
end Go.Proofs
namespace Go.Gk
open Go Go.Proofs
variable (N:Nat) {E w:World} {i0 i1 i2:Nat} {p0 p1 p2 res:Int} {v0 v1 v2:Value} {V:List HP}
theorem uu {res:Bool} (o:Holds E w V) (j:oL N p0 p1 p2=some res):
    Calls bG 64 [(vi p0),(vi p1),(vi p2)].toArray w (gF (bD E V res)):=by
 unfold oL at j
 refine enter Tryz.func64 zr zr (RC.sr (aN (vb false) (RL.ns (mv (vi p0) (mv (vi p1) (ic p0 p1 (mv (vb (decide (p0>=p1))) (RL.gs true (decide (p0>=p1)) (vi p0) zr zr zr dO ?_))))))))
 refine RL.gs true (decide (p0>=p1)) (vi p2) rfl rfl rfl dO (RL.gs true (decide (p0>=p1)) (vb (decide (p0<=p2))) rfl rfl rfl (fE .leq .i64 p0 p2 rfl (fun h=>by exact(dE h:cv (true&&((decide (p0>=p1))==true)) (vi p0)= (vi p0))) (fun h=>by exact(dE h:cv (true&&((decide (p0>=p1))==true)) (vi p2)= (vi p2))) rfl) (RL.pick (decide (p0>=p1)) (vb ((decide (p0>=p1))&&(decide (p0<=p2)))) (jk true) (aN (vb ((decide (p0>=p1))&&(decide (p0<=p2)))) (RL.nt (RC.ret ?_)))))
 obtain rfl:=oi j
 exact cA ⟨rfl,o.drop 0⟩
theorem jG {res:Bool} (o:Holds E w V) (j:jm N p0=some res):
    Calls bG 45 [(vi p0)].toArray w (gF (bD E V res)):=by
 unfold jm at j
 refine enter Tryz.func45 zr zr (RC.sr (aN (vb false) (RL.ns (mv (vi p0) ?_))))
 obtain⟨aa,ab,j⟩:=bd j
 refine RL.call zt zr G6 [(vi p0),(vi (-1000000)),(vi 1000000)] zr (aD (uu N (p0:=p0) (p1:=(-1000000)) (p2:=1000000) o ab) ?_)
 rintro _ w ⟨rfl,o⟩
 refine aN (vb aa) (RL.nt (RC.ret ?_))
 obtain rfl:=oi j
 exact cA ⟨rfl,o.drop 0⟩
theorem pg {p0:aG} {res:Bool} (j:Holds E w V) (h0:V[i0]? =some (rd v0 p0)) (hb:kl N p0=some res):
    Calls bG 46 [v0].toArray w (gF (bD E V res)):=by
 unfold kl at hb
 refine enter Tryz.func46 zr zr ?_
 have j:=j.dup (i0+0) h0
 refine RC.sr (RL.cX 0 v0 j zr fun aq w j=>?_)
 refine aN (vb false) (RL.nq ?_)
 obtain⟨af,o,hb⟩:=bd hb
 refine RC.jn (fun(af:Bool)=>SH E V [(2,vb af)] []) af ?_ ?_
 ·refine RC.region (RL.bF zr jr (RL.aS 0 j zr eQ cV ?_))
  obtain⟨aj,ak,o⟩:=bd o
  refine RL.call zt zr Ba [(vi p0.X0)] zr (aD (jG N (p0:=p0.X0) j ak) ?_)
  rintro _ w ⟨rfl,j⟩
  refine mv (vb aj) (iz o (fun aa o=>?_) fun aa o=>?_)
  rotate_left
  ·refine cD aa (cD aa (cD aa (iJ aa (vb false) (mv (vb false) (mI (mI (mI (RL.pick false (vb false) zr ?_))))))))
   refine mv (vb false) (mI (mI (mI (RL.pick false (vb false) zr (aN (vb false) (RL.nil ?_))))))
   obtain rfl:=oi o
   exact⟨rfl,j.sp 2 []⟩
  refine RL.bF (hg:=(cg aa)) zr j5 (RL.aS (hg:=(cg aa)) 0 j zr fB cV ?_)
  obtain⟨ag,al,o⟩:=bd o
  refine RL.call (cg aa) zr Ba [(vi p0.Y0)] zr (aD (jG N (p0:=p0.Y0) j al) ?_)
  rintro _ w ⟨rfl,j⟩
  refine iJ aa (vb ag) (mv (vb ag) (iz o (fun ab o=>?_) fun ab o=>?_))
  rotate_left
  ·refine cD ab (cD ab (cD ab (iJ ab (vb false) (mv (vb false) (mI (mI (mI (RL.pick false (vb false) zr ?_))))))))
   refine aN (vb false) (RL.nil ?_)
   obtain rfl:=oi o
   exact⟨rfl,j.sp 2 []⟩
  refine RL.bF (hg:=(cg ab)) zr j6 (RL.aS (hg:=(cg ab)) 0 j zr fQ cV ?_)
  obtain⟨ah,an,o⟩:=bd o
  refine RL.call (cg ab) zr Ba [(vi p0.X1)] zr (aD (jG N (p0:=p0.X1) j an) ?_)
  rintro _ w ⟨rfl,j⟩
  refine iJ ab (vb ah) (mv (vb ah) (iz o (fun ad o=>?_) fun ad o=>?_))
  rotate_left
  ·refine cD ad (cD ad (cD ad (iJ ad (vb false) (aN (vb false) (RL.nil ?_)))))
   obtain rfl:=oi o
   exact⟨rfl,j.sp 2 []⟩
  refine RL.bF (hg:=(cg ad)) zr mK (RL.aS (hg:=(cg ad)) 0 j zr i5 cV ?_)
  obtain⟨ai,ao,o⟩:=bd o
  refine RL.call (cg ad) zr Ba [(vi p0.Y1)] zr (aD (jG N (p0:=p0.Y1) j ao) ?_)
  rintro _ w ⟨rfl,j⟩
  refine iJ ad (vb ai) (aN (vb ai) (RL.nil ?_))
  obtain rfl:=oi o
  exact⟨rfl,j.sp 2 []⟩
 rintro _ w ⟨O,rfl,j⟩
 refine aJ (RC.ret ?_)
 obtain rfl:=oi hb
 exact cA ⟨rfl,j.drop 0⟩
def rM (E:World) (V:List HP) (r:Int) (U:Nat->Value) (w:World):Prop:=mi bG 30 Tryz.f27 (aQ E V r) .ret U w
theorem qV {p0: (List aG)} (o:Holds E w V) (h0:V[i0]? =some (rd v0 p0)) (hb:iV N p0=some res):
    Calls bG 27 [v0].toArray w (gF (aQ E V res)):=by
 unfold iV at hb
 refine enter Tryz.func27 zr zr ?_
 have o:=o.dup (i0+0) h0
 refine RC.sr (aN (vi 0) (RL.nq (RC.sr (mv v0 (RL.bO 0 p0 o pT (ic ((p0.length:Int)) 2000 (RL.nt (fZ hb (fun hc hb=>?_) fun hc hb=>?_))))))))
 ·refine RC.sr (aN (vi 2) (RL.nt (RC.rt ?_)))
  obtain rfl:=oi hb
  exact cA ⟨rfl,o.drop 1⟩
 refine RC.ss (RC.sr (mv v0 (RL.bO 0 p0 o pT (mv (vi 0) (RL.nt ?_)))))
 obtain⟨aq,hN,hb⟩:=bd hb
 refine RC.range (fun(ae:Nat) (af:Unit)=>SH E V [(8,v0),(9,vi p0.length),(10,vi ae)] [rd v0 p0]) (fun(af:Unit)=>SH E V [] [rd v0 p0]) (rM E V) hN ?_ ?_ ?_ ?_ ?_
 ·exact o.sp 1 [0]
 ·rintro hm af _ w ⟨O,rfl,o⟩
  refine RC.sr (ic ((p0.length:Int)) ((p0.length:Int)) (RL.nq (RC.dX px (RC.ex ?_))))
  exact⟨rfl,o.sp 1 [0]⟩
 ·rintro hm ae af fl _ w hk ⟨O,rfl,o⟩ hb
  refine RC.sr (ic ((ae:Int)) ((p0.length:Int)) (RL.nq (RC.dW (pw hk) (RC.ss (RC.bs ?_)))))
  obtain⟨j,aj,hb⟩:=bd hb
  refine RL.cQ 0 o lh aj fun au o=>(RL.cG 0 j o gU fun av o=>(RL.alloc o nL.z fun ab w o=>?_))
  refine RL.aZ 0 o 1 zr gU fun w o=>?_
  refine RL.nq (RC.sr (RL.aR (f:=(fun x=>x)) 0 o zr Fd.self gU fun ak o=>?_))
  obtain⟨al,an,hb⟩:=bd hb
  refine RL.call zt zr FA [ak] zr (aD (pg N (i0:=0) o zr an) ?_)
  rintro _ w ⟨rfl,o⟩
  refine RL.not al (RL.nt (fZ hb (fun hc hb=>?_) fun hc hb=>?_))
  ·refine RC.sr (aN (vi 1) (RL.nt (RC.rt (oI (cH ?_)))))
   obtain rfl:=oi hb
   exact⟨rfl,cA ⟨rfl,o.drop 5⟩⟩
  refine RC.sx (RL.bF rfl j6 (RL.aS 1 o rfl fQ cV (RL.bF rfl jr (RL.aS 1 o rfl eQ cV (ic j.X1 j.X0 (mv (vb (decide (j.X1<=j.X0))) (RL.gs true (decide (j.X1<=j.X0)) (vp ab 3) rfl rfl rfl (eW mK) (RL.gs true (decide (j.X1<=j.X0)) (vi j.Y1) rfl rfl rfl (bX 1 rfl o (fun h=>by exact(dE h:cv (true&&((decide (j.X1<=j.X0))==false)) (vp ab 3)= (vp ab 3))) rfl i5 cV) ?_))))))))
  refine RL.gs true (decide (j.X1<=j.X0)) (vp ab 1) rfl rfl rfl (eW j5) (RL.gs true (decide (j.X1<=j.X0)) (vi j.Y0) rfl rfl rfl (bX 1 rfl o (fun h=>by exact(dE h:cv (true&&((decide (j.X1<=j.X0))==false)) (vp ab 1)= (vp ab 1))) rfl fB cV) (RL.gs true (decide (j.X1<=j.X0)) (vb (decide (j.Y1<=j.Y0))) rfl rfl rfl (fE .leq .i64 j.Y1 j.Y0 rfl (fun h=>by exact(dE h:cv (true&&((decide (j.X1<=j.X0))==false)) (vi j.Y1)= (vi j.Y1))) (fun h=>by exact(dE h:cv (true&&((decide (j.X1<=j.X0))==false)) (vi j.Y0)= (vi j.Y0))) rfl) (RL.pick (decide (j.X1<=j.X0)) (vb ((decide (j.X1<=j.X0))||(decide (j.Y1<=j.Y0)))) (o8 true rfl) (RL.nt (fZ hb (fun hc hb=>?_) fun hc hb=>?_)))))
  rotate_left
  ·refine RC.skip (bZ (aJ (RC.region (RL.inc hk hm (mv (vi ((ae+1:Nat):Int)) (RL.nil ?_))))))
   obtain rfl:=oi hb
   exact⟨rfl,o.sp 5 [4]⟩
  refine RC.sr (aN (vi 13) (RL.nt (RC.rb (cH ?_))))
  obtain rfl:=oi hb
  exact⟨rfl,cA ⟨rfl,o.drop 5⟩⟩
 ·intro r U w e hK
  subst e
  refine cH ?_
  obtain rfl:=oi hb
  exact hK
 rintro af _ w rfl ⟨O,rfl,o⟩
 rw [Fo.gL] at hb
 refine aJ (RC.sr (aN (vi 0) (RL.nt (RC.ret ?_))))
 obtain rfl:=oi hb
 exact cA ⟨rfl,o.drop 1⟩
theorem j8 {p0: (List aG)} {res: (List aG)} (j:Holds E w V) (h0:V[i0]? =some (rd v0 p0)) (o:eN N p0=some res):
    Calls bG 30 [v0].toArray w (gF (ky E V res)):=by
 unfold eN at o
 refine enter Tryz.func30 zr zr ?_
 have j:=j.dup (i0+0) h0
 refine RC.sr (aN (.slice none 0 0) (RL.nq (RC.sr (mv v0 (RL.z9 0 zr j zr zr zr pT (RL.nt (RC.cond (ze v0) zr (fun hc=>?_) (fun hc=>?_))))))))
 ·have hx:=j.DC (i:=0) rfl hc
  rw [hx] at o
  replace o:some ([]: (List aG))=_:=o
  refine RC.sr (aN (.slice none 0 0) (RL.nt (RC.rt ?_)))
  obtain rfl:=oi o
  have j:=j.dD aG 42
  exact cA (j.pk 2 [0])
 refine RC.sx (RL.fI ([]: (List aG)) j [] lh nL (fun M hs g=>zt) fun ae w j=>(mv v0 ?_))
 obtain⟨af,ab,o⟩:=bd o
 refine RL.app 0 1 j Bb ab fun ad w j=>?_
 refine aN ad (RL.nt (RC.ret ?_))
 obtain rfl:=oi o
 exact cA (j.pk 2 [0])
theorem sK {p0 p1:aG} (j:Holds E w V) (h0:V[i0]? =some (rd v0 p0)) (h1:V[i1]? =some (rd v1 p1)) (o:gM N p0 p1=some res):
    Calls bG 32 [v0,v1].toArray w (gF (aQ E V res)):=by
 unfold gM at o
 refine enter Tryz.func32 zr zr ?_
 have j:=(j.dup (i0+0) h0).dup (i1+1) h1
 refine RC.sr (RL.cX 1 v0 j zr fun aa w j=>?_)
 refine RL.cX 1 v1 j zr fun ab w j=>?_
 refine aN (vi 0) (RL.ns (RL.bF zr j5 (RL.aS 1 j zr fB cV (RL.bF zr j5 (RL.aS 0 j zr fB cV (RL.jV p0.Y0 p1.Y0 (aN (vi (IntKind.wrap .i64 (p0.Y0 - p1.Y0))) (RL.nt ?_))))))))
 refine RC.ret ?_
 obtain rfl:=oi o
 exact cA ⟨rfl,j.drop 4⟩
def pV (E:World) (V:List HP) (r: (List Int)) (U:Nat->Value) (w:World):Prop:=mi bG 61 Tryz.f34 (j7 E V r) .ret U w
theorem pB {p0: (List Int)} {res: (List Int)} (j:Holds E w (own 3 v0 p0::V)) (o:eY N p0=some res):
    Calls bG 34 [v0].toArray w (gF (j7 E V res)):=by
 unfold eY at o
 refine enter Tryz.func34 zr zr (RC.sr (aN (.slice none 0 0) (RL.nq (RC.sr (mv v0 (RL.fU 0 p0 j lT (ic ((p0.length:Int)) 2 (RL.nt ?_))))))))
 refine fZ o (fun hc o=>?_) fun hc o=>?_
 ·refine RC.sr (mv v0 (aN v0 (RL.nt (RC.rt ?_))))
  obtain rfl:=oi o
  exact cA (j.pk 1 [0])
 refine RC.ss (RC.sr (aN (vi 1) (RL.nt ?_)))
 obtain⟨a2,hN,o⟩:=bd o
 refine RC.iter (fun(ab:Int)=>SH E V [(0,v0),(3,vi ab)] [own 3 v0 p0]) (fun(ab:Int)=>SH E V [(0,v0)] [own 3 v0 p0]) (pV E V) hN ?_ ?_ ?_ ?_
 ·exact j.sp 1 [0]
 ·rintro ab fl _ w ⟨O,rfl,j⟩ o
  refine RC.seq (RC.sr (mv (vi ab) (mv v0 (RL.fU 0 p0 j lT (ic ab ((p0.length:Int)) (RL.nt (fZ o (fun hc o=>?_) fun hc o=>?_)))))))
  rotate_left
  ·refine RC.ex ?_
   obtain rfl:=oi o
   exact⟨rfl,j.sp 1 [0]⟩
  refine RC.ss (RC.block (RC.seq (RC.xR mixed ?_)))
  have j:=j.drew
  refine RO.go (mv v0 (RO.nx (mv (vi ab) (RO.nx ?_))))
  obtain⟨au,al,o⟩:=bd o
  refine RL.bM 0 j zr zr fx al (RO.nx (RL.dN (f:=(fun x=>x)) 0 j (jQ 0 j al 0) (aY al).2.1 Fd.self cV (RO.nx (mv v0 (RO.nx (mv (vi ab) (RO.nx (RL.jV ab 1 ?_))))))))
  refine RO.nx ?_
  obtain⟨av,an,o⟩:=bd o
  refine RL.bM 0 j zr zr fx an (RO.nx (RL.dN (f:=(fun x=>x)) 0 j (jQ 0 j an 0) (aY an).2.1 Fd.self cV (RO.nx (ic au av (RO.last (aJ (fZ o (fun hc o=>?_) fun hc o=>?_)))))))
  rotate_left
  ·refine RC.skip (bZ (aJ (RC.region (mv (vi ab) (RL.jV ab 1 (aN (vi (IntKind.wrap .i64 (ab+1))) (RL.nil ?_)))))))
   obtain rfl:=oi o
   exact⟨rfl,j.sp 1 [0]⟩
  refine RC.sr (mv v0 (mv (vi ab) ?_))
  obtain⟨a3,af,o⟩:=bd o
  refine RL.view 0 ab zr j zr zr fx af (aN (vw v0 (Int.toNat ab) 1) (RL.nq (RC.sr (aN (vi 1) (RL.nt ?_)))))
  obtain⟨a4,hN,o⟩:=bd o
  refine RC.iter (fun(aa: (List Int)×Int×Int)=>SH E V [(0,v0),(3,vi aa.2.1),(4,(vw v0 (Int.toNat ab) 1)),(5,vi aa.2.2)] [own 3 v0 aa.1]) (fun(aa: (List Int)×Int×Int)=>SH E V [(0,v0),(3,vi aa.2.1)] [own 3 v0 aa.1]) (fun(r:Empty) _ _=>r.elim) hN ?_ ?_ ?_ ?_
  ·exact j.sp 1 [0]
  ·rintro aa fl _ w ⟨O,rfl,j⟩ o
   refine RC.seq (RC.sr (mv (vi aa.2.2) (mv (vw v0 (Int.toNat ab) 1) (RL.EH (i:=0) (l:=aa.1) zt zr j zr zr lT (ic aa.2.2 ((((aa.1.length - Int.toNat ab):Nat):Int)) (RL.nt (fZ o (fun hc o=>?_) fun hc o=>?_)))))))
   rotate_left
   ·refine RC.ex ?_
    obtain rfl:=oi o
    exact⟨rfl,j.sp 1 [0]⟩
   refine RC.ss (RC.block (RC.seq (RC.xR mixed ?_)))
   have j:=j.drew
   refine RO.go (mv (vw v0 (Int.toNat ab) 1) (RO.nx (mv (vi aa.2.2) (RO.nx ?_))))
   obtain⟨aw,ag,o⟩:=bd o
   refine RL.Ca 0 ab zr j zr zr zr fx (zh af) (ij ag).1 (ij ag).2 (RO.nx (RL.dN (f:=(fun x=>x)) 0 j (jQ 0 j (ij ag).2 0) (aY (ij ag).2).2.1 Fd.self cV (RO.nx (mv (vw v0 (Int.toNat ab) 1) (RO.nx (mv (vi aa.2.2) (RO.nx (RL.jV aa.2.2 1 ?_))))))))
   refine RO.nx ?_
   obtain⟨ax,ah,o⟩:=bd o
   refine RL.Ca 0 ab zr j zr zr zr fx (zh af) (ij ah).1 (ij ah).2 (RO.nx (RL.dN (f:=(fun x=>x)) 0 j (jQ 0 j (ij ah).2 0) (aY (ij ah).2).2.1 Fd.self cV (RO.nx (ic aw ax (RO.last (aJ ?_))))))
   obtain⟨ai,hj,o⟩:=bd o
   refine RC.jn (fun(ai: (List Int)×Int)=>SH E V [(0,v0),(3,vi ai.2),(4,(vw v0 (Int.toNat ab) 1)),(5,vi aa.2.2)] [own 3 v0 ai.1]) ai ?_ ?_
   ·refine fZ hj (fun hc hj=>?_) fun hc hj=>?_
    rotate_left
    ·refine RC.skip ?_
     obtain rfl:=oi hj
     exact⟨rfl,j.sp 1 [0]⟩
    refine RC.sr (mv v0 (mv (vi aa.2.1) (mv (vw v0 (Int.toNat ab) 1) (mv (vi aa.2.2) ?_))))
    obtain⟨ay,aj,hj⟩:=bd hj
    refine RL.Ca 0 ab zr j zr zr zr fx (zh af) (ij aj).1 (ij aj).2 (RL.dN (f:=(fun x=>x)) 0 j (jQ 0 j (ij aj).2 0) (aY (ij aj).2).2.1 Fd.self cV ?_)
    obtain⟨a5,ao,hj⟩:=bd hj
    refine RL.bM 0 j zr zr fx ao ?_
    have j:=j.sc Int ay
    refine RL.fJ (f:=(fun _ y=>y)) 1 0 j (jQ 1 j ao 0) (aY ao).2.1 zr Fs.self cV fun w j=>?_
    refine RL.nt (RC.region (mv (vi aa.2.1) (RL.jV aa.2.1 1 (aN (vi (IntKind.wrap .i64 (aa.2.1+1))) (RL.nil ?_)))))
    obtain rfl:=oi hj
    exact⟨rfl,j.sp 2 [1]⟩
   rintro _ w ⟨O,rfl,j⟩
   refine bZ (aJ (RC.region (mv (vi aa.2.2) (RL.jV aa.2.2 1 (aN (vi (IntKind.wrap .i64 (aa.2.2+1))) (RL.nil ?_))))))
   obtain rfl:=oi o
   exact⟨rfl,j.sp 1 [0]⟩
  ·intro r _ _ _ _
   exact r.elim
  rintro aa _ w rfl ⟨O,rfl,j⟩
  rw [Fo.gL] at o
  refine aJ (RC.sr (mv v0 (mv (vi aa.2.1) ?_)))
  obtain⟨a6,aq,o⟩:=bd o
  refine RL.view 0 aa.2.1 zr j zr zr fx aq (RL.ya 0 zt j zr zr tE FD (Cb aq) fun w j=>(RL.ns (mv v0 (mv (vi aa.2.1) ?_))))
  obtain⟨a7,az,o⟩:=bd o
  refine RL.wU 0 zr j zr zr fx (.inr ⟨rfl,zr⟩) az fun a0 j=>(aN a0 (RL.nt (RC.rb (cH ?_))))
  obtain rfl:=oi o
  exact⟨rfl,cA (j.pk 1 [0])⟩
 ·intro r U w e hK
  subst e
  refine cH ?_
  obtain rfl:=oi o
  exact hK
 rintro ab _ w rfl ⟨O,rfl,j⟩
 rw [Fo.gL] at o
 refine aJ (RC.sr (mv v0 (aN v0 (RL.nt (RC.ret ?_)))))
 obtain rfl:=oi o
 exact cA (j.pk 1 [0])
theorem sL {p0:aG} {p1: (List Int)} {res:Bool} (j:Holds E w V) (h0:V[i0]? =some (rd v0 p0)) (h1:V[i1]? =some (pt v1 p1)) (h2:V[i2]? =some (pt v2 p2)) (o:ld N p0 p1 p2=some res):
    Calls bG 36 [v0,v1,v2].toArray w (gF (bD E V res)):=by
 unfold ld at o
 refine enter Tryz.func36 zr zr ?_
 have j:=((j.dup (i0+0) h0).wT (i:=i1+1) h1).wT (i:=i2+2) h2
 refine RC.sr (RL.cX 2 v0 j zr fun ad w j=>?_)
 refine aN (vb false) (RL.nq (RC.xR mixed ?_))
 have j:=j.drew
 refine RO.go (RL.bF zr mK (RO.nx (RL.aS 0 j zr i5 cV (RO.nx (RL.cG 2 p1 j fw fun ae j=>(RO.nx (RL.bQ p2 2 j cV (RO.nx ?_))))))))
 obtain⟨aa,ab,o⟩:=bd o
 refine RL.cQ 0 j fx ab fun af j=>(RO.nx (RL.bQ aa 0 j cV (RO.nx (ic p0.Y1 aa (RO.nx (aN (vb (decide (p0.Y1<=aa))) (RO.last (aJ ?_))))))))
 refine RC.ret ?_
 obtain rfl:=oi o
 exact cA ⟨rfl,j.drop 6⟩
def oj (E:World) (V:List HP) (r:Int) (U:Nat->Value) (w:World):Prop:=mi bG 19 Tryz.f61 (aQ E V r) .ret U w
theorem nN {p0: (List aG)} {p1:aG->Option Bool} (j:Holds E w V) (h0:V[i0]? =some (rd v0 p0)) (h1:Dk bG E V v1 p1 (fun(r:Bool)=>Value.bool r)) (o:jH N p0 p1=some res):
    Calls bG 61 [v0,v1].toArray w (gF (aQ E V res)):=by
 unfold jH at o
 refine enter Tryz.func61 zr zr ?_
 have j:=j.dup (i0+0) h0
 refine RC.sr (aN (vi 0) (RL.nq (RC.sr (mv v0 (RL.bO 0 p0 j pT (mv (vi 0) (RL.nt ?_)))))))
 obtain⟨al,hN,o⟩:=bd o
 refine RC.range (fun(aa:Nat) (ab:Unit)=>SH E V [(0,v0),(1,v1),(7,vi p0.length),(8,vi aa)] [rd v0 p0]) (fun(ab:Unit)=>SH E V [] [rd v0 p0]) (oj E V) hN ?_ ?_ ?_ ?_ ?_
 ·exact j.sp 1 [0]
 ·rintro hm ab _ w ⟨O,rfl,j⟩
  refine RC.sr (ic ((p0.length:Int)) ((p0.length:Int)) (RL.nq (RC.dX px (RC.ex ?_))))
  exact⟨rfl,j.sp 1 [0]⟩
 ·rintro hm aa ab fl _ w hk ⟨O,rfl,j⟩ o
  refine RC.sr (ic ((aa:Int)) ((p0.length:Int)) (RL.nq (RC.dW (pw hk) (RC.ss (RC.bs (mv (vi aa) (aN (vi aa) (RL.ns ?_))))))))
  refine mv v1 (mv v0 (mv (vi aa) ?_))
  obtain⟨ag,ah,o⟩:=bd o
  refine RL.cQ 0 j lh ah fun ao j=>(RL.cG 0 ag j gU fun aq j=>?_)
  obtain⟨ar,ai,o⟩:=bd o
  refine RL.wS 0 zr j zr h1 3 zr zr zr ai fun w j=>(RL.nt (fZ o (fun hc o=>?_) fun hc o=>?_))
  rotate_left
  ·refine RC.skip (bZ (aJ (RC.region (RL.inc hk hm (mv (vi ((aa+1:Nat):Int)) (RL.nil ?_))))))
   obtain rfl:=oi o
   exact⟨rfl,j.sp 3 [2]⟩
  refine RC.sr (mv (vi aa) (aN (vi aa) (RL.nt (RC.rb (cH ?_)))))
  obtain rfl:=oi o
  exact⟨rfl,cA ⟨rfl,j.drop 3⟩⟩
 ·intro r U w e hK
  subst e
  refine cH ?_
  obtain rfl:=oi o
  exact hK
 rintro ab _ w rfl ⟨O,rfl,j⟩
 rw [Fo.gL] at o
 refine aJ (RC.sr (aN (vi (-1)) (RL.nt (RC.ret ?_))))
 obtain rfl:=oi o
 exact cA ⟨rfl,j.drop 1⟩
def j9 (E:World) (V:List HP) (v0:Value) (p0: (List aG)) (res:Int) (v:Value) (w:World):Prop:=v= (vi res)/\Holds E w ([own 42 v0 p0]++V)
def mM (E:World) (V:List HP) (v0:Value) (p0: (List aG)) (r:Int) (U:Nat->Value) (w:World):Prop:=mi bG 19 Tryz.f61 (j9 E V v0 p0 r) .ret U w
theorem mo {p0: (List aG)} {p1:aG->Option Bool} (o:Holds E w (own 42 v0 p0::V)) (h1:Dk bG E V v1 p1 (fun(r:Bool)=>Value.bool r)) (j:iG N p0 p1=some res):
    Calls bG 61 [v0,v1].toArray w (gF (j9 E V v0 p0 res)):=by
 unfold iG at j
 refine enter Tryz.func61 zr zr (RC.sr (aN (vi 0) (RL.nq (RC.sr (mv v0 (RL.fU 0 p0 o pT (mv (vi 0) (RL.nt ?_))))))))
 obtain⟨ak,hN,j⟩:=bd j
 refine RC.range (fun(aa:Nat) (ab:Unit)=>SH E V [(0,v0),(1,v1),(7,vi p0.length),(8,vi aa)] [own 42 v0 p0]) (fun(ab:Unit)=>SH E V [(0,v0)] [own 42 v0 p0]) (mM E V v0 p0) hN ?_ ?_ ?_ ?_ ?_
 ·exact o.sp 1 [0]
 ·rintro hm ab _ w ⟨O,rfl,o⟩
  refine RC.sr (ic ((p0.length:Int)) ((p0.length:Int)) (RL.nq (RC.dX px (RC.ex ?_))))
  exact⟨rfl,o.sp 1 [0]⟩
 ·rintro hm aa ab fl _ w hk ⟨O,rfl,o⟩ j
  refine RC.sr (ic ((aa:Int)) ((p0.length:Int)) (RL.nq (RC.dW (pw hk) (RC.ss (RC.bs (mv (vi aa) (aN (vi aa) (RL.ns ?_))))))))
  refine mv v1 (mv v0 (mv (vi aa) ?_))
  obtain⟨an,ad,j⟩:=bd j
  refine RL.bM 0 o zr zr lh ad (RL.kj (f:=(fun x=>x)) 0 o (jQ 0 o ad 0) (aY ad).2.1 Fd.self gU fun ao o=>?_)
  obtain⟨aq,ah,j⟩:=bd j
  refine RL.wS 0 zr o zr h1 2 zr zr zr ah fun w o=>(RL.nt (fZ j (fun hc j=>?_) fun hc j=>?_))
  rotate_left
  ·refine RC.skip (bZ (aJ (RC.region (RL.inc hk hm (mv (vi ((aa+1:Nat):Int)) (RL.nil ?_))))))
   obtain rfl:=oi j
   exact⟨rfl,o.sp 2 [1]⟩
  refine RC.sr (mv (vi aa) (aN (vi aa) (RL.nt (RC.rb (cH ?_)))))
  obtain rfl:=oi j
  exact⟨rfl,cA ⟨rfl,o.pk 2 [1]⟩⟩
 ·intro r U w e hK
  subst e
  refine cH ?_
  obtain rfl:=oi j
  exact hK
 rintro ab _ w rfl ⟨O,rfl,o⟩
 rw [Fo.gL] at j
 refine aJ (RC.sr (aN (vi (-1)) (RL.nt (RC.ret ?_))))
 obtain rfl:=oi j
 exact cA ⟨rfl,o.pk 1 [0]⟩
theorem m7 {p0: (List aG)} {p1:aG->Option Bool} {res: (List aG)} (j:Holds E w (own 42 v0 p0::V)) (h1:Dk bG E V v1 p1 (fun(r:Bool)=>Value.bool r)) (o:fK N p0 p1=some res):
    Calls bG 35 [v0,v1].toArray w (gF (ky E V res)):=by
 unfold fK at o
 refine enter Tryz.func35 zr zr (RC.sr (aN (.slice none 0 0) (RL.ns (mv v0 (mv v1 ?_)))))
 have j:=j.pull 0
 obtain⟨ad,aj,o⟩:=bd o
 refine RL.call zt zr FE [v0,v1] zr (aD (mo N j (h1.lift 1 zr) aj) ?_)
 rintro _ w ⟨rfl,j⟩
 refine aN (vi ad) (RL.nq (RC.sr (mv (vi ad) (ic ad ((-1)) (RL.nt (fZ o (fun hc o=>?_) fun hc o=>?_))))))
 ·refine RC.sr (mv v0 (aN v0 (RL.nt (RC.rt ?_))))
  obtain rfl:=oi o
  exact cA (j.pk 2 [0])
 refine RC.ss (RC.sr (mv (vi ad) (RL.jV ad 1 (aN (vi (IntKind.wrap .i64 (ad+1))) (RL.nt ?_)))))
 obtain⟨ar,hN,o⟩:=bd o
 refine RC.iter (fun(aa: (List aG)×Int×Int)=>SH E V [(0,v0),(1,v1),(5,vi aa.2.1),(6,vi aa.2.2)] [own 42 v0 aa.1]) (fun(aa: (List aG)×Int×Int)=>SH E V [(0,v0),(5,vi aa.2.1)] [own 42 v0 aa.1]) (fun(r:Empty) _ _=>r.elim) hN ?_ ?_ ?_ ?_
 ·exact j.sp 2 [0]
 ·rintro aa fl _ w ⟨O,rfl,j⟩ o
  refine RC.seq (RC.sr (mv (vi aa.2.2) (mv v0 (RL.fU 0 aa.1 j pT (ic aa.2.2 ((aa.1.length:Int)) (RL.nt (fZ o (fun hc o=>?_) fun hc o=>?_)))))))
  rotate_left
  ·refine RC.ex ?_
   obtain rfl:=oi o
   exact⟨rfl,j.sp 1 [0]⟩
  refine RC.ss (RC.bs (mv v0 (mv (vi aa.2.2) ?_)))
  obtain⟨av,ag,o⟩:=bd o
  refine RL.bM 0 j zr zr lh ag (RL.kj (f:=(fun x=>x)) 0 j (jQ 0 j ag 0) (aY ag).2.1 Fd.self gU fun aw j=>?_)
  refine RL.alloc j nL.z fun ax w j=>?_
  refine RL.aZ 0 j 1 zr gU fun w j=>?_
  refine RL.ns (mv v1 (RL.aR (f:=(fun x=>x)) 0 j zr Fd.self gU fun ay j=>?_))
  obtain⟨al,an,o⟩:=bd o
  refine RL.wS 0 zr j zr h1 4 zr zr zr an fun w j=>(RL.not al (RL.nt ?_))
  obtain⟨af,hj,o⟩:=bd o
  refine RC.jn (fun(af: (List aG)×Int)=>SH E V [(0,v0),(1,v1),(5,vi af.2),(6,vi aa.2.2)] [own 42 v0 af.1]) af ?_ ?_
  ·refine fZ hj (fun hc hj=>?_) fun hc hj=>?_
   rotate_left
   ·refine RC.skip ?_
    obtain rfl:=oi hj
    exact⟨rfl,j.sp 4 [3]⟩
   refine RC.sr (mv v0 (mv (vi aa.2.1) (RL.aR (f:=(fun x=>x)) 1 j zr Fd.self gU fun az j=>?_)))
   obtain⟨a0,ah,hj⟩:=bd hj
   refine RL.bM 4 j zr zr lh ah (RL.fJ (f:=(fun _ y=>y)) 4 0 j (jQ 4 j ah 0) (aY ah).2.1 zr Fs.self gU fun w j=>?_)
   refine RL.nt (RC.region (mv (vi aa.2.1) (RL.jV aa.2.1 1 (aN (vi (IntKind.wrap .i64 (aa.2.1+1))) (RL.nil ?_)))))
   obtain rfl:=oi hj
   exact⟨rfl,j.sp 5 [4]⟩
  rintro _ w ⟨O,rfl,j⟩
  refine bZ (aJ (RC.region (mv (vi aa.2.2) (RL.jV aa.2.2 1 (aN (vi (IntKind.wrap .i64 (aa.2.2+1))) (RL.nil ?_))))))
  obtain rfl:=oi o
  exact⟨rfl,j.sp 1 [0]⟩
 ·intro r _ _ _ _
  exact r.elim
 rintro aa _ w rfl ⟨O,rfl,j⟩
 rw [Fo.gL] at o
 refine aJ (RC.sr (mv v0 (mv (vi aa.2.1) ?_)))
 obtain⟨a1,ai,o⟩:=bd o
 refine RL.view 0 aa.2.1 zr j zr zr lh ai (RL.ya 0 zt j zr zr Bb Hb (Cb ai) fun w j=>(RL.ns (mv v0 (mv (vi aa.2.1) ?_))))
 obtain⟨a2,ao,o⟩:=bd o
 refine RL.wU 0 zr j zr zr lh (.inr ⟨rfl,zr⟩) ao fun aq j=>(aN aq (RL.nt (RC.ret ?_)))
 obtain rfl:=oi o
 exact cA (j.pk 1 [0])
theorem pC {p0 p1:aG} (j:Holds E w V) (h0:V[i0]? =some (rd v0 p0)) (h1:V[i1]? =some (rd v1 p1)) (o:eZ N p0 p1=some res):
    Calls bG 63 [v0,v1].toArray w (gF (aQ E V res)):=by
 unfold eZ at o
 refine enter Tryz.func63 zr zr ?_
 have j:=(j.dup (i0+0) h0).dup (i1+1) h1
 refine RC.sr (RL.cX 1 v0 j zr fun aa w j=>?_)
 refine RL.cX 1 v1 j zr fun ab w j=>?_
 refine aN (vi 0) (RL.ns (RL.bF zr jr (RL.aS 1 j zr eQ cV (RL.bF zr jr (RL.aS 0 j zr eQ cV (RL.jV p0.X0 p1.X0 (aN (vi (IntKind.wrap .i64 (p0.X0 - p1.X0))) (RL.nt ?_))))))))
 refine RC.ret ?_
 obtain rfl:=oi o
 exact cA ⟨rfl,j.drop 4⟩
def sM (E:World) (V:List HP) (v0:Value) (res: (List Int)×(List aG)) (v:Value) (w:World):Prop:=Holds E w ([own 3 v res.1,own 42 v0 res.2]++V)
theorem rN {p0: (List aG)} {res: (List Int)×(List aG)} (j:Holds E w (own 42 v0 p0::V)) (hb:gC N p0=some res):
    Calls bG 38 [v0].toArray w (gF (sM E V v0 res)):=by
 unfold gC at hb
 refine enter Tryz.func38 zr zr (RC.sr (aN (.slice none 0 0) (RL.ns (mv v0 ?_))))
 obtain⟨af,a1,hb⟩:=bd hb
 have j:=j.pull 0
 refine RL.call zt zr FB [v0,(.func (.func 63) #[] #[])] zr (aD (Au Tryz.lay31 aG zr gU.Ea gU.sz He (fun j hi o hr=>pC N j hi o hr) j a1) ?_)
 rintro _ w ⟨rfl,j⟩
 refine RL.ns (aN (.slice none 0 0) (RL.nq (RC.sr (mv v0 (RL.fU 0 af j pT (mv (vi 0) (RL.nt ?_)))))))
 have j:=j.dD Int 3
 obtain⟨aa,hN,hb⟩:=bd hb
 refine RC.fold (fun(ah:Nat) (aa: (List Int)) U w=>∃av:Value,SH E V [(0,v0),(3,av),(9,v0),(10,vi af.length),(11,vi ah)] [own 42 v0 af,own 3 av aa] U w) (fun(aa: (List Int)) U w=>∃ai:Value,SH E V [(0,v0),(3,ai)] [own 42 v0 af,own 3 ai aa] U w) hN ?_ ?_ ?_ ?_
 ·exact⟨(.slice none 0 0),j.sp 3 [1,0]⟩
 ·rintro hm aa _ w ⟨a3,O,rfl,j⟩
  refine RC.sr (ic ((af.length:Int)) ((af.length:Int)) (RL.nq (RC.dX px (RC.ex ?_))))
  exact⟨rfl,a3,j.sp 2 [0,1]⟩
 ·rintro hm ah aa s' _ w hk ⟨ag,O,rfl,j⟩ hb
  refine RC.sr (ic ((ah:Int)) ((af.length:Int)) (RL.nq (RC.dW (pw hk) (RC.ss (RC.bs ?_)))))
  obtain⟨ae,ak,hb⟩:=bd hb
  refine RL.bM 0 j zr zr lh ak (RL.kj (f:=(fun x=>x)) 0 j (jQ 0 j ak 0) (aY ak).2.1 Fd.self gU fun a6 j=>?_)
  refine RL.alloc j nL.z fun ay w j=>?_
  refine RL.aZ 0 j 1 zr gU fun w j=>?_
  refine RL.ns (mv ag (RL.fU 3 aa j lT (RL.jV (aa.length:Int) 1 (aN (vi (IntKind.wrap .i64 ((aa.length:Int) - 1))) (RL.nq ?_)))))
  obtain⟨al,o,hb⟩:=bd hb
  refine RC.jn (fun(al:Bool)=>SH E V [(0,v0),(3,ag),(5,vp ay 0),(6,(vi (IntKind.wrap .i64 ((aa.length:Int) - 1)))),(9,v0),(10,vi af.length),(11,vi ah),(28,vb al)] [own 42 v0 af,own 3 ag aa,bx 42 ay ae]) al ?_ ?_
  ·refine RC.xR mixed ?_
   have j:=j.drew
   refine RO.go (mv (vi (IntKind.wrap .i64 ((aa.length:Int) - 1))) (RO.nx (ic ((IntKind.wrap .i64 ((aa.length:Int) - 1))) 0 (RO.nx (mv (vb (decide ((IntKind.wrap .i64 ((aa.length:Int) - 1))>=0))) (iz o (fun ab o=>?_) fun ab o=>?_))))))
   rotate_left
   ·refine RO.nx (cD ab (RO.nx (cD ab (RO.nx (cD ab (RO.nx (cD ab (RO.nx ?_))))))))
    refine cD ab (RO.nx (cD ab (RO.nx (cD ab (RO.nx (iJ ab (vb false) (RO.last ?_)))))))
    obtain rfl:=oi o
    exact⟨rfl,j.sp 4 [2,3,0]⟩
   refine RO.nx (RL.bF (hg:=(cg ab)) zr jr (RO.nx (RL.aS (hg:=(cg ab)) 0 j zr eQ cV (RO.nx (RL.move ag (cg ab) (RO.nx (RL.move (vi (IntKind.wrap .i64 ((aa.length:Int) - 1))) (cg ab) (RO.nx ?_))))))))
   obtain⟨az,an,o⟩:=bd o
   refine RL.bM (hg:=(cg ab)) 3 j zr zr fx an (RO.nx (RL.dN (hg:=(cg ab)) (f:=(fun x=>x)) 3 j (jQ 3 j an 0) (aY an).2.1 Fd.self cV (RO.nx (RL.k7 ae.X0 az (cg ab) (RO.nx (iJ ab (vb (decide (ae.X0<=az))) (RO.last ?_)))))))
   obtain rfl:=oi o
   exact⟨rfl,j.sp 4 [2,3,0]⟩
  rintro _ w ⟨O,rfl,j⟩
  refine aJ ?_
  obtain⟨ao,o,hb⟩:=bd hb
  refine RC.jn (fun(ao: (List Int)) U w=>∃aj:Value,SH E V [(0,v0),(3,aj),(9,v0),(10,vi af.length),(11,vi ah)] [own 42 v0 af,own 3 aj ao] U w) ao ?_ ?_
  ·refine fZ o (fun hc o=>?_) fun hc o=>?_
   rotate_left
   ·refine RC.region (mv ag (RL.bF zr jr (RL.aS 2 j zr eQ cV (RL.bF zr j6 (RL.aS 2 j zr fQ cV ?_)))))
    have j:=(j.sc Int ae.X0).sc Int ae.X1
    refine RL.fI ([ae.X0,ae.X1]: (List Int)) j [(vi ae.X0),(vi ae.X1)] fx Dr (fun M hs g=>⟨(g.sat 1 _ zr).1,⟨(g.sat 0 _ zr).1,zt⟩⟩) fun a7 w j=>?_
    have j:=j.freeze 0
    obtain⟨a8,a5,o⟩:=bd o
    refine RL.app 4 0 j tE a5 fun a0 w j=>?_
    refine aN a0 (RL.nil ?_)
    obtain rfl:=oi o
    exact⟨rfl,a0,j.sp 6 [3,4]⟩
   refine RC.Ah mixed [0,0,0,0,0,0,0,0,0,0,2] [0,1,2,3,4,5,6,7,8,9,10] ?_
   have j:=j.drew
   refine DP.e0 zr (mv ag (dJ zr (mv (vi (IntKind.wrap .i64 ((aa.length:Int) - 1))) (dJ zr (mv ag (dJ zr (mv (vi (IntKind.wrap .i64 ((aa.length:Int) - 1))) (dJ zr ?_))))))))
   obtain⟨aq,ar,o⟩:=bd o
   refine RL.bM 1 j zr zr fx ar (dJ zr (RL.dN (f:=(fun x=>x)) 1 j (jQ 1 j ar 0) (aY ar).2.1 Fd.self cV (dJ zr (RL.bF zr j6 (dJ zr (RL.aS 2 j zr fQ cV (dJ zr (RL.max aq ae.X1 ?_))))))))
   refine dJ zr ?_
   obtain⟨a9,au,o⟩:=bd o
   refine RL.bM 1 j zr zr fx au (uB zr ?_)
   have j:=j.sc Int (if aq<ae.X1 then ae.X1 else aq)
   refine RL.fJ (f:=(fun _ y=>y)) 2 0 j (jQ 2 j au 0) (aY au).2.1 zr Fs.self cV fun w j=>?_
   refine DP.d2 zt (DP.z ?_)
   obtain rfl:=oi o
   exact⟨rfl,ag,j.sp 4 [1,2]⟩
  rintro _ w ⟨aj,O,rfl,j⟩
  refine bZ (aJ (RC.region (RL.inc hk hm (mv (vi ((ah+1:Nat):Int)) (RL.nil ?_)))))
  obtain rfl:=oi hb
  exact⟨rfl,aj,j.sp 2 [0,1]⟩
 rintro _ w ⟨ai,O,rfl,j⟩
 refine aJ (RC.sr (mv ai (aN ai (RL.nt (RC.ret ?_)))))
 obtain rfl:=oi hb
 exact cA (j.pk 2 [1,0])
def rO (E:World) (V:List HP) (r:Bool) (U:Nat->Value) (w:World):Prop:=mi bG 26 Tryz.f62 (bD E V r) .ret U w
theorem qW {p0: (List Int)} {p1: (List Int)} {res:Bool} (j:Holds E w V) (h0:V[i0]? =some (rd v0 p0)) (h1:V[i1]? =some (rd v1 p1)) (o:km N p0 p1=some res):
    Calls bG 62 [v0,v1].toArray w (gF (bD E V res)):=by
 unfold km at o
 refine enter Tryz.func62 zr zr ?_
 have j:=(j.dup (i0+0) h0).dup (i1+1) h1
 refine RC.sr (aN (vb false) (RL.nq (RC.sr (mv v0 (RL.bO 1 p0 j lT (mv v1 (RL.bO 0 p1 j lT (ic ((p0.length:Int)) ((p1.length:Int)) ?_))))))))
 refine RL.nt (fZ o (fun hc o=>?_) fun hc o=>?_)
 ·refine RC.sr (aN (vb false) (RL.nt (RC.rt ?_)))
  obtain rfl:=oi o
  exact cA ⟨rfl,j.drop 2⟩
 refine RC.ss (RC.sr (mv v0 (RL.bO 1 p0 j lT (mv (vi 0) (RL.nt ?_)))))
 obtain⟨an,hN,o⟩:=bd o
 refine RC.range (fun(aa:Nat) (ab:Unit)=>SH E V [(0,v0),(1,v1),(12,vi p0.length),(13,vi aa)] [rd v0 p0,rd v1 p1]) (fun(ab:Unit)=>SH E V [] [rd v0 p0,rd v1 p1]) (rO E V) hN ?_ ?_ ?_ ?_ ?_
 ·exact j.sp 2 [1,0]
 ·rintro hm ab _ w ⟨O,rfl,j⟩
  refine RC.sr (ic ((p0.length:Int)) ((p0.length:Int)) (RL.nq (RC.dX px (RC.ex ?_))))
  exact⟨rfl,j.sp 2 [0,1]⟩
 ·rintro hm aa ab fl _ w hk ⟨O,rfl,j⟩ o
  refine RC.sr (ic ((aa:Int)) ((p0.length:Int)) (RL.nq (RC.dW (pw hk) (RC.ss (RC.bs (mv (vi aa) (aN (vi aa) (RL.nq ?_))))))))
  refine RC.xR mixed ?_
  have j:=j.drew
  refine RO.go (mv v0 (RO.nx (mv (vi aa) (RO.nx ?_))))
  obtain⟨ag,aj,o⟩:=bd o
  refine RL.cQ 0 j fx aj fun aq j=>(RO.nx (RL.bQ ag 0 j cV (RO.nx (mv v1 (RO.nx (mv (vi aa) (RO.nx ?_)))))))
  obtain⟨ah,ak,o⟩:=bd o
  refine RL.cQ 2 j fx ak fun ar j=>(RO.nx (RL.bQ ah 0 j cV (RO.nx (ic ag ah (RO.last (aJ (fZ o (fun hc o=>?_) fun hc o=>?_)))))))
  rotate_left
  ·refine RC.skip (bZ (aJ (RC.region (RL.inc hk hm (mv (vi ((aa+1:Nat):Int)) (RL.nil ?_))))))
   obtain rfl:=oi o
   exact⟨rfl,j.sp 4 [2,3]⟩
  refine RC.sr (aN (vb false) (RL.nt (RC.rb (cH ?_))))
  obtain rfl:=oi o
  exact⟨rfl,cA ⟨rfl,j.drop 4⟩⟩
 ·intro r U w e hK
  subst e
  refine cH ?_
  obtain rfl:=oi o
  exact hK
 rintro ab _ w rfl ⟨O,rfl,j⟩
 rw [Fo.gL] at o
 refine aJ (RC.sr (aN (vb true) (RL.nt (RC.ret ?_))))
 obtain rfl:=oi o
 exact cA ⟨rfl,j.drop 2⟩
theorem nu {p0: (List aA)} {p1:aA} {res: (List aA)} (j:Holds E w (own 86 v0 p0::V)) (h1:V[i1]? =some (rd v1 p1)) (hb:gl N p0 p1=some res):
    Calls bG 37 [v0,v1].toArray w (gF (i7 E V res)):=by
 unfold gl at hb
 refine enter Tryz.func37 zr zr ?_
 have j:=j.dup (i1+1) h1
 refine RC.sr (RL.cX 0 v1 j zr fun ae w j=>?_)
 refine aN (.slice none 0 0) (RL.nq (RC.sr (RL.bF zr lj (RL.aR 0 j zr cR fw fun aw j=>(RL.bO 0 p1.Xs j lT (ic ((p1.Xs.length:Int)) 0 (mv (vb ((p1.Xs.length:Int)==0)) (RL.gs true ((p1.Xs.length:Int)==0) (vp ae 1) zr zr zr (eW l8) ?_))))))))
 refine RL.gs true ((p1.Xs.length:Int)==0) (vi p1.Y1) rfl rfl rfl (bX 1 rfl j (fun h=>by exact(dE h:cv (true&&(((p1.Xs.length:Int)==0)==false)) (vp ae 1)= (vp ae 1))) rfl dS cV) (RL.gs true ((p1.Xs.length:Int)==0) (vp ae 0) rfl rfl rfl (eW oT) (RL.gs true ((p1.Xs.length:Int)==0) (vi p1.Y0) rfl rfl rfl (bX 1 rfl j (fun h=>by exact(dE h:cv (true&&(((p1.Xs.length:Int)==0)==false)) (vp ae 0)= (vp ae 0))) rfl eX cV) (RL.gs true ((p1.Xs.length:Int)==0) (vb (decide (p1.Y1<=p1.Y0))) rfl rfl rfl (fE .leq .i64 p1.Y1 p1.Y0 rfl (fun h=>by exact(dE h:cv (true&&(((p1.Xs.length:Int)==0)==false)) (vi p1.Y1)= (vi p1.Y1))) (fun h=>by exact(dE h:cv (true&&(((p1.Xs.length:Int)==0)==false)) (vi p1.Y0)= (vi p1.Y0))) rfl) (RL.pick ((p1.Xs.length:Int)==0) (vb (((p1.Xs.length:Int)==0)||(decide (p1.Y1<=p1.Y0)))) (o8 true rfl) (RL.nt (fZ hb (fun hc hb=>?_) fun hc hb=>?_))))))
 ·refine RC.sr (mv v0 (aN v0 (RL.nt (RC.rt ?_))))
  obtain rfl:=oi hb
  exact cA (j.pk 4 [3])
 refine RC.ss (RC.sr (mv v0 (RL.fU 3 p0 j qU (RL.jV (p0.length:Int) 1 (aN (vi (IntKind.wrap .i64 ((p0.length:Int) - 1))) (RL.nq ?_))))))
 obtain⟨aj,hj,hb⟩:=bd hb
 refine RC.jn (fun(aj:Bool)=>SH E V [(0,v0),(3,vp ae 0),(5,(vi (IntKind.wrap .i64 ((p0.length:Int) - 1)))),(42,vb aj)] [own 86 v0 p0,bx 86 ae p1]) aj ?_ ?_
 ·refine RC.Ah mixed [0,0,0,0,0,0,0,0,0,0,0,0,0,0,0,0,0,0,0,0,2,0] [0,1,2,3,4,5,6,7,8,9,10,11,12,13,14,15,16,17,18,19,20,21] ?_
  have j:=j.drew
  refine DP.e0 zr (mv (vi (IntKind.wrap .i64 ((p0.length:Int) - 1))) (dJ zr (ic ((IntKind.wrap .i64 ((p0.length:Int) - 1))) 0 (dJ zr (mv (vb (decide ((IntKind.wrap .i64 ((p0.length:Int) - 1))>=0))) (DP.d0 (iz hj (fun o hj=>?_) fun o hj=>?_)))))))
  rotate_left
  ·refine DP.e0 zr (cD o (dJ zr (cD o (dJ zr (cD o (dJ zr (cD o (dJ zr ?_))))))))
   refine cD o (dJ zr (cD o (dJ zr (cD o (dJ zr (cD o (dJ zr (iJ o (vb false) ?_))))))))
   refine dJ zr (mv (vb false) (dJ zr (mI (dJ zr (mI (dJ zr (mI (dJ zr ?_))))))))
   refine mI (dJ zr (mI (dJ zr (mI (dJ zr (mI (uB zr (mI ?_))))))))
   refine Ai zr (RL.pick false (vb false) zr (DP.d0 (DP.z ?_)))
   obtain rfl:=oi hj
   exact⟨rfl,j.sp 4 [3,1]⟩
  refine DP.e0 zr (RL.move v0 (cg o) (dJ zr (RL.move (vi (IntKind.wrap .i64 ((p0.length:Int) - 1))) (cg o) (dJ zr ?_))))
  obtain⟨ak,af,hj⟩:=bd hj
  refine RL.bM (hg:=(cg o)) 3 j zr zr l9 af (dJ zr (RL.l4 (hg:=(cg o)) (α:=aA) (jQ 3 j af 0) l8 (dJ zr (RL.dN (hg:=(cg o)) 3 j (jQ 3 j af 1) (aY af).2.1 dS cV (dJ zr (RL.bF (hg:=(cg o)) zr oT (dJ zr (RL.aS (hg:=(cg o)) 1 j zr eX cV ?_))))))))
  refine dJ zr (RL.k7 ak.Y1 p1.Y0 (cg o) (dJ zr (iJ o (vb (ak.Y1==p1.Y0)) (dJ zr (mv (vb (ak.Y1==p1.Y0)) (DP.d0 (iz hj (fun aa hj=>?_) fun aa hj=>?_)))))))
  rotate_left
  ·refine DP.e0 zr (cD aa (dJ zr (cD aa (dJ zr (cD aa (dJ zr (cD aa (dJ zr ?_))))))))
   refine cD aa (dJ zr (cD aa (dJ zr (cD aa (uB zr (cD aa (Ai zr (iJ aa (vb false) ?_))))))))
   refine DP.d0 (DP.z ?_)
   obtain rfl:=oi hj
   exact⟨rfl,j.sp 4 [3,1]⟩
  refine DP.e0 zr (RL.move v0 (cg aa) (dJ zr (RL.move (vi (IntKind.wrap .i64 ((p0.length:Int) - 1))) (cg aa) (dJ zr ?_))))
  obtain⟨ax,ag,hj⟩:=bd hj
  refine RL.bM (hg:=(cg aa)) 3 j zr zr l9 ag (dJ zr (RL.l4 (hg:=(cg aa)) (α:=aA) (jQ 3 j ag 0) lj (dJ zr (RL.kj (hg:=(cg aa)) 3 j (jQ 3 j ag 2) (aY ag).2.1 cR fw fun al j=>?_))))
  refine dJ zr (RL.bF (hg:=(cg aa)) zr lj (dJ zr (RL.aR (hg:=(cg aa)) 2 j zr cR fw fun an j=>(uB zr ?_))))
  obtain⟨ao,aq,hj⟩:=bd hj
  refine RL.call (cg aa) zr Hg [al,an] zr (aD (qW N (i0:=1) (i1:=0) j zr zr aq) ?_)
  rintro _ w ⟨rfl,j⟩
  refine Ai zr (iJ aa (vb ao) (DP.d0 (DP.z ?_)))
  obtain rfl:=oi hj
  exact⟨rfl,j.sp 6 [5,3]⟩
 rintro _ w ⟨O,rfl,j⟩
 refine aJ (fZ hb (fun hc hb=>?_) fun hc hb=>?_)
 rotate_left
 ·refine RC.sx (mv v0 (RL.aR (f:=(fun x=>x)) 1 j zr Fd.self xd fun ar j=>(RL.fI ([p1]: (List aA)) j [ar] l9 Cm (fun M hs g=>⟨(g.sat 0 _ zr).1,zt⟩) fun ay w j=>?_)))
  have j:=j.freeze 0
  obtain⟨az,au,hb⟩:=bd hb
  refine RL.app 2 0 j Hh au fun av w j=>?_
  refine aN av (RL.nt (RC.ret ?_))
  obtain rfl:=oi hb
  exact cA (j.pk 4 [2])
 refine RC.sr (mv v0 (mv (vi (IntKind.wrap .i64 ((p0.length:Int) - 1))) (RL.bF zr l8 (RL.aS 1 j zr dS cV ?_))))
 obtain⟨a0,ah,hb⟩:=bd hb
 refine RL.bM 0 j zr zr l9 ah (RL.l4 (α:=aA) (jQ 0 j ah 0) l8 ?_)
 have j:=j.sc Int p1.Y1
 refine RL.fJ 1 0 j (jQ 1 j ah 1) (aY ah).2.1 zr l7 cV fun w j=>?_
 refine RL.ns (mv v0 (aN v0 (RL.nt (RC.rt ?_))))
 obtain rfl:=oi hb
 exact cA (j.pk 3 [1])
theorem fO {p0: (List aG)} {res: (List aA)} (o:Holds E w V) (h0:V[i0]? =some (rd v0 p0)) (hb:cO N p0=some res):
    Calls bG 16 [v0].toArray w (gF (i7 E V res)):=by
 unfold cO at hb
 refine enter Tryz.func16 zr zr ?_
 have o:=o.dup (i0+0) h0
 refine RC.sr (aN (.slice none 0 0) (RL.ns (mv v0 ?_)))
 obtain⟨cf,bn,hb⟩:=bd hb
 refine RL.call zt zr ET [v0] zr (aD (j8 N (i0:=0) o zr bn) ?_)
 rintro ae w o
 refine aN ae (RL.ns (mv ae ?_))
 obtain⟨ah,bo,hb⟩:=bd hb
 have o:=o.pull 0
 refine RL.call zt zr FB [ae,(.func (.func 32) #[] #[])] zr (aD (Au Tryz.lay31 aG zr gU.Ea gU.sz G8 (fun o hi hj hr=>sK N o hi hj hr) o bo) ?_)
 rintro _ w ⟨rfl,o⟩
 refine RL.ns (RL.nW o FC fun ag w o=>?_)
 refine RL.nq (RC.sr (mv ae (RL.fU 1 ah o pT (mv (vi 0) (RL.nt ?_)))))
 obtain⟨ao,hN,hb⟩:=bd hb
 refine RC.fold (fun(aw:Nat) (ao: (List Int)) U w=>∃a6:Value,SH E V [(0,ae),(3,vp ag 0),(14,ae),(15,vi ah.length),(16,vi aw)] [own 42 ae ah,bc 70 ag [a6],own 3 a6 ao] U w) (fun(ao: (List Int)) U w=>∃an:Value,SH E V [(0,ae),(3,vp ag 0)] [own 42 ae ah,bc 70 ag [an],own 3 an ao] U w) hN ?_ ?_ ?_ ?_
 ·have o:=o.dD Int 3
  exact⟨(.slice none 0 0),o.sp 5 [2,1,0]⟩
 ·rintro hm ao _ w ⟨bp,O,rfl,o⟩
  refine RC.sr (ic ((ah.length:Int)) ((ah.length:Int)) (RL.nq (RC.dX px (RC.ex ?_))))
  exact⟨rfl,bp,o.sp 3 [0,1,2]⟩
 ·rintro hm aw ao s' _ w hk ⟨bq,O,rfl,o⟩ hb
  refine RC.sr (ic ((aw:Int)) ((ah.length:Int)) (RL.nq (RC.dW (pw hk) (RC.ss (RC.bs ?_)))))
  obtain⟨aq,a1,hb⟩:=bd hb
  refine RL.bM 0 o zr zr lh a1 (RL.kj (f:=(fun x=>x)) 0 o (jQ 0 o a1 0) (aY a1).2.1 Fd.self gU fun ch o=>?_)
  refine RL.alloc o nL.z fun cj w o=>?_
  refine RL.aZ 0 o 1 zr gU fun w o=>?_
  refine RL.nt (RC.region (RL.bK 3 bq o fw (RL.bF zr j5 (RL.aS 0 o zr fB cV (RL.bF zr mK (RL.aS 0 o zr i5 cV ?_))))))
  have o:=(o.sc Int aq.Y0).sc Int aq.Y1
  refine RL.fI ([aq.Y0,aq.Y1]: (List Int)) o [(vi aq.Y0),(vi aq.Y1)] fx Dr (fun M hs g=>⟨(g.sat 1 _ zr).1,⟨(g.sat 0 _ zr).1,zt⟩⟩) fun ck w o=>?_
  have o:=o.freeze 0
  obtain⟨cl,br,hb⟩:=bd hb
  refine RL.app 7 0 o tE br fun a9 w o=>?_
  refine RL.gj 6 a9 o zr zr (dP 7 o) fw fun w o=>?_
  refine RL.nil (bZ (aJ (RC.region (RL.inc hk hm (mv (vi ((aw+1:Nat):Int)) (RL.nil ?_))))))
  obtain rfl:=oi hb
  exact⟨rfl,a9,o.sp 8 [5,6,7]⟩
 rintro _ w ⟨an,O,rfl,o⟩
 refine aJ (RC.sr (RL.bK 1 an o fw ?_))
 obtain⟨cm,bt,hb⟩:=bd hb
 have o:=o.pull 2
 refine RL.call zt zr G9 [an] zr (aD (CM Tryz.lay33 o bt) ?_)
 rintro _ w ⟨rfl,o⟩
 refine RL.ns (RL.bK 2 an o fw ?_)
 have o:=o.pull 0
 obtain⟨ai,bu,hb⟩:=bd hb
 refine RL.call zt zr Ha [an] zr (aD (pB N o bu) ?_)
 rintro bw w o
 refine RL.gj 3 bw o zr zr (dP 0 o) fw fun w o=>?_
 refine RL.ns (aN (.slice none 0 0) (RL.ns (aN (.slice none 0 0) (RL.ns (aN (vi 0) (RL.nq (RC.sr (RL.alloc o Dr.z fun bz w o=>?_))))))))
 have o:=o.sc Int 0
 refine RL.aZ 1 o 0 zr cV fun w o=>?_
 refine RL.nt ?_
 have o:=((((o.freeze 2).uP (i:=5) (x:=ai) rfl (fun M hs g=>(cF (g.sat 2 _ rfl).1))).ki (i:=5) rfl).dD aA 86).dD aG 42
 obtain⟨cn,hN,hb⟩:=bd hb
 refine RC.iter (fun(ab: (List aA)×(List aG)×Int×Int) U w=>∃(ba bb:Value) (bf:Nat),SH E V [(0,ae),(3,vp ag 0),(6,ba),(7,bb),(8,vi ab.2.2.1),(9,vp bf 0)] [own 42 ae ah,pt (vp ag 0) ai,own 86 ba ab.1,own 42 bb ab.2.1,bx 3 bf ab.2.2.2] U w) (fun(ab: (List aA)×(List aG)×Int×Int) U w=>∃av:Value,SH E V [(6,av)] [own 42 ae ah,pt (vp ag 0) ai,own 86 av ab.1] U w) (fun(r:Empty) _ _=>r.elim) hN ?_ ?_ ?_ ?_
 ·exact⟨(.slice none 0 0),(.slice none 0 0),bz,o.sp 9 [6,7,1,0,3]⟩
 ·rintro ab fl _ w ⟨ak,bg,al,O,rfl,o⟩ hb
  refine RC.seq (RC.sr (RL.aS (f:=(fun x=>x)) 4 o zr Fd.self cV (RL.jV ab.2.2.2 1 (RL.cG 1 ai o fw fun cp o=>(RL.bO 0 ai o lT (ic ((IntKind.wrap .i64 (ab.2.2.2+1))) ((ai.length:Int)) (RL.nt (fZ hb (fun hc hb=>?_) fun hc hb=>?_))))))))
  rotate_left
  ·refine RC.ex ?_
   obtain rfl:=oi hb
   exact⟨rfl,ak,o.sp 6 [1,2,3]⟩
  refine RC.ss (RC.bs (mv bg ?_))
  have o:=o.ki (i:=5) rfl
  refine RL.makeFunc zt zr [(vp ag 0),(vp al 0)] zr ?_
  have o:=o.pull 4
  obtain⟨cq,b1,hb⟩:=bd hb
  refine RL.call trivial rfl Hd [bg,(.func (.func 36) #[] #[(vp ag 0),(vp al 0)])] rfl (aD (m7 N o ⟨36,[(vp ag 0),(vp al 0)],rfl,Hc,fun w Γl v y0 r i o hi hr=>by exact aD (sL N (i0:=i) (i1:=Γl.length+2) (i2:=Γl.length+5) o hi (wR rfl) (wR rfl) hr) fun _ _ h=>h⟩ b1) ?_)
  rintro bh w o
  refine aN bh (RL.nq ?_)
  obtain⟨cr,hN,hb⟩:=bd hb
  refine RC.iter (fun(af: (List aG)×Int) U w=>∃bj:Value,SH E V [(0,ae),(3,vp ag 0),(6,ak),(7,bj),(8,vi af.2),(9,vp al 0)] [own 42 ae ah,pt (vp ag 0) ai,own 86 ak ab.1,pt (vp al 0) ab.2.2.2,own 42 bj af.1] U w) (fun(af: (List aG)×Int) U w=>∃ar:Value,SH E V [(0,ae),(3,vp ag 0),(6,ak),(7,ar),(8,vi af.2),(9,vp al 0)] [own 42 ae ah,pt (vp ag 0) ai,own 86 ak ab.1,pt (vp al 0) ab.2.2.2,own 42 ar af.1] U w) (fun(r:Empty) _ _=>r.elim) hN ?_ ?_ ?_ ?_
  ·exact⟨bh,o.sp 7 [2,3,4,6,0]⟩
  ·rintro af fl _ w ⟨ax,O,rfl,o⟩ hb
   refine RC.seq (RC.seq ?_)
   obtain⟨a3,hj,hb⟩:=bd hb
   refine RC.jn (fun(a3:Bool)=>SH E V [(0,ae),(3,vp ag 0),(6,ak),(7,ax),(8,vi af.2),(9,vp al 0),(57,vb a3)] [own 42 ae ah,pt (vp ag 0) ai,own 86 ak ab.1,own 42 ax af.1,pt (vp al 0) ab.2.2.2]) a3 ?_ ?_
   ·refine RC.xR mixed ?_
    have o:=o.drew
    refine RO.go (mv (vi af.2) (RO.nx (mv ae (RO.nx (RL.fU 0 ah o pT (RO.nx (ic af.2 ((ah.length:Int)) (RO.nx ?_))))))))
    refine mv (vb (decide (af.2< (ah.length:Int)))) (iz hj (fun ad hj=>?_) fun ad hj=>?_)
    rotate_left
    ·refine RO.nx (cD ad (RO.nx (cD ad (RO.nx (cD ad (RO.nx (cD ad (RO.nx ?_))))))))
     refine cD ad (RO.nx (cD ad (RO.nx (cD ad (RO.nx (cD ad (RO.nx (cD ad ?_))))))))
     refine RO.nx (cD ad (RO.nx (iJ ad (vb false) (RO.last ?_))))
     obtain rfl:=oi hj
     exact⟨rfl,o.sp 5 [0,1,2,4,3]⟩
    refine RO.nx (RL.move ae (cg ad) (RO.nx (RL.move (vi af.2) (cg ad) (RO.nx ?_))))
    obtain⟨bk,ay,hj⟩:=bd hj
    refine RL.bM (hg:=(cg ad)) 0 o zr zr lh ay (RO.nx (RL.l4 (hg:=(cg ad)) (α:=aG) (jQ 0 o ay 0) j5 (RO.nx (RL.dN (hg:=(cg ad)) 0 o (jQ 0 o ay 1) (aY ay).2.1 fB cV (RO.nx (RL.cG (hg:=(cg ad)) 1 ai o fw fun ct o=>?_))))))
    refine RO.nx (RL.bQ (hg:=(cg ad)) ab.2.2.2 4 o cV (RO.nx ?_))
    obtain⟨a4,b2,hj⟩:=bd hj
    refine RL.cQ (hg:=(cg ad)) 0 o fx b2 fun cu o=>(RO.nx (RL.bQ (hg:=(cg ad)) a4 0 o cV (RO.nx (RL.k7 bk.Y0 a4 (cg ad) (RO.nx (iJ ad (vb (decide (bk.Y0<=a4))) (RO.last ?_)))))))
    obtain rfl:=oi hj
    exact⟨rfl,o.sp 7 [2,3,4,6,5]⟩
   rintro _ w ⟨O,rfl,o⟩
   refine aJ (fZ hb (fun hc hb=>?_) fun hc hb=>?_)
   rotate_left
   ·refine RC.ex ?_
    obtain rfl:=oi hb
    exact⟨rfl,ax,o.sp 5 [0,1,2,4,3]⟩
   refine RC.sn (RC.block (RC.region (mv ax (mv ae (mv (vi af.2) ?_)))))
   obtain⟨b3,a5,hb⟩:=bd hb
   refine RL.bM 0 o zr zr lh a5 (RL.kj (f:=(fun x=>x)) 0 o (jQ 0 o a5 0) (aY a5).2.1 Fd.self gU fun b4 o=>?_)
   refine RL.fI ([b3]: (List aG)) o [b4] lh nL (fun M hs g=>⟨(g.sat 0 _ zr).1,zt⟩) fun cv w o=>?_
   have o:=o.freeze 0
   obtain⟨cw,b5,hb⟩:=bd hb
   refine RL.app 5 0 o Bb b5 fun bl w o=>?_
   refine mv (vi af.2) (RL.jV af.2 1 (aN bl (aN (vi (IntKind.wrap .i64 (af.2+1))) (RL.nil (bZ ?_)))))
   obtain rfl:=oi hb
   exact⟨rfl,bl,o.sp 7 [2,3,4,6,5]⟩
  ·intro r _ _ _ _
   exact r.elim
  rintro af _ w rfl ⟨ar,O,rfl,o⟩
  rw [Fo.gL] at hb
  refine aJ (RC.Ah mixed [1,1,1,1,1,1,1,1,1,1,0,2,0,2,0] [0,1,2,3,4,5,6,7,8,9,10,11,12,13,14] ?_)
  have o:=o.drew
  refine DP.e1 ak zr (fun w=>RL.move ak zt DP.d1) (DP.yr ai 1 zr zt o fw fun cx a305 cy o=>(DP.Aj ab.2.2.2 5 zr zr zr o zr zr cV fun a307 cz o=>?_))
  obtain⟨az,b6,hb⟩:=bd hb
  refine DP.EP 2 zr zr zt zr o zr zr zr fx b6 fun c0 o=>(DP.Aj az 0 zr zr zr o zr zr cV fun a311 c1 o=>(DP.yr ai 6 zr zt o fw fun c2 a314 c3 o=>(DP.Aj ab.2.2.2 10 zr zr zr o zr zr cV fun a316 c4 o=>(DP.e1 (vi (IntKind.wrap .i64 (ab.2.2.2+1))) zr (fun w=>RL.jV ab.2.2.2 1 DP.d1) ?_))))
  obtain⟨a0,b7,hb⟩:=bd hb
  refine DP.EP 2 zr zr zt zr o zr zr zr fx b7 fun c5 o=>(DP.Aj a0 0 zr zr zr o zr zr cV fun a320 c6 o=>(DP.e0 zr (mv ar (uB zr ?_))))
  have o:=o.pull 14
  obtain⟨b8,b9,hb⟩:=bd hb
  refine RL.call zt zr Hf [ar] zr (aD (rN N o b9) ?_)
  rintro ca w o
  refine DP.d2 (⟨⟨⟨⟨⟨⟨zt,o.lS 10⟩,o.lS 9⟩,o.lS 7⟩,o.lS 5⟩,o.lS 4⟩,o.lS 2⟩) (DP.e0 zr ?_)
  have o:=((o.sc Int az).sc Int a0).freeze 2
  refine RL.build (⟨az,a0,b8.1⟩:aA) trivial rfl o [(0,vi az),(1,vi a0),(2,ca)] rfl FF rfl (fun M hs g=>by have h:=sD M;exact dR.cons (f:=fun(x:aA) y=>{x with Y0:=y}) h pd (g.sat 1 _ rfl).1 fun _ h=>dR.cons (f:=fun(x:aA) y=>{x with Y1:=y}) h l7 (g.sat 0 _ rfl).1 fun _ h=>dR.cons (f:=fun(x:aA) y=>{x with Xs:=y}) h pf (g.sat 2 _ rfl).1 fun _ h=>dR.nil h) fun cb o=>?_
  refine uB zr ?_
  have o:=o.pull 17
  obtain⟨c7,cc,hb⟩:=bd hb
  refine RL.call zt zr FG [ak,cb] zr (aD (nu N (i1:=0) o zr cc) ?_)
  rintro bm w o
  refine DP.d2 (⟨⟨⟨⟨⟨⟨zt,o.lS 14⟩,o.lS 13⟩,o.lS 11⟩,o.lS 9⟩,o.lS 8⟩,o.lS 6⟩) (DP.e0 zr (aN bm (DP.d0 ?_)))
  have o:=o.pl 21 [0,1,2,3,4,5,7,10,12,15,16,17,18,19,20]
  refine DP.z (bZ (aJ (RC.seq (RC.sr (RL.bQ ab.2.2.2 13 o cV (RL.nt (RC.region (RL.alloc o Dr.z fun cd w o=>?_))))))))
  have o:=o.sc Int ab.2.2.2
  refine RL.aZ 1 o 0 zr cV fun w o=>?_
  refine RL.nt (RC.region (RL.aS (f:=(fun x=>x)) 1 o zr Fd.self cV (RL.jV ab.2.2.2 1 ?_)))
  have o:=o.sc Int (IntKind.wrap .i64 (ab.2.2.2+1))
  refine RL.B3 (i:=2) (j:=0) zt o zr zr zr zr cV fun w o=>?_
  refine RL.nil ?_
  obtain rfl:=oi hb
  exact⟨rfl,bm,ar,cd,o.sp 18 [13,14,3,8,2]⟩
 ·intro r _ _ _ _
  exact r.elim
 rintro ab _ w rfl ⟨av,O,rfl,o⟩
 rw [Fo.gL] at hb
 refine aJ (RC.sr (mv av (aN av (RL.nt (RC.ret ?_)))))
 obtain rfl:=oi hb
 exact cA (o.pk 3 [2])
theorem jt {p0: (List aA)} {res: (List aG)} (j:Holds E w V) (h0:V[i0]? =some (rd v0 p0)) (o:fR N p0=some res):
    Calls bG 29 [v0].toArray w (gF (ky E V res)):=by
 unfold fR at o
 refine enter Tryz.func29 zr zr ?_
 have j:=j.dup (i0+0) h0
 refine RC.sr (aN (.slice none 0 0) (RL.ns (aN (.slice none 0 0) (RL.nq (RC.sr (mv v0 (RL.bO 0 p0 j qU (mv (vi 0) ?_))))))))
 refine RL.nt ?_
 obtain⟨ab,hN,o⟩:=bd o
 refine RC.fold (fun(ad:Nat) (ab: (List aG)) U w=>∃al:Value,SH E V [(3,al),(7,v0),(8,vi p0.length),(9,vi ad)] [rd v0 p0,own 42 al ab] U w) (fun(ab: (List aG)) U w=>∃ae:Value,SH E V [(3,ae)] [rd v0 p0,own 42 ae ab] U w) hN ?_ ?_ ?_ ?_
 ·have j:=j.dD aG 42
  exact⟨(.slice none 0 0),j.sp 2 [1,0]⟩
 ·rintro hm ab _ w ⟨au,O,rfl,j⟩
  refine RC.sr (ic ((p0.length:Int)) ((p0.length:Int)) (RL.nq (RC.dX px (RC.ex ?_))))
  exact⟨rfl,au,j.sp 2 [0,1]⟩
 ·rintro hm ad ab s' _ w hk ⟨av,O,rfl,j⟩ o
  refine RC.sr (ic ((ad:Int)) ((p0.length:Int)) (RL.nq (RC.dW (pw hk) (RC.ss (RC.bs ?_)))))
  obtain⟨iH,aw,o⟩:=bd o
  refine RL.cQ 0 j l9 aw fun a2 j=>(RL.cG 0 iH j xd fun a3 j=>(RL.alloc j Cm.z fun aj w j=>?_))
  refine RL.aZ 0 j 1 zr xd fun w j=>?_
  refine RL.ns (aN (vi 0) (RL.nt ?_))
  obtain⟨a4,hN,o⟩:=bd o
  refine RC.iter (fun(aa: (List aG)×Int) U w=>∃aq:Value,SH E V [(3,aq),(5,vp aj 0),(6,vi aa.2),(7,v0),(8,vi p0.length),(9,vi ad)] [bx 86 aj iH,rd v0 p0,own 42 aq aa.1] U w) (fun(aa: (List aG)×Int) U w=>∃ah:Value,SH E V [(3,ah),(7,v0),(8,vi p0.length),(9,vi ad)] [bx 86 aj iH,rd v0 p0,own 42 ah aa.1] U w) (fun(r:Empty) _ _=>r.elim) hN ?_ ?_ ?_ ?_
  ·exact⟨av,j.sp 5 [0,3,4]⟩
  ·rintro aa fl _ w ⟨ak,O,rfl,j⟩ o
   refine RC.seq (RC.sr (mv (vi aa.2) (RL.bF zr lj (RL.aR 0 j zr cR fw fun a6 j=>(RL.bO 0 iH.Xs j lT (ic aa.2 ((iH.Xs.length:Int)) (RL.nt (fZ o (fun hc o=>?_) fun hc o=>?_))))))))
   rotate_left
   ·refine RC.ex ?_
    obtain rfl:=oi o
    exact⟨rfl,ak,j.sp 4 [1,2,3]⟩
   refine RC.ss (RC.block (RC.Ah mixed [1,0,0,0,0,0,0,0,0,0,0,0,0,0,0,0,0,2,2,0] [0,1,2,3,4,5,6,7,8,9,10,11,12,13,14,15,16,17,18,19] ?_))
   have j:=j.drew
   refine DP.e1 ak zr (fun w=>RL.move ak zt DP.d1) (DP.e0 zr (RL.bF zr lj (dJ zr (RL.aR 1 j zr cR fw fun a7 j=>(dJ zr (mv (vi aa.2) (dJ zr ?_)))))))
   obtain⟨af,ay,o⟩:=bd o
   refine RL.cQ 0 j fx ay fun a8 j=>(dJ zr (RL.bQ af 0 j cV (dJ zr (RL.bF zr oT (dJ zr (RL.aS 3 j zr eX cV (dJ zr (RL.bF zr lj ?_))))))))
   refine dJ zr (RL.aR 3 j zr cR fw fun a9 j=>(dJ zr (mv (vi aa.2) (dJ zr (RL.jV aa.2 1 (dJ zr ?_))))))
   obtain⟨ag,az,o⟩:=bd o
   refine RL.cQ 0 j fx az fun ba j=>(dJ zr (RL.bQ ag 0 j cV (dJ zr (RL.bF zr l8 (dJ zr (RL.aS 5 j zr dS cV (dJ zr ?_)))))))
   have j:=(((j.sc Int af).sc Int iH.Y0).sc Int ag).sc Int iH.Y1
   refine RL.build (⟨af,iH.Y0,ag,iH.Y1⟩:aG) trivial rfl j [(0,vi af),(1,vi iH.Y0),(2,vi ag),(3,vi iH.Y1)] rfl Bc rfl (fun M hs g=>by have h:=rG M;exact dR.cons (f:=fun(x:aG) y=>{x with X0:=y}) h n7 (g.sat 3 _ rfl).1 fun _ h=>dR.cons (f:=fun(x:aG) y=>{x with Y0:=y}) h qD (g.sat 2 _ rfl).1 fun _ h=>dR.cons (f:=fun(x:aG) y=>{x with X1:=y}) h n8 (g.sat 1 _ rfl).1 fun _ h=>dR.cons (f:=fun(x:aG) y=>{x with Y1:=y}) h qE (g.sat 0 _ rfl).1 fun _ h=>dR.nil h) fun a0 j=>?_
   refine uB zr (RL.fI ([(⟨af,iH.Y0,ag,iH.Y1⟩:aG)]: (List aG)) j [a0] lh nL (fun M hs g=>⟨(g.sat 0 _ zr).1,zt⟩) fun bb w j=>(EN zr ?_))
   have j:=j.freeze 0
   obtain⟨bc,a1,o⟩:=bd o
   refine RL.app 13 0 j Bb a1 fun ar w j=>?_
   refine Ai zr (aN ar (DP.d0 (DP.z (bZ (aJ (RC.region (mv (vi aa.2) (RL.jV aa.2 2 ?_))))))))
   refine aN (vi (IntKind.wrap .i64 (aa.2+2))) (RL.nil ?_)
   obtain rfl:=oi o
   exact⟨rfl,ar,j.sp 14 [11,12,13]⟩
  ·intro r _ _ _ _
   exact r.elim
  rintro aa _ w rfl ⟨ah,O,rfl,j⟩
  rw [Fo.gL] at o
  refine bZ (aJ (RC.region (RL.inc hk hm (mv (vi ((ad+1:Nat):Int)) (RL.nil ?_)))))
  obtain rfl:=oi o
  exact⟨rfl,ah,j.sp 3 [1,2]⟩
 rintro _ w ⟨ae,O,rfl,j⟩
 refine aJ (RC.sr (mv ae (aN ae (RL.nt (RC.ret ?_)))))
 obtain rfl:=oi o
 exact cA (j.pk 2 [1])
def qX (E:World) (V:List HP) (r:Bool) (U:Nat->Value) (w:World):Prop:=mi bG 26 Tryz.f28 (bD E V r) .ret U w
theorem pW {p0: (List aG)} {p1: (List aG)} {res:Bool} (o:Holds E w V) (h0:V[i0]? =some (rd v0 p0)) (h1:V[i1]? =some (rd v1 p1)) (hb:iq N p0 p1=some res):
    Calls bG 28 [v0,v1].toArray w (gF (bD E V res)):=by
 unfold iq at hb
 refine enter Tryz.func28 zr zr ?_
 have o:=(o.dup (i0+0) h0).dup (i1+1) h1
 refine RC.sr (aN (vb false) (RL.nq (RC.sr (mv v0 (RL.bO 1 p0 o pT (mv v1 (RL.bO 0 p1 o pT (ic ((p0.length:Int)) ((p1.length:Int)) ?_))))))))
 refine RL.nt (fZ hb (fun hc hb=>?_) fun hc hb=>?_)
 ·refine RC.sr (aN (vb false) (RL.nt (RC.rt ?_)))
  obtain rfl:=oi hb
  exact cA ⟨rfl,o.drop 2⟩
 refine RC.ss (RC.sr (mv v0 (RL.bO 1 p0 o pT (mv (vi 0) (RL.nt ?_)))))
 obtain⟨ao,hN,hb⟩:=bd hb
 refine RC.range (fun(ab:Nat) (ad:Unit)=>SH E V [(0,v0),(1,v1),(12,vi p0.length),(13,vi ab)] [rd v0 p0,rd v1 p1]) (fun(ad:Unit)=>SH E V [] [rd v0 p0,rd v1 p1]) (qX E V) hN ?_ ?_ ?_ ?_ ?_
 ·exact o.sp 2 [1,0]
 ·rintro hm ad _ w ⟨O,rfl,o⟩
  refine RC.sr (ic ((p0.length:Int)) ((p0.length:Int)) (RL.nq (RC.dX px (RC.ex ?_))))
  exact⟨rfl,o.sp 2 [0,1]⟩
 ·rintro hm ab ad fl _ w hk ⟨O,rfl,o⟩ hb
  refine RC.sr (ic ((ab:Int)) ((p0.length:Int)) (RL.nq (RC.dW (pw hk) (RC.ss (RC.bs (mv (vi ab) (aN (vi ab) (RL.nq ?_))))))))
  refine RC.xR mixed ?_
  have o:=o.drew
  refine RO.go (mv v0 (RO.nx (mv (vi ab) (RO.nx ?_))))
  obtain⟨ah,ak,hb⟩:=bd hb
  refine RL.cQ 0 o lh ak fun ar o=>(RO.nx (RL.cG 0 ah o gU fun au o=>(RO.nx (mv v1 (RO.nx (mv (vi ab) (RO.nx ?_)))))))
  obtain⟨ai,al,hb⟩:=bd hb
  refine RL.cQ 3 o lh al fun av o=>(RO.nx (RL.cG 0 ai o gU fun aw o=>(RO.nx (RL.Io (i:=2) (j:=0) (a:=ah) (b:=ai) zt zr o zr zr zr zr Eg zr (RO.last (aJ (fZ hb (fun hc hb=>?_) fun hc hb=>?_)))))))
  rotate_left
  ·refine RC.skip (bZ (aJ (RC.region (RL.inc hk hm (mv (vi ((ab+1:Nat):Int)) (RL.nil ?_))))))
   obtain rfl:=oi hb
   exact⟨rfl,o.sp 6 [4,5]⟩
  refine RC.sr (aN (vb false) (RL.nt (RC.rb (cH ?_))))
  obtain rfl:=oi hb
  exact⟨rfl,cA ⟨rfl,o.drop 6⟩⟩
 ·intro r U w e hK
  subst e
  refine cH ?_
  obtain rfl:=oi hb
  exact hK
 rintro ad _ w rfl ⟨O,rfl,o⟩
 rw [Fo.gL] at hb
 refine aJ (RC.sr (aN (vb true) (RL.nt (RC.ret ?_))))
 obtain rfl:=oi hb
 exact cA ⟨rfl,o.drop 2⟩
def qY (E:World) (V:List HP) (r:Int) (U:Nat->Value) (w:World):Prop:=mi bG 52 Tryz.f15 (aQ E V r) .ret U w
theorem iA {p0: (List aG)} (j:Holds E w V) (h0:V[i0]? =some (rd v0 p0)) (hb:dZ N p0=some res):
    Calls bG 15 [v0].toArray w (gF (aQ E V res)):=by
 unfold dZ at hb
 refine enter Tryz.func15 zr zr ?_
 have j:=j.dup (i0+0) h0
 refine RC.sr (aN (vi 0) (RL.nq (RC.sr (mv v0 ?_))))
 obtain⟨av,ay,hb⟩:=bd hb
 refine RL.call zt zr G7 [v0] zr (aD (qV N (i0:=0) j zr ay) ?_)
 rintro _ w ⟨rfl,j⟩
 refine aN (vi av) (RL.ns (mv (vi av) (ic av 0 (RL.nt (fZ hb (fun hc hb=>?_) fun hc hb=>?_)))))
 ·refine RC.sr (mv (vi av) (aN (vi av) (RL.nt (RC.rt ?_))))
  obtain rfl:=oi hb
  exact cA ⟨rfl,j.drop 1⟩
 refine RC.ss (RC.sr (aN (vi 1) (RL.nt ?_)))
 obtain⟨bg,hN,hb⟩:=bd hb
 refine RC.iter (fun(ao:Int)=>SH E V [(0,v0),(4,vi ao)] [rd v0 p0]) (fun(ao:Int)=>SH E V [(0,v0)] [rd v0 p0]) (qY E V) hN ?_ ?_ ?_ ?_
 ·exact j.sp 1 [0]
 ·rintro ao fl _ w ⟨O,rfl,j⟩ hb
  refine RC.seq (RC.sr (mv (vi ao) (mv v0 (RL.bO 0 p0 j pT (ic ao ((p0.length:Int)) (RL.nt (fZ hb (fun hc hb=>?_) fun hc hb=>?_)))))))
  rotate_left
  ·refine RC.ex ?_
   obtain rfl:=oi hb
   exact⟨rfl,j.sp 1 [0]⟩
  refine RC.ss (RC.block (RC.seq ?_))
  obtain⟨o,a1,hb⟩:=bd hb
  obtain⟨aa,a2,hb⟩:=bd hb
  refine RC.Dq E V mixed [1,1,1,0,0,1,1,0,0,0,0,0,0] [3,4,7,8,9,10,11,12] (fun(x:Value×Value×Value×Value×Nat×Nat)=>(fun ah ai aj ak ae af=>[(0,18,v0),(1,19,(vi ao)),(2,20,(vi (IntKind.wrap .i64 (ao - 1)))),(3,21,ah),(4,22,ai),(5,23,v0),(6,24,(vi ao)),(7,25,aj),(8,26,ak),(9,5,(vp ae 0)),(10,6,(vp af 0))]) x.1 x.2.1 x.2.2.1 x.2.2.2.1 x.2.2.2.2.1 x.2.2.2.2.2) [(0,v0),(4,vi ao)] [] (fun(D:Nat->Bool) (x:Value×Value×Value×Value×Nat×Nat)=>(fun ah ai aj ak ae af=>[bif D 0 then (pt ah o) else aX,bif D 1 then (rd ai o) else aX,bif D 2 then (pt aj aa) else aX,bif D 3 then (rd ak aa) else aX,bif D 6 then (bx 42 ae o) else (bif D 4 then (raw 42 ae 4) else aX),bif D 7 then (bx 42 af aa) else (bif D 5 then (raw 42 af 4) else aX),rd v0 p0]) x.1 x.2.1 x.2.2.1 x.2.2.2.1 x.2.2.2.2.1 x.2.2.2.2.2) (fun x=>by kernel_rfl) ?_ ⟨fun _=>jJ gn,fun _=>jJ gn,fun _=>EM gn rfl,?_,?_,fun _=>jJ gn,fun _=>jJ gn,?_,?_,?_,?_,?_,?_,trivial⟩ ?_
  ·have j:=((((((j.drew).aX).aX).aX).aX).aX).aX
   exact⟨(undef,undef,undef,undef,0,0),eC.none,(B1 zr),zt,j⟩
  ·rintro D U w hD ag aq ⟨⟨ah,ai,aj,ak,ae,af⟩,hv,ha,_,j⟩
   obtain⟨O,rfl⟩:=(ac (hv.at 0 rfl (ag.1 rfl)) (ac (hv.at 2 rfl (ag.2.1 rfl)) az)).fG
   have j:=j.bP 0 hD
   refine RL.cQ 6 j lh a1 fun a3 j=>?_
   have j:=(j.pl 8 [0,2,3,4,5,6,7]).cC 0 true rfl aX
   exact RL.nil ⟨rfl,(a3,ai,aj,ak,ae,af),hv.pu 3,ha.u,zt,j⟩
  ·rintro D U w hD ag aq ⟨⟨ah,ai,aj,ak,ae,af⟩,hv,ha,_,j⟩
   obtain⟨O,rfl⟩:=(ac (hv.at 3 rfl (ag.1 rfl)) az).fG
   have j:=(j.cB 0 (ag.1 rfl)).bP 1 hD
   refine RL.cG 0 o j gU fun a4 j=>?_
   have j:=((j.pl 8 [1,0,3,4,5,6,7]).cC 0 (D 3) (ag.1 rfl) aX).cC 1 true rfl aX
   exact RL.nil ⟨rfl,(ah,a4,aj,ak,ae,af),hv.pu 4,ha.u,zt,j⟩
  ·rintro D U w hD ag aq ⟨⟨ah,ai,aj,ak,ae,af⟩,hv,ha,_,j⟩
   obtain⟨O,rfl⟩:=(ac (hv.at 5 rfl (ag.1 rfl)) (ac (hv.at 6 rfl (ag.2.1 rfl)) az)).fG
   have j:=j.bP 2 hD
   refine RL.cQ 6 j lh a2 fun a5 j=>?_
   have j:=(j.pl 8 [1,2,0,4,5,6,7]).cC 2 true rfl aX
   exact RL.nil ⟨rfl,(ah,ai,a5,ak,ae,af),hv.pu 7,ha.u,zt,j⟩
  ·rintro D U w hD ag aq ⟨⟨ah,ai,aj,ak,ae,af⟩,hv,ha,_,j⟩
   obtain⟨O,rfl⟩:=(ac (hv.at 7 rfl (ag.1 rfl)) az).fG
   have j:=(j.cB 2 (ag.1 rfl)).bP 3 hD
   refine RL.cG 2 aa j gU fun a6 j=>?_
   have j:=((j.pl 8 [1,2,3,0,5,6,7]).cC 2 (D 7) (ag.1 rfl) aX).cC 3 true rfl aX
   exact RL.nil ⟨rfl,(ah,ai,aj,a6,ae,af),hv.pu 8,ha.u,zt,j⟩
  ·rintro D U w hD ag aq ⟨⟨ah,ai,aj,ak,ae,af⟩,hv,ha,_,j⟩
   obtain⟨O,rfl⟩:=(az (U:=U)).fG
   have j:=(j.bP 4 (nh aq hD 11)).bP 4 hD
   refine RL.alloc j nL.z fun aw w j=>?_
   have j:=((j.pl 8 [1,2,3,4,0,6,7]).cC 4 true rfl aX).eP 4 (D 11) (nh aq hD 11) (bx 42 aw o)
   exact RL.nil ⟨rfl,(ah,ai,aj,ak,aw,af),hv.pu 9,ha.u,zt,j⟩
  ·rintro D U w hD ag aq ⟨⟨ah,ai,aj,ak,ae,af⟩,hv,ha,_,j⟩
   obtain⟨O,rfl⟩:=(az (U:=U)).fG
   have j:=(j.bP 5 (nh aq hD 12)).bP 5 hD
   refine RL.alloc j nL.z fun ax w j=>?_
   have j:=((j.pl 8 [1,2,3,4,5,0,7]).cC 5 true rfl aX).eP 5 (D 12) (nh aq hD 12) (bx 42 ax aa)
   exact RL.nil ⟨rfl,(ah,ai,aj,ak,ae,ax),hv.pu 10,ha.u,zt,j⟩
  ·rintro D U w hD ag aq ⟨⟨ah,ai,aj,ak,ae,af⟩,hv,ha,_,j⟩
   obtain⟨O,rfl⟩:=(ac (hv.at 4 rfl (ag.2.1 rfl)) (ac (hv.at 9 rfl (ag.1 rfl)) az)).fG
   have j:=((j.cB 1 (ag.2.1 rfl)).bP 4 hD).cB 4 (ag.1 rfl)
   refine RL.aZ 4 j 1 zr gU fun w j=>?_
   have j:=(j.cC 1 (D 4) (ag.2.1 rfl) aX).cC 4 true rfl (bif D 9 then (raw 42 ae 4) else aX)
   exact RL.nil ⟨rfl,(ah,ai,aj,ak,ae,af),hv.n1,ha,zt,j⟩
  ·rintro D U w hD ag aq ⟨⟨ah,ai,aj,ak,ae,af⟩,hv,ha,_,j⟩
   obtain⟨O,rfl⟩:=(ac (hv.at 8 rfl (ag.2.1 rfl)) (ac (hv.at 10 rfl (ag.1 rfl)) az)).fG
   have j:=((j.cB 3 (ag.2.1 rfl)).bP 5 hD).cB 5 (ag.1 rfl)
   refine RL.aZ 5 j 3 zr gU fun w j=>?_
   have j:=(j.cC 3 (D 8) (ag.2.1 rfl) aX).cC 5 true rfl (bif D 10 then (raw 42 af 4) else aX)
   exact RL.nil ⟨rfl,(ah,ai,aj,ak,ae,af),hv.n1,ha,zt,j⟩
  rintro D U w ar ⟨⟨ah,ai,aj,ak,ae,af⟩,hv,ha,_,j⟩
  have j:=(((((j.cB 0 (kS ar 3)).cB 1 (kS ar 4)).cB 2 (kS ar 7)).cB 3 (kS ar 8)).cB 4 (kS ar 11)).cB 5 (kS ar 12)
  obtain⟨O,rfl⟩:=(ac (hv.at 9 rfl (kS ar 9)) (ac (hv.at 10 rfl (kS ar 10)) (ac (ha.at 0 rfl) (ac (ha.at 1 rfl) az)))).fG
  refine aJ (RC.sr (RL.bF zr j5 (RL.aS 5 j zr fB cV (RL.bF zr j5 (RL.aS 4 j zr fB cV (ic aa.Y0 o.Y0 (mv (vb (decide (aa.Y0<o.Y0))) (RL.gs true (decide (aa.Y0<o.Y0)) (vp af 1) zr zr zr (eW j5) ?_))))))))
  refine RL.gs true (decide (aa.Y0<o.Y0)) (vi aa.Y0) rfl rfl rfl (bX 5 rfl j (fun h=>by exact(dE h:cv (true&&((decide (aa.Y0<o.Y0))==false)) (vp af 1)= (vp af 1))) rfl fB cV) (RL.gs true (decide (aa.Y0<o.Y0)) (vp ae 1) rfl rfl rfl (eW j5) (RL.gs true (decide (aa.Y0<o.Y0)) (vi o.Y0) rfl rfl rfl (bX 4 rfl j (fun h=>by exact(dE h:cv (true&&((decide (aa.Y0<o.Y0))==false)) (vp ae 1)= (vp ae 1))) rfl fB cV) (RL.gs true (decide (aa.Y0<o.Y0)) (vb (aa.Y0==o.Y0)) rfl rfl rfl (fE .eql .i64 aa.Y0 o.Y0 rfl (fun h=>by exact(dE h:cv (true&&((decide (aa.Y0<o.Y0))==false)) (vi aa.Y0)= (vi aa.Y0))) (fun h=>by exact(dE h:cv (true&&((decide (aa.Y0<o.Y0))==false)) (vi o.Y0)= (vi o.Y0))) rfl) (RL.gs true (decide (aa.Y0<o.Y0)) (vb (aa.Y0==o.Y0)) rfl rfl rfl (dO (hx:=fun h=>by exact(dE h:cv (true&&((decide (aa.Y0<o.Y0))==false)) (vb (aa.Y0==o.Y0))= (vb (aa.Y0==o.Y0))))) (RL.gs (true&&((decide (aa.Y0<o.Y0))==false)) (aa.Y0==o.Y0) (vp af 0) rfl rfl rfl (eW jr) (RL.gs (true&&((decide (aa.Y0<o.Y0))==false)) (aa.Y0==o.Y0) (vi aa.X0) rfl rfl rfl (bX 5 rfl j (fun h=>by exact(dE h:cv ((true&&((decide (aa.Y0<o.Y0))==false))&&((aa.Y0==o.Y0)==true)) (vp af 0)= (vp af 0))) rfl eQ cV) (RL.gs (true&&((decide (aa.Y0<o.Y0))==false)) (aa.Y0==o.Y0) (vp ae 0) rfl rfl rfl (eW jr) (RL.gs (true&&((decide (aa.Y0<o.Y0))==false)) (aa.Y0==o.Y0) (vi o.X0) rfl rfl rfl (bX 4 rfl j (fun h=>by exact(dE h:cv ((true&&((decide (aa.Y0<o.Y0))==false))&&((aa.Y0==o.Y0)==true)) (vp ae 0)= (vp ae 0))) rfl eQ cV) ?_))))))))
  refine RL.gs (true&&((decide (aa.Y0<o.Y0))==false)) (aa.Y0==o.Y0) (vb (decide (aa.X0<=o.X0))) rfl rfl rfl (fE .leq .i64 aa.X0 o.X0 rfl (fun h=>by exact(dE h:cv ((true&&((decide (aa.Y0<o.Y0))==false))&&((aa.Y0==o.Y0)==true)) (vi aa.X0)= (vi aa.X0))) (fun h=>by exact(dE h:cv ((true&&((decide (aa.Y0<o.Y0))==false))&&((aa.Y0==o.Y0)==true)) (vi o.X0)= (vi o.X0))) rfl) (RL.gs true (decide (aa.Y0<o.Y0)) (vb ((aa.Y0==o.Y0)&&(decide (aa.X0<=o.X0)))) rfl rfl rfl (qB (aa.Y0==o.Y0) rfl (fun h=>by exact(dE h:cv (true&&((decide (aa.Y0<o.Y0))==false)) (vb (aa.Y0==o.Y0))= (vb (aa.Y0==o.Y0)))) (fun h=>by exact jk (h:=h) (true&&((decide (aa.Y0<o.Y0))==false)))) (RL.pick (decide (aa.Y0<o.Y0)) (vb ((decide (aa.Y0<o.Y0))||((aa.Y0==o.Y0)&&(decide (aa.X0<=o.X0))))) (o8 true rfl) (RL.nt (fZ hb (fun hc hb=>?_) fun hc hb=>?_))))
  ·refine RC.sr (aN (vi 8) (RL.nt (RC.rb (cH ?_))))
   obtain rfl:=oi hb
   exact⟨rfl,cA ⟨rfl,j.drop 7⟩⟩
  refine RC.skip (bZ (aJ (RC.region (mv (vi ao) (RL.jV ao 1 (aN (vi (IntKind.wrap .i64 (ao+1))) (RL.nil ?_)))))))
  obtain rfl:=oi hb
  exact⟨rfl,j.sp 7 [6]⟩
 ·intro r U w e hK
  subst e
  refine cH ?_
  obtain rfl:=oi hb
  exact hK
 rintro ao _ w rfl ⟨O,rfl,j⟩
 rw [Fo.gL] at hb
 refine aJ (RC.seq (RC.sr (mv v0 ?_)))
 obtain⟨bj,a8,hb⟩:=bd hb
 refine RL.call zt zr xe [v0] zr (aD (fO N (i0:=0) j zr a8) ?_)
 rintro a9 w j
 have j:=j.freeze 0
 obtain⟨bk,ba,hb⟩:=bd hb
 refine RL.call zt zr DJ [a9] zr (aD (jt N (i0:=0) j zr ba) ?_)
 rintro bb w j
 refine mv v0 ?_
 have j:=j.freeze 0
 obtain⟨bc,bf,hb⟩:=bd hb
 refine RL.call zt zr Hi [bb,v0] zr (aD (pW N (i0:=0) (i1:=2) j zr zr bf) ?_)
 rintro _ w ⟨rfl,j⟩
 refine RL.not bc (RL.nt (fZ hb (fun hc hb=>?_) fun hc hb=>?_))
 ·refine RC.sr (aN (vi 3) (RL.nt (RC.rt ?_)))
  obtain rfl:=oi hb
  exact cA ⟨rfl,j.drop 3⟩
 refine RC.sx (aN (vi 0) (RL.nt (RC.ret ?_)))
 obtain rfl:=oi hb
 exact cA ⟨rfl,j.drop 3⟩
theorem gJ {res:Bool} (o:Holds E w V) (j:dL N p0 p1 p2=some res):
    Calls bG 14 [(vi p0),(vi p1),(vi p2)].toArray w (gF (bD E V res)):=by
 unfold dL at j
 refine enter Tryz.func14 zr zr (RC.sr (aN (vb false) (RL.ns (mv (vi p0) (mv (vi p1) (ic p0 p1 (mv (vb (decide (p0>=p1))) (RL.gs true (decide (p0>=p1)) (vi p0) zr zr zr dO ?_))))))))
 refine RL.gs true (decide (p0>=p1)) (vi p2) rfl rfl rfl dO (RL.gs true (decide (p0>=p1)) (vb (decide (p0<=p2))) rfl rfl rfl (fE .leq .i64 p0 p2 rfl (fun h=>by exact(dE h:cv (true&&((decide (p0>=p1))==true)) (vi p0)= (vi p0))) (fun h=>by exact(dE h:cv (true&&((decide (p0>=p1))==true)) (vi p2)= (vi p2))) rfl) (RL.pick (decide (p0>=p1)) (vb ((decide (p0>=p1))&&(decide (p0<=p2)))) (jk true) (aN (vb ((decide (p0>=p1))&&(decide (p0<=p2)))) (RL.nt (RC.ret ?_)))))
 obtain rfl:=oi j
 exact cA ⟨rfl,o.drop 0⟩
theorem om {p0:iU} {res:Bool} (j:Holds E w V) (h0:V[i0]? =some (rd v0 p0)) (hb:gH N p0=some res):
    Calls bG 21 [v0].toArray w (gF (bD E V res)):=by
 unfold gH at hb
 refine enter Tryz.func21 zr zr ?_
 have j:=j.dup (i0+0) h0
 refine RC.sr (RL.cX 0 v0 j zr fun ai w j=>?_)
 refine aN (vb false) (RL.nq ?_)
 obtain⟨ad,o,hb⟩:=bd hb
 refine RC.jn (fun(ad:Bool)=>SH E V [(2,vb ad)] []) ad ?_ ?_
 ·refine RC.region (RL.bF zr xg (RL.aS 0 j zr oQ cV ?_))
  obtain⟨af,ag,o⟩:=bd o
  refine RL.call zt zr Ba [(vi p0.X)] zr (aD (jG N (p0:=p0.X) j ag) ?_)
  rintro _ w ⟨rfl,j⟩
  refine mv (vb af) (iz o (fun aa o=>?_) fun aa o=>?_)
  rotate_left
  ·refine cD aa (cD aa (cD aa (iJ aa (vb false) (aN (vb false) (RL.nil ?_)))))
   obtain rfl:=oi o
   exact⟨rfl,j.sp 2 []⟩
  refine RL.bF (hg:=(cg aa)) zr xh (RL.aS (hg:=(cg aa)) 0 j zr oR cV ?_)
  obtain⟨ae,ah,o⟩:=bd o
  refine RL.call (cg aa) zr Ba [(vi p0.Y)] zr (aD (jG N (p0:=p0.Y) j ah) ?_)
  rintro _ w ⟨rfl,j⟩
  refine iJ aa (vb ae) (aN (vb ae) (RL.nil ?_))
  obtain rfl:=oi o
  exact⟨rfl,j.sp 2 []⟩
 rintro _ w ⟨O,rfl,j⟩
 refine aJ (RC.ret ?_)
 obtain rfl:=oi hb
 exact cA ⟨rfl,j.drop 0⟩
end Go.Gk
