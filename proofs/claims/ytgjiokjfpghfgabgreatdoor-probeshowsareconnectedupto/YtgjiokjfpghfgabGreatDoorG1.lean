/-
  Printed texts: Go functions as plain functions, and that they are. No statement of the seed is proved here.
-/
import Derived.Test.YtgjiokjfpghfgabGreatDoorProg
import Derived.Test.YtgjiokjfpghfgabGreatDoorE1
import Derived.Test.YtgjiokjfpghfgabGreatDoorA1
import Derived.Test.YtgjiokjfpghfgabGreatDoorA2
import Derived.Test.YtgjiokjfpghfgabGreatDoorRows
import Derived.Shelf.SlGeneric
import Derived.Ground.SlsfProg
import Derived.Ground.SlgmProg
set_option linter.unusedVariables false
set_option linter.unusedSimpArgs false
set_option linter.unusedSectionVars false
set_option maxRecDepth 100000
set_option maxHeartbeats 4000000
namespace Go.Gk
open Go Go.Proofs
noncomputable abbrev bD:=Tryz.prog
def kD (x:aI):=(x.X0,x.Y0,x.X1,x.Y1)
instance instGTRect:GT aI:=GT.via kD
instance instKVRect:KV aI:=instKVvia (fun(x:aI)=>(x.X0,x.Y0,x.X1,x.Y1))
theorem eX:Fd 0 (fun x:aI=>x.X0):= .v kD (.fst .self)
theorem qS:Fs 0 Int (fun(x:aI) y=>{x with X0:=y}):= .v kD (.fst .self)
theorem fM:Fd 1 (fun x:aI=>x.Y0):= .v kD (.snd (.fst .self))
theorem tR:Fs 1 Int (fun(x:aI) y=>{x with Y0:=y}):= .v kD (.snd (.fst .self))
theorem fY:Fd 2 (fun x:aI=>x.X1):= .v kD (.snd (.snd (.fst .self)))
theorem oA:Fs 2 Int (fun(x:aI) y=>{x with X1:=y}):= .v kD (.snd (.snd (.fst .self)))
theorem i9:Fd 3 (fun x:aI=>x.Y1):= .v kD (.snd (.snd (.snd (.self))))
theorem qT:Fs 3 Int (fun(x:aI) y=>{x with Y1:=y}):= .v kD (.snd (.snd (.snd (.self))))
def tS (x:je):=(x.X,x.Y)
instance instGTPoint:GT je:=GT.via tS
instance instKVPoint:KV je:=instKVvia (fun(x:je)=>(x.X,x.Y))
theorem o6:Fd 0 (fun x:je=>x.X):= .v tS (.fst .self)
theorem o7:Fd 1 (fun x:je=>x.Y):= .v tS (.snd (.self))
def oC (x:bM):=(x.At,x.eN,x.cQ,x.To,x.gE)
instance instGTBore:GT bM:=GT.via oC
theorem tT:Fd 0 (fun x:bM=>x.At):= .v oC (.fst .self)
theorem oD:Fd 2 (fun x:bM=>x.eN):= .v oC (.snd (.fst .self))
theorem lV:Fd 3 (fun x:bM=>x.cQ):= .v oC (.snd (.snd (.fst .self)))
theorem m6:Fd 4 (fun x:bM=>x.To):= .v oC (.snd (.snd (.snd (.fst .self))))
theorem qU:Fd 5 (fun x:bM=>x.gE):= .v oC (.snd (.snd (.snd (.snd (.self)))))
def ng (x:cK):=(x.Part,x.fB,x.eK,x.At)
instance instGTLand:GT cK:=GT.via ng
theorem xe:Fd 0 (fun x:cK=>x.Part):= .v ng (.fst .self)
theorem BP:Fs 0 cX (fun(x:cK) y=>{x with Part:=y}):= .v ng (.fst .self)
theorem xf:Fd 1 (fun x:cK=>x.fB):= .v ng (.snd (.fst .self))
theorem BQ:Fs 1 cX (fun(x:cK) y=>{x with fB:=y}):= .v ng (.snd (.fst .self))
theorem tU:Fd 2 (fun x:cK=>x.eK):= .v ng (.snd (.snd (.fst .self)))
theorem tV:Fd 3 (fun x:cK=>x.At):= .v ng (.snd (.snd (.snd (.self))))
def sO (x:iD):=(x.aJ,x.cW,x.aU,x.aZ)
instance instGTArt:GT iD:=GT.via sO
theorem oE:Fd 0 (fun x:iD=>x.aJ):= .v sO (.fst .self)
theorem vr:Fd 1 (fun x:iD=>x.cW):= .v sO (.snd (.fst .self))
theorem pV:Fd 2 (fun x:iD=>x.aU):= .v sO (.snd (.snd (.fst .self)))
theorem pW:Fd 3 (fun x:iD=>x.aZ):= .v sO (.snd (.snd (.snd (.self))))
def sP (x:fB):=(x.Part,x.fB)
instance instGTPin:GT fB:=GT.via sP
instance instKVPin:KV fB:=instKVvia (fun(x:fB)=>(x.Part,x.fB))
theorem zh:Fd 0 (fun x:fB=>x.Part):= .v sP (.fst .self)
theorem vt:Fs 0 cX (fun(x:fB) y=>{x with Part:=y}):= .v sP (.fst .self)
theorem zi:Fd 1 (fun x:fB=>x.fB):= .v sP (.snd (.self))
theorem vu:Fs 1 cX (fun(x:fB) y=>{x with fB:=y}):= .v sP (.snd (.self))
def sQ (x:Test):=(x.A,x.B,x.Joined)
instance instGTTest:GT Test:=GT.via sQ
theorem k6:Fd 0 (fun x:Test=>x.A):= .v sQ (.fst .self)
theorem k7:Fd 2 (fun x:Test=>x.B):= .v sQ (.snd (.fst .self))
theorem xg:Fd 4 (fun x:Test=>x.Joined):= .v sQ (.snd (.snd (.self)))
def o8 (x:dO):=(x.bM,x.Number)
instance instGTHop:GT dO:=GT.via o8
instance instKVHop:KV dO:=instKVvia (fun(x:dO)=>(x.bM,x.Number))
theorem vv:Fd 0 (fun x:dO=>x.bM):= .v o8 (.fst .self)
theorem CY:Fs 0 Bool (fun(x:dO) y=>{x with bM:=y}):= .v o8 (.fst .self)
theorem ni:Fd 1 (fun x:dO=>x.Number):= .v o8 (.snd (.self))
theorem zj:Fs 1 Int (fun(x:dO) y=>{x with Number:=y}):= .v o8 (.snd (.self))
def oF (x:eT):=(x.Open,x.dO,x.A,x.B)
instance instGTFlaw:GT eT:=GT.via oF
theorem lW:Fd 0 (fun x:eT=>x.Open):= .v oF (.fst .self)
theorem m7:Fd 1 (fun x:eT=>x.dO):= .v oF (.snd (.fst .self))
theorem qV:Fd 3 (fun x:eT=>x.A):= .v oF (.snd (.snd (.fst .self)))
theorem qW:Fd 4 (fun x:eT=>x.B):= .v oF (.snd (.snd (.snd (.self))))
def ik (x:aA):=(x.Y0,x.Y1,x.Xs)
instance instGTshape_Band:GT aA:=GT.via ik
theorem fz:Fd 0 (fun x:aA=>x.Y0):= .v ik (.fst .self)
theorem pz:Fs 0 Int (fun(x:aA) y=>{x with Y0:=y}):= .v ik (.fst .self)
theorem dV:Fd 1 (fun x:aA=>x.Y1):= .v ik (.snd (.fst .self))
theorem mx:Fs 1 Int (fun(x:aA) y=>{x with Y1:=y}):= .v ik (.snd (.fst .self))
theorem cU:Fd 2 (fun x:aA=>x.Xs):= .v ik (.snd (.snd (.self)))
theorem pA:Fs 2 (List Int) (fun(x:aA) y=>{x with Xs:=y}):= .v ik (.snd (.snd (.self)))
def gZ (x:aH):=(x.eK,x.Set,x.mG)
instance instGTcopper_Piece:GT aH:=GT.via gZ
theorem nP:Fd 0 (fun x:aH=>x.eK):= .v gZ (.fst .self)
theorem sR:Fs 0 Int (fun(x:aH) y=>{x with eK:=y}):= .v gZ (.fst .self)
theorem sS:Fs 1 (List aA) (fun(x:aH) y=>{x with Set:=y}):= .v gZ (.snd (.fst .self))
theorem nQ:Fd 2 (fun x:aH=>x.mG):= .v gZ (.snd (.snd (.self)))
theorem sT:Fs 2 (List aI) (fun(x:aH) y=>{x with mG:=y}):= .v gZ (.snd (.snd (.self)))
def BR (x:cI):=(x.mu,x.aU,x.iw)
instance instGTGroup:GT cI:=GT.via BR
theorem CZ (M:dB):GT.ok M (#[(.string ⟨#[]⟩),(.string ⟨#[]⟩)]:Array Value).toList (⟨⟨[]⟩,⟨[]⟩⟩:fB):=⟨[(.string ⟨#[]⟩)],[(.string ⟨#[]⟩)],rfl,(show GT.ok M [(.string ⟨#[]⟩)] (⟨[]⟩:cX) from rfl),(show GT.ok M [(.string ⟨#[]⟩)] (⟨[]⟩:cX) from rfl)⟩
theorem rT (M:dB):GT.ok M (#[(.int .i64 0),(.int .i64 0),(.int .i64 0),(.int .i64 0)]:Array Value).toList (⟨0,0,0,0⟩:aI):=⟨[(.int .i64 0)],[(.int .i64 0),(.int .i64 0),(.int .i64 0)],rfl,(show GT.ok M [(.int .i64 0)] (0:Int) from rfl),⟨[(.int .i64 0)],[(.int .i64 0),(.int .i64 0)],rfl,(show GT.ok M [(.int .i64 0)] (0:Int) from rfl),⟨[(.int .i64 0)],[(.int .i64 0)],rfl,(show GT.ok M [(.int .i64 0)] (0:Int) from rfl),(show GT.ok M [(.int .i64 0)] (0:Int) from rfl)⟩⟩⟩
theorem Et (M:dB):GT.ok M (#[(.int .i64 0),(.int .i64 0)]:Array Value).toList (⟨0,0⟩:je):=⟨[(.int .i64 0)],[(.int .i64 0)],rfl,(show GT.ok M [(.int .i64 0)] (0:Int) from rfl),(show GT.ok M [(.int .i64 0)] (0:Int) from rfl)⟩
theorem FK (M:dB):GT.ok M (#[(.string ⟨#[]⟩),(.string ⟨#[]⟩),(.int .i64 0),(.int .i64 0),(.int .i64 0)]:Array Value).toList (⟨⟨[]⟩,⟨[]⟩,0,⟨0,0⟩⟩:cK):=⟨[(.string ⟨#[]⟩)],[(.string ⟨#[]⟩),(.int .i64 0),(.int .i64 0),(.int .i64 0)],rfl,(show GT.ok M [(.string ⟨#[]⟩)] (⟨[]⟩:cX) from rfl),⟨[(.string ⟨#[]⟩)],[(.int .i64 0),(.int .i64 0),(.int .i64 0)],rfl,(show GT.ok M [(.string ⟨#[]⟩)] (⟨[]⟩:cX) from rfl),⟨[(.int .i64 0)],[(.int .i64 0),(.int .i64 0)],rfl,(show GT.ok M [(.int .i64 0)] (0:Int) from rfl),(show GT.ok M [(.int .i64 0),(.int .i64 0)] (⟨0,0⟩:je) from Et M)⟩⟩⟩
theorem Bb (M:dB):GT.ok M (#[(.bool false),(.int .i64 0)]:Array Value).toList (⟨false,0⟩:dO):=⟨[(.bool false)],[(.int .i64 0)],rfl,(show GT.ok M [(.bool false)] (false:Bool) from rfl),(show GT.ok M [(.int .i64 0)] (0:Int) from rfl)⟩
theorem vx (M:dB):GT.ok M (#[(.int .i64 0),(.slice none 0 0),(.slice none 0 0)]:Array Value).toList (⟨0,[],[]⟩:aH):=⟨[(.int .i64 0)],[(.slice none 0 0),(.slice none 0 0)],rfl,(show GT.ok M [(.int .i64 0)] (0:Int) from rfl),⟨[(.slice none 0 0)],[(.slice none 0 0)],rfl,(show GT.ok M [(.slice none 0 0)] ([]: (List aA)) from ⟨_,rfl,none,0,0,rfl,rfl,bI _,by simp [maxLen],fun _ _ h=>by simp at h⟩),(show GT.ok M [(.slice none 0 0)] ([]: (List aI)) from ⟨_,rfl,none,0,0,rfl,rfl,bI _,by simp [maxLen],fun _ _ h=>by simp at h⟩)⟩⟩
theorem sU (M:dB):GT.ok M (#[(.int .i64 0),(.int .i64 0),(.slice none 0 0)]:Array Value).toList (⟨0,0,[]⟩:aA):=⟨[(.int .i64 0)],[(.int .i64 0),(.slice none 0 0)],rfl,(show GT.ok M [(.int .i64 0)] (0:Int) from rfl),⟨[(.int .i64 0)],[(.slice none 0 0)],rfl,(show GT.ok M [(.int .i64 0)] (0:Int) from rfl),(show GT.ok M [(.slice none 0 0)] ([]: (List Int)) from ⟨_,rfl,none,0,0,rfl,rfl,bI _,by simp [maxLen],fun _ _ h=>by simp at h⟩)⟩⟩
structure bW where
  mu: (List Int)
  aU: (List Int)
  iw:RV
  deriving Inhabited
def o9 (x:bW):=(x.mu,x.aU,x.iw)
instance instGTGroup_r2:GT bW:=GT.via o9
theorem wD:Fd 2 (fun x:bW=>x.iw):= .v o9 (.snd (.snd (.self)))
theorem wE:Fs 2 RV (fun(x:bW) y=>{x with iw:=y}):= .v o9 (.snd (.snd (.self)))
def bO:XT bW cI:=⟨fun u x=>u.mu=x.mu/\u.aU=x.aU,fun M h u x=>(u.mu=x.mu/\u.aU=x.aU)/\rP 38 M h u.iw.v x.iw,fun{M M' h u x} hk hh=>⟨hh.1,(own 38 u.iw.v x.iw).mono hk hh.2⟩,fun h=>h.1⟩
theorem pX:XO bO 38 2 (fun u=>u.iw) (fun u r=>{u with iw:=r}) (fun x=>x.iw) (fun x y=>{x with iw:=y}):=⟨wD,wE,by decide,fun h=>h.2,fun hr ho=>⟨hr,ho⟩⟩
theorem xT (M h:dB) (u:bW) (x:cI) (cs:List Value) (hd: ∀b o,h b=some o->M b=none) (hx:bO.ok M h u x) (hc:GT.ok M cs u):GT.ok (nF M h) cs x:=by
  obtain⟨⟨e0,e1⟩,ho⟩:=hx
  obtain⟨c0,d0,hd0,a0,c1,d1,hd1,a1,a2⟩:=hc
  exact⟨c0,d0,hd0,GT.mono (qR M h) (show GT.ok M c0 x.mu from e0▸(show GT.ok M c0 u.mu from a0)),⟨c1,d1,hd1,GT.mono (qR M h) (show GT.ok M c1 x.aU from e1▸(show GT.ok M c1 u.aU from a1)),⟨u.iw.v,a2,rP.sl hd ho⟩⟩⟩
theorem oG:ln bD 27 true 4:=sC
theorem tW:lO bD 27 0 0:=m5
theorem BS:ln bD 22 false 1:=sC
theorem zk:Tryz.prog.underlying 22=some (.slice 23):=by kernel_rfl
theorem C0:lO bD 27 1 1:=m5
theorem xU:ln bD 23 false 1:=sC
theorem pY:Tryz.prog.underlying 23=some (.slice 49):=by kernel_rfl
theorem Ap:sA bD 22 23 1:=zZ
theorem lq:sA bD 23 49 4:=zZ
theorem iz:ln bD 49 true 4:=sC
theorem n9:yy bD 49 4:=z5 (.agg #[(.int .i64 0),(.int .i64 0),(.int .i64 0),(.int .i64 0)])
theorem jm:lO bD 49 0 0:=m5
theorem cH:ln bD 3 false 1:=sC
theorem HY:g8 bD 90:=iN Tryz.func90
theorem BT:g8 bD 74:=iN Tryz.func74
theorem j3:lO bD 49 1 1:=m5
theorem j4:lO bD 49 2 2:=m5
theorem nj:lO bD 49 3 3:=m5
theorem Gw:g8 bD 59:=iN Tryz.func59
theorem HZ:g8 bD 38:=iN Tryz.func38
theorem mixed:Tryz.prog.follows .mixedOrders=true:=by kernel_rfl
theorem BU:rF bD 23 49 4 32:=rF.of (.agg #[(.int .i64 0),(.int .i64 0),(.int .i64 0),(.int .i64 0)])
theorem H0:g8 bD 60:=iN Tryz.func60
theorem H2:g8 bD 62:=iN Tryz.func62
theorem Gx:g8 bD 61:=iN Tryz.func61
theorem Gy:Gm bD 56 [(.slice none 0 0)]:=⟨(.slice none 0 0),fun _=>by kernel_rfl,rfl⟩
theorem fF:ln bD 56 false 1:=sC
theorem eF:sA bD 56 3 1:=zZ
theorem CB:yy bD 3 1:=z5 (.int .i64 0)
theorem sV:rF bD 56 3 1 8:=rF.of (.int .i64 0)
theorem H3:g8 bD 63:=iN Tryz.func63
theorem lM:Tryz.prog.underlying 56=some (.slice 3):=by kernel_rfl
theorem Ge:D9 bD 3 (0:Int):=D9.of (.int .i64 0) (fun M=>rfl)
theorem H4:g8 bD 64:=iN Tryz.func64
theorem Gz:g8 bD 78:=iN Tryz.func78
theorem H5:D9 bD 49 (⟨0,0,0,0⟩:aI):=D9.of (.agg #[(.int .i64 0),(.int .i64 0),(.int .i64 0),(.int .i64 0)]) (fun M=>(rT M))
theorem H6:g8 bD 66:=iN Tryz.func66
theorem H7:g8 bD 65:=iN Tryz.func65
theorem H8:g8 bD 85:=iN Tryz.func85
theorem H9:g8 bD 68:=iN Tryz.func68
theorem E4:va bD 130 [(0,1),(1,1),(2,1)] #[(.int .i64 0),(.int .i64 0),(.slice none 0 0)]:=va.of (.agg #[(.int .i64 0),(.int .i64 0),(.slice none 0 0)]) Tryz.underlying130
theorem jN:lO bD 130 2 2:=m5
theorem kR:lO bD 130 1 1:=m5
theorem mR:lO bD 130 0 0:=m5
theorem rk:Tryz.prog.underlying 96=some (.slice 130):=by kernel_rfl
theorem my:sA bD 96 130 3:=zZ
theorem Ia:g8 bD 84:=iN Tryz.func84
theorem sW:ln bD 130 true 3:=sC
theorem zm:yy bD 130 3:=z5 (.agg #[(.int .i64 0),(.int .i64 0),(.slice none 0 0)])
theorem Ib:rF bD 96 130 3 40:=rF.of (.agg #[(.int .i64 0),(.int .i64 0),(.slice none 0 0)])
theorem GA:g8 bD 67:=iN Tryz.func67
theorem C1:g8 bD 40:=iN Tryz.func40
theorem BV:va bD 49 [(0,1),(1,1),(2,1),(3,1)] #[(.int .i64 0),(.int .i64 0),(.int .i64 0),(.int .i64 0)]:=va.of (.agg #[(.int .i64 0),(.int .i64 0),(.int .i64 0),(.int .i64 0)]) Tryz.underlying49
theorem FL:g8 bD 41:=iN Tryz.func41
theorem CC:Tryz.prog.underlying 3=some (.int .i64):=by kernel_rfl
theorem GB:Fv bD 49 aI:=⟨fun M cs ds a b w ha hb=>by
  obtain⟨_,_,rfl,rfl,⟨_,_,rfl,rfl,⟨_,_,rfl,rfl,rfl⟩⟩⟩:=ha
  obtain⟨_,_,rfl,rfl,⟨_,_,rfl,rfl,⟨_,_,rfl,rfl,rfl⟩⟩⟩:=hb
  refine(kh 9999 Tryz.underlying49 (w3.cons (by decide) (dP cH _) (dP cH _) (jg CC _ _ w) (w3.cons (by decide) (dP cH _) (dP cH _) (jg CC _ _ w) (w3.cons (by decide) (dP cH _) (dP cH _) (jg CC _ _ w) (w3.cons (by decide) (dP cH _) (dP cH _) (jg CC _ _ w) w3.nil))))).trans ?_
  congr 1
  cases a;cases b;unfold kD
  rw [fQ]
  simp,by kernel_rfl⟩
theorem Ic:g8 bD 39:=iN Tryz.func39
theorem GC:g8 bD 19:=iN Tryz.func19
theorem lX:lO bD 27 2 2:=m5
theorem tX:ln bD 24 false 1:=sC
theorem vz:Tryz.prog.underlying 24=some (.slice 74):=by kernel_rfl
theorem xV:sA bD 24 74 6:=zZ
theorem nG:ln bD 74 true 6:=sC
theorem BW:yy bD 74 6:=z5 (.agg #[(.int .i64 0),(.int .i64 0),(.int .i64 0),(.int .i64 0),(.int .i64 0),(.bool false)])
theorem vA:lO bD 74 1 2:=m5
theorem Eu:g8 bD 43:=iN Tryz.func43
theorem Aq:lO bD 74 0 0:=m5
theorem Ev:ln bD 51 true 2:=sC
theorem xW:lO bD 51 0 0:=m5
theorem xX:lO bD 51 1 1:=m5
theorem GD:g8 bD 46:=iN Tryz.func46
theorem BX:g8 bD 23:=iN Tryz.func23
theorem Ie:g8 bD 86:=iN Tryz.func86
theorem Ig:g8 bD 69:=iN Tryz.func69
theorem Ih:g8 bD 42:=iN Tryz.func42
theorem rU:lO bD 74 2 3:=m5
theorem tY:lO bD 74 3 4:=m5
theorem Ii:g8 bD 20:=iN Tryz.func20
theorem tZ:lO bD 27 3 3:=m5
theorem BY:ln bD 25 false 1:=sC
theorem C2:Tryz.prog.underlying 25=some (.slice 53):=by kernel_rfl
theorem BZ:sA bD 25 53 5:=zZ
theorem vB:ln bD 53 true 5:=sC
theorem FM:yy bD 53 5:=z5 (.agg #[(.string ⟨#[]⟩),(.string ⟨#[]⟩),(.int .i64 0),(.int .i64 0),(.int .i64 0)])
theorem C3:lO bD 53 0 0:=m5
theorem C4:ln bD 9 false 1:=sC
theorem zn:Tryz.prog.underlying 9=some (.string):=by kernel_rfl
theorem iR (a:cX) (b:Int) (w:World): (callFunc 128 [(str a),(.int .u8 b)].toArray).run bD w = .ok (.value (vi ((Lib.countByte a.cG (Int.toNat b).toUInt8:Nat):Int))) w:=vg Extern.BytealgCount.count Tryz.func128 (Lib.run_countString _ _ w)
theorem CS (a:cX) (b:Int) (w:World): (callFunc 116 [(str a),(.int .u8 b)].toArray).run bD w = .ok (.value (vi (Lib.indexByte a.cG (Int.toNat b).toUInt8))) w:=vg Extern.BytealgIndexByte.indexByte Tryz.func116 (Lib.run_indexByteString _ _ w)
theorem GF:g8 bD 89:=iN Tryz.func89
theorem GG:g8 bD 129:=iN Tryz.func129
theorem E5:g8 bD 115:=iN Tryz.func115
theorem GH:g8 bD 114:=iN Tryz.func114
theorem GI:rF bD 132 9 1 16:=rF.of (.string ⟨#[]⟩)
theorem JE:D9 bD 9 (⟨[]⟩:cX):=D9.of (.string ⟨#[]⟩) (fun M=>rfl)
theorem Bc:sA bD 132 9 1:=zZ
theorem Ij:g8 bD 88:=iN Tryz.func88
theorem Ik:g8 bD 71:=iN Tryz.func71
theorem GJ:Tryz.prog.underlying 132=some (.slice 9):=by kernel_rfl
theorem Il:g8 bD 87:=iN Tryz.func87
theorem Im:g8 bD 73:=iN Tryz.func73
theorem GK:g8 bD 45:=iN Tryz.func45
theorem Io:g8 bD 72:=iN Tryz.func72
theorem Ip:g8 bD 70:=iN Tryz.func70
theorem Iq:g8 bD 44:=iN Tryz.func44
theorem C5:lO bD 53 1 1:=m5
theorem Ar:lO bD 53 2 2:=m5
theorem As:lO bD 53 3 3:=m5
theorem GL:yy bD 38 2:=z5 (.agg #[(.string ⟨#[]⟩),(.string ⟨#[]⟩)])
theorem FN:va bD 38 [(0,1),(1,1)] #[(.string ⟨#[]⟩),(.string ⟨#[]⟩)]:=va.of (.agg #[(.string ⟨#[]⟩),(.string ⟨#[]⟩)]) Tryz.underlying38
theorem mS:ln bD 38 true 2:=sC
theorem Ew:g8 bD 29:=iN Tryz.func29
theorem C6:lO bD 38 0 0:=m5
theorem Gq (a b:cX) (w:World): (callFunc 80 [(str a),(str b)].toArray).run bD w = .ok (.value (vi (Lib.compareBytes a.cG b.cG))) w:=vg Extern.BytealgCompare.compare Tryz.func80 (Lib.run_compareString _ _ w)
theorem Ir:g8 bD 58:=iN Tryz.func58
theorem GM:g8 bD 35:=iN Tryz.func35
theorem C7:lO bD 38 1 1:=m5
theorem B0:g8 bD 14:=iN Tryz.func14
theorem Is:g8 bD 21:=iN Tryz.func21
theorem GN:g8 bD 47:=iN Tryz.func47
theorem It:g8 bD 22:=iN Tryz.func22
theorem Iu:va bD 67 [(0,4),(4,1),(5,1),(6,1),(7,1),(8,1),(9,1),(10,1),(11,1)] #[(.slice none 0 0),(.slice none 0 0),(.slice none 0 0),(.slice none 0 0),(.slice none 0 0),(.slice none 0 0),(.slice none 0 0),(.slice none 0 0),(.slice none 0 0),(.slice none 0 0),(.slice none 0 0),(.slice none 0 0)]:=va.of (.agg #[(.slice none 0 0),(.slice none 0 0),(.slice none 0 0),(.slice none 0 0),(.slice none 0 0),(.slice none 0 0),(.slice none 0 0),(.slice none 0 0),(.slice none 0 0),(.slice none 0 0),(.slice none 0 0),(.slice none 0 0)]) Tryz.underlying67
theorem lD:lO bD 67 0 0:=m5
theorem FO:g8 bD 48:=iN Tryz.func48
theorem C8:sA bD 61 96 1:=zZ
theorem FP:yy bD 96 1:=z5 (.slice none 0 0)
theorem GO:Tryz.prog.underlying 61=some (.slice 96):=by kernel_rfl
theorem GP:ln bD 96 false 1:=sC
theorem GQ:g8 bD 91:=iN Tryz.func91
theorem E6:Tryz.prog.underlying 4=some (.bool):=by kernel_rfl
theorem Iv:g8 bD 92:=iN Tryz.func92
theorem Iw:g8 bD 76:=iN Tryz.func76
theorem Ix:g8 bD 75:=iN Tryz.func75
theorem Iy:g8 bD 49:=iN Tryz.func49
theorem Iz:g8 bD 50:=iN Tryz.func50
theorem C9:lO bD 67 1 4:=m5
theorem GR:ln bD 61 false 1:=sC
theorem GS:rF bD 61 96 1 24:=rF.of (.slice none 0 0)
theorem FQ:g8 bD 77:=iN Tryz.func77
theorem zo:Ai bD 89 3 3 Int Int (0:Int):=⟨by kernel_rfl,(vh.int CC),A1 (.int .i64 0) (fun M=>⟨_,rfl,rfl⟩)⟩
theorem GU:yy bD 23 1:=z5 (.slice none 0 0)
theorem IA:rF bD 22 23 1 24:=rF.of (.slice none 0 0)
theorem IB:g8 bD 51:=iN Tryz.func51
theorem pZ:lO bD 67 2 5:=m5
theorem zp:ln bD 62 false 1:=sC
theorem GV:va bD 109 [(0,1),(1,1),(2,1)] #[(.int .i64 0),(.slice none 0 0),(.slice none 0 0)]:=va.of (.agg #[(.int .i64 0),(.slice none 0 0),(.slice none 0 0)]) Tryz.underlying109
theorem FR:sA bD 62 109 3:=zZ
theorem Da:yy bD 109 3:=z5 (.agg #[(.int .i64 0),(.slice none 0 0),(.slice none 0 0)])
theorem IC:rF bD 62 109 3 56:=rF.of (.agg #[(.int .i64 0),(.slice none 0 0),(.slice none 0 0)])
theorem B1:Tryz.prog.underlying 62=some (.slice 109):=by kernel_rfl
theorem ID:g8 bD 24:=iN Tryz.func24
theorem IE:g8 bD 54:=iN Tryz.func54
theorem Be:ln bD 109 true 3:=sC
theorem xY:lO bD 74 4 5:=m5
theorem uQ:ln bD 4 false 1:=sC
theorem Bf:lO bD 109 0 0:=m5
theorem Bg:lO bD 109 2 2:=m5
theorem IF:g8 bD 53:=iN Tryz.func53
theorem GW:g8 bD 52:=iN Tryz.func52
theorem xZ:lO bD 67 3 6:=m5
theorem Ex:ln bD 63 false 1:=sC
theorem Au:sA bD 63 56 1:=zZ
theorem GX:yy bD 56 1:=z5 (.slice none 0 0)
theorem GY:rF bD 63 56 1 24:=rF.of (.slice none 0 0)
theorem IG:g8 bD 25:=iN Tryz.func25
theorem GZ:va bD 121 [(0,1)] #[(.slice none 0 0)]:=va.of (.agg #[(.slice none 0 0)]) Tryz.underlying121
theorem mT:lO bD 121 0 0:=m5
theorem G0:g8 bD 31:=iN Tryz.func31
theorem Ey:Tryz.prog.underlying 63=some (.slice 56):=by kernel_rfl
theorem B2:g8 bD 34:=iN Tryz.func34
theorem G1:g8 bD 33:=iN Tryz.func33
theorem Av:lO bD 67 5 8:=m5
theorem x0:lO bD 67 6 9:=m5
theorem IH:g8 bD 55:=iN Tryz.func55
theorem G2:Gm bD 116 [(.slice none 0 0),(.slice none 0 0),(.slice none 0 0)]:=⟨(.agg #[(.slice none 0 0),(.slice none 0 0),(.slice none 0 0)]),fun _=>by kernel_rfl,rfl⟩
theorem t7:lO bD 67 4 7:=m5
theorem B3:ln bD 64 false 1:=sC
theorem G3:Tryz.prog.underlying 64=some (.slice 116):=by kernel_rfl
theorem x4:lO bD 116 0 0:=m5
theorem x5:lO bD 116 1 1:=m5
theorem G4:ln bD 116 true 3:=sC
theorem FT:sA bD 64 116 3:=zZ
theorem G5:yy bD 116 3:=z5 (.agg #[(.slice none 0 0),(.slice none 0 0),(.slice none 0 0)])
theorem II:rF bD 64 116 3 72:=rF.of (.agg #[(.slice none 0 0),(.slice none 0 0),(.slice none 0 0)])
theorem Ez:yy bD 70 2:=z5 (.agg #[(.bool false),(.int .i64 0)])
theorem IJ:g8 bD 93:=iN Tryz.func93
theorem G6:g8 bD 79:=iN Tryz.func79
theorem EA:va bD 70 [(0,1),(1,1)] #[(.bool false),(.int .i64 0)]:=va.of (.agg #[(.bool false),(.int .i64 0)]) Tryz.underlying70
theorem rl:ln bD 70 true 2:=sC
theorem IK:g8 bD 56:=iN Tryz.func56
theorem Aw:lO bD 70 0 0:=m5
theorem rV:lO bD 70 1 1:=m5
theorem IL:g8 bD 57:=iN Tryz.func57
theorem Bh:lO bD 116 2 2:=m5
theorem E7:ln bD 114 false 1:=sC
theorem G7:sA bD 114 38 2:=zZ
theorem G8:rF bD 114 38 2 32:=rF.of (.agg #[(.string ⟨#[]⟩),(.string ⟨#[]⟩)])
theorem Ax:lO bD 67 7 10:=m5
theorem Ay:lO bD 67 8 11:=m5
theorem FU:ln bD 65 false 1:=sC
theorem G9:sA bD 65 70 2:=zZ
theorem IM:rF bD 65 70 2 16:=rF.of (.agg #[(.bool false),(.int .i64 0)])
theorem IN:g8 bD 26:=iN Tryz.func26
theorem Ha:g8 bD 11:=iN Tryz.func11
theorem zq:Tryz.prog.underlying 28=some (.slice 40):=by kernel_rfl
theorem x6:sA bD 28 40 5:=zZ
theorem uR:ln bD 40 true 5:=sC
theorem EB:yy bD 40 5:=z5 (.agg #[(.string ⟨#[]⟩),(.string ⟨#[]⟩),(.string ⟨#[]⟩),(.string ⟨#[]⟩),(.bool false)])
theorem qc:lO bD 40 0 0:=m5
theorem E8:Tryz.prog.underlying 119=some (.int .u64):=by kernel_rfl
theorem IP:g8 bD 28:=iN Tryz.func28
theorem IQ:g8 bD 27:=iN Tryz.func27
theorem zu:g8 bD 12:=iN Tryz.func12
theorem qd:lO bD 40 1 2:=m5
theorem IS:g8 bD 36:=iN Tryz.func36
theorem Hb:g8 bD 15:=iN Tryz.func15
theorem JF:g8 bD 8:=iN Tryz.func8
theorem Db:Tryz.prog.underlying 29=some (.slice 72):=by kernel_rfl
theorem FV:ln bD 43 false 1:=sC
theorem Hc:g8 bD 17:=iN Tryz.func17
theorem Dc:sA bD 29 72 5:=zZ
theorem wF:ln bD 72 true 5:=sC
theorem FW:yy bD 72 5:=z5 (.agg #[(.bool false),(.bool false),(.int .i64 0),(.int .i64 0),(.int .i64 0)])
theorem rW:lO bD 72 0 0:=m5
theorem x8:lO bD 72 2 3:=m5
theorem x9:lO bD 72 3 4:=m5
theorem t8:lO bD 72 1 1:=m5
theorem Hd:Fv bD 70 dO:=⟨fun M cs ds a b w ha hb=>by
  obtain⟨_,_,rfl,rfl,rfl⟩:=ha
  obtain⟨_,_,rfl,rfl,rfl⟩:=hb
  refine(kh 9999 Tryz.underlying70 (w3.cons (by decide) (dP uQ _) (dP uQ _) (me E6 _ _ w) (w3.cons (by decide) (dP cH _) (dP cH _) (jg CC _ _ w) w3.nil))).trans ?_
  congr 1
  cases a;cases b;unfold o8
  rw [fQ]
  simp,by kernel_rfl⟩
theorem FX:g8 bD 16:=iN Tryz.func16
theorem He:Fv bD 72 eT:=⟨fun M cs ds a b w ha hb=>by
  obtain⟨_,_,rfl,rfl,⟨_,_,rfl,⟨_,_,rfl,rfl,rfl⟩,⟨_,_,rfl,rfl,rfl⟩⟩⟩:=ha
  obtain⟨_,_,rfl,rfl,⟨_,_,rfl,⟨_,_,rfl,rfl,rfl⟩,⟨_,_,rfl,rfl,rfl⟩⟩⟩:=hb
  refine(kh 9999 Tryz.underlying72 (w3.cons (by decide) (dP uQ _) (dP uQ _) (me E6 _ _ w) (w3.cons (by decide) (w4 rl rfl _) (w4 rl rfl _) (kh 9998 Tryz.underlying69 (w3.cons (by decide) (dP uQ _) (dP uQ _) (me E6 _ _ w) (w3.cons (by decide) (dP cH _) (dP cH _) (jg CC _ _ w) w3.nil))) (w3.cons (by decide) (dP cH _) (dP cH _) (jg CC _ _ w) (w3.cons (by decide) (dP cH _) (dP cH _) (jg CC _ _ w) w3.nil))))).trans ?_
  congr 1
  obtain⟨_,⟨_,_⟩,_,_⟩:=a;obtain⟨_,⟨_,_⟩,_,_⟩:=b;unfold oF o8
  rw [fQ]
  simp,by kernel_rfl⟩
theorem IT:g8 bD 37:=iN Tryz.func37
theorem IU:g8 bD 18:=iN Tryz.func18
theorem Jr:g8 bD 9:=iN Tryz.func9
theorem IV:Gm bD 85 [(.map none)]:=⟨(.map none),fun _=>by kernel_rfl,rfl⟩
theorem Dd:ln bD 85 false 1:=sC
theorem Hf:g8 bD 30:=iN Tryz.func30
theorem EC:Ai bD 85 3 4 Int Bool (false:Bool):=⟨by kernel_rfl,(vh.int CC),A1 (.bool false) (fun M=>⟨_,rfl,rfl⟩)⟩
theorem IW:Gm bD 86 [(.pointer none)]:=⟨(.pointer none),fun _=>by kernel_rfl,rfl⟩
theorem De:ln bD 86 false 1:=sC
theorem Hg:g8 bD 32:=iN Tryz.func32
theorem IX:Tryz.prog.underlying 65=some (.slice 70):=by kernel_rfl
theorem Hh:g8 bD 13:=iN Tryz.func13
theorem Df:sA bD 30 4 1:=zZ
theorem Js:yy bD 4 1:=z5 (.bool false)
theorem Hi:rF bD 30 4 1 1:=rF.of (.bool false)
theorem IY:g8 bD 10:=iN Tryz.func10
theorem Jt:g8 bD 4:=iN Tryz.func4
theorem Hj:Tryz.prog.underlying 30=some (.slice 4):=by kernel_rfl
theorem IZ:va bD 53 [(0,1),(1,1),(2,1),(3,2)] #[(.string ⟨#[]⟩),(.string ⟨#[]⟩),(.int .i64 0),(.int .i64 0),(.int .i64 0)]:=va.of (.agg #[(.string ⟨#[]⟩),(.string ⟨#[]⟩),(.int .i64 0),(.int .i64 0),(.int .i64 0)]) Tryz.underlying53
theorem I0:va bD 27 [(0,1),(1,1),(2,1),(3,1)] #[(.slice none 0 0),(.slice none 0 0),(.slice none 0 0),(.slice none 0 0)]:=va.of (.agg #[(.slice none 0 0),(.slice none 0 0),(.slice none 0 0),(.slice none 0 0)]) Tryz.underlying27
theorem I1:yy bD 27 4:=z5 (.agg #[(.slice none 0 0),(.slice none 0 0),(.slice none 0 0),(.slice none 0 0)])
theorem Ju:g8 bD 6:=iN Tryz.func6
theorem Jv:g8 bD 5:=iN Tryz.func5
theorem Dg:lO bD 40 2 4:=m5
theorem JG:g8 bD 7:=iN Tryz.func7
def mb (E:World) (V:List HP) (res:Option ((List (List aI))×(List aI)×(List bM)×(List cK)×(List (List aA))×(List aH)×(List (List Int))×(List cI)×(List Int)×(List Int)×(List Int)×(List dO))×Int) (v:Value) (w:World):Prop:=Am res.1 (v = .tuple #[(.pointer none),(vi res.2)]/\Holds E w V) (fun y=>∃(ub0:Nat) (u0_0 u0_1:Value) (u0_2 u0_3:Value) (u0_4 u0_5:Value) (u0_6 u0_7:Value) (u0_8 u0_9:Value) (u0_10 u0_11:Value),v = .tuple #[vp ub0 0,(vi res.2)]/\Holds E w ([bc 67 ub0 [u0_0,u0_1,u0_2,u0_3,u0_4,u0_5,u0_6,u0_7,u0_8,u0_9,u0_10,u0_11],rd u0_0 y.1,rd u0_1 y.2.1,rd u0_2 y.2.2.1,rd u0_3 y.2.2.2.1,own 96 u0_4 y.2.2.2.2.1,rd u0_5 y.2.2.2.2.2.1,rd u0_6 y.2.2.2.2.2.2.1,own 116 u0_7 y.2.2.2.2.2.2.2.1,rd u0_8 y.2.2.2.2.2.2.2.2.1,rd u0_9 y.2.2.2.2.2.2.2.2.2.1,own 3 u0_10 y.2.2.2.2.2.2.2.2.2.2.1,own 70 u0_11 y.2.2.2.2.2.2.2.2.2.2.2]++V))
def lE (E:World) (V:List HP) (res:Bool×Int) (v:Value) (w:World):Prop:=v = .tuple #[(vb res.1),(vi res.2)]/\Holds E w V
def iA (E:World) (V:List HP) (b0:Nat) (v0_0 v0_1:Value) (v0_2 v0_3:Value) (v0_4 v0_5:Value) (v0_6 v0_7:Value) (v0_8 v0_9:Value) (v0_10 v0_11:Value) (res:Int) (v:Value) (w:World):Prop:=v= (vi res)/\Holds E w ([bc 67 b0 [v0_0,v0_1,v0_2,v0_3,v0_4,v0_5,v0_6,v0_7,v0_8,v0_9,v0_10,v0_11]]++V)
def nR (E:World) (V:List HP) (res:aI) (v:Value) (w:World):Prop:=Holds E w ([rd v res]++V)
def nk (E:World) (V:List HP) (res: (List cX)) (v:Value) (w:World):Prop:=Holds E w ([own 9 v res]++V)
def bF (E:World) (V:List HP) (res:Bool) (v:Value) (w:World):Prop:=v= (vb res)/\Holds E w V
def aP (E:World) (V:List HP) (res:Int) (v:Value) (w:World):Prop:=v= (vi res)/\Holds E w V
def kz (E:World) (V:List HP) (res: (List aI)) (v:Value) (w:World):Prop:=Holds E w ([own 49 v res]++V)
def j5 (E:World) (V:List HP) (res: (List Int)) (v:Value) (w:World):Prop:=Holds E w ([own 3 v res]++V)
def ko (E:World) (V:List HP) (res: (List aA)) (v:Value) (w:World):Prop:=Holds E w ([own 130 v res]++V)
end Go.Gk
namespace Go.Gk
open Go Go.Proofs
def uc (H:Type) (d:DataW H):Nat:=YtgjiokjfpghfgabGreatDoor.Rows.uptoBulk d
def Hl (H:Type) (d:List (DataW H)):Nat:=YtgjiokjfpghfgabGreatDoor.Rows.uptoBulkAll d
theorem eG:UB uc Hl where
  str:=fun H b=>by simp [uc,YtgjiokjfpghfgabGreatDoor.Rows.uptoBulk]
  pos:=fun H d=>by
    unfold uc
    cases d with
    | lit l=>cases l <;> simp [YtgjiokjfpghfgabGreatDoor.Rows.uptoBulk]
    | nil=>simp [YtgjiokjfpghfgabGreatDoor.Rows.uptoBulk]
    | ptr d=>simp [YtgjiokjfpghfgabGreatDoor.Rows.uptoBulk]
    | slice elems spare=>simp [YtgjiokjfpghfgabGreatDoor.Rows.uptoBulk]
    | agg parts=>simp [YtgjiokjfpghfgabGreatDoor.Rows.uptoBulk]
    | iface t d=>simp [YtgjiokjfpghfgabGreatDoor.Rows.uptoBulk]
    | map entries=>simp [YtgjiokjfpghfgabGreatDoor.Rows.uptoBulk]
    | held h=>simp [YtgjiokjfpghfgabGreatDoor.Rows.uptoBulk]
  sl:=fun H e s=>by simp [uc,Hl,YtgjiokjfpghfgabGreatDoor.Rows.uptoBulk]
  ag:=fun H l=>by simp [uc,Hl,YtgjiokjfpghfgabGreatDoor.Rows.uptoBulk]
  nil:=fun H=>by simp [Hl,YtgjiokjfpghfgabGreatDoor.Rows.uptoBulkAll]
  cons:=fun H x l=>by simp [uc,Hl,YtgjiokjfpghfgabGreatDoor.Rows.uptoBulkAll]
theorem Cb:gX uc Tryz.prog 3 Int:=B8 eG (by kernel_rfl)
theorem I2:gX uc Tryz.prog 49 aI:=gV eG (fun(x:aI)=>(x.X0,x.Y0,x.X1,x.Y1)) (fun b=>⟨b.1,b.2.1,b.2.2.1,b.2.2.2⟩) (fun b=>rfl) Tryz.underlying49 (dG eG Cb (dG eG Cb (dG eG Cb (kp eG Cb)))) (fun b=>by simp only [EI];omega)
theorem Hm:gX uc Tryz.prog 23 (List aI):=lY (e:=49) eG I2
theorem I3:gX uc Tryz.prog 22 (List (List aI)):=lY (e:=23) eG Hm
theorem Hn:gX uc Tryz.prog 51 je:=gV eG (fun(x:je)=>(x.X,x.Y)) (fun b=>⟨b.1,b.2⟩) (fun b=>rfl) Tryz.underlying51 (dG eG Cb (kp eG Cb)) (fun b=>by simp only [Du];omega)
theorem HG:gX uc Tryz.prog 4 Bool:=AB eG (by kernel_rfl)
theorem I4:gX uc Tryz.prog 74 bM:=gV eG (fun(x:bM)=>(x.At,x.eN,x.cQ,x.To,x.gE)) (fun b=>⟨b.1,b.2.1,b.2.2.1,b.2.2.2.1,b.2.2.2.2⟩) (fun b=>rfl) Tryz.underlying74 (dG eG Hn (dG eG Cb (dG eG Cb (dG eG Cb (kp eG HG))))) (fun b=>by simp only [EJ];omega)
theorem I5:gX uc Tryz.prog 24 (List bM):=lY (e:=74) eG I4
theorem HH:gX uc Tryz.prog 9 cX:=B9 eG (by kernel_rfl)
theorem I6:gX uc Tryz.prog 53 cK:=gV eG (fun(x:cK)=>(x.Part,x.fB,x.eK,x.At)) (fun b=>⟨b.1,b.2.1,b.2.2.1,b.2.2.2⟩) (fun b=>rfl) Tryz.underlying53 (dG eG HH (dG eG HH (dG eG Cb (kp eG Hn)))) (fun b=>by simp only [Bm];omega)
theorem I7:gX uc Tryz.prog 25 (List cK):=lY (e:=53) eG I6
theorem I8:gX uc Tryz.prog 27 iD:=gV eG (fun(x:iD)=>(x.aJ,x.cW,x.aU,x.aZ)) (fun b=>⟨b.1,b.2.1,b.2.2.1,b.2.2.2⟩) (fun b=>rfl) Tryz.underlying27 (dG eG I3 (dG eG Hm (dG eG I5 (kp eG I7)))) (fun b=>by simp only [Dv];omega)
theorem Ho:gX uc Tryz.prog 38 fB:=gV eG (fun(x:fB)=>(x.Part,x.fB)) (fun b=>⟨b.1,b.2⟩) (fun b=>rfl) Tryz.underlying38 (dG eG HH (kp eG HH)) (fun b=>by simp only [FY];omega)
theorem I9:gX uc Tryz.prog 40 Test:=gV eG (fun(x:Test)=>(x.A,x.B,x.Joined)) (fun b=>⟨b.1,b.2.1,b.2.2⟩) (fun b=>rfl) Tryz.underlying40 (dG eG Ho (dG eG Ho (kp eG HG))) (fun b=>by simp only [EK];omega)
theorem Ja:gX uc Tryz.prog 28 (List Test):=lY (e:=40) eG I9
theorem Jb:gX uc Tryz.prog 70 dO:=gV eG (fun(x:dO)=>(x.bM,x.Number)) (fun b=>⟨b.1,b.2⟩) (fun b=>rfl) Tryz.underlying70 (dG eG HG (kp eG Cb)) (fun b=>by simp only [FZ];omega)
theorem Jc:gX uc Tryz.prog 72 eT:=gV eG (fun(x:eT)=>(x.Open,x.dO,x.A,x.B)) (fun b=>⟨b.1,b.2.1,b.2.2.1,b.2.2.2⟩) (fun b=>rfl) Tryz.underlying72 (dG eG HG (dG eG Jb (dG eG Cb (kp eG Cb)))) (fun b=>by simp only [EL];omega)
theorem Jd:gX uc Tryz.prog 29 (List eT):=lY (e:=72) eG Jc
end Go.Gk
namespace Go.Proofs
open Go.Shelf Go.RowKit Go.Lib Go.Sort
def Tryz.lay61_ren : Go.Shelf.Ren := ⟨fun | 6 => 61 | 15 => 82 | 14 => 81 | 28 => 102 | 29 => 103 | 20 => 94 | 21 => 95 | 22 => 96 | 23 => 97 | 24 => 98 | 25 => 99 | 26 => 100 | 27 => 101 | 46 => 117 | 47 => 118 | 48 => 119 | 49 => 120 | 50 => 121 | 57 => 130 | n => n, fun | 22 => 23 | 24 => 49 | 25 => 78 | 3 => 3 | 39 => 119 | 0 => 0 | 53 => 157 | 55 => 159 | 4 => 4 | 46 => 151 | 45 => 150 | 50 => 80 | 5 => 5 | 9 => 9 | 66 => 167 | 70 => 171 | 76 => 178 | 77 => 179 | n => n, fun | n => n⟩
theorem Tryz.lay61 : Go.Proofs.SlLaysF0.n6 Tryz.prog Tryz.lay61_ren := {
  mixed := by kernel_rfl
  f6 := ⟨Tryz.f61.name, by decide, Tryz.func61.trans (congrArg some (by kernel_rfl))⟩
  f14 := ⟨Tryz.f81.name, by decide, Tryz.func81.trans (congrArg some (by kernel_rfl))⟩
  f15 := Tryz.func82.trans (congrArg some (by kernel_rfl))
  f20 := ⟨Tryz.f94.name, by decide, Tryz.func94.trans (congrArg some (by kernel_rfl))⟩
  f21 := ⟨Tryz.f95.name, by decide, Tryz.func95.trans (congrArg some (by kernel_rfl))⟩
  f22 := ⟨Tryz.f96.name, by decide, Tryz.func96.trans (congrArg some (by kernel_rfl))⟩
  f23 := ⟨Tryz.f97.name, by decide, Tryz.func97.trans (congrArg some (by kernel_rfl))⟩
  f24 := ⟨Tryz.f98.name, by decide, Tryz.func98.trans (congrArg some (by kernel_rfl))⟩
  f25 := ⟨Tryz.f99.name, by decide, Tryz.func99.trans (congrArg some (by kernel_rfl))⟩
  f26 := ⟨Tryz.f100.name, by decide, Tryz.func100.trans (congrArg some (by kernel_rfl))⟩
  f27 := ⟨Tryz.f101.name, by decide, Tryz.func101.trans (congrArg some (by kernel_rfl))⟩
  f28 := Tryz.func102.trans (congrArg some (by kernel_rfl))
  f29 := Tryz.func103.trans (congrArg some (by kernel_rfl))
  f46 := ⟨Tryz.f117.name, by decide, Tryz.func117.trans (congrArg some (by kernel_rfl))⟩
  f47 := Tryz.func118.trans (congrArg some (by kernel_rfl))
  f48 := Tryz.func119.trans (congrArg some (by kernel_rfl))
  f49 := ⟨Tryz.f120.name, by decide, Tryz.func120.trans (congrArg some (by kernel_rfl))⟩
  f50 := ⟨Tryz.f121.name, by decide, Tryz.func121.trans (congrArg some (by kernel_rfl))⟩
  f57 := ⟨Tryz.f130.name, by decide, Tryz.func130.trans (congrArg some (by kernel_rfl))⟩
  t0 := Tryz.underlying0
  a0 := Tryz.isAgg0
  z0 := Tryz.sizeOf0
  v0 := Tryz.zeroValue0
  t3 := Tryz.underlying3
  a3 := Tryz.isAgg3
  z3 := Tryz.sizeOf3
  v3 := Tryz.zeroValue3
  t4 := Tryz.underlying4
  a4 := Tryz.isAgg4
  z4 := Tryz.sizeOf4
  v4 := Tryz.zeroValue4
  t5 := Tryz.underlying5
  a5 := Tryz.isAgg5
  z5 := Tryz.sizeOf5
  v5 := Tryz.zeroValue5
  t9 := Tryz.underlying9
  a9 := Tryz.isAgg9
  z9 := Tryz.sizeOf9
  v9 := Tryz.zeroValue9
  t22 := Tryz.underlying23
  a22 := Tryz.isAgg23
  z22 := Tryz.sizeOf23
  v22 := Tryz.zeroValue23
  t25 := Tryz.underlying78
  a25 := Tryz.isAgg78
  z25 := Tryz.sizeOf78
  v25 := Tryz.zeroValue78
  t39 := Tryz.underlying119
  a39 := Tryz.isAgg119
  z39 := Tryz.sizeOf119
  v39 := Tryz.zeroValue119
  t45 := Tryz.underlying150
  a45 := Tryz.isAgg150
  z45 := Tryz.sizeOf150
  v45 := Tryz.zeroValue150
  t46 := Tryz.underlying151
  a46 := Tryz.isAgg151
  z46 := Tryz.sizeOf151
  v46 := Tryz.zeroValue151
  t50 := Tryz.underlying80
  a50 := Tryz.isAgg80
  z50 := Tryz.sizeOf80
  v50 := Tryz.zeroValue80
  t53 := Tryz.underlying157
  a53 := Tryz.isAgg157
  z53 := Tryz.sizeOf157
  v53 := Tryz.zeroValue157
  t55 := Tryz.underlying159
  a55 := Tryz.isAgg159
  z55 := Tryz.sizeOf159
  v55 := Tryz.zeroValue159
  t66 := Tryz.underlying167
  a66 := Tryz.isAgg167
  z66 := Tryz.sizeOf167
  v66 := Tryz.zeroValue167
  t70 := Tryz.underlying171
  a70 := Tryz.isAgg171
  z70 := Tryz.sizeOf171
  v70 := Tryz.zeroValue171
  t76 := Tryz.underlying178
  a76 := Tryz.isAgg178
  z76 := Tryz.sizeOf178
  v76 := Tryz.zeroValue178
  t77 := Tryz.underlying179
  a77 := Tryz.isAgg179
  z77 := Tryz.sizeOf179
  v77 := Tryz.zeroValue179 }
def Tryz.lay63_ren : Go.Shelf.Ren := ⟨fun | 5 => 63 | 8 => 82 | 7 => 83 | 19 => 102 | 20 => 103 | 10 => 104 | 11 => 105 | 12 => 106 | 13 => 107 | 14 => 108 | 15 => 109 | 16 => 110 | 17 => 111 | 18 => 112 | 30 => 122 | 31 => 118 | 32 => 119 | 33 => 123 | 34 => 124 | 35 => 125 | 40 => 131 | n => n, fun | 23 => 56 | 25 => 3 | 3 => 3 | 32 => 119 | 22 => 56 | 0 => 0 | 44 => 157 | 46 => 159 | 4 => 4 | 36 => 151 | 35 => 150 | 41 => 80 | 5 => 5 | 9 => 9 | 53 => 167 | 57 => 171 | 63 => 178 | 64 => 179 | n => n, fun | n => n⟩
theorem Tryz.lay63 : Go.Proofs.SlLaysM.n5 Tryz.prog Tryz.lay63_ren := {
  mixed := by kernel_rfl
  f5 := ⟨Tryz.f63.name, by decide, Tryz.func63.trans (congrArg some (by kernel_rfl))⟩
  f7 := ⟨Tryz.f83.name, by decide, Tryz.func83.trans (congrArg some (by kernel_rfl))⟩
  f8 := Tryz.func82.trans (congrArg some (by kernel_rfl))
  f10 := ⟨Tryz.f104.name, by decide, Tryz.func104.trans (congrArg some (by kernel_rfl))⟩
  f11 := ⟨Tryz.f105.name, by decide, Tryz.func105.trans (congrArg some (by kernel_rfl))⟩
  f12 := ⟨Tryz.f106.name, by decide, Tryz.func106.trans (congrArg some (by kernel_rfl))⟩
  f13 := ⟨Tryz.f107.name, by decide, Tryz.func107.trans (congrArg some (by kernel_rfl))⟩
  f14 := ⟨Tryz.f108.name, by decide, Tryz.func108.trans (congrArg some (by kernel_rfl))⟩
  f15 := ⟨Tryz.f109.name, by decide, Tryz.func109.trans (congrArg some (by kernel_rfl))⟩
  f16 := ⟨Tryz.f110.name, by decide, Tryz.func110.trans (congrArg some (by kernel_rfl))⟩
  f17 := ⟨Tryz.f111.name, by decide, Tryz.func111.trans (congrArg some (by kernel_rfl))⟩
  f18 := ⟨Tryz.f112.name, by decide, Tryz.func112.trans (congrArg some (by kernel_rfl))⟩
  f19 := Tryz.func102.trans (congrArg some (by kernel_rfl))
  f20 := Tryz.func103.trans (congrArg some (by kernel_rfl))
  f30 := ⟨Tryz.f122.name, by decide, Tryz.func122.trans (congrArg some (by kernel_rfl))⟩
  f31 := Tryz.func118.trans (congrArg some (by kernel_rfl))
  f32 := Tryz.func119.trans (congrArg some (by kernel_rfl))
  f33 := ⟨Tryz.f123.name, by decide, Tryz.func123.trans (congrArg some (by kernel_rfl))⟩
  f34 := ⟨Tryz.f124.name, by decide, Tryz.func124.trans (congrArg some (by kernel_rfl))⟩
  f35 := ⟨Tryz.f125.name, by decide, Tryz.func125.trans (congrArg some (by kernel_rfl))⟩
  f40 := ⟨Tryz.f131.name, by decide, Tryz.func131.trans (congrArg some (by kernel_rfl))⟩
  t0 := Tryz.underlying0
  a0 := Tryz.isAgg0
  z0 := Tryz.sizeOf0
  v0 := Tryz.zeroValue0
  t3 := Tryz.underlying3
  a3 := Tryz.isAgg3
  z3 := Tryz.sizeOf3
  v3 := Tryz.zeroValue3
  t4 := Tryz.underlying4
  a4 := Tryz.isAgg4
  z4 := Tryz.sizeOf4
  v4 := Tryz.zeroValue4
  t5 := Tryz.underlying5
  a5 := Tryz.isAgg5
  z5 := Tryz.sizeOf5
  v5 := Tryz.zeroValue5
  t9 := Tryz.underlying9
  a9 := Tryz.isAgg9
  z9 := Tryz.sizeOf9
  v9 := Tryz.zeroValue9
  t22 := Tryz.underlying56
  a22 := Tryz.isAgg56
  z22 := Tryz.sizeOf56
  v22 := Tryz.zeroValue56
  t23 := Tryz.underlying56
  a23 := Tryz.isAgg56
  z23 := Tryz.sizeOf56
  v23 := Tryz.zeroValue56
  t25 := Tryz.underlying3
  a25 := Tryz.isAgg3
  z25 := Tryz.sizeOf3
  v25 := Tryz.zeroValue3
  t32 := Tryz.underlying119
  a32 := Tryz.isAgg119
  z32 := Tryz.sizeOf119
  v32 := Tryz.zeroValue119
  t35 := Tryz.underlying150
  a35 := Tryz.isAgg150
  z35 := Tryz.sizeOf150
  v35 := Tryz.zeroValue150
  t36 := Tryz.underlying151
  a36 := Tryz.isAgg151
  z36 := Tryz.sizeOf151
  v36 := Tryz.zeroValue151
  t41 := Tryz.underlying80
  a41 := Tryz.isAgg80
  z41 := Tryz.sizeOf80
  v41 := Tryz.zeroValue80
  t44 := Tryz.underlying157
  a44 := Tryz.isAgg157
  z44 := Tryz.sizeOf157
  v44 := Tryz.zeroValue157
  t46 := Tryz.underlying159
  a46 := Tryz.isAgg159
  z46 := Tryz.sizeOf159
  v46 := Tryz.zeroValue159
  t53 := Tryz.underlying167
  a53 := Tryz.isAgg167
  z53 := Tryz.sizeOf167
  v53 := Tryz.zeroValue167
  t57 := Tryz.underlying171
  a57 := Tryz.isAgg171
  z57 := Tryz.sizeOf171
  v57 := Tryz.zeroValue171
  t63 := Tryz.underlying178
  a63 := Tryz.isAgg178
  z63 := Tryz.sizeOf178
  v63 := Tryz.zeroValue178
  t64 := Tryz.underlying179
  a64 := Tryz.isAgg179
  z64 := Tryz.sizeOf179
  v64 := Tryz.zeroValue179 }
end Go.Proofs
namespace Go.Gk
open Go Go.Proofs
variable (N:Nat) {E w:World} {i0 i1 i2:Nat} {p0 p1 p2 res:Int} {v0 v1 v2:Value} {V:List HP}
theorem uS {res:Bool} (o:Holds E w V) (j:o0 N p0 p1 p2=some res):
    Calls bD 90 [(vi p0),(vi p1),(vi p2)].toArray w (gR (bF E V res)):=by
 unfold o0 at j
 refine enter Tryz.func90 zr zr (RC.sr (aO (vb false) (RL.ns (mv (vi p0) (mv (vi p1) (ic p0 p1 (mv (vb (decide (p0>=p1))) (RL.gs true (decide (p0>=p1)) (vi p0) zr zr zr eC ?_))))))))
 refine RL.gs true (decide (p0>=p1)) (vi p2) rfl rfl rfl eC (RL.gs true (decide (p0>=p1)) (vb (decide (p0<=p2))) rfl rfl rfl (eP .leq .i64 p0 p2 rfl (fun h=>by exact(cR h:cv (true&&((decide (p0>=p1))==true)) (vi p0)= (vi p0))) (fun h=>by exact(cR h:cv (true&&((decide (p0>=p1))==true)) (vi p2)= (vi p2))) rfl) (RL.pick (decide (p0>=p1)) (vb ((decide (p0>=p1))&&(decide (p0<=p2)))) (iX true) (aO (vb ((decide (p0>=p1))&&(decide (p0<=p2)))) (RL.nt (RC.ret ?_)))))
 obtain rfl:=oi j
 exact cD ⟨rfl,o.drop 0⟩
theorem jH {res:Bool} (o:Holds E w V) (j:ji N p0=some res):
    Calls bD 74 [(vi p0)].toArray w (gR (bF E V res)):=by
 unfold ji at j
 refine enter Tryz.func74 zr zr (RC.sr (aO (vb false) (RL.ns (mv (vi p0) ?_))))
 obtain⟨aa,ab,j⟩:=bd j
 refine RL.call zt zr HY [(vi p0),(vi (-1000000)),(vi 1000000)] zr (aF (uS N (p0:=p0) (p1:=(-1000000)) (p2:=1000000) o ab) ?_)
 rintro _ w ⟨rfl,o⟩
 refine aO (vb aa) (RL.nt (RC.ret ?_))
 obtain rfl:=oi j
 exact cD ⟨rfl,o.drop 0⟩
theorem pB {p0:aI} {res:Bool} (j:Holds E w V) (h0:V[i0]? =some (rd v0 p0)) (hb:ki N p0=some res):
    Calls bD 59 [v0].toArray w (gR (bF E V res)):=by
 unfold ki at hb
 refine enter Tryz.func59 zr zr ?_
 have j:=j.dup (i0+0) h0
 refine RC.sr (RL.dD 0 v0 j zr fun aq w j=>?_)
 refine aO (vb false) (RL.nq ?_)
 obtain⟨af,o,hb⟩:=bd hb
 refine RC.jn (fun(af:Bool)=>SH E V [(2,vb af)] []) af ?_ ?_
 ·refine RC.region (RL.bA zr jm (RL.aN 0 j zr eX cH ?_))
  obtain⟨aj,ak,o⟩:=bd o
  refine RL.call zt zr BT [(vi p0.X0)] zr (aF (jH N (p0:=p0.X0) j ak) ?_)
  rintro _ w ⟨rfl,j⟩
  refine mv (vb aj) (gv o (fun aa o=>?_) fun aa o=>?_)
  rotate_left
  ·refine bS aa (bS aa (bS aa (gx aa (vb false) (mv (vb false) (n8 (n8 (n8 (RL.pick false (vb false) zr ?_))))))))
   refine mv (vb false) (n8 (n8 (n8 (RL.pick false (vb false) zr (aO (vb false) (RL.nil ?_))))))
   obtain rfl:=oi o
   exact⟨rfl,j.sp 2 []⟩
  refine RL.bA (hg:=(cg aa)) zr j3 (RL.aN (hg:=(cg aa)) 0 j zr fM cH ?_)
  obtain⟨ag,al,o⟩:=bd o
  refine RL.call (cg aa) zr BT [(vi p0.Y0)] zr (aF (jH N (p0:=p0.Y0) j al) ?_)
  rintro _ w ⟨rfl,j⟩
  refine gx aa (vb ag) (mv (vb ag) (gv o (fun ab o=>?_) fun ab o=>?_))
  rotate_left
  ·refine bS ab (bS ab (bS ab (gx ab (vb false) (mv (vb false) (n8 (n8 (n8 (RL.pick false (vb false) zr ?_))))))))
   refine aO (vb false) (RL.nil ?_)
   obtain rfl:=oi o
   exact⟨rfl,j.sp 2 []⟩
  refine RL.bA (hg:=(cg ab)) zr j4 (RL.aN (hg:=(cg ab)) 0 j zr fY cH ?_)
  obtain⟨ah,an,o⟩:=bd o
  refine RL.call (cg ab) zr BT [(vi p0.X1)] zr (aF (jH N (p0:=p0.X1) j an) ?_)
  rintro _ w ⟨rfl,j⟩
  refine gx ab (vb ah) (mv (vb ah) (gv o (fun ad o=>?_) fun ad o=>?_))
  rotate_left
  ·refine bS ad (bS ad (bS ad (gx ad (vb false) (aO (vb false) (RL.nil ?_)))))
   obtain rfl:=oi o
   exact⟨rfl,j.sp 2 []⟩
  refine RL.bA (hg:=(cg ad)) zr nj (RL.aN (hg:=(cg ad)) 0 j zr i9 cH ?_)
  obtain⟨ai,ao,o⟩:=bd o
  refine RL.call (cg ad) zr BT [(vi p0.Y1)] zr (aF (jH N (p0:=p0.Y1) j ao) ?_)
  rintro _ w ⟨rfl,j⟩
  refine gx ad (vb ai) (aO (vb ai) (RL.nil ?_))
  obtain rfl:=oi o
  exact⟨rfl,j.sp 2 []⟩
 rintro _ w ⟨O,rfl,j⟩
 refine aG (RC.ret ?_)
 obtain rfl:=oi hb
 exact cD ⟨rfl,j.drop 0⟩
def rZ (E:World) (V:List HP) (r:Int) (U:Nat->Value) (w:World):Prop:=lK bD 30 Tryz.f38 (aP E V r) .ret U w
theorem rm {p0: (List aI)} (o:Holds E w V) (h0:V[i0]? =some (rd v0 p0)) (hb:iZ N p0=some res):
    Calls bD 38 [v0].toArray w (gR (aP E V res)):=by
 unfold iZ at hb
 refine enter Tryz.func38 zr zr ?_
 have o:=o.dup (i0+0) h0
 refine RC.sr (aO (vi 0) (RL.nq (RC.sr (mv v0 (RL.bE 0 p0 o pY (ic ((p0.length:Int)) 2000 (RL.nt (fq hb (fun hc hb=>?_) fun hc hb=>?_))))))))
 ·refine RC.sr (aO (vi 2) (RL.nt (RC.rt ?_)))
  obtain rfl:=oi hb
  exact cD ⟨rfl,o.drop 1⟩
 refine RC.ss (RC.sr (mv v0 (RL.bE 0 p0 o pY (mv (vi 0) (RL.nt ?_)))))
 obtain⟨aq,hN,hb⟩:=bd hb
 refine RC.range (fun(ae:Nat) (af:Unit)=>SH E V [(8,v0),(9,vi p0.length),(10,vi ae)] [rd v0 p0]) (fun(af:Unit)=>SH E V [] [rd v0 p0]) (rZ E V) hN ?_ ?_ ?_ ?_ ?_
 ·exact o.sp 1 [0]
 ·rintro hm af _ w ⟨O,rfl,o⟩
  refine RC.sr (ic ((p0.length:Int)) ((p0.length:Int)) (RL.nq (RC.cT m4 (RC.ex ?_))))
  exact⟨rfl,o.sp 1 [0]⟩
 ·rintro hm ae af fl _ w hk ⟨O,rfl,o⟩ hb
  refine RC.sr (ic ((ae:Int)) ((p0.length:Int)) (RL.nq (RC.cS (m0 hk) (RC.ss (RC.bs ?_)))))
  obtain⟨j,aj,hb⟩:=bd hb
  refine RL.cC 0 o lq aj fun au o=>(RL.bT 0 j o iz fun av o=>(RL.alloc o n9.z fun ab w o=>?_))
  refine RL.bG 0 o 1 zr iz fun w o=>?_
  refine RL.nq (RC.sr (RL.aX (f:=(fun x=>x)) 0 o zr Fd.self iz fun ak o=>?_))
  obtain⟨al,an,hb⟩:=bd hb
  refine RL.call zt zr Gw [ak] zr (aF (pB N (i0:=0) o zr an) ?_)
  rintro _ w ⟨rfl,o⟩
  refine RL.not al (RL.nt (fq hb (fun hc hb=>?_) fun hc hb=>?_))
  ·refine RC.sr (aO (vi 1) (RL.nt (RC.rt (iY (bL ?_)))))
   obtain rfl:=oi hb
   exact⟨rfl,cD ⟨rfl,o.drop 5⟩⟩
  refine RC.sx (RL.bA rfl j4 (RL.aN 1 o rfl fY cH (RL.bA rfl jm (RL.aN 1 o rfl eX cH (ic j.X1 j.X0 (mv (vb (decide (j.X1<=j.X0))) (RL.gs true (decide (j.X1<=j.X0)) (vp ab 3) rfl rfl rfl (dQ nj) (RL.gs true (decide (j.X1<=j.X0)) (vi j.Y1) rfl rfl rfl (bX 1 rfl o (fun h=>by exact(cR h:cv (true&&((decide (j.X1<=j.X0))==false)) (vp ab 3)= (vp ab 3))) rfl i9 cH) ?_))))))))
  refine RL.gs true (decide (j.X1<=j.X0)) (vp ab 1) rfl rfl rfl (dQ j3) (RL.gs true (decide (j.X1<=j.X0)) (vi j.Y0) rfl rfl rfl (bX 1 rfl o (fun h=>by exact(cR h:cv (true&&((decide (j.X1<=j.X0))==false)) (vp ab 1)= (vp ab 1))) rfl fM cH) (RL.gs true (decide (j.X1<=j.X0)) (vb (decide (j.Y1<=j.Y0))) rfl rfl rfl (eP .leq .i64 j.Y1 j.Y0 rfl (fun h=>by exact(cR h:cv (true&&((decide (j.X1<=j.X0))==false)) (vi j.Y1)= (vi j.Y1))) (fun h=>by exact(cR h:cv (true&&((decide (j.X1<=j.X0))==false)) (vi j.Y0)= (vi j.Y0))) rfl) (RL.pick (decide (j.X1<=j.X0)) (vb ((decide (j.X1<=j.X0))||(decide (j.Y1<=j.Y0)))) (px true rfl) (RL.nt (fq hb (fun hc hb=>?_) fun hc hb=>?_)))))
  rotate_left
  ·refine RC.skip (bU (aG (RC.region (RL.inc hk hm (mv (vi ((ae+1:Nat):Int)) (RL.nil ?_))))))
   obtain rfl:=oi hb
   exact⟨rfl,o.sp 5 [4]⟩
  refine RC.sr (aO (vi 13) (RL.nt (RC.rb (bL ?_))))
  obtain rfl:=oi hb
  exact⟨rfl,cD ⟨rfl,o.drop 5⟩⟩
 ·intro r U w e hK
  subst e
  refine bL ?_
  obtain rfl:=oi hb
  exact hK
 rintro af _ w rfl ⟨O,rfl,o⟩
 rw [Fo.fZ] at hb
 refine aG (RC.sr (aO (vi 0) (RL.nt (RC.ret ?_))))
 obtain rfl:=oi hb
 exact cD ⟨rfl,o.drop 1⟩
theorem qf {p0: (List aI)} {res: (List aI)} (j:Holds E w V) (h0:V[i0]? =some (rd v0 p0)) (o:gI N p0=some res):
    Calls bD 60 [v0].toArray w (gR (kz E V res)):=by
 unfold gI at o
 refine enter Tryz.func60 zr zr ?_
 have j:=j.dup (i0+0) h0
 refine RC.sr (aO (.slice none 0 0) (RL.nq (RC.sr (mv v0 (RL.Gn (i:=0) zt zr j zr zr zr pY (RL.nt (RC.cond (b:=(El v0)) zr (fun hc=>?_) (fun hc=>?_))))))))
 ·have hx:=j.HS (i:=0) rfl hc
  rw [hx] at o
  replace o:some ([]: (List aI))=_:=o
  refine RC.sr (aO (.slice none 0 0) (RL.nt (RC.rt ?_)))
  obtain rfl:=oi o
  have j:=j.dH aI 49
  exact cD (j.pk 2 [0])
 refine RC.sx (RL.eY ([]: (List aI)) j [] lq n9 (fun M hs g=>zt) fun ae w j=>(mv v0 ?_))
 obtain⟨af,ab,o⟩:=bd o
 refine RL.app 0 1 j BU ab fun ad w j=>?_
 refine aO ad (RL.nt (RC.ret ?_))
 obtain rfl:=oi o
 exact cD (j.pk 2 [0])
theorem s9 {p0 p1:aI} (j:Holds E w V) (h0:V[i0]? =some (rd v0 p0)) (h1:V[i1]? =some (rd v1 p1)) (o:hG N p0 p1=some res):
    Calls bD 62 [v0,v1].toArray w (gR (aP E V res)):=by
 unfold hG at o
 refine enter Tryz.func62 zr zr ?_
 have j:=(j.dup (i0+0) h0).dup (i1+1) h1
 refine RC.sr (RL.dD 1 v0 j zr fun aa w j=>?_)
 refine RL.dD 1 v1 j zr fun ab w j=>?_
 refine aO (vi 0) (RL.ns (RL.bA zr j3 (RL.aN 1 j zr fM cH (RL.bA zr j3 (RL.aN 0 j zr fM cH (RL.jC p0.Y0 p1.Y0 (aO (vi (IntKind.wrap .i64 (p0.Y0 - p1.Y0))) (RL.nt ?_))))))))
 refine RC.ret ?_
 obtain rfl:=oi o
 exact cD ⟨rfl,j.drop 4⟩
def qg (E:World) (V:List HP) (r: (List Int)) (U:Nat->Value) (w:World):Prop:=lK bD 61 Tryz.f64 (j5 E V r) .ret U w
theorem pG {p0: (List Int)} {res: (List Int)} (j:Holds E w (own 3 v0 p0::V)) (o:fC N p0=some res):
    Calls bD 64 [v0].toArray w (gR (j5 E V res)):=by
 unfold fC at o
 refine enter Tryz.func64 zr zr (RC.sr (aO (.slice none 0 0) (RL.nq (RC.sr (mv v0 (RL.fU 0 p0 j lM (ic ((p0.length:Int)) 2 (RL.nt ?_))))))))
 refine fq o (fun hc o=>?_) fun hc o=>?_
 ·refine RC.sr (mv v0 (aO v0 (RL.nt (RC.rt ?_))))
  obtain rfl:=oi o
  exact cD (j.pk 1 [0])
 refine RC.ss (RC.sr (aO (vi 1) (RL.nt ?_)))
 obtain⟨a2,hN,o⟩:=bd o
 refine RC.iter (fun(ab:Int)=>SH E V [(0,v0),(3,vi ab)] [own 3 v0 p0]) (fun(ab:Int)=>SH E V [(0,v0)] [own 3 v0 p0]) (qg E V) hN ?_ ?_ ?_ ?_
 ·exact j.sp 1 [0]
 ·rintro ab fl _ w ⟨O,rfl,j⟩ o
  refine RC.seq (RC.sr (mv (vi ab) (mv v0 (RL.fU 0 p0 j lM (ic ab ((p0.length:Int)) (RL.nt (fq o (fun hc o=>?_) fun hc o=>?_)))))))
  rotate_left
  ·refine RC.ex ?_
   obtain rfl:=oi o
   exact⟨rfl,j.sp 1 [0]⟩
  refine RC.ss (RC.block (RC.seq (RC.wy mixed ?_)))
  have j:=j.drew
  refine RO.go (mv v0 (RO.nx (mv (vi ab) (RO.nx ?_))))
  obtain⟨au,al,o⟩:=bd o
  refine RL.bJ 0 j zr zr eF al (RO.nx (RL.cO (f:=(fun x=>x)) 0 j (jv 0 j al 0) (aY al).2.1 Fd.self cH (RO.nx (mv v0 (RO.nx (mv (vi ab) (RO.nx (RL.jC ab 1 ?_))))))))
  refine RO.nx ?_
  obtain⟨av,an,o⟩:=bd o
  refine RL.bJ 0 j zr zr eF an (RO.nx (RL.cO (f:=(fun x=>x)) 0 j (jv 0 j an 0) (aY an).2.1 Fd.self cH (RO.nx (ic au av (RO.last (aG (fq o (fun hc o=>?_) fun hc o=>?_)))))))
  rotate_left
  ·refine RC.skip (bU (aG (RC.region (mv (vi ab) (RL.jC ab 1 (aO (vi (IntKind.wrap .i64 (ab+1))) (RL.nil ?_)))))))
   obtain rfl:=oi o
   exact⟨rfl,j.sp 1 [0]⟩
  refine RC.sr (mv v0 (mv (vi ab) ?_))
  obtain⟨a3,af,o⟩:=bd o
  refine RL.view 0 ab zr j zr zr eF af (aO (vw v0 (Int.toNat ab) 1) (RL.nq (RC.sr (aO (vi 1) (RL.nt ?_)))))
  obtain⟨a4,hN,o⟩:=bd o
  refine RC.iter (fun(aa: (List Int)×Int×Int)=>SH E V [(0,v0),(3,vi aa.2.1),(4,(vw v0 (Int.toNat ab) 1)),(5,vi aa.2.2)] [own 3 v0 aa.1]) (fun(aa: (List Int)×Int×Int)=>SH E V [(0,v0),(3,vi aa.2.1)] [own 3 v0 aa.1]) (fun(r:Empty) _ _=>r.elim) hN ?_ ?_ ?_ ?_
  ·exact j.sp 1 [0]
  ·rintro aa fl _ w ⟨O,rfl,j⟩ o
   refine RC.seq (RC.sr (mv (vi aa.2.2) (mv (vw v0 (Int.toNat ab) 1) (RL.FA (i:=0) (l:=aa.1) zt zr j zr zr lM (ic aa.2.2 ((((aa.1.length - Int.toNat ab):Nat):Int)) (RL.nt (fq o (fun hc o=>?_) fun hc o=>?_)))))))
   rotate_left
   ·refine RC.ex ?_
    obtain rfl:=oi o
    exact⟨rfl,j.sp 1 [0]⟩
   refine RC.ss (RC.block (RC.seq (RC.wy mixed ?_)))
   have j:=j.drew
   refine RO.go (mv (vw v0 (Int.toNat ab) 1) (RO.nx (mv (vi aa.2.2) (RO.nx ?_))))
   obtain⟨aw,ag,o⟩:=bd o
   refine RL.CL 0 ab zr j zr zr zr eF (Al af) (iC ag).1 (iC ag).2 (RO.nx (RL.cO (f:=(fun x=>x)) 0 j (jv 0 j (iC ag).2 0) (aY (iC ag).2).2.1 Fd.self cH (RO.nx (mv (vw v0 (Int.toNat ab) 1) (RO.nx (mv (vi aa.2.2) (RO.nx (RL.jC aa.2.2 1 ?_))))))))
   refine RO.nx ?_
   obtain⟨ax,ah,o⟩:=bd o
   refine RL.CL 0 ab zr j zr zr zr eF (Al af) (iC ah).1 (iC ah).2 (RO.nx (RL.cO (f:=(fun x=>x)) 0 j (jv 0 j (iC ah).2 0) (aY (iC ah).2).2.1 Fd.self cH (RO.nx (ic aw ax (RO.last (aG ?_))))))
   obtain⟨ai,hj,o⟩:=bd o
   refine RC.jn (fun(ai: (List Int)×Int)=>SH E V [(0,v0),(3,vi ai.2),(4,(vw v0 (Int.toNat ab) 1)),(5,vi aa.2.2)] [own 3 v0 ai.1]) ai ?_ ?_
   ·refine fq hj (fun hc hj=>?_) fun hc hj=>?_
    rotate_left
    ·refine RC.skip ?_
     obtain rfl:=oi hj
     exact⟨rfl,j.sp 1 [0]⟩
    refine RC.sr (mv v0 (mv (vi aa.2.1) (mv (vw v0 (Int.toNat ab) 1) (mv (vi aa.2.2) ?_))))
    obtain⟨ay,aj,hj⟩:=bd hj
    refine RL.CL 0 ab zr j zr zr zr eF (Al af) (iC aj).1 (iC aj).2 (RL.cO (f:=(fun x=>x)) 0 j (jv 0 j (iC aj).2 0) (aY (iC aj).2).2.1 Fd.self cH ?_)
    obtain⟨a5,ao,hj⟩:=bd hj
    refine RL.bJ 0 j zr zr eF ao ?_
    have j:=j.sc Int ay
    refine RL.gj (f:=(fun _ y=>y)) 1 0 j (jv 1 j ao 0) (aY ao).2.1 zr Fs.self cH fun w j=>?_
    refine RL.nt (RC.region (mv (vi aa.2.1) (RL.jC aa.2.1 1 (aO (vi (IntKind.wrap .i64 (aa.2.1+1))) (RL.nil ?_)))))
    obtain rfl:=oi hj
    exact⟨rfl,j.sp 2 [1]⟩
   rintro _ w ⟨O,rfl,j⟩
   refine bU (aG (RC.region (mv (vi aa.2.2) (RL.jC aa.2.2 1 (aO (vi (IntKind.wrap .i64 (aa.2.2+1))) (RL.nil ?_))))))
   obtain rfl:=oi o
   exact⟨rfl,j.sp 1 [0]⟩
  ·intro r _ _ _ _
   exact r.elim
  rintro aa _ w rfl ⟨O,rfl,j⟩
  rw [Fo.fZ] at o
  refine aG (RC.sr (mv v0 (mv (vi aa.2.1) ?_)))
  obtain⟨a6,aq,o⟩:=bd o
  refine RL.view 0 aa.2.1 zr j zr zr eF aq (RL.yU 0 zt j zr zr sV Ge (CM aq) fun w j=>(RL.ns (mv v0 (mv (vi aa.2.1) ?_))))
  obtain⟨a7,az,o⟩:=bd o
  refine RL.xH 0 zr j zr zr eF (.inr ⟨rfl,zr⟩) az fun a0 j=>(aO a0 (RL.nt (RC.rb (bL ?_))))
  obtain rfl:=oi o
  exact⟨rfl,cD (j.pk 1 [0])⟩
 ·intro r U w e hK
  subst e
  refine bL ?_
  obtain rfl:=oi o
  exact hK
 rintro ab _ w rfl ⟨O,rfl,j⟩
 rw [Fo.fZ] at o
 refine aG (RC.sr (mv v0 (aO v0 (RL.nt (RC.ret ?_)))))
 obtain rfl:=oi o
 exact cD (j.pk 1 [0])
theorem tc {p0:aI} {p1: (List Int)} {res:Bool} (j:Holds E w V) (h0:V[i0]? =some (rd v0 p0)) (h1:V[i1]? =some (pt v1 p1)) (h2:V[i2]? =some (pt v2 p2)) (o:lx N p0 p1 p2=some res):
    Calls bD 66 [v0,v1,v2].toArray w (gR (bF E V res)):=by
 unfold lx at o
 refine enter Tryz.func66 zr zr ?_
 have j:=((j.dup (i0+0) h0).ve (i:=i1+1) h1).ve (i:=i2+2) h2
 refine RC.sr (RL.dD 2 v0 j zr fun ad w j=>?_)
 refine aO (vb false) (RL.nq (RC.wy mixed ?_))
 have j:=j.drew
 refine RO.go (RL.bA zr nj (RO.nx (RL.aN 0 j zr i9 cH (RO.nx (RL.bT 2 p1 j fF fun ae j=>(RO.nx (RL.bK p2 2 j cH (RO.nx ?_))))))))
 obtain⟨aa,ab,o⟩:=bd o
 refine RL.cC 0 j eF ab fun af j=>(RO.nx (RL.bK aa 0 j cH (RO.nx (ic p0.Y1 aa (RO.nx (aO (vb (decide (p0.Y1<=aa))) (RO.last (aG ?_))))))))
 refine RC.ret ?_
 obtain rfl:=oi o
 exact cD ⟨rfl,j.drop 6⟩
def oI (E:World) (V:List HP) (r:Int) (U:Nat->Value) (w:World):Prop:=lK bD 19 Tryz.f78 (aP E V r) .ret U w
theorem og {p0: (List aI)} {p1:aI->Option Bool} (j:Holds E w V) (h0:V[i0]? =some (rd v0 p0)) (h1:D7 bD E V v1 p1 (fun(r:Bool)=>Value.bool r)) (o:jI N p0 p1=some res):
    Calls bD 78 [v0,v1].toArray w (gR (aP E V res)):=by
 unfold jI at o
 refine enter Tryz.func78 zr zr ?_
 have j:=j.dup (i0+0) h0
 refine RC.sr (aO (vi 0) (RL.nq (RC.sr (mv v0 (RL.bE 0 p0 j pY (mv (vi 0) (RL.nt ?_)))))))
 obtain⟨al,hN,o⟩:=bd o
 refine RC.range (fun(aa:Nat) (ab:Unit)=>SH E V [(0,v0),(1,v1),(7,vi p0.length),(8,vi aa)] [rd v0 p0]) (fun(ab:Unit)=>SH E V [] [rd v0 p0]) (oI E V) hN ?_ ?_ ?_ ?_ ?_
 ·exact j.sp 1 [0]
 ·rintro hm ab _ w ⟨O,rfl,j⟩
  refine RC.sr (ic ((p0.length:Int)) ((p0.length:Int)) (RL.nq (RC.cT m4 (RC.ex ?_))))
  exact⟨rfl,j.sp 1 [0]⟩
 ·rintro hm aa ab fl _ w hk ⟨O,rfl,j⟩ o
  refine RC.sr (ic ((aa:Int)) ((p0.length:Int)) (RL.nq (RC.cS (m0 hk) (RC.ss (RC.bs (mv (vi aa) (aO (vi aa) (RL.ns ?_))))))))
  refine mv v1 (mv v0 (mv (vi aa) ?_))
  obtain⟨ag,ah,o⟩:=bd o
  refine RL.cC 0 j lq ah fun ao j=>(RL.bT 0 ag j iz fun aq j=>?_)
  obtain⟨ar,ai,o⟩:=bd o
  refine RL.xF 0 zr j zr h1 3 zr zr zr ai fun w j=>(RL.nt (fq o (fun hc o=>?_) fun hc o=>?_))
  rotate_left
  ·refine RC.skip (bU (aG (RC.region (RL.inc hk hm (mv (vi ((aa+1:Nat):Int)) (RL.nil ?_))))))
   obtain rfl:=oi o
   exact⟨rfl,j.sp 3 [2]⟩
  refine RC.sr (mv (vi aa) (aO (vi aa) (RL.nt (RC.rb (bL ?_)))))
  obtain rfl:=oi o
  exact⟨rfl,cD ⟨rfl,j.drop 3⟩⟩
 ·intro r U w e hK
  subst e
  refine bL ?_
  obtain rfl:=oi o
  exact hK
 rintro ab _ w rfl ⟨O,rfl,j⟩
 rw [Fo.fZ] at o
 refine aG (RC.sr (aO (vi (-1)) (RL.nt (RC.ret ?_))))
 obtain rfl:=oi o
 exact cD ⟨rfl,j.drop 1⟩
def j6 (E:World) (V:List HP) (v0:Value) (p0: (List aI)) (res:Int) (v:Value) (w:World):Prop:=v= (vi res)/\Holds E w ([own 49 v0 p0]++V)
def nn (E:World) (V:List HP) (v0:Value) (p0: (List aI)) (r:Int) (U:Nat->Value) (w:World):Prop:=lK bD 19 Tryz.f78 (j6 E V v0 p0 r) .ret U w
theorem mU {p0: (List aI)} {p1:aI->Option Bool} (o:Holds E w (own 49 v0 p0::V)) (h1:D7 bD E V v1 p1 (fun(r:Bool)=>Value.bool r)) (j:iQ N p0 p1=some res):
    Calls bD 78 [v0,v1].toArray w (gR (j6 E V v0 p0 res)):=by
 unfold iQ at j
 refine enter Tryz.func78 zr zr (RC.sr (aO (vi 0) (RL.nq (RC.sr (mv v0 (RL.fU 0 p0 o pY (mv (vi 0) (RL.nt ?_))))))))
 obtain⟨ak,hN,j⟩:=bd j
 refine RC.range (fun(aa:Nat) (ab:Unit)=>SH E V [(0,v0),(1,v1),(7,vi p0.length),(8,vi aa)] [own 49 v0 p0]) (fun(ab:Unit)=>SH E V [(0,v0)] [own 49 v0 p0]) (nn E V v0 p0) hN ?_ ?_ ?_ ?_ ?_
 ·exact o.sp 1 [0]
 ·rintro hm ab _ w ⟨O,rfl,o⟩
  refine RC.sr (ic ((p0.length:Int)) ((p0.length:Int)) (RL.nq (RC.cT m4 (RC.ex ?_))))
  exact⟨rfl,o.sp 1 [0]⟩
 ·rintro hm aa ab fl _ w hk ⟨O,rfl,o⟩ j
  refine RC.sr (ic ((aa:Int)) ((p0.length:Int)) (RL.nq (RC.cS (m0 hk) (RC.ss (RC.bs (mv (vi aa) (aO (vi aa) (RL.ns ?_))))))))
  refine mv v1 (mv v0 (mv (vi aa) ?_))
  obtain⟨an,ad,j⟩:=bd j
  refine RL.bJ 0 o zr zr lq ad (RL.kP (f:=(fun x=>x)) 0 o (jv 0 o ad 0) (aY ad).2.1 Fd.self iz fun ao o=>?_)
  obtain⟨aq,ah,j⟩:=bd j
  refine RL.xF 0 zr o zr h1 2 zr zr zr ah fun w o=>(RL.nt (fq j (fun hc j=>?_) fun hc j=>?_))
  rotate_left
  ·refine RC.skip (bU (aG (RC.region (RL.inc hk hm (mv (vi ((aa+1:Nat):Int)) (RL.nil ?_))))))
   obtain rfl:=oi j
   exact⟨rfl,o.sp 2 [1]⟩
  refine RC.sr (mv (vi aa) (aO (vi aa) (RL.nt (RC.rb (bL ?_)))))
  obtain rfl:=oi j
  exact⟨rfl,cD ⟨rfl,o.pk 2 [1]⟩⟩
 ·intro r U w e hK
  subst e
  refine bL ?_
  obtain rfl:=oi j
  exact hK
 rintro ab _ w rfl ⟨O,rfl,o⟩
 rw [Fo.fZ] at j
 refine aG (RC.sr (aO (vi (-1)) (RL.nt (RC.ret ?_))))
 obtain rfl:=oi j
 exact cD ⟨rfl,o.pk 1 [0]⟩
theorem nH {p0: (List aI)} {p1:aI->Option Bool} {res: (List aI)} (j:Holds E w (own 49 v0 p0::V)) (h1:D7 bD E V v1 p1 (fun(r:Bool)=>Value.bool r)) (o:fV N p0 p1=some res):
    Calls bD 65 [v0,v1].toArray w (gR (kz E V res)):=by
 unfold fV at o
 refine enter Tryz.func65 zr zr (RC.sr (aO (.slice none 0 0) (RL.ns (mv v0 (mv v1 ?_)))))
 have j:=j.pull 0
 obtain⟨ad,aj,o⟩:=bd o
 refine RL.call zt zr Gz [v0,v1] zr (aF (mU N j (h1.lift 1 zr) aj) ?_)
 rintro _ w ⟨rfl,j⟩
 refine aO (vi ad) (RL.nq (RC.sr (mv (vi ad) (ic ad ((-1)) (RL.nt (fq o (fun hc o=>?_) fun hc o=>?_))))))
 ·refine RC.sr (mv v0 (aO v0 (RL.nt (RC.rt ?_))))
  obtain rfl:=oi o
  exact cD (j.pk 2 [0])
 refine RC.ss (RC.sr (mv (vi ad) (RL.jC ad 1 (aO (vi (IntKind.wrap .i64 (ad+1))) (RL.nt ?_)))))
 obtain⟨ar,hN,o⟩:=bd o
 refine RC.iter (fun(aa: (List aI)×Int×Int)=>SH E V [(0,v0),(1,v1),(5,vi aa.2.1),(6,vi aa.2.2)] [own 49 v0 aa.1]) (fun(aa: (List aI)×Int×Int)=>SH E V [(0,v0),(5,vi aa.2.1)] [own 49 v0 aa.1]) (fun(r:Empty) _ _=>r.elim) hN ?_ ?_ ?_ ?_
 ·exact j.sp 2 [0]
 ·rintro aa fl _ w ⟨O,rfl,j⟩ o
  refine RC.seq (RC.sr (mv (vi aa.2.2) (mv v0 (RL.fU 0 aa.1 j pY (ic aa.2.2 ((aa.1.length:Int)) (RL.nt (fq o (fun hc o=>?_) fun hc o=>?_)))))))
  rotate_left
  ·refine RC.ex ?_
   obtain rfl:=oi o
   exact⟨rfl,j.sp 1 [0]⟩
  refine RC.ss (RC.bs (mv v0 (mv (vi aa.2.2) ?_)))
  obtain⟨av,ag,o⟩:=bd o
  refine RL.bJ 0 j zr zr lq ag (RL.kP (f:=(fun x=>x)) 0 j (jv 0 j ag 0) (aY ag).2.1 Fd.self iz fun aw j=>?_)
  refine RL.alloc j n9.z fun ax w j=>?_
  refine RL.bG 0 j 1 zr iz fun w j=>?_
  refine RL.ns (mv v1 (RL.aX (f:=(fun x=>x)) 0 j zr Fd.self iz fun ay j=>?_))
  obtain⟨al,an,o⟩:=bd o
  refine RL.xF 0 zr j zr h1 4 zr zr zr an fun w j=>(RL.not al (RL.nt ?_))
  obtain⟨af,hj,o⟩:=bd o
  refine RC.jn (fun(af: (List aI)×Int)=>SH E V [(0,v0),(1,v1),(5,vi af.2),(6,vi aa.2.2)] [own 49 v0 af.1]) af ?_ ?_
  ·refine fq hj (fun hc hj=>?_) fun hc hj=>?_
   rotate_left
   ·refine RC.skip ?_
    obtain rfl:=oi hj
    exact⟨rfl,j.sp 4 [3]⟩
   refine RC.sr (mv v0 (mv (vi aa.2.1) (RL.aX (f:=(fun x=>x)) 1 j zr Fd.self iz fun az j=>?_)))
   obtain⟨a0,ah,hj⟩:=bd hj
   refine RL.bJ 4 j zr zr lq ah (RL.gj (f:=(fun _ y=>y)) 4 0 j (jv 4 j ah 0) (aY ah).2.1 zr Fs.self iz fun w j=>?_)
   refine RL.nt (RC.region (mv (vi aa.2.1) (RL.jC aa.2.1 1 (aO (vi (IntKind.wrap .i64 (aa.2.1+1))) (RL.nil ?_)))))
   obtain rfl:=oi hj
   exact⟨rfl,j.sp 5 [4]⟩
  rintro _ w ⟨O,rfl,j⟩
  refine bU (aG (RC.region (mv (vi aa.2.2) (RL.jC aa.2.2 1 (aO (vi (IntKind.wrap .i64 (aa.2.2+1))) (RL.nil ?_))))))
  obtain rfl:=oi o
  exact⟨rfl,j.sp 1 [0]⟩
 ·intro r _ _ _ _
  exact r.elim
 rintro aa _ w rfl ⟨O,rfl,j⟩
 rw [Fo.fZ] at o
 refine aG (RC.sr (mv v0 (mv (vi aa.2.1) ?_)))
 obtain⟨a1,ai,o⟩:=bd o
 refine RL.view 0 aa.2.1 zr j zr zr lq ai (RL.yU 0 zt j zr zr BU H5 (CM ai) fun w j=>(RL.ns (mv v0 (mv (vi aa.2.1) ?_))))
 obtain⟨a2,ao,o⟩:=bd o
 refine RL.xH 0 zr j zr zr lq (.inr ⟨rfl,zr⟩) ao fun aq j=>(aO aq (RL.nt (RC.ret ?_)))
 obtain rfl:=oi o
 exact cD (j.pk 1 [0])
theorem pH {p0 p1:aI} (j:Holds E w V) (h0:V[i0]? =some (rd v0 p0)) (h1:V[i1]? =some (rd v1 p1)) (o:fD N p0 p1=some res):
    Calls bD 85 [v0,v1].toArray w (gR (aP E V res)):=by
 unfold fD at o
 refine enter Tryz.func85 zr zr ?_
 have j:=(j.dup (i0+0) h0).dup (i1+1) h1
 refine RC.sr (RL.dD 1 v0 j zr fun aa w j=>?_)
 refine RL.dD 1 v1 j zr fun ab w j=>?_
 refine aO (vi 0) (RL.ns (RL.bA zr jm (RL.aN 1 j zr eX cH (RL.bA zr jm (RL.aN 0 j zr eX cH (RL.jC p0.X0 p1.X0 (aO (vi (IntKind.wrap .i64 (p0.X0 - p1.X0))) (RL.nt ?_))))))))
 refine RC.ret ?_
 obtain rfl:=oi o
 exact cD ⟨rfl,j.drop 4⟩
def te (E:World) (V:List HP) (v0:Value) (res: (List Int)×(List aI)) (v:Value) (w:World):Prop:=Holds E w ([own 3 v res.1,own 49 v0 res.2]++V)
theorem r5 {p0: (List aI)} {res: (List Int)×(List aI)} (j:Holds E w (own 49 v0 p0::V)) (hb:gO N p0=some res):
    Calls bD 68 [v0].toArray w (gR (te E V v0 res)):=by
 unfold gO at hb
 refine enter Tryz.func68 zr zr (RC.sr (aO (.slice none 0 0) (RL.ns (mv v0 ?_))))
 obtain⟨af,a1,hb⟩:=bd hb
 have j:=j.pull 0
 refine RL.call zt zr Gx [v0,(.func (.func 85) #[] #[])] zr (aF (Bn Tryz.lay61 aI zr iz.D6 iz.sz H8 (fun j hi o hr=>pH N j hi o hr) j a1) ?_)
 rintro _ w ⟨rfl,j⟩
 refine RL.ns (aO (.slice none 0 0) (RL.nq (RC.sr (mv v0 (RL.fU 0 af j pY (mv (vi 0) (RL.nt ?_)))))))
 have j:=j.dH Int 3
 obtain⟨aa,hN,hb⟩:=bd hb
 refine RC.fold (fun(ah:Nat) (aa: (List Int)) U w=>∃av:Value,SH E V [(0,v0),(3,av),(9,v0),(10,vi af.length),(11,vi ah)] [own 49 v0 af,own 3 av aa] U w) (fun(aa: (List Int)) U w=>∃ai:Value,SH E V [(0,v0),(3,ai)] [own 49 v0 af,own 3 ai aa] U w) hN ?_ ?_ ?_ ?_
 ·exact⟨(.slice none 0 0),j.sp 3 [1,0]⟩
 ·rintro hm aa _ w ⟨a3,O,rfl,j⟩
  refine RC.sr (ic ((af.length:Int)) ((af.length:Int)) (RL.nq (RC.cT m4 (RC.ex ?_))))
  exact⟨rfl,a3,j.sp 2 [0,1]⟩
 ·rintro hm ah aa s' _ w hk ⟨ag,O,rfl,j⟩ hb
  refine RC.sr (ic ((ah:Int)) ((af.length:Int)) (RL.nq (RC.cS (m0 hk) (RC.ss (RC.bs ?_)))))
  obtain⟨ae,ak,hb⟩:=bd hb
  refine RL.bJ 0 j zr zr lq ak (RL.kP (f:=(fun x=>x)) 0 j (jv 0 j ak 0) (aY ak).2.1 Fd.self iz fun a6 j=>?_)
  refine RL.alloc j n9.z fun ay w j=>?_
  refine RL.bG 0 j 1 zr iz fun w j=>?_
  refine RL.ns (mv ag (RL.fU 3 aa j lM (RL.jC (aa.length:Int) 1 (aO (vi (IntKind.wrap .i64 ((aa.length:Int) - 1))) (RL.nq ?_)))))
  obtain⟨al,o,hb⟩:=bd hb
  refine RC.jn (fun(al:Bool)=>SH E V [(0,v0),(3,ag),(5,vp ay 0),(6,(vi (IntKind.wrap .i64 ((aa.length:Int) - 1)))),(9,v0),(10,vi af.length),(11,vi ah),(28,vb al)] [own 49 v0 af,own 3 ag aa,bx 49 ay ae]) al ?_ ?_
  ·refine RC.wy mixed ?_
   have j:=j.drew
   refine RO.go (mv (vi (IntKind.wrap .i64 ((aa.length:Int) - 1))) (RO.nx (ic ((IntKind.wrap .i64 ((aa.length:Int) - 1))) 0 (RO.nx (mv (vb (decide ((IntKind.wrap .i64 ((aa.length:Int) - 1))>=0))) (gv o (fun ab o=>?_) fun ab o=>?_))))))
   rotate_left
   ·refine RO.nx (bS ab (RO.nx (bS ab (RO.nx (bS ab (RO.nx (bS ab (RO.nx ?_))))))))
    refine bS ab (RO.nx (bS ab (RO.nx (bS ab (RO.nx (gx ab (vb false) (RO.last ?_)))))))
    obtain rfl:=oi o
    exact⟨rfl,j.sp 4 [2,3,0]⟩
   refine RO.nx (RL.bA (hg:=(cg ab)) zr jm (RO.nx (RL.aN (hg:=(cg ab)) 0 j zr eX cH (RO.nx (RL.move ag (cg ab) (RO.nx (RL.move (vi (IntKind.wrap .i64 ((aa.length:Int) - 1))) (cg ab) (RO.nx ?_))))))))
   obtain⟨az,an,o⟩:=bd o
   refine RL.bJ (hg:=(cg ab)) 3 j zr zr eF an (RO.nx (RL.cO (hg:=(cg ab)) (f:=(fun x=>x)) 3 j (jv 3 j an 0) (aY an).2.1 Fd.self cH (RO.nx (RL.jP ae.X0 az (cg ab) (RO.nx (gx ab (vb (decide (ae.X0<=az))) (RO.last ?_)))))))
   obtain rfl:=oi o
   exact⟨rfl,j.sp 4 [2,3,0]⟩
  rintro _ w ⟨O,rfl,j⟩
  refine aG ?_
  obtain⟨ao,o,hb⟩:=bd hb
  refine RC.jn (fun(ao: (List Int)) U w=>∃aj:Value,SH E V [(0,v0),(3,aj),(9,v0),(10,vi af.length),(11,vi ah)] [own 49 v0 af,own 3 aj ao] U w) ao ?_ ?_
  ·refine fq o (fun hc o=>?_) fun hc o=>?_
   rotate_left
   ·refine RC.region (mv ag (RL.bA zr jm (RL.aN 2 j zr eX cH (RL.bA zr j4 (RL.aN 2 j zr fY cH ?_)))))
    have j:=(j.sc Int ae.X0).sc Int ae.X1
    refine RL.eY ([ae.X0,ae.X1]: (List Int)) j [(vi ae.X0),(vi ae.X1)] eF CB (fun M hs g=>⟨(g.sat 1 _ zr).1,⟨(g.sat 0 _ zr).1,zt⟩⟩) fun a7 w j=>?_
    have j:=j.freeze 0
    obtain⟨a8,a5,o⟩:=bd o
    refine RL.app 4 0 j sV a5 fun a0 w j=>?_
    refine aO a0 (RL.nil ?_)
    obtain rfl:=oi o
    exact⟨rfl,a0,j.sp 6 [3,4]⟩
   refine RC.wz mixed [0,0,0,0,0,0,0,0,0,0,2] [0,1,2,3,4,5,6,7,8,9,10] ?_
   have j:=j.drew
   refine DP.e0 zr (mv ag (bZ zr (mv (vi (IntKind.wrap .i64 ((aa.length:Int) - 1))) (bZ zr (mv ag (bZ zr (mv (vi (IntKind.wrap .i64 ((aa.length:Int) - 1))) (bZ zr ?_))))))))
   obtain⟨aq,ar,o⟩:=bd o
   refine RL.bJ 1 j zr zr eF ar (bZ zr (RL.cO (f:=(fun x=>x)) 1 j (jv 1 j ar 0) (aY ar).2.1 Fd.self cH (bZ zr (RL.bA zr j4 (bZ zr (RL.aN 2 j zr fY cH (bZ zr (RL.max aq ae.X1 ?_))))))))
   refine bZ zr ?_
   obtain⟨a9,au,o⟩:=bd o
   refine RL.bJ 1 j zr zr eF au (sB zr ?_)
   have j:=j.sc Int (if aq<ae.X1 then ae.X1 else aq)
   refine RL.gj (f:=(fun _ y=>y)) 2 0 j (jv 2 j au 0) (aY au).2.1 zr Fs.self cH fun w j=>?_
   refine DP.d2 zt (DP.z ?_)
   obtain rfl:=oi o
   exact⟨rfl,ag,j.sp 4 [1,2]⟩
  rintro _ w ⟨aj,O,rfl,j⟩
  refine bU (aG (RC.region (RL.inc hk hm (mv (vi ((ah+1:Nat):Int)) (RL.nil ?_)))))
  obtain rfl:=oi hb
  exact⟨rfl,aj,j.sp 2 [0,1]⟩
 rintro _ w ⟨ai,O,rfl,j⟩
 refine aG (RC.sr (mv ai (aO ai (RL.nt (RC.ret ?_)))))
 obtain rfl:=oi hb
 exact cD (j.pk 2 [1,0])
def r6 (E:World) (V:List HP) (r:Bool) (U:Nat->Value) (w:World):Prop:=lK bD 26 Tryz.f84 (bF E V r) .ret U w
theorem rn {p0: (List Int)} {p1: (List Int)} {res:Bool} (j:Holds E w V) (h0:V[i0]? =some (rd v0 p0)) (h1:V[i1]? =some (rd v1 p1)) (o:kj N p0 p1=some res):
    Calls bD 84 [v0,v1].toArray w (gR (bF E V res)):=by
 unfold kj at o
 refine enter Tryz.func84 zr zr ?_
 have j:=(j.dup (i0+0) h0).dup (i1+1) h1
 refine RC.sr (aO (vb false) (RL.nq (RC.sr (mv v0 (RL.bE 1 p0 j lM (mv v1 (RL.bE 0 p1 j lM (ic ((p0.length:Int)) ((p1.length:Int)) ?_))))))))
 refine RL.nt (fq o (fun hc o=>?_) fun hc o=>?_)
 ·refine RC.sr (aO (vb false) (RL.nt (RC.rt ?_)))
  obtain rfl:=oi o
  exact cD ⟨rfl,j.drop 2⟩
 refine RC.ss (RC.sr (mv v0 (RL.bE 1 p0 j lM (mv (vi 0) (RL.nt ?_)))))
 obtain⟨an,hN,o⟩:=bd o
 refine RC.range (fun(aa:Nat) (ab:Unit)=>SH E V [(0,v0),(1,v1),(12,vi p0.length),(13,vi aa)] [rd v0 p0,rd v1 p1]) (fun(ab:Unit)=>SH E V [] [rd v0 p0,rd v1 p1]) (r6 E V) hN ?_ ?_ ?_ ?_ ?_
 ·exact j.sp 2 [1,0]
 ·rintro hm ab _ w ⟨O,rfl,j⟩
  refine RC.sr (ic ((p0.length:Int)) ((p0.length:Int)) (RL.nq (RC.cT m4 (RC.ex ?_))))
  exact⟨rfl,j.sp 2 [0,1]⟩
 ·rintro hm aa ab fl _ w hk ⟨O,rfl,j⟩ o
  refine RC.sr (ic ((aa:Int)) ((p0.length:Int)) (RL.nq (RC.cS (m0 hk) (RC.ss (RC.bs (mv (vi aa) (aO (vi aa) (RL.nq ?_))))))))
  refine RC.wy mixed ?_
  have j:=j.drew
  refine RO.go (mv v0 (RO.nx (mv (vi aa) (RO.nx ?_))))
  obtain⟨ag,aj,o⟩:=bd o
  refine RL.cC 0 j eF aj fun aq j=>(RO.nx (RL.bK ag 0 j cH (RO.nx (mv v1 (RO.nx (mv (vi aa) (RO.nx ?_)))))))
  obtain⟨ah,ak,o⟩:=bd o
  refine RL.cC 2 j eF ak fun ar j=>(RO.nx (RL.bK ah 0 j cH (RO.nx (ic ag ah (RO.last (aG (fq o (fun hc o=>?_) fun hc o=>?_)))))))
  rotate_left
  ·refine RC.skip (bU (aG (RC.region (RL.inc hk hm (mv (vi ((aa+1:Nat):Int)) (RL.nil ?_))))))
   obtain rfl:=oi o
   exact⟨rfl,j.sp 4 [2,3]⟩
  refine RC.sr (aO (vb false) (RL.nt (RC.rb (bL ?_))))
  obtain rfl:=oi o
  exact⟨rfl,cD ⟨rfl,j.drop 4⟩⟩
 ·intro r U w e hK
  subst e
  refine bL ?_
  obtain rfl:=oi o
  exact hK
 rintro ab _ w rfl ⟨O,rfl,j⟩
 rw [Fo.fZ] at o
 refine aG (RC.sr (aO (vb true) (RL.nt (RC.ret ?_))))
 obtain rfl:=oi o
 exact cD ⟨rfl,j.drop 2⟩
theorem nS {p0: (List aA)} {p1:aA} {res: (List aA)} (j:Holds E w (own 130 v0 p0::V)) (h1:V[i1]? =some (rd v1 p1)) (hb:gF N p0 p1=some res):
    Calls bD 67 [v0,v1].toArray w (gR (ko E V res)):=by
 unfold gF at hb
 refine enter Tryz.func67 zr zr ?_
 have j:=j.dup (i1+1) h1
 refine RC.sr (RL.dD 0 v1 j zr fun ae w j=>?_)
 refine aO (.slice none 0 0) (RL.nq (RC.sr (RL.bA zr jN (RL.aX 0 j zr cU fF fun aw j=>(RL.bE 0 p1.Xs j lM (ic ((p1.Xs.length:Int)) 0 (mv (vb ((p1.Xs.length:Int)==0)) (RL.gs true ((p1.Xs.length:Int)==0) (vp ae 1) zr zr zr (dQ kR) ?_))))))))
 refine RL.gs true ((p1.Xs.length:Int)==0) (vi p1.Y1) rfl rfl rfl (bX 1 rfl j (fun h=>by exact(cR h:cv (true&&(((p1.Xs.length:Int)==0)==false)) (vp ae 1)= (vp ae 1))) rfl dV cH) (RL.gs true ((p1.Xs.length:Int)==0) (vp ae 0) rfl rfl rfl (dQ mR) (RL.gs true ((p1.Xs.length:Int)==0) (vi p1.Y0) rfl rfl rfl (bX 1 rfl j (fun h=>by exact(cR h:cv (true&&(((p1.Xs.length:Int)==0)==false)) (vp ae 0)= (vp ae 0))) rfl fz cH) (RL.gs true ((p1.Xs.length:Int)==0) (vb (decide (p1.Y1<=p1.Y0))) rfl rfl rfl (eP .leq .i64 p1.Y1 p1.Y0 rfl (fun h=>by exact(cR h:cv (true&&(((p1.Xs.length:Int)==0)==false)) (vi p1.Y1)= (vi p1.Y1))) (fun h=>by exact(cR h:cv (true&&(((p1.Xs.length:Int)==0)==false)) (vi p1.Y0)= (vi p1.Y0))) rfl) (RL.pick ((p1.Xs.length:Int)==0) (vb (((p1.Xs.length:Int)==0)||(decide (p1.Y1<=p1.Y0)))) (px true rfl) (RL.nt (fq hb (fun hc hb=>?_) fun hc hb=>?_))))))
 ·refine RC.sr (mv v0 (aO v0 (RL.nt (RC.rt ?_))))
  obtain rfl:=oi hb
  exact cD (j.pk 4 [3])
 refine RC.ss (RC.sr (mv v0 (RL.fU 3 p0 j rk (RL.jC (p0.length:Int) 1 (aO (vi (IntKind.wrap .i64 ((p0.length:Int) - 1))) (RL.nq ?_))))))
 obtain⟨aj,hj,hb⟩:=bd hb
 refine RC.jn (fun(aj:Bool)=>SH E V [(0,v0),(3,vp ae 0),(5,(vi (IntKind.wrap .i64 ((p0.length:Int) - 1)))),(42,vb aj)] [own 130 v0 p0,bx 130 ae p1]) aj ?_ ?_
 ·refine RC.wz mixed [0,0,0,0,0,0,0,0,0,0,0,0,0,0,0,0,0,0,0,0,2,0] [0,1,2,3,4,5,6,7,8,9,10,11,12,13,14,15,16,17,18,19,20,21] ?_
  have j:=j.drew
  refine DP.e0 zr (mv (vi (IntKind.wrap .i64 ((p0.length:Int) - 1))) (bZ zr (ic ((IntKind.wrap .i64 ((p0.length:Int) - 1))) 0 (bZ zr (mv (vb (decide ((IntKind.wrap .i64 ((p0.length:Int) - 1))>=0))) (DP.d0 (gv hj (fun o hj=>?_) fun o hj=>?_)))))))
  rotate_left
  ·refine DP.e0 zr (bS o (bZ zr (bS o (bZ zr (bS o (bZ zr (bS o (bZ zr ?_))))))))
   refine bS o (bZ zr (bS o (bZ zr (bS o (bZ zr (bS o (bZ zr (gx o (vb false) ?_))))))))
   refine bZ zr (mv (vb false) (bZ zr (n8 (bZ zr (n8 (bZ zr (n8 (bZ zr ?_))))))))
   refine n8 (bZ zr (n8 (bZ zr (n8 (bZ zr (n8 (sB zr (n8 ?_))))))))
   refine wC zr (RL.pick false (vb false) zr (DP.d0 (DP.z ?_)))
   obtain rfl:=oi hj
   exact⟨rfl,j.sp 4 [3,1]⟩
  refine DP.e0 zr (RL.move v0 (cg o) (bZ zr (RL.move (vi (IntKind.wrap .i64 ((p0.length:Int) - 1))) (cg o) (bZ zr ?_))))
  obtain⟨ak,af,hj⟩:=bd hj
  refine RL.bJ (hg:=(cg o)) 3 j zr zr my af (bZ zr (RL.mq (hg:=(cg o)) (α:=aA) (jv 3 j af 0) kR (bZ zr (RL.cO (hg:=(cg o)) 3 j (jv 3 j af 1) (aY af).2.1 dV cH (bZ zr (RL.bA (hg:=(cg o)) zr mR (bZ zr (RL.aN (hg:=(cg o)) 1 j zr fz cH ?_))))))))
  refine bZ zr (RL.jP ak.Y1 p1.Y0 (cg o) (bZ zr (gx o (vb (ak.Y1==p1.Y0)) (bZ zr (mv (vb (ak.Y1==p1.Y0)) (DP.d0 (gv hj (fun aa hj=>?_) fun aa hj=>?_)))))))
  rotate_left
  ·refine DP.e0 zr (bS aa (bZ zr (bS aa (bZ zr (bS aa (bZ zr (bS aa (bZ zr ?_))))))))
   refine bS aa (bZ zr (bS aa (bZ zr (bS aa (sB zr (bS aa (wC zr (gx aa (vb false) ?_))))))))
   refine DP.d0 (DP.z ?_)
   obtain rfl:=oi hj
   exact⟨rfl,j.sp 4 [3,1]⟩
  refine DP.e0 zr (RL.move v0 (cg aa) (bZ zr (RL.move (vi (IntKind.wrap .i64 ((p0.length:Int) - 1))) (cg aa) (bZ zr ?_))))
  obtain⟨ax,ag,hj⟩:=bd hj
  refine RL.bJ (hg:=(cg aa)) 3 j zr zr my ag (bZ zr (RL.mq (hg:=(cg aa)) (α:=aA) (jv 3 j ag 0) jN (bZ zr (RL.kP (hg:=(cg aa)) 3 j (jv 3 j ag 2) (aY ag).2.1 cU fF fun al j=>?_))))
  refine bZ zr (RL.bA (hg:=(cg aa)) zr jN (bZ zr (RL.aX (hg:=(cg aa)) 2 j zr cU fF fun an j=>(sB zr ?_))))
  obtain⟨ao,aq,hj⟩:=bd hj
  refine RL.call (cg aa) zr Ia [al,an] zr (aF (rn N (i0:=1) (i1:=0) j zr zr aq) ?_)
  rintro _ w ⟨rfl,j⟩
  refine wC zr (gx aa (vb ao) (DP.d0 (DP.z ?_)))
  obtain rfl:=oi hj
  exact⟨rfl,j.sp 6 [5,3]⟩
 rintro _ w ⟨O,rfl,j⟩
 refine aG (fq hb (fun hc hb=>?_) fun hc hb=>?_)
 rotate_left
 ·refine RC.sx (mv v0 (RL.aX (f:=(fun x=>x)) 1 j zr Fd.self sW fun ar j=>(RL.eY ([p1]: (List aA)) j [ar] my zm (fun M hs g=>⟨(g.sat 0 _ zr).1,zt⟩) fun ay w j=>?_)))
  have j:=j.freeze 0
  obtain⟨az,au,hb⟩:=bd hb
  refine RL.app 2 0 j Ib au fun av w j=>?_
  refine aO av (RL.nt (RC.ret ?_))
  obtain rfl:=oi hb
  exact cD (j.pk 4 [2])
 refine RC.sr (mv v0 (mv (vi (IntKind.wrap .i64 ((p0.length:Int) - 1))) (RL.bA zr kR (RL.aN 1 j zr dV cH ?_))))
 obtain⟨a0,ah,hb⟩:=bd hb
 refine RL.bJ 0 j zr zr my ah (RL.mq (α:=aA) (jv 0 j ah 0) kR ?_)
 have j:=j.sc Int p1.Y1
 refine RL.gj 1 0 j (jv 1 j ah 1) (aY ah).2.1 zr mx cH fun w j=>?_
 refine RL.ns (mv v0 (aO v0 (RL.nt (RC.rt ?_))))
 obtain rfl:=oi hb
 exact cD (j.pk 3 [1])
theorem j7 {p0: (List aI)} {res: (List aA)} (o:Holds E w V) (h0:V[i0]? =some (rd v0 p0)) (hb:fG N p0=some res):
    Calls bD 40 [v0].toArray w (gR (ko E V res)):=by
 unfold fG at hb
 refine enter Tryz.func40 zr zr ?_
 have o:=o.dup (i0+0) h0
 refine RC.sr (aO (.slice none 0 0) (RL.ns (mv v0 ?_)))
 obtain⟨cf,bn,hb⟩:=bd hb
 refine RL.call zt zr H0 [v0] zr (aF (qf N (i0:=0) o zr bn) ?_)
 rintro ae w o
 refine aO ae (RL.ns (mv ae ?_))
 obtain⟨ah,bo,hb⟩:=bd hb
 have o:=o.pull 0
 refine RL.call zt zr Gx [ae,(.func (.func 62) #[] #[])] zr (aF (Bn Tryz.lay61 aI zr iz.D6 iz.sz H2 (fun o hi hj hr=>s9 N o hi hj hr) o bo) ?_)
 rintro _ w ⟨rfl,o⟩
 refine RL.ns (RL.pQ zr o Gy zr fun ag w o=>?_)
 refine RL.nq (RC.sr (mv ae (RL.fU 1 ah o pY (mv (vi 0) (RL.nt ?_)))))
 obtain⟨ao,hN,hb⟩:=bd hb
 refine RC.fold (fun(aw:Nat) (ao: (List Int)) U w=>∃a6:Value,SH E V [(0,ae),(3,vp ag 0),(14,ae),(15,vi ah.length),(16,vi aw)] [own 49 ae ah,bc 56 ag [a6],own 3 a6 ao] U w) (fun(ao: (List Int)) U w=>∃an:Value,SH E V [(0,ae),(3,vp ag 0)] [own 49 ae ah,bc 56 ag [an],own 3 an ao] U w) hN ?_ ?_ ?_ ?_
 ·have o:=o.dH Int 3
  exact⟨(.slice none 0 0),o.sp 5 [2,1,0]⟩
 ·rintro hm ao _ w ⟨bp,O,rfl,o⟩
  refine RC.sr (ic ((ah.length:Int)) ((ah.length:Int)) (RL.nq (RC.cT m4 (RC.ex ?_))))
  exact⟨rfl,bp,o.sp 3 [0,1,2]⟩
 ·rintro hm aw ao s' _ w hk ⟨bq,O,rfl,o⟩ hb
  refine RC.sr (ic ((aw:Int)) ((ah.length:Int)) (RL.nq (RC.cS (m0 hk) (RC.ss (RC.bs ?_)))))
  obtain⟨aq,a1,hb⟩:=bd hb
  refine RL.bJ 0 o zr zr lq a1 (RL.kP (f:=(fun x=>x)) 0 o (jv 0 o a1 0) (aY a1).2.1 Fd.self iz fun ch o=>?_)
  refine RL.alloc o n9.z fun cj w o=>?_
  refine RL.bG 0 o 1 zr iz fun w o=>?_
  refine RL.nt (RC.region (RL.bB 3 bq o fF (RL.bA zr j3 (RL.aN 0 o zr fM cH (RL.bA zr nj (RL.aN 0 o zr i9 cH ?_))))))
  have o:=(o.sc Int aq.Y0).sc Int aq.Y1
  refine RL.eY ([aq.Y0,aq.Y1]: (List Int)) o [(vi aq.Y0),(vi aq.Y1)] eF CB (fun M hs g=>⟨(g.sat 1 _ zr).1,⟨(g.sat 0 _ zr).1,zt⟩⟩) fun ck w o=>?_
  have o:=o.freeze 0
  obtain⟨cl,br,hb⟩:=bd hb
  refine RL.app 7 0 o sV br fun a9 w o=>?_
  refine RL.g9 6 a9 o zr zr (iI 7 o) fF fun w o=>?_
  refine RL.nil (bU (aG (RC.region (RL.inc hk hm (mv (vi ((aw+1:Nat):Int)) (RL.nil ?_))))))
  obtain rfl:=oi hb
  exact⟨rfl,a9,o.sp 8 [5,6,7]⟩
 rintro _ w ⟨an,O,rfl,o⟩
 refine aG (RC.sr (RL.bB 1 an o fF ?_))
 obtain⟨cm,bt,hb⟩:=bd hb
 have o:=o.pull 2
 refine RL.call zt zr H3 [an] zr (aF (Dx Tryz.lay63 o bt) ?_)
 rintro _ w ⟨rfl,o⟩
 refine RL.ns (RL.bB 2 an o fF ?_)
 have o:=o.pull 0
 obtain⟨ai,bu,hb⟩:=bd hb
 refine RL.call zt zr H4 [an] zr (aF (pG N o bu) ?_)
 rintro bw w o
 refine RL.g9 3 bw o zr zr (iI 0 o) fF fun w o=>?_
 refine RL.ns (aO (.slice none 0 0) (RL.ns (aO (.slice none 0 0) (RL.ns (aO (vi 0) (RL.nq (RC.sr (RL.alloc o CB.z fun bz w o=>?_))))))))
 have o:=o.sc Int 0
 refine RL.bG 1 o 0 zr cH fun w o=>?_
 refine RL.nt ?_
 have o:=((((o.freeze 2).CJ (i:=5) (x:=ai) rfl (fun M hs g=>(ky (g.sat 2 _ rfl).1))).gm (i:=5) rfl).dH aA 130).dH aI 49
 obtain⟨cn,hN,hb⟩:=bd hb
 refine RC.iter (fun(ab: (List aA)×(List aI)×Int×Int) U w=>∃(ba bb:Value) (bf:Nat),SH E V [(0,ae),(3,vp ag 0),(6,ba),(7,bb),(8,vi ab.2.2.1),(9,vp bf 0)] [own 49 ae ah,pt (vp ag 0) ai,own 130 ba ab.1,own 49 bb ab.2.1,bx 3 bf ab.2.2.2] U w) (fun(ab: (List aA)×(List aI)×Int×Int) U w=>∃av:Value,SH E V [(6,av)] [own 49 ae ah,pt (vp ag 0) ai,own 130 av ab.1] U w) (fun(r:Empty) _ _=>r.elim) hN ?_ ?_ ?_ ?_
 ·exact⟨(.slice none 0 0),(.slice none 0 0),bz,o.sp 9 [6,7,1,0,3]⟩
 ·rintro ab fl _ w ⟨ak,bg,al,O,rfl,o⟩ hb
  refine RC.seq (RC.sr (RL.aN (f:=(fun x=>x)) 4 o zr Fd.self cH (RL.jC ab.2.2.2 1 (RL.bT 1 ai o fF fun cp o=>(RL.bE 0 ai o lM (ic ((IntKind.wrap .i64 (ab.2.2.2+1))) ((ai.length:Int)) (RL.nt (fq hb (fun hc hb=>?_) fun hc hb=>?_))))))))
  rotate_left
  ·refine RC.ex ?_
   obtain rfl:=oi hb
   exact⟨rfl,ak,o.sp 6 [1,2,3]⟩
  refine RC.ss (RC.bs (mv bg ?_))
  have o:=o.gm (i:=5) rfl
  refine RL.makeFunc [(vp ag 0),(vp al 0)] ?_
  have o:=o.pull 4
  obtain⟨cq,b1,hb⟩:=bd hb
  refine RL.call trivial rfl H7 [bg,(.func (.func 66) #[] #[(vp ag 0),(vp al 0)])] rfl (aF (nH N o ⟨66,[(vp ag 0),(vp al 0)],rfl,H6,fun w Γl v y0 r i o hi hr=>by exact aF (tc N (i0:=i) (i1:=Γl.length+2) (i2:=Γl.length+5) o hi (xE rfl) (xE rfl) hr) fun _ _ h=>h⟩ b1) ?_)
  rintro bh w o
  refine aO bh (RL.nq ?_)
  obtain⟨cr,hN,hb⟩:=bd hb
  refine RC.iter (fun(af: (List aI)×Int) U w=>∃bj:Value,SH E V [(0,ae),(3,vp ag 0),(6,ak),(7,bj),(8,vi af.2),(9,vp al 0)] [own 49 ae ah,pt (vp ag 0) ai,own 130 ak ab.1,pt (vp al 0) ab.2.2.2,own 49 bj af.1] U w) (fun(af: (List aI)×Int) U w=>∃ar:Value,SH E V [(0,ae),(3,vp ag 0),(6,ak),(7,ar),(8,vi af.2),(9,vp al 0)] [own 49 ae ah,pt (vp ag 0) ai,own 130 ak ab.1,pt (vp al 0) ab.2.2.2,own 49 ar af.1] U w) (fun(r:Empty) _ _=>r.elim) hN ?_ ?_ ?_ ?_
  ·exact⟨bh,o.sp 7 [2,3,4,6,0]⟩
  ·rintro af fl _ w ⟨ax,O,rfl,o⟩ hb
   refine RC.seq (RC.seq ?_)
   obtain⟨a3,hj,hb⟩:=bd hb
   refine RC.jn (fun(a3:Bool)=>SH E V [(0,ae),(3,vp ag 0),(6,ak),(7,ax),(8,vi af.2),(9,vp al 0),(57,vb a3)] [own 49 ae ah,pt (vp ag 0) ai,own 130 ak ab.1,own 49 ax af.1,pt (vp al 0) ab.2.2.2]) a3 ?_ ?_
   ·refine RC.wy mixed ?_
    have o:=o.drew
    refine RO.go (mv (vi af.2) (RO.nx (mv ae (RO.nx (RL.fU 0 ah o pY (RO.nx (ic af.2 ((ah.length:Int)) (RO.nx ?_))))))))
    refine mv (vb (decide (af.2< (ah.length:Int)))) (gv hj (fun ad hj=>?_) fun ad hj=>?_)
    rotate_left
    ·refine RO.nx (bS ad (RO.nx (bS ad (RO.nx (bS ad (RO.nx (bS ad (RO.nx ?_))))))))
     refine bS ad (RO.nx (bS ad (RO.nx (bS ad (RO.nx (bS ad (RO.nx (bS ad ?_))))))))
     refine RO.nx (bS ad (RO.nx (gx ad (vb false) (RO.last ?_))))
     obtain rfl:=oi hj
     exact⟨rfl,o.sp 5 [0,1,2,4,3]⟩
    refine RO.nx (RL.move ae (cg ad) (RO.nx (RL.move (vi af.2) (cg ad) (RO.nx ?_))))
    obtain⟨bk,ay,hj⟩:=bd hj
    refine RL.bJ (hg:=(cg ad)) 0 o zr zr lq ay (RO.nx (RL.mq (hg:=(cg ad)) (α:=aI) (jv 0 o ay 0) j3 (RO.nx (RL.cO (hg:=(cg ad)) 0 o (jv 0 o ay 1) (aY ay).2.1 fM cH (RO.nx (RL.bT (hg:=(cg ad)) 1 ai o fF fun ct o=>?_))))))
    refine RO.nx (RL.bK (hg:=(cg ad)) ab.2.2.2 4 o cH (RO.nx ?_))
    obtain⟨a4,b2,hj⟩:=bd hj
    refine RL.cC (hg:=(cg ad)) 0 o eF b2 fun cu o=>(RO.nx (RL.bK (hg:=(cg ad)) a4 0 o cH (RO.nx (RL.jP bk.Y0 a4 (cg ad) (RO.nx (gx ad (vb (decide (bk.Y0<=a4))) (RO.last ?_)))))))
    obtain rfl:=oi hj
    exact⟨rfl,o.sp 7 [2,3,4,6,5]⟩
   rintro _ w ⟨O,rfl,o⟩
   refine aG (fq hb (fun hc hb=>?_) fun hc hb=>?_)
   rotate_left
   ·refine RC.ex ?_
    obtain rfl:=oi hb
    exact⟨rfl,ax,o.sp 5 [0,1,2,4,3]⟩
   refine RC.sn (RC.block (RC.region (mv ax (mv ae (mv (vi af.2) ?_)))))
   obtain⟨b3,a5,hb⟩:=bd hb
   refine RL.bJ 0 o zr zr lq a5 (RL.kP (f:=(fun x=>x)) 0 o (jv 0 o a5 0) (aY a5).2.1 Fd.self iz fun b4 o=>?_)
   refine RL.eY ([b3]: (List aI)) o [b4] lq n9 (fun M hs g=>⟨(g.sat 0 _ zr).1,zt⟩) fun cv w o=>?_
   have o:=o.freeze 0
   obtain⟨cw,b5,hb⟩:=bd hb
   refine RL.app 5 0 o BU b5 fun bl w o=>?_
   refine mv (vi af.2) (RL.jC af.2 1 (aO bl (aO (vi (IntKind.wrap .i64 (af.2+1))) (RL.nil (bU ?_)))))
   obtain rfl:=oi hb
   exact⟨rfl,bl,o.sp 7 [2,3,4,6,5]⟩
  ·intro r _ _ _ _
   exact r.elim
  rintro af _ w rfl ⟨ar,O,rfl,o⟩
  rw [Fo.fZ] at hb
  refine aG (RC.wz mixed [1,1,1,1,1,1,1,1,1,1,0,2,0,2,0] [0,1,2,3,4,5,6,7,8,9,10,11,12,13,14] ?_)
  have o:=o.drew
  refine DP.e1 ak zr (fun w=>RL.move ak zt DP.d1) (DP.uP ai 1 zr o fF fun cx a305 cy o=>(DP.A9 ab.2.2.2 5 zr zr zr o zr zr cH fun a307 cz o=>?_))
  obtain⟨az,b6,hb⟩:=bd hb
  refine DP.FJ 2 zr zr zt zr o zr zr zr eF b6 fun c0 o=>(DP.A9 az 0 zr zr zr o zr zr cH fun a311 c1 o=>(DP.uP ai 6 zr o fF fun c2 a314 c3 o=>(DP.A9 ab.2.2.2 10 zr zr zr o zr zr cH fun a316 c4 o=>(DP.e1 (vi (IntKind.wrap .i64 (ab.2.2.2+1))) zr (fun w=>RL.jC ab.2.2.2 1 DP.d1) ?_))))
  obtain⟨a0,b7,hb⟩:=bd hb
  refine DP.FJ 2 zr zr zt zr o zr zr zr eF b7 fun c5 o=>(DP.A9 a0 0 zr zr zr o zr zr cH fun a320 c6 o=>(DP.e0 zr (mv ar (sB zr ?_))))
  have o:=o.pull 14
  obtain⟨b8,b9,hb⟩:=bd hb
  refine RL.call zt zr H9 [ar] zr (aF (r5 N o b9) ?_)
  rintro ca w o
  refine DP.d2 (⟨⟨⟨⟨⟨⟨zt,o.jA 10⟩,o.jA 9⟩,o.jA 7⟩,o.jA 5⟩,o.jA 4⟩,o.jA 2⟩) (DP.e0 zr ?_)
  have o:=((o.sc Int az).sc Int a0).freeze 2
  refine RL.build (⟨az,a0,b8.1⟩:aA) trivial rfl o [(0,vi az),(1,vi a0),(2,ca)] rfl E4 rfl (fun M hs g=>by have h:=sU M;exact dJ.cons (f:=fun(x:aA) y=>{x with Y0:=y}) h pz (g.sat 1 _ rfl).1 fun _ h=>dJ.cons (f:=fun(x:aA) y=>{x with Y1:=y}) h mx (g.sat 0 _ rfl).1 fun _ h=>dJ.cons (f:=fun(x:aA) y=>{x with Xs:=y}) h pA (g.sat 2 _ rfl).1 fun _ h=>dJ.nil h) fun cb o=>?_
  refine sB zr ?_
  have o:=o.pull 17
  obtain⟨c7,cc,hb⟩:=bd hb
  refine RL.call zt zr GA [ak,cb] zr (aF (nS N (i1:=0) o zr cc) ?_)
  rintro bm w o
  refine DP.d2 (⟨⟨⟨⟨⟨⟨zt,o.jA 14⟩,o.jA 13⟩,o.jA 11⟩,o.jA 9⟩,o.jA 8⟩,o.jA 6⟩) (DP.e0 zr (aO bm (DP.d0 ?_)))
  have o:=o.pl 21 [0,1,2,3,4,5,7,10,12,15,16,17,18,19,20]
  refine DP.z (bU (aG (RC.seq (RC.sr (RL.bK ab.2.2.2 13 o cH (RL.nt (RC.region (RL.alloc o CB.z fun cd w o=>?_))))))))
  have o:=o.sc Int ab.2.2.2
  refine RL.bG 1 o 0 zr cH fun w o=>?_
  refine RL.nt (RC.region (RL.aN (f:=(fun x=>x)) 1 o zr Fd.self cH (RL.jC ab.2.2.2 1 ?_)))
  have o:=o.sc Int (IntKind.wrap .i64 (ab.2.2.2+1))
  refine RL.CE (i:=2) (j:=0) zt o zr zr zr zr cH fun w o=>?_
  refine RL.nil ?_
  obtain rfl:=oi hb
  exact⟨rfl,bm,ar,cd,o.sp 18 [13,14,3,8,2]⟩
 ·intro r _ _ _ _
  exact r.elim
 rintro ab _ w rfl ⟨av,O,rfl,o⟩
 rw [Fo.fZ] at hb
 refine aG (RC.sr (mv av (aO av (RL.nt (RC.ret ?_)))))
 obtain rfl:=oi hb
 exact cD (o.pk 3 [2])
theorem kW {p0: (List aA)} {res: (List aI)} (j:Holds E w V) (h0:V[i0]? =some (rd v0 p0)) (o:gQ N p0=some res):
    Calls bD 41 [v0].toArray w (gR (kz E V res)):=by
 unfold gQ at o
 refine enter Tryz.func41 zr zr ?_
 have j:=j.dup (i0+0) h0
 refine RC.sr (aO (.slice none 0 0) (RL.ns (aO (.slice none 0 0) (RL.nq (RC.sr (mv v0 (RL.bE 0 p0 j rk (mv (vi 0) ?_))))))))
 refine RL.nt ?_
 obtain⟨ab,hN,o⟩:=bd o
 refine RC.fold (fun(ad:Nat) (ab: (List aI)) U w=>∃al:Value,SH E V [(3,al),(7,v0),(8,vi p0.length),(9,vi ad)] [rd v0 p0,own 49 al ab] U w) (fun(ab: (List aI)) U w=>∃ae:Value,SH E V [(3,ae)] [rd v0 p0,own 49 ae ab] U w) hN ?_ ?_ ?_ ?_
 ·have j:=j.dH aI 49
  exact⟨(.slice none 0 0),j.sp 2 [1,0]⟩
 ·rintro hm ab _ w ⟨au,O,rfl,j⟩
  refine RC.sr (ic ((p0.length:Int)) ((p0.length:Int)) (RL.nq (RC.cT m4 (RC.ex ?_))))
  exact⟨rfl,au,j.sp 2 [0,1]⟩
 ·rintro hm ad ab s' _ w hk ⟨av,O,rfl,j⟩ o
  refine RC.sr (ic ((ad:Int)) ((p0.length:Int)) (RL.nq (RC.cS (m0 hk) (RC.ss (RC.bs ?_)))))
  obtain⟨iR,aw,o⟩:=bd o
  refine RL.cC 0 j my aw fun a2 j=>(RL.bT 0 iR j sW fun a3 j=>(RL.alloc j zm.z fun aj w j=>?_))
  refine RL.bG 0 j 1 zr sW fun w j=>?_
  refine RL.ns (aO (vi 0) (RL.nt ?_))
  obtain⟨a4,hN,o⟩:=bd o
  refine RC.iter (fun(aa: (List aI)×Int) U w=>∃aq:Value,SH E V [(3,aq),(5,vp aj 0),(6,vi aa.2),(7,v0),(8,vi p0.length),(9,vi ad)] [bx 130 aj iR,rd v0 p0,own 49 aq aa.1] U w) (fun(aa: (List aI)×Int) U w=>∃ah:Value,SH E V [(3,ah),(7,v0),(8,vi p0.length),(9,vi ad)] [bx 130 aj iR,rd v0 p0,own 49 ah aa.1] U w) (fun(r:Empty) _ _=>r.elim) hN ?_ ?_ ?_ ?_
  ·exact⟨av,j.sp 5 [0,3,4]⟩
  ·rintro aa fl _ w ⟨ak,O,rfl,j⟩ o
   refine RC.seq (RC.sr (mv (vi aa.2) (RL.bA zr jN (RL.aX 0 j zr cU fF fun a6 j=>(RL.bE 0 iR.Xs j lM (ic aa.2 ((iR.Xs.length:Int)) (RL.nt (fq o (fun hc o=>?_) fun hc o=>?_))))))))
   rotate_left
   ·refine RC.ex ?_
    obtain rfl:=oi o
    exact⟨rfl,ak,j.sp 4 [1,2,3]⟩
   refine RC.ss (RC.block (RC.wz mixed [1,0,0,0,0,0,0,0,0,0,0,0,0,0,0,0,0,2,2,0] [0,1,2,3,4,5,6,7,8,9,10,11,12,13,14,15,16,17,18,19] ?_))
   have j:=j.drew
   refine DP.e1 ak zr (fun w=>RL.move ak zt DP.d1) (DP.e0 zr (RL.bA zr jN (bZ zr (RL.aX 1 j zr cU fF fun a7 j=>(bZ zr (mv (vi aa.2) (bZ zr ?_)))))))
   obtain⟨af,ay,o⟩:=bd o
   refine RL.cC 0 j eF ay fun a8 j=>(bZ zr (RL.bK af 0 j cH (bZ zr (RL.bA zr mR (bZ zr (RL.aN 3 j zr fz cH (bZ zr (RL.bA zr jN ?_))))))))
   refine bZ zr (RL.aX 3 j zr cU fF fun a9 j=>(bZ zr (mv (vi aa.2) (bZ zr (RL.jC aa.2 1 (bZ zr ?_))))))
   obtain⟨ag,az,o⟩:=bd o
   refine RL.cC 0 j eF az fun ba j=>(bZ zr (RL.bK ag 0 j cH (bZ zr (RL.bA zr kR (bZ zr (RL.aN 5 j zr dV cH (bZ zr ?_)))))))
   have j:=(((j.sc Int af).sc Int iR.Y0).sc Int ag).sc Int iR.Y1
   refine RL.build (⟨af,iR.Y0,ag,iR.Y1⟩:aI) trivial rfl j [(0,vi af),(1,vi iR.Y0),(2,vi ag),(3,vi iR.Y1)] rfl BV rfl (fun M hs g=>by have h:=rT M;exact dJ.cons (f:=fun(x:aI) y=>{x with X0:=y}) h qS (g.sat 3 _ rfl).1 fun _ h=>dJ.cons (f:=fun(x:aI) y=>{x with Y0:=y}) h tR (g.sat 2 _ rfl).1 fun _ h=>dJ.cons (f:=fun(x:aI) y=>{x with X1:=y}) h oA (g.sat 1 _ rfl).1 fun _ h=>dJ.cons (f:=fun(x:aI) y=>{x with Y1:=y}) h qT (g.sat 0 _ rfl).1 fun _ h=>dJ.nil h) fun a0 j=>?_
   refine sB zr (RL.eY ([(⟨af,iR.Y0,ag,iR.Y1⟩:aI)]: (List aI)) j [a0] lq n9 (fun M hs g=>⟨(g.sat 0 _ zr).1,zt⟩) fun bb w j=>(Er zr ?_))
   have j:=j.freeze 0
   obtain⟨bc,a1,o⟩:=bd o
   refine RL.app 13 0 j BU a1 fun ar w j=>?_
   refine wC zr (aO ar (DP.d0 (DP.z (bU (aG (RC.region (mv (vi aa.2) (RL.jC aa.2 2 ?_))))))))
   refine aO (vi (IntKind.wrap .i64 (aa.2+2))) (RL.nil ?_)
   obtain rfl:=oi o
   exact⟨rfl,ar,j.sp 14 [11,12,13]⟩
  ·intro r _ _ _ _
   exact r.elim
  rintro aa _ w rfl ⟨ah,O,rfl,j⟩
  rw [Fo.fZ] at o
  refine bU (aG (RC.region (RL.inc hk hm (mv (vi ((ad+1:Nat):Int)) (RL.nil ?_)))))
  obtain rfl:=oi o
  exact⟨rfl,ah,j.sp 3 [1,2]⟩
 rintro _ w ⟨ae,O,rfl,j⟩
 refine aG (RC.sr (mv ae (aO ae (RL.nt (RC.ret ?_)))))
 obtain rfl:=oi o
 exact cD (j.pk 2 [1])
def rp (E:World) (V:List HP) (r:Bool) (U:Nat->Value) (w:World):Prop:=lK bD 26 Tryz.f39 (bF E V r) .ret U w
theorem qh {p0: (List aI)} {p1: (List aI)} {res:Bool} (j:Holds E w V) (h0:V[i0]? =some (rd v0 p0)) (h1:V[i1]? =some (rd v1 p1)) (o:iJ N p0 p1=some res):
    Calls bD 39 [v0,v1].toArray w (gR (bF E V res)):=by
 unfold iJ at o
 refine enter Tryz.func39 zr zr ?_
 have j:=(j.dup (i0+0) h0).dup (i1+1) h1
 refine RC.sr (aO (vb false) (RL.nq (RC.sr (mv v0 (RL.bE 1 p0 j pY (mv v1 (RL.bE 0 p1 j pY (ic ((p0.length:Int)) ((p1.length:Int)) ?_))))))))
 refine RL.nt (fq o (fun hc o=>?_) fun hc o=>?_)
 ·refine RC.sr (aO (vb false) (RL.nt (RC.rt ?_)))
  obtain rfl:=oi o
  exact cD ⟨rfl,j.drop 2⟩
 refine RC.ss (RC.sr (mv v0 (RL.bE 1 p0 j pY (mv (vi 0) (RL.nt ?_)))))
 obtain⟨an,hN,o⟩:=bd o
 refine RC.range (fun(aa:Nat) (ab:Unit)=>SH E V [(0,v0),(1,v1),(12,vi p0.length),(13,vi aa)] [rd v0 p0,rd v1 p1]) (fun(ab:Unit)=>SH E V [] [rd v0 p0,rd v1 p1]) (rp E V) hN ?_ ?_ ?_ ?_ ?_
 ·exact j.sp 2 [1,0]
 ·rintro hm ab _ w ⟨O,rfl,j⟩
  refine RC.sr (ic ((p0.length:Int)) ((p0.length:Int)) (RL.nq (RC.cT m4 (RC.ex ?_))))
  exact⟨rfl,j.sp 2 [0,1]⟩
 ·rintro hm aa ab fl _ w hk ⟨O,rfl,j⟩ o
  refine RC.sr (ic ((aa:Int)) ((p0.length:Int)) (RL.nq (RC.cS (m0 hk) (RC.ss (RC.bs (mv (vi aa) (aO (vi aa) (RL.nq ?_))))))))
  refine RC.wy mixed ?_
  have j:=j.drew
  refine RO.go (mv v0 (RO.nx (mv (vi aa) (RO.nx ?_))))
  obtain⟨ag,aj,o⟩:=bd o
  refine RL.cC 0 j lq aj fun aq j=>(RO.nx (RL.bT 0 ag j iz fun ar j=>(RO.nx (mv v1 (RO.nx (mv (vi aa) (RO.nx ?_)))))))
  obtain⟨ah,ak,o⟩:=bd o
  refine RL.cC 3 j lq ak fun au j=>(RO.nx (RL.bT 0 ah j iz fun av j=>(RO.nx (RL.Jn 2 0 ag ah zt zr j zr zr zr zr GB zr (RO.last (aG (fq o (fun hc o=>?_) fun hc o=>?_)))))))
  rotate_left
  ·refine RC.skip (bU (aG (RC.region (RL.inc hk hm (mv (vi ((aa+1:Nat):Int)) (RL.nil ?_))))))
   obtain rfl:=oi o
   exact⟨rfl,j.sp 6 [4,5]⟩
  refine RC.sr (aO (vb false) (RL.nt (RC.rb (bL ?_))))
  obtain rfl:=oi o
  exact⟨rfl,cD ⟨rfl,j.drop 6⟩⟩
 ·intro r U w e hK
  subst e
  refine bL ?_
  obtain rfl:=oi o
  exact hK
 rintro ab _ w rfl ⟨O,rfl,j⟩
 rw [Fo.fZ] at o
 refine aG (RC.sr (aO (vb true) (RL.nt (RC.ret ?_))))
 obtain rfl:=oi o
 exact cD ⟨rfl,j.drop 2⟩
def rq (E:World) (V:List HP) (r:Int) (U:Nat->Value) (w:World):Prop:=lK bD 52 Tryz.f19 (aP E V r) .ret U w
theorem mi {p0: (List aI)} (j:Holds E w V) (h0:V[i0]? =some (rd v0 p0)) (hb:gJ N p0=some res):
    Calls bD 19 [v0].toArray w (gR (aP E V res)):=by
 unfold gJ at hb
 refine enter Tryz.func19 zr zr ?_
 have j:=j.dup (i0+0) h0
 refine RC.sr (aO (vi 0) (RL.nq (RC.sr (mv v0 ?_))))
 obtain⟨au,ax,hb⟩:=bd hb
 refine RL.call zt zr HZ [v0] zr (aF (rm N (i0:=0) j zr ax) ?_)
 rintro _ w ⟨rfl,j⟩
 refine aO (vi au) (RL.ns (mv (vi au) (ic au 0 (RL.nt (fq hb (fun hc hb=>?_) fun hc hb=>?_)))))
 ·refine RC.sr (mv (vi au) (aO (vi au) (RL.nt (RC.rt ?_))))
  obtain rfl:=oi hb
  exact cD ⟨rfl,j.drop 1⟩
 refine RC.ss (RC.sr (aO (vi 1) (RL.nt ?_)))
 obtain⟨bc,hN,hb⟩:=bd hb
 refine RC.iter (fun(an:Int)=>SH E V [(0,v0),(4,vi an)] [rd v0 p0]) (fun(an:Int)=>SH E V [(0,v0)] [rd v0 p0]) (rq E V) hN ?_ ?_ ?_ ?_
 ·exact j.sp 1 [0]
 ·rintro an fl _ w ⟨O,rfl,j⟩ hb
  refine RC.seq (RC.sr (mv (vi an) (mv v0 (RL.bE 0 p0 j pY (ic an ((p0.length:Int)) (RL.nt (fq hb (fun hc hb=>?_) fun hc hb=>?_)))))))
  rotate_left
  ·refine RC.ex ?_
   obtain rfl:=oi hb
   exact⟨rfl,j.sp 1 [0]⟩
  refine RC.ss (RC.block (RC.seq ?_))
  obtain⟨o,a0,hb⟩:=bd hb
  obtain⟨aa,a1,hb⟩:=bd hb
  refine RC.CA E V mixed [1,1,1,0,0,1,1,0,0,0,0,0,0] [3,4,7,8,9,10,11,12] (fun(x:Value×Value×Value×Value×Nat×Nat)=>(fun ag ah ai aj ad ae=>[(0,18,v0),(1,19,(vi an)),(2,20,(vi (IntKind.wrap .i64 (an - 1)))),(3,21,ag),(4,22,ah),(5,23,v0),(6,24,(vi an)),(7,25,ai),(8,26,aj),(9,5,(vp ad 0)),(10,6,(vp ae 0))]) x.1 x.2.1 x.2.2.1 x.2.2.2.1 x.2.2.2.2.1 x.2.2.2.2.2) [(0,v0),(4,vi an)] [] (fun(D:Nat->Bool) (x:Value×Value×Value×Value×Nat×Nat)=>(fun ag ah ai aj ad ae=>[bif D 0 then (pt ag o) else aV,bif D 1 then (rd ah o) else aV,bif D 2 then (pt ai aa) else aV,bif D 3 then (rd aj aa) else aV,bif D 6 then (bx 49 ad o) else (bif D 4 then (raw 49 ad 4) else aV),bif D 7 then (bx 49 ae aa) else (bif D 5 then (raw 49 ae 4) else aV),rd v0 p0]) x.1 x.2.1 x.2.2.1 x.2.2.2.1 x.2.2.2.2.1 x.2.2.2.2.2) (fun x=>by kernel_rfl) ?_ ⟨fun _=>jd gn,fun _=>jd gn,fun _=>Ep gn rfl,?_,?_,fun _=>jd gn,fun _=>jd gn,?_,?_,?_,?_,?_,?_,trivial⟩ ?_
  ·have j:=((((((j.drew).aV).aV).aV).aV).aV).aV
   exact⟨(undef,undef,undef,undef,0,0),dY.none,(Ba zr),zt,j⟩
  ·rintro D U w hD af ao ⟨⟨ag,ah,ai,aj,ad,ae⟩,hv,ha,_,j⟩
   obtain⟨O,rfl⟩:=(ac (hv.at 0 rfl (af.1 rfl)) (ac (hv.at 2 rfl (af.2.1 rfl)) az)).eU
   have j:=j.bV 0 hD
   refine RL.cC 6 j lq a0 fun a2 j=>?_
   have j:=(j.pl 8 [0,2,3,4,5,6,7]).cF 0 true aV
   exact RL.nil ⟨rfl,(a2,ah,ai,aj,ad,ae),hv.pu 3,ha.u,zt,j⟩
  ·rintro D U w hD af ao ⟨⟨ag,ah,ai,aj,ad,ae⟩,hv,ha,_,j⟩
   obtain⟨O,rfl⟩:=(ac (hv.at 3 rfl (af.1 rfl)) az).eU
   have j:=(j.cE 0 (af.1 rfl)).bV 1 hD
   refine RL.bT 0 o j iz fun a3 j=>?_
   have j:=((j.pl 8 [1,0,3,4,5,6,7]).cF (hb:=af.1 rfl) 0 (D 3) aV).cF 1 true aV
   exact RL.nil ⟨rfl,(ag,a3,ai,aj,ad,ae),hv.pu 4,ha.u,zt,j⟩
  ·rintro D U w hD af ao ⟨⟨ag,ah,ai,aj,ad,ae⟩,hv,ha,_,j⟩
   obtain⟨O,rfl⟩:=(ac (hv.at 5 rfl (af.1 rfl)) (ac (hv.at 6 rfl (af.2.1 rfl)) az)).eU
   have j:=j.bV 2 hD
   refine RL.cC 6 j lq a1 fun a4 j=>?_
   have j:=(j.pl 8 [1,2,0,4,5,6,7]).cF 2 true aV
   exact RL.nil ⟨rfl,(ag,ah,a4,aj,ad,ae),hv.pu 7,ha.u,zt,j⟩
  ·rintro D U w hD af ao ⟨⟨ag,ah,ai,aj,ad,ae⟩,hv,ha,_,j⟩
   obtain⟨O,rfl⟩:=(ac (hv.at 7 rfl (af.1 rfl)) az).eU
   have j:=(j.cE 2 (af.1 rfl)).bV 3 hD
   refine RL.bT 2 aa j iz fun a5 j=>?_
   have j:=((j.pl 8 [1,2,3,0,5,6,7]).cF (hb:=af.1 rfl) 2 (D 7) aV).cF 3 true aV
   exact RL.nil ⟨rfl,(ag,ah,ai,a5,ad,ae),hv.pu 8,ha.u,zt,j⟩
  ·rintro D U w hD af ao ⟨⟨ag,ah,ai,aj,ad,ae⟩,hv,ha,_,j⟩
   obtain⟨O,rfl⟩:=(az (U:=U)).eU
   have j:=(j.bV 4 (nh ao hD 11)).bV 4 hD
   refine RL.alloc j n9.z fun av w j=>?_
   have j:=((j.pl 8 [1,2,3,4,0,6,7]).cF 4 true aV).eR 4 (D 11) (nh ao hD 11) (bx 49 av o)
   exact RL.nil ⟨rfl,(ag,ah,ai,aj,av,ae),hv.pu 9,ha.u,zt,j⟩
  ·rintro D U w hD af ao ⟨⟨ag,ah,ai,aj,ad,ae⟩,hv,ha,_,j⟩
   obtain⟨O,rfl⟩:=(az (U:=U)).eU
   have j:=(j.bV 5 (nh ao hD 12)).bV 5 hD
   refine RL.alloc j n9.z fun aw w j=>?_
   have j:=((j.pl 8 [1,2,3,4,5,0,7]).cF 5 true aV).eR 5 (D 12) (nh ao hD 12) (bx 49 aw aa)
   exact RL.nil ⟨rfl,(ag,ah,ai,aj,ad,aw),hv.pu 10,ha.u,zt,j⟩
  ·rintro D U w hD af ao ⟨⟨ag,ah,ai,aj,ad,ae⟩,hv,ha,_,j⟩
   obtain⟨O,rfl⟩:=(ac (hv.at 4 rfl (af.2.1 rfl)) (ac (hv.at 9 rfl (af.1 rfl)) az)).eU
   have j:=((j.cE 1 (af.2.1 rfl)).bV 4 hD).cE 4 (af.1 rfl)
   refine RL.bG 4 j 1 zr iz fun w j=>?_
   have j:=(j.cF (hb:=af.2.1 rfl) 1 (D 4) aV).cF 4 true (bif D 9 then (raw 49 ad 4) else aV)
   exact RL.nil ⟨rfl,(ag,ah,ai,aj,ad,ae),hv.n1,ha,zt,j⟩
  ·rintro D U w hD af ao ⟨⟨ag,ah,ai,aj,ad,ae⟩,hv,ha,_,j⟩
   obtain⟨O,rfl⟩:=(ac (hv.at 8 rfl (af.2.1 rfl)) (ac (hv.at 10 rfl (af.1 rfl)) az)).eU
   have j:=((j.cE 3 (af.2.1 rfl)).bV 5 hD).cE 5 (af.1 rfl)
   refine RL.bG 5 j 3 zr iz fun w j=>?_
   have j:=(j.cF (hb:=af.2.1 rfl) 3 (D 8) aV).cF 5 true (bif D 10 then (raw 49 ae 4) else aV)
   exact RL.nil ⟨rfl,(ag,ah,ai,aj,ad,ae),hv.n1,ha,zt,j⟩
  rintro D U w aq ⟨⟨ag,ah,ai,aj,ad,ae⟩,hv,ha,_,j⟩
  have j:=(((((j.cE 0 (jy aq 3)).cE 1 (jy aq 4)).cE 2 (jy aq 7)).cE 3 (jy aq 8)).cE 4 (jy aq 11)).cE 5 (jy aq 12)
  obtain⟨O,rfl⟩:=(ac (hv.at 9 rfl (jy aq 9)) (ac (hv.at 10 rfl (jy aq 10)) (ac (ha.at 0 rfl) (ac (ha.at 1 rfl) az)))).eU
  refine aG (RC.sr (RL.bA zr j3 (RL.aN 5 j zr fM cH (RL.bA zr j3 (RL.aN 4 j zr fM cH (ic aa.Y0 o.Y0 (mv (vb (decide (aa.Y0<o.Y0))) (RL.gs true (decide (aa.Y0<o.Y0)) (vp ae 1) zr zr zr (dQ j3) ?_))))))))
  refine RL.gs true (decide (aa.Y0<o.Y0)) (vi aa.Y0) rfl rfl rfl (bX 5 rfl j (fun h=>by exact(cR h:cv (true&&((decide (aa.Y0<o.Y0))==false)) (vp ae 1)= (vp ae 1))) rfl fM cH) (RL.gs true (decide (aa.Y0<o.Y0)) (vp ad 1) rfl rfl rfl (dQ j3) (RL.gs true (decide (aa.Y0<o.Y0)) (vi o.Y0) rfl rfl rfl (bX 4 rfl j (fun h=>by exact(cR h:cv (true&&((decide (aa.Y0<o.Y0))==false)) (vp ad 1)= (vp ad 1))) rfl fM cH) (RL.gs true (decide (aa.Y0<o.Y0)) (vb (aa.Y0==o.Y0)) rfl rfl rfl (eP .eql .i64 aa.Y0 o.Y0 rfl (fun h=>by exact(cR h:cv (true&&((decide (aa.Y0<o.Y0))==false)) (vi aa.Y0)= (vi aa.Y0))) (fun h=>by exact(cR h:cv (true&&((decide (aa.Y0<o.Y0))==false)) (vi o.Y0)= (vi o.Y0))) rfl) (RL.gs true (decide (aa.Y0<o.Y0)) (vb (aa.Y0==o.Y0)) rfl rfl rfl (eC (hx:=fun h=>by exact(cR h:cv (true&&((decide (aa.Y0<o.Y0))==false)) (vb (aa.Y0==o.Y0))= (vb (aa.Y0==o.Y0))))) (RL.gs (true&&((decide (aa.Y0<o.Y0))==false)) (aa.Y0==o.Y0) (vp ae 0) rfl rfl rfl (dQ jm) (RL.gs (true&&((decide (aa.Y0<o.Y0))==false)) (aa.Y0==o.Y0) (vi aa.X0) rfl rfl rfl (bX 5 rfl j (fun h=>by exact(cR h:cv ((true&&((decide (aa.Y0<o.Y0))==false))&&((aa.Y0==o.Y0)==true)) (vp ae 0)= (vp ae 0))) rfl eX cH) (RL.gs (true&&((decide (aa.Y0<o.Y0))==false)) (aa.Y0==o.Y0) (vp ad 0) rfl rfl rfl (dQ jm) (RL.gs (true&&((decide (aa.Y0<o.Y0))==false)) (aa.Y0==o.Y0) (vi o.X0) rfl rfl rfl (bX 4 rfl j (fun h=>by exact(cR h:cv ((true&&((decide (aa.Y0<o.Y0))==false))&&((aa.Y0==o.Y0)==true)) (vp ad 0)= (vp ad 0))) rfl eX cH) ?_))))))))
  refine RL.gs (true&&((decide (aa.Y0<o.Y0))==false)) (aa.Y0==o.Y0) (vb (decide (aa.X0<=o.X0))) rfl rfl rfl (eP .leq .i64 aa.X0 o.X0 rfl (fun h=>by exact(cR h:cv ((true&&((decide (aa.Y0<o.Y0))==false))&&((aa.Y0==o.Y0)==true)) (vi aa.X0)= (vi aa.X0))) (fun h=>by exact(cR h:cv ((true&&((decide (aa.Y0<o.Y0))==false))&&((aa.Y0==o.Y0)==true)) (vi o.X0)= (vi o.X0))) rfl) (RL.gs true (decide (aa.Y0<o.Y0)) (vb ((aa.Y0==o.Y0)&&(decide (aa.X0<=o.X0)))) rfl rfl rfl (oX (aa.Y0==o.Y0) rfl (fun h=>by exact(cR h:cv (true&&((decide (aa.Y0<o.Y0))==false)) (vb (aa.Y0==o.Y0))= (vb (aa.Y0==o.Y0)))) (fun h=>by exact iX (h:=h) (true&&((decide (aa.Y0<o.Y0))==false)))) (RL.pick (decide (aa.Y0<o.Y0)) (vb ((decide (aa.Y0<o.Y0))||((aa.Y0==o.Y0)&&(decide (aa.X0<=o.X0))))) (px true rfl) (RL.nt (fq hb (fun hc hb=>?_) fun hc hb=>?_))))
  ·refine RC.sr (aO (vi 8) (RL.nt (RC.rb (bL ?_))))
   obtain rfl:=oi hb
   exact⟨rfl,cD ⟨rfl,j.drop 7⟩⟩
  refine RC.skip (bU (aG (RC.region (mv (vi an) (RL.jC an 1 (aO (vi (IntKind.wrap .i64 (an+1))) (RL.nil ?_)))))))
  obtain rfl:=oi hb
  exact⟨rfl,j.sp 7 [6]⟩
 ·intro r U w e hK
  subst e
  refine bL ?_
  obtain rfl:=oi hb
  exact hK
 rintro an _ w rfl ⟨O,rfl,j⟩
 rw [Fo.fZ] at hb
 refine aG (RC.seq (RC.sr (mv v0 ?_)))
 obtain⟨bg,a7,hb⟩:=bd hb
 refine RL.call zt zr C1 [v0] zr (aF (j7 N (i0:=0) j zr a7) ?_)
 rintro a8 w j
 have j:=j.freeze 0
 obtain⟨bh,a9,hb⟩:=bd hb
 refine RL.call zt zr FL [a8] zr (aF (kW N (i0:=0) j zr a9) ?_)
 rintro ba w j
 refine mv v0 ?_
 have j:=j.freeze 0
 obtain⟨Gq,bb,hb⟩:=bd hb
 refine RL.call zt zr Ic [ba,v0] zr (aF (qh N (i0:=0) (i1:=2) j zr zr bb) ?_)
 rintro _ w ⟨rfl,j⟩
 refine RL.not Gq (RL.nt (fq hb (fun hc hb=>?_) fun hc hb=>?_))
 ·refine RC.sr (aO (vi 3) (RL.nt (RC.rt ?_)))
  obtain rfl:=oi hb
  exact cD ⟨rfl,j.drop 3⟩
 refine RC.sx (aO (vi 0) (RL.nt (RC.ret ?_)))
 obtain rfl:=oi hb
 exact cD ⟨rfl,j.drop 3⟩
theorem kq {res:Bool} (o:Holds E w V) (j:fP N p0 p1 p2=some res):
    Calls bD 43 [(vi p0),(vi p1),(vi p2)].toArray w (gR (bF E V res)):=by
 unfold fP at j
 refine enter Tryz.func43 zr zr (RC.sr (aO (vb false) (RL.ns (mv (vi p0) (mv (vi p1) (ic p0 p1 (mv (vb (decide (p0>=p1))) (RL.gs true (decide (p0>=p1)) (vi p0) zr zr zr eC ?_))))))))
 refine RL.gs true (decide (p0>=p1)) (vi p2) rfl rfl rfl eC (RL.gs true (decide (p0>=p1)) (vb (decide (p0<=p2))) rfl rfl rfl (eP .leq .i64 p0 p2 rfl (fun h=>by exact(cR h:cv (true&&((decide (p0>=p1))==true)) (vi p0)= (vi p0))) (fun h=>by exact(cR h:cv (true&&((decide (p0>=p1))==true)) (vi p2)= (vi p2))) rfl) (RL.pick (decide (p0>=p1)) (vb ((decide (p0>=p1))&&(decide (p0<=p2)))) (iX true) (aO (vb ((decide (p0>=p1))&&(decide (p0<=p2)))) (RL.nt (RC.ret ?_)))))
 obtain rfl:=oi j
 exact cD ⟨rfl,o.drop 0⟩
theorem oJ {p0:je} {res:Bool} (j:Holds E w V) (h0:V[i0]? =some (rd v0 p0)) (hb:gW N p0=some res):
    Calls bD 46 [v0].toArray w (gR (bF E V res)):=by
 unfold gW at hb
 refine enter Tryz.func46 zr zr ?_
 have j:=j.dup (i0+0) h0
 refine RC.sr (RL.dD 0 v0 j zr fun ai w j=>?_)
 refine aO (vb false) (RL.nq ?_)
 obtain⟨ad,o,hb⟩:=bd hb
 refine RC.jn (fun(ad:Bool)=>SH E V [(2,vb ad)] []) ad ?_ ?_
 ·refine RC.region (RL.bA zr xW (RL.aN 0 j zr o6 cH ?_))
  obtain⟨af,ag,o⟩:=bd o
  refine RL.call zt zr BT [(vi p0.X)] zr (aF (jH N (p0:=p0.X) j ag) ?_)
  rintro _ w ⟨rfl,j⟩
  refine mv (vb af) (gv o (fun aa o=>?_) fun aa o=>?_)
  rotate_left
  ·refine bS aa (bS aa (bS aa (gx aa (vb false) (aO (vb false) (RL.nil ?_)))))
   obtain rfl:=oi o
   exact⟨rfl,j.sp 2 []⟩
  refine RL.bA (hg:=(cg aa)) zr xX (RL.aN (hg:=(cg aa)) 0 j zr o7 cH ?_)
  obtain⟨ae,ah,o⟩:=bd o
  refine RL.call (cg aa) zr BT [(vi p0.Y)] zr (aF (jH N (p0:=p0.Y) j ah) ?_)
  rintro _ w ⟨rfl,j⟩
  refine gx aa (vb ae) (aO (vb ae) (RL.nil ?_))
  obtain rfl:=oi o
  exact⟨rfl,j.sp 2 []⟩
 rintro _ w ⟨O,rfl,j⟩
 refine aG (RC.ret ?_)
 obtain rfl:=oi hb
 exact cD ⟨rfl,j.drop 0⟩
end Go.Gk
