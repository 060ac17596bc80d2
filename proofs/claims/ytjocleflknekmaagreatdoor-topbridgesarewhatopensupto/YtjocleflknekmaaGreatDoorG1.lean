/-
  Printed texts: Go functions as plain functions, and that they are. No statement of the seed is proved here.
-/
import Derived.Test.YtjocleflknekmaaGreatDoorProg
import Derived.Test.YtjocleflknekmaaGreatDoorE1
import Derived.Test.YtjocleflknekmaaGreatDoorA1
import Derived.Test.YtjocleflknekmaaGreatDoorA2
import Derived.Test.YtjocleflknekmaaGreatDoorRows
import Derived.Shelf.SlGeneric
import Derived.Ground.SlsfProg
import Derived.Ground.SlgmProg
set_option linter.unusedVariables false
set_option linter.unusedSimpArgs false
set_option linter.unusedSectionVars false
set_option maxRecDepth 100000
set_option maxHeartbeats 40000000
namespace Go.Gk
open Go Go.Proofs
noncomputable abbrev bH:=Tryz.prog
def kW (x:aI):=(x.X0,x.Y0,x.X1,x.Y1)
instance instGTRect:GT aI:=GT.via kW
instance instKVRect:KV aI:=instKVvia (fun(x:aI)=>(x.X0,x.Y0,x.X1,x.Y1))
theorem fu:Fd 0 (fun x:aI=>x.X0):= .v kW (.fst .self)
theorem rq:Fs 0 Int (fun(x:aI) y=>{x with X0:=y}):= .v kW (.fst .self)
theorem fG:Fd 1 (fun x:aI=>x.Y0):= .v kW (.snd (.fst .self))
theorem uF:Fs 1 Int (fun(x:aI) y=>{x with Y0:=y}):= .v kW (.snd (.fst .self))
theorem fU:Fd 2 (fun x:aI=>x.X1):= .v kW (.snd (.snd (.fst .self)))
theorem oZ:Fs 2 Int (fun(x:aI) y=>{x with X1:=y}):= .v kW (.snd (.snd (.fst .self)))
theorem iM:Fd 3 (fun x:aI=>x.Y1):= .v kW (.snd (.snd (.snd (.self))))
theorem ru:Fs 3 Int (fun(x:aI) y=>{x with Y1:=y}):= .v kW (.snd (.snd (.snd (.self))))
def uG (x:j6):=(x.X,x.Y)
instance instGTPoint:GT j6:=GT.via uG
instance instKVPoint:KV j6:=instKVvia (fun(x:j6)=>(x.X,x.Y))
theorem pL:Fd 0 (fun x:j6=>x.X):= .v uG (.fst .self)
theorem pM:Fd 1 (fun x:j6=>x.Y):= .v uG (.snd (.self))
def o0 (x:bW):=(x.At,x.eW,x.cZ,x.To,x.gD)
instance instGTBore:GT bW:=GT.via o0
theorem uH:Fd 0 (fun x:bW=>x.At):= .v o0 (.fst .self)
theorem o4:Fd 2 (fun x:bW=>x.eW):= .v o0 (.snd (.fst .self))
theorem mo:Fd 3 (fun x:bW=>x.cZ):= .v o0 (.snd (.snd (.fst .self)))
theorem nG:Fd 4 (fun x:bW=>x.To):= .v o0 (.snd (.snd (.snd (.fst .self))))
theorem ry:Fd 5 (fun x:bW=>x.gD):= .v o0 (.snd (.snd (.snd (.snd (.self)))))
def qC (x:dL):=(x.Part,x.fX,x.eQ,x.At)
instance instGTLand:GT dL:=GT.via qC
theorem x4:Fd 0 (fun x:dL=>x.Part):= .v qC (.fst .self)
theorem x5:Fd 1 (fun x:dL=>x.fX):= .v qC (.snd (.fst .self))
theorem uI:Fd 2 (fun x:dL=>x.eQ):= .v qC (.snd (.snd (.fst .self)))
theorem uJ:Fd 3 (fun x:dL=>x.At):= .v qC (.snd (.snd (.snd (.self))))
def tu (x:iW):=(x.aN,x.dH,x.aL,x.bD)
instance instGTArt:GT iW:=GT.via tu
theorem o5:Fd 0 (fun x:iW=>x.aN):= .v tu (.fst .self)
theorem wk:Fd 1 (fun x:iW=>x.dH):= .v tu (.snd (.fst .self))
theorem qD:Fd 2 (fun x:iW=>x.aL):= .v tu (.snd (.snd (.fst .self)))
theorem qE:Fd 3 (fun x:iW=>x.bD):= .v tu (.snd (.snd (.snd (.self))))
def tv (x:fX):=(x.Part,x.fX)
instance instGTPin:GT fX:=GT.via tv
instance instKVPin:KV fX:=instKVvia (fun(x:fX)=>(x.Part,x.fX))
theorem z6:Fd 0 (fun x:fX=>x.Part):= .v tv (.fst .self)
theorem DY:Fs 0 dK (fun(x:fX) y=>{x with Part:=y}):= .v tv (.fst .self)
theorem z7:Fd 1 (fun x:fX=>x.fX):= .v tv (.snd (.self))
theorem DZ:Fs 1 dK (fun(x:fX) y=>{x with fX:=y}):= .v tv (.snd (.self))
def iB (x:aA):=(x.Y0,x.Y1,x.Xs)
instance instGTshape_Band:GT aA:=GT.via iB
theorem fL:Fd 0 (fun x:aA=>x.Y0):= .v iB (.fst .self)
theorem p7:Fs 0 Int (fun(x:aA) y=>{x with Y0:=y}):= .v iB (.fst .self)
theorem eE:Fd 1 (fun x:aA=>x.Y1):= .v iB (.snd (.fst .self))
theorem mY:Fs 1 Int (fun(x:aA) y=>{x with Y1:=y}):= .v iB (.snd (.fst .self))
theorem dB:Fd 2 (fun x:aA=>x.Xs):= .v iB (.snd (.snd (.self)))
theorem p8:Fs 2 (List Int) (fun(x:aA) y=>{x with Xs:=y}):= .v iB (.snd (.snd (.self)))
def iq (x:aH):=(x.eQ,x.Set,x.m6)
instance instGTcopper_Piece:GT aH:=GT.via iq
theorem oA:Fd 0 (fun x:aH=>x.eQ):= .v iq (.fst .self)
theorem tw:Fs 0 Int (fun(x:aH) y=>{x with eQ:=y}):= .v iq (.fst .self)
theorem tx:Fs 1 (List aA) (fun(x:aH) y=>{x with Set:=y}):= .v iq (.snd (.fst .self))
theorem oC:Fd 2 (fun x:aH=>x.m6):= .v iq (.snd (.snd (.self)))
theorem tz:Fs 2 (List aI) (fun(x:aH) y=>{x with m6:=y}):= .v iq (.snd (.snd (.self)))
def CQ (x:cU):=(x.mW,x.aL,x.iI)
instance instGTGroup:GT cU:=GT.via CQ
def pN (x:bE):=(x.bW,x.Number)
instance instGTHop:GT bE:=GT.via pN
instance instKVHop:KV bE:=instKVvia (fun(x:bE)=>(x.bW,x.Number))
theorem tA:Fd 0 (fun x:bE=>x.bW):= .v pN (.fst .self)
theorem z8:Fs 0 Bool (fun(x:bE) y=>{x with bW:=y}):= .v pN (.fst .self)
theorem lY:Fd 1 (fun x:bE=>x.Number):= .v pN (.snd (.self))
theorem tB:Fs 1 Int (fun(x:bE) y=>{x with Number:=y}):= .v pN (.snd (.self))
def mK (x:fM):=(x.Open,x.bE,x.A,x.B)
instance instGTFlaw:GT fM:=GT.via mK
theorem mq:Fd 0 (fun x:fM=>x.Open):= .v mK (.fst .self)
theorem CR:Fs 0 Bool (fun(x:fM) y=>{x with Open:=y}):= .v mK (.fst .self)
theorem nH:Fd 1 (fun x:fM=>x.bE):= .v mK (.snd (.fst .self))
theorem CS:Fs 1 bE (fun(x:fM) y=>{x with bE:=y}):= .v mK (.snd (.fst .self))
theorem rz:Fd 3 (fun x:fM=>x.A):= .v mK (.snd (.snd (.fst .self)))
theorem rA:Fd 4 (fun x:fM=>x.B):= .v mK (.snd (.snd (.snd (.self))))
theorem Hz (M:dJ):GT.ok M (#[(.string ⟨#[]⟩),(.string ⟨#[]⟩)]:Array Value).toList (⟨⟨[]⟩,⟨[]⟩⟩:fX):=⟨[(.string ⟨#[]⟩)],[(.string ⟨#[]⟩)],rfl,(show GT.ok M [(.string ⟨#[]⟩)] (⟨[]⟩:dK) from rfl),(show GT.ok M [(.string ⟨#[]⟩)] (⟨[]⟩:dK) from rfl)⟩
theorem wm (M:dJ):GT.ok M (#[(.bool false),(.int .i64 0)]:Array Value).toList (⟨false,0⟩:bE):=⟨[(.bool false)],[(.int .i64 0)],rfl,(show GT.ok M [(.bool false)] (false:Bool) from rfl),(show GT.ok M [(.int .i64 0)] (0:Int) from rfl)⟩
theorem GO (M:dJ):GT.ok M (#[(.bool false),(.bool false),(.int .i64 0),(.int .i64 0),(.int .i64 0)]:Array Value).toList (⟨false,⟨false,0⟩,0,0⟩:fM):=⟨[(.bool false)],[(.bool false),(.int .i64 0),(.int .i64 0),(.int .i64 0)],rfl,(show GT.ok M [(.bool false)] (false:Bool) from rfl),⟨[(.bool false),(.int .i64 0)],[(.int .i64 0),(.int .i64 0)],rfl,(show GT.ok M [(.bool false),(.int .i64 0)] (⟨false,0⟩:bE) from wm M),⟨[(.int .i64 0)],[(.int .i64 0)],rfl,(show GT.ok M [(.int .i64 0)] (0:Int) from rfl),(show GT.ok M [(.int .i64 0)] (0:Int) from rfl)⟩⟩⟩
theorem sF (M:dJ):GT.ok M (#[(.int .i64 0),(.int .i64 0),(.int .i64 0),(.int .i64 0)]:Array Value).toList (⟨0,0,0,0⟩:aI):=⟨[(.int .i64 0)],[(.int .i64 0),(.int .i64 0),(.int .i64 0)],rfl,(show GT.ok M [(.int .i64 0)] (0:Int) from rfl),⟨[(.int .i64 0)],[(.int .i64 0),(.int .i64 0)],rfl,(show GT.ok M [(.int .i64 0)] (0:Int) from rfl),⟨[(.int .i64 0)],[(.int .i64 0)],rfl,(show GT.ok M [(.int .i64 0)] (0:Int) from rfl),(show GT.ok M [(.int .i64 0)] (0:Int) from rfl)⟩⟩⟩
theorem wo (M:dJ):GT.ok M (#[(.int .i64 0),(.slice none 0 0),(.slice none 0 0)]:Array Value).toList (⟨0,[],[]⟩:aH):=⟨[(.int .i64 0)],[(.slice none 0 0),(.slice none 0 0)],rfl,(show GT.ok M [(.int .i64 0)] (0:Int) from rfl),⟨[(.slice none 0 0)],[(.slice none 0 0)],rfl,(show GT.ok M [(.slice none 0 0)] ([]: (List aA)) from ⟨_,rfl,none,0,0,rfl,rfl,bI _,by simp [maxLen],fun _ _ h=>by simp at h⟩),(show GT.ok M [(.slice none 0 0)] ([]: (List aI)) from ⟨_,rfl,none,0,0,rfl,rfl,bI _,by simp [maxLen],fun _ _ h=>by simp at h⟩)⟩⟩
theorem tC (M:dJ):GT.ok M (#[(.int .i64 0),(.int .i64 0),(.slice none 0 0)]:Array Value).toList (⟨0,0,[]⟩:aA):=⟨[(.int .i64 0)],[(.int .i64 0),(.slice none 0 0)],rfl,(show GT.ok M [(.int .i64 0)] (0:Int) from rfl),⟨[(.int .i64 0)],[(.slice none 0 0)],rfl,(show GT.ok M [(.int .i64 0)] (0:Int) from rfl),(show GT.ok M [(.slice none 0 0)] ([]: (List Int)) from ⟨_,rfl,none,0,0,rfl,rfl,bI _,by simp [maxLen],fun _ _ h=>by simp at h⟩)⟩⟩
structure cB where
  mW: (List Int)
  aL: (List Int)
  iI:RV
  deriving Inhabited
def pO (x:cB):=(x.mW,x.aL,x.iI)
instance instGTGroup_r2:GT cB:=GT.via pO
theorem xv:Fd 2 (fun x:cB=>x.iI):= .v pO (.snd (.snd (.self)))
theorem xw:Fs 2 RV (fun(x:cB) y=>{x with iI:=y}):= .v pO (.snd (.snd (.self)))
def bX:XT cB cU:=⟨fun u x=>u.mW=x.mW/\u.aL=x.aL,fun M h u x=>(u.mW=x.mW/\u.aL=x.aL)/\sB 29 M h u.iI.v x.iI,fun{M M' h u x} hk hh=>⟨hh.1,(own 29 u.iI.v x.iI).mono hk hh.2⟩,fun h=>h.1⟩
theorem qF:XO bX 29 2 (fun u=>u.iI) (fun u r=>{u with iI:=r}) (fun x=>x.iI) (fun x y=>{x with iI:=y}):=⟨xv,xw,by decide,fun h=>h.2,fun hr ho=>⟨hr,ho⟩⟩
theorem yG (M h:dJ) (u:cB) (x:cU) (cs:List Value) (hd: ∀b o,h b=some o->M b=none) (hx:bX.ok M h u x) (hc:GT.ok M cs u):GT.ok (og M h) cs x:=by
  obtain⟨⟨e0,e1⟩,ho⟩:=hx
  obtain⟨c0,d0,hd0,a0,c1,d1,hd1,a1,a2⟩:=hc
  exact⟨c0,d0,hd0,GT.mono (rm M h) (show GT.ok M c0 x.mW from e0▸(show GT.ok M c0 u.mW from a0)),⟨c1,d1,hd1,GT.mono (rm M h) (show GT.ok M c1 x.aL from e1▸(show GT.ok M c1 u.aL from a1)),⟨u.iI.v,a2,sB.sl hd ho⟩⟩⟩
theorem tD:lv bH 27 true 4:=tt
theorem oj:lv bH 29 true 2:=tt
theorem uK:mG bH 27 0 0:=oh
theorem CT:lv bH 22 false 1:=tt
theorem z9:Tryz.prog.underlying 22=some (.slice 23):=by kernel_rfl
theorem D0:mG bH 27 1 1:=oh
theorem yH:lv bH 23 false 1:=tt
theorem qg:Tryz.prog.underlying 23=some (.slice 56):=by kernel_rfl
theorem CU:ux bH 22 23 1:=Ca
theorem lx:ux bH 23 56 4:=Ca
theorem iC:lv bH 56 true 4:=tt
theorem oq:A3 bH 56 4:=CP (.agg #[(.int .i64 0),(.int .i64 0),(.int .i64 0),(.int .i64 0)])
theorem ji:mG bH 56 0 0:=oh
theorem cP:lv bH 3 false 1:=tt
theorem I6:gX bH 96:=il Tryz.func96
theorem CV:gX bH 78:=il Tryz.func78
theorem jV:mG bH 56 1 1:=oh
theorem jW:mG bH 56 2 2:=oh
theorem mZ:mG bH 56 3 3:=oh
theorem HA:gX bH 63:=il Tryz.func63
theorem I7:gX bH 40:=il Tryz.func40
theorem mixed:Tryz.prog.follows .mixedOrders=true:=by kernel_rfl
theorem CW:s9 bH 23 56 4 32:=s9.of (.agg #[(.int .i64 0),(.int .i64 0),(.int .i64 0),(.int .i64 0)])
theorem I8:gX bH 64:=il Tryz.func64
theorem I9:gX bH 66:=il Tryz.func66
theorem HB:gX bH 65:=il Tryz.func65
theorem HC:Hf bH 63 [(.slice none 0 0)]:=⟨(.slice none 0 0),fun _=>by kernel_rfl,rfl⟩
theorem fx:lv bH 63 false 1:=tt
theorem eI:ux bH 63 3 1:=Ca
theorem D1:A3 bH 3 1:=CP (.int .i64 0)
theorem tE:s9 bH 63 3 1 8:=s9.of (.int .i64 0)
theorem Ja:gX bH 67:=il Tryz.func67
theorem lZ:Tryz.prog.underlying 63=some (.slice 3):=by kernel_rfl
theorem Hg:E9 bH 3 (0:Int):=E9.of (.int .i64 0) (fun M=>rfl)
theorem Jb:gX bH 68:=il Tryz.func68
theorem HD:gX bH 82:=il Tryz.func82
theorem Jc:E9 bH 56 (⟨0,0,0,0⟩:aI):=E9.of (.agg #[(.int .i64 0),(.int .i64 0),(.int .i64 0),(.int .i64 0)]) (fun M=>(sF M))
theorem Jd:gX bH 70:=il Tryz.func70
theorem Je:gX bH 69:=il Tryz.func69
theorem Jf:gX bH 91:=il Tryz.func91
theorem Jg:gX bH 72:=il Tryz.func72
theorem Ge:xt bH 137 [(0,1),(1,1),(2,1)] #[(.int .i64 0),(.int .i64 0),(.slice none 0 0)]:=xt.of (.agg #[(.int .i64 0),(.int .i64 0),(.slice none 0 0)]) Tryz.underlying137
theorem j7:mG bH 137 2 2:=oh
theorem ln:mG bH 137 1 1:=oh
theorem nu:mG bH 137 0 0:=oh
theorem m7:Tryz.prog.underlying 100=some (.slice 137):=by kernel_rfl
theorem jK:ux bH 100 137 3:=Ca
theorem Jh:gX bH 90:=il Tryz.func90
theorem tF:lv bH 137 true 3:=tt
theorem Aa:A3 bH 137 3:=CP (.agg #[(.int .i64 0),(.int .i64 0),(.slice none 0 0)])
theorem HE:s9 bH 100 137 3 40:=s9.of (.agg #[(.int .i64 0),(.int .i64 0),(.slice none 0 0)])
theorem HF:gX bH 71:=il Tryz.func71
theorem D2:gX bH 42:=il Tryz.func42
theorem CX:xt bH 56 [(0,1),(1,1),(2,1),(3,1)] #[(.int .i64 0),(.int .i64 0),(.int .i64 0),(.int .i64 0)]:=xt.of (.agg #[(.int .i64 0),(.int .i64 0),(.int .i64 0),(.int .i64 0)]) Tryz.underlying56
theorem GP:gX bH 43:=il Tryz.func43
theorem Be:Tryz.prog.underlying 3=some (.int .i64):=by kernel_rfl
theorem HG:Gy bH 56 aI:=⟨fun M cs ds a b w ha hb=>by
  obtain⟨_,_,rfl,rfl,⟨_,_,rfl,rfl,⟨_,_,rfl,rfl,rfl⟩⟩⟩:=ha
  obtain⟨_,_,rfl,rfl,⟨_,_,rfl,rfl,⟨_,_,rfl,rfl,rfl⟩⟩⟩:=hb
  refine(kA 9999 Tryz.underlying56 (xS.cons (by decide) (dN cP rfl _) (dN cP rfl _) (jv Be _ _ w) (xS.cons (by decide) (dN cP rfl _) (dN cP rfl _) (jv Be _ _ w) (xS.cons (by decide) (dN cP rfl _) (dN cP rfl _) (jv Be _ _ w) (xS.cons (by decide) (dN cP rfl _) (dN cP rfl _) (jv Be _ _ w) xS.nil))))).trans ?_
  congr 1
  cases a;cases b;unfold kW
  rw [fD]
  simp,by kernel_rfl⟩
theorem Ji:gX bH 41:=il Tryz.func41
theorem GQ:gX bH 18:=il Tryz.func18
theorem mu:mG bH 27 2 2:=oh
theorem uL:lv bH 24 false 1:=tt
theorem wq:Tryz.prog.underlying 24=some (.slice 71):=by kernel_rfl
theorem yI:ux bH 24 71 6:=Ca
theorem ot:lv bH 71 true 6:=tt
theorem CY:A3 bH 71 6:=CP (.agg #[(.int .i64 0),(.int .i64 0),(.int .i64 0),(.int .i64 0),(.int .i64 0),(.bool false)])
theorem wt:mG bH 71 1 2:=oh
theorem FB:gX bH 45:=il Tryz.func45
theorem Bf:mG bH 71 0 0:=oh
theorem FC:lv bH 69 true 2:=tt
theorem yJ:mG bH 69 0 0:=oh
theorem yK:mG bH 69 1 1:=oh
theorem HH:gX bH 48:=il Tryz.func48
theorem CZ:gX bH 22:=il Tryz.func22
theorem Jj:gX bH 92:=il Tryz.func92
theorem Jk:gX bH 73:=il Tryz.func73
theorem Jl:gX bH 44:=il Tryz.func44
theorem sG:mG bH 71 2 3:=oh
theorem uM:mG bH 71 3 4:=oh
theorem Jm:gX bH 19:=il Tryz.func19
theorem uN:mG bH 27 3 3:=oh
theorem C0:lv bH 25 false 1:=tt
theorem D3:Tryz.prog.underlying 25=some (.slice 87):=by kernel_rfl
theorem D4:ux bH 25 87 5:=Ca
theorem wu:lv bH 87 true 5:=tt
theorem HI:A3 bH 87 5:=CP (.agg #[(.string ⟨#[]⟩),(.string ⟨#[]⟩),(.int .i64 0),(.int .i64 0),(.int .i64 0)])
theorem D5:mG bH 87 0 0:=oh
theorem D6:lv bH 9 false 1:=tt
theorem Ab:Tryz.prog.underlying 9=some (.string):=by kernel_rfl
theorem uD (a:dK) (b:Int) (w:World): (callFunc 134 [(str a),(.int .u8 b)].toArray).run bH w = .ok (.value (vi ((Lib.countByte a.cN (Int.toNat b).toUInt8:Nat):Int))) w:=vY Extern.BytealgCount.count Tryz.func134 (Lib.run_countString _ _ w)
theorem Jn (a:dK) (b:Int) (w:World): (callFunc 123 [(str a),(.int .u8 b)].toArray).run bH w = .ok (.value (vi (Lib.indexByte a.cN (Int.toNat b).toUInt8))) w:=vY Extern.BytealgIndexByte.indexByte Tryz.func123 (Lib.run_indexByteString _ _ w)
theorem HJ:gX bH 95:=il Tryz.func95
theorem HK:gX bH 135:=il Tryz.func135
theorem Gf:gX bH 122:=il Tryz.func122
theorem HL:gX bH 121:=il Tryz.func121
theorem HM:s9 bH 139 9 1 16:=s9.of (.string ⟨#[]⟩)
theorem KA:E9 bH 9 (⟨[]⟩:dK):=E9.of (.string ⟨#[]⟩) (fun M=>rfl)
theorem Cb:ux bH 139 9 1:=Ca
theorem Jo:gX bH 94:=il Tryz.func94
theorem Jp:gX bH 75:=il Tryz.func75
theorem HN:Tryz.prog.underlying 139=some (.slice 9):=by kernel_rfl
theorem Jq:gX bH 93:=il Tryz.func93
theorem Jr:gX bH 77:=il Tryz.func77
theorem HO:gX bH 47:=il Tryz.func47
theorem Js:gX bH 76:=il Tryz.func76
theorem Jt:gX bH 74:=il Tryz.func74
theorem Ju:gX bH 46:=il Tryz.func46
theorem D7:mG bH 87 1 1:=oh
theorem Bg:mG bH 87 2 2:=oh
theorem Bh:mG bH 87 3 3:=oh
theorem HQ:A3 bH 29 2:=CP (.agg #[(.string ⟨#[]⟩),(.string ⟨#[]⟩)])
theorem Jv:xt bH 29 [(0,1),(1,1)] #[(.string ⟨#[]⟩),(.string ⟨#[]⟩)]:=xt.of (.agg #[(.string ⟨#[]⟩),(.string ⟨#[]⟩)]) Tryz.underlying29
theorem FD:gX bH 34:=il Tryz.func34
theorem D8:mG bH 29 0 0:=oh
theorem Jw (a b:dK) (w:World): (callFunc 101 [(str a),(str b)].toArray).run bH w = .ok (.value (vi (Lib.compareBytes a.cN b.cN))) w:=vY Extern.BytealgCompare.compare Tryz.func101 (Lib.run_compareString _ _ w)
theorem Jx:gX bH 86:=il Tryz.func86
theorem HR:gX bH 62:=il Tryz.func62
theorem D9:mG bH 29 1 1:=oh
theorem HS:gX bH 33:=il Tryz.func33
theorem Jy:gX bH 20:=il Tryz.func20
theorem HT:gX bH 49:=il Tryz.func49
theorem Jz:gX bH 21:=il Tryz.func21
theorem JA:xt bH 79 [(0,4),(4,1),(5,1),(6,1),(7,1),(8,1),(9,1),(10,1),(11,1)] #[(.slice none 0 0),(.slice none 0 0),(.slice none 0 0),(.slice none 0 0),(.slice none 0 0),(.slice none 0 0),(.slice none 0 0),(.slice none 0 0),(.slice none 0 0),(.slice none 0 0),(.slice none 0 0),(.slice none 0 0)]:=xt.of (.agg #[(.slice none 0 0),(.slice none 0 0),(.slice none 0 0),(.slice none 0 0),(.slice none 0 0),(.slice none 0 0),(.slice none 0 0),(.slice none 0 0),(.slice none 0 0),(.slice none 0 0),(.slice none 0 0),(.slice none 0 0)]) Tryz.underlying79
theorem l3:mG bH 79 0 0:=oh
theorem GR:gX bH 50:=il Tryz.func50
theorem Ea:ux bH 74 100 1:=Ca
theorem Eb:A3 bH 100 1:=CP (.slice none 0 0)
theorem HU:Tryz.prog.underlying 74=some (.slice 100):=by kernel_rfl
theorem Gg:lv bH 100 false 1:=tt
theorem HV:gX bH 97:=il Tryz.func97
theorem Hh:Tryz.prog.underlying 4=some (.bool):=by kernel_rfl
theorem JB:gX bH 98:=il Tryz.func98
theorem JC:gX bH 80:=il Tryz.func80
theorem JD:gX bH 79:=il Tryz.func79
theorem JE:gX bH 51:=il Tryz.func51
theorem JF:gX bH 52:=il Tryz.func52
theorem Ec:mG bH 79 1 4:=oh
theorem HW:lv bH 74 false 1:=tt
theorem HX:s9 bH 74 100 1 24:=s9.of (.slice none 0 0)
theorem GS:gX bH 81:=il Tryz.func81
theorem Ac:yr bH 96 3 3 Int Int (0:Int):=⟨by kernel_rfl,(uB.int Be),yt (.int .i64 0) (fun M=>⟨_,rfl,rfl⟩)⟩
theorem JG:A3 bH 23 1:=CP (.slice none 0 0)
theorem JH:s9 bH 22 23 1 24:=s9.of (.slice none 0 0)
theorem JI:gX bH 53:=il Tryz.func53
theorem qG:mG bH 79 2 5:=oh
theorem Ad:lv bH 75 false 1:=tt
theorem HY:xt bH 113 [(0,1),(1,1),(2,1)] #[(.int .i64 0),(.slice none 0 0),(.slice none 0 0)]:=xt.of (.agg #[(.int .i64 0),(.slice none 0 0),(.slice none 0 0)]) Tryz.underlying113
theorem GU:ux bH 75 113 3:=Ca
theorem Ed:A3 bH 113 3:=CP (.agg #[(.int .i64 0),(.slice none 0 0),(.slice none 0 0)])
theorem JJ:s9 bH 75 113 3 56:=s9.of (.agg #[(.int .i64 0),(.slice none 0 0),(.slice none 0 0)])
theorem C1:Tryz.prog.underlying 75=some (.slice 113):=by kernel_rfl
theorem JK:gX bH 23:=il Tryz.func23
theorem JL:gX bH 56:=il Tryz.func56
theorem Cc:lv bH 113 true 3:=tt
theorem yL:mG bH 71 4 5:=oh
theorem xo:lv bH 4 false 1:=tt
theorem Cd:mG bH 113 0 0:=oh
theorem Ce:mG bH 113 2 2:=oh
theorem JM:gX bH 55:=il Tryz.func55
theorem HZ:gX bH 54:=il Tryz.func54
theorem uO:mG bH 79 3 6:=oh
theorem C2:lv bH 76 false 1:=tt
theorem yM:ux bH 76 63 1:=Ca
theorem H0:A3 bH 63 1:=CP (.slice none 0 0)
theorem H2:s9 bH 76 63 1 24:=s9.of (.slice none 0 0)
theorem JN:gX bH 24:=il Tryz.func24
theorem H3:xt bH 128 [(0,1)] #[(.slice none 0 0)]:=xt.of (.agg #[(.slice none 0 0)]) Tryz.underlying128
theorem nv:mG bH 128 0 0:=oh
theorem H4:gX bH 36:=il Tryz.func36
theorem Ee:Tryz.prog.underlying 76=some (.slice 63):=by kernel_rfl
theorem C3:gX bH 39:=il Tryz.func39
theorem H5:gX bH 38:=il Tryz.func38
theorem Bi:mG bH 79 5 8:=oh
theorem yN:mG bH 79 6 9:=oh
theorem JO:gX bH 57:=il Tryz.func57
theorem H6:Hf bH 120 [(.slice none 0 0),(.slice none 0 0),(.slice none 0 0)]:=⟨(.agg #[(.slice none 0 0),(.slice none 0 0),(.slice none 0 0)]),fun _=>by kernel_rfl,rfl⟩
theorem uP:mG bH 79 4 7:=oh
theorem C4:lv bH 77 false 1:=tt
theorem H7:Tryz.prog.underlying 77=some (.slice 120):=by kernel_rfl
theorem yO:mG bH 120 0 0:=oh
theorem yP:mG bH 120 1 1:=oh
theorem H8:lv bH 120 true 3:=tt
theorem GV:ux bH 77 120 3:=Ca
theorem H9:A3 bH 120 3:=CP (.agg #[(.slice none 0 0),(.slice none 0 0),(.slice none 0 0)])
theorem JP:s9 bH 77 120 3 72:=s9.of (.agg #[(.slice none 0 0),(.slice none 0 0),(.slice none 0 0)])
theorem nz:A3 bH 38 2:=CP (.agg #[(.bool false),(.int .i64 0)])
theorem JQ:gX bH 99:=il Tryz.func99
theorem Ia:gX bH 83:=il Tryz.func83
theorem C5:xt bH 38 [(0,1),(1,1)] #[(.bool false),(.int .i64 0)]:=xt.of (.agg #[(.bool false),(.int .i64 0)]) Tryz.underlying38
theorem dD:lv bH 38 true 2:=tt
theorem JR:gX bH 58:=il Tryz.func58
theorem yQ:mG bH 38 0 0:=oh
theorem pP:mG bH 38 1 1:=oh
theorem JS:gX bH 59:=il Tryz.func59
theorem Cf:mG bH 120 2 2:=oh
theorem Gh:lv bH 118 false 1:=tt
theorem Ib:ux bH 118 29 2:=Ca
theorem Ic:s9 bH 118 29 2 32:=s9.of (.agg #[(.string ⟨#[]⟩),(.string ⟨#[]⟩)])
theorem uQ:mG bH 79 7 10:=oh
theorem sH:mG bH 79 8 11:=oh
theorem Bj:lv bH 30 false 1:=tt
theorem mw:ux bH 30 38 2:=Ca
theorem Bl:s9 bH 30 38 2 16:=s9.of (.agg #[(.bool false),(.int .i64 0)])
theorem JT:gX bH 25:=il Tryz.func25
theorem JU:gX bH 9:=il Tryz.func9
theorem Ie:Hf bH 38 [(.bool false),(.int .i64 0)]:=⟨(.agg #[(.bool false),(.int .i64 0)]),fun _=>by kernel_rfl,rfl⟩
theorem Cg:Tryz.prog.underlying 125=some (.int .u64):=by kernel_rfl
theorem JV:gX bH 32:=il Tryz.func32
theorem JW:gX bH 31:=il Tryz.func31
theorem FE:gX bH 15:=il Tryz.func15
theorem Ig:gX bH 10:=il Tryz.func10
theorem wv:Gy bH 38 bE:=⟨fun M cs ds a b w ha hb=>by
  obtain⟨_,_,rfl,rfl,rfl⟩:=ha
  obtain⟨_,_,rfl,rfl,rfl⟩:=hb
  refine(kA 9999 Tryz.underlying38 (xS.cons (by decide) (dN xo rfl _) (dN xo rfl _) (mI Hh _ _ w) (xS.cons (by decide) (dN cP rfl _) (dN cP rfl _) (jv Be _ _ w) xS.nil))).trans ?_
  congr 1
  cases a;cases b;unfold pN
  rw [fD]
  simp,by kernel_rfl⟩
theorem Ih:uB bH 38 bE:=uB.struct Tryz.underlying38 rfl wv (fun k=>(F9.cons (by decide) (dN xo rfl) (fun b w=>MapKept.run_checkKey Hh (k:= .bool k.bW) trivial b 9998) (F9.cons (by decide) (dN cP rfl) (fun b w=>MapKept.run_checkKey Be (k:= .int .i64 k.Number) rfl b 9998) F9.nil))) (fun k x hx=>by
  have hx:x∈[Sc.toV k.bW,Sc.toV k.Number]:=hx
  simp only [eZ,List.not_mem_nil,or_false] at hx
  rcases hx with rfl | rfl
  · exact MapKept.sameBits_self (d:= .bool) (k:= .bool k.bW) trivial _
  · exact MapKept.sameBits_self (d:= .int .i64) (k:= .int .i64 k.Number) rfl _)
theorem vG:yr bH 58 38 3 bE Int (0:Int):=⟨by kernel_rfl,Ih,yt (.int .i64 0) (fun M=>⟨_,rfl,rfl⟩)⟩
theorem xx:Tryz.prog.underlying 30=some (.slice 38):=by kernel_rfl
theorem Gi:gX bH 100:=il Tryz.func100
theorem JX:gX bH 84:=il Tryz.func84
theorem Ii:gX bH 85:=il Tryz.func85
theorem JY:gX bH 60:=il Tryz.func60
theorem GW:gX bH 26:=il Tryz.func26
theorem Gj:Tryz.prog.underlying 60=some (.pointer (Tryz.prog.pointee 60)):=by kernel_rfl
theorem Ij:gX bH 13:=il Tryz.func13
theorem Ik:gX bH 11:=il Tryz.func11
theorem KB:gX bH 4:=il Tryz.func4
theorem JZ:gX bH 27:=il Tryz.func27
theorem J0:gX bH 12:=il Tryz.func12
theorem Kq:gX bH 5:=il Tryz.func5
theorem KC:gX bH 6:=il Tryz.func6
theorem J3:xt bH 42 [(0,1),(1,2),(3,1),(4,1)] #[(.bool false),(.bool false),(.int .i64 0),(.int .i64 0),(.int .i64 0)]:=xt.of (.agg #[(.bool false),(.bool false),(.int .i64 0),(.int .i64 0),(.int .i64 0)]) Tryz.underlying42
theorem C6:ux bH 43 42 5:=Ca
theorem FF:A3 bH 42 5:=CP (.agg #[(.bool false),(.bool false),(.int .i64 0),(.int .i64 0),(.int .i64 0)])
theorem Ef:Tryz.prog.underlying 43=some (.slice 42):=by kernel_rfl
theorem GX:lv bH 46 false 1:=tt
theorem Il:gX bH 29:=il Tryz.func29
theorem xy:lv bH 42 true 5:=tt
theorem sI:mG bH 42 0 0:=oh
theorem yR:mG bH 42 2 3:=oh
theorem yS:mG bH 42 3 4:=oh
theorem uR:mG bH 42 1 1:=oh
theorem GY:gX bH 28:=il Tryz.func28
theorem Im:Gy bH 42 fM:=⟨fun M cs ds a b w ha hb=>by
  obtain⟨_,_,rfl,rfl,⟨_,_,rfl,⟨_,_,rfl,rfl,rfl⟩,⟨_,_,rfl,rfl,rfl⟩⟩⟩:=ha
  obtain⟨_,_,rfl,rfl,⟨_,_,rfl,⟨_,_,rfl,rfl,rfl⟩,⟨_,_,rfl,rfl,rfl⟩⟩⟩:=hb
  refine(kA 9999 Tryz.underlying42 (xS.cons (by decide) (dN xo rfl _) (dN xo rfl _) (mI Hh _ _ w) (xS.cons (by decide) (xT dD rfl _) (xT dD rfl _) (kA 9998 Tryz.underlying37 (xS.cons (by decide) (dN xo rfl _) (dN xo rfl _) (mI Hh _ _ w) (xS.cons (by decide) (dN cP rfl _) (dN cP rfl _) (jv Be _ _ w) xS.nil))) (xS.cons (by decide) (dN cP rfl _) (dN cP rfl _) (jv Be _ _ w) (xS.cons (by decide) (dN cP rfl _) (dN cP rfl _) (jv Be _ _ w) xS.nil))))).trans ?_
  congr 1
  obtain⟨_,⟨_,_⟩,_,_⟩:=a;obtain⟨_,⟨_,_⟩,_,_⟩:=b;unfold mK pN
  rw [fD]
  simp,by kernel_rfl⟩
theorem J4:gX bH 61:=il Tryz.func61
theorem J5:gX bH 30:=il Tryz.func30
theorem J6:gX bH 14:=il Tryz.func14
theorem J7:Hf bH 92 [(.map none)]:=⟨(.map none),fun _=>by kernel_rfl,rfl⟩
theorem Eg:lv bH 92 false 1:=tt
theorem Io:gX bH 35:=il Tryz.func35
theorem FG:yr bH 92 3 4 Int Bool (false:Bool):=⟨by kernel_rfl,(uB.int Be),yt (.bool false) (fun M=>⟨_,rfl,rfl⟩)⟩
theorem J8:Hf bH 93 [(.pointer none)]:=⟨(.pointer none),fun _=>by kernel_rfl,rfl⟩
theorem Eh:lv bH 93 false 1:=tt
theorem Ip:gX bH 37:=il Tryz.func37
theorem J9:gX bH 16:=il Tryz.func16
theorem Kr:gX bH 7:=il Tryz.func7
theorem Ka:gX bH 17:=il Tryz.func17
theorem KD:gX bH 8:=il Tryz.func8
def oD (E:World) (V:List HP) (res:aI) (v:Value) (w:World):Prop:=Holds E w ([rd v res]++V)
def nQ (E:World) (V:List HP) (res: (List dK)) (v:Value) (w:World):Prop:=Holds E w ([own 9 v res]++V)
def iD (E:World) (V:List HP) (res:Int×Bool) (v:Value) (w:World):Prop:=v = .tuple #[(vi res.1),(vb res.2)]/\Holds E w V
def l4 (E:World) (V:List HP) (b0:Nat) (v0_0 v0_1:Value) (v0_2 v0_3:Value) (v0_4 v0_5:Value) (v0_6 v0_7:Value) (v0_8 v0_9:Value) (v0_10 v0_11:Value) (res: (List (bE×Int))) (v:Value) (w:World):Prop:=Holds E w ([mp v res,bc 79 b0 [v0_0,v0_1,v0_2,v0_3,v0_4,v0_5,v0_6,v0_7,v0_8,v0_9,v0_10,v0_11]]++V)
def iJ (E:World) (V:List HP) (b0:Nat) (v0_0 v0_1:Value) (v0_2 v0_3:Value) (v0_4 v0_5:Value) (v0_6 v0_7:Value) (v0_8 v0_9:Value) (v0_10 v0_11:Value) (res:Int) (v:Value) (w:World):Prop:=v= (vi res)/\Holds E w ([bc 79 b0 [v0_0,v0_1,v0_2,v0_3,v0_4,v0_5,v0_6,v0_7,v0_8,v0_9,v0_10,v0_11]]++V)
def bB (E:World) (V:List HP) (res:Bool) (v:Value) (w:World):Prop:=v= (vb res)/\Holds E w V
def aT (E:World) (V:List HP) (res:Int) (v:Value) (w:World):Prop:=v= (vi res)/\Holds E w V
def kQ (E:World) (V:List HP) (res: (List aI)) (v:Value) (w:World):Prop:=Holds E w ([own 56 v res]++V)
def ki (E:World) (V:List HP) (res: (List Int)) (v:Value) (w:World):Prop:=Holds E w ([own 3 v res]++V)
def kI (E:World) (V:List HP) (res: (List aA)) (v:Value) (w:World):Prop:=Holds E w ([own 137 v res]++V)
end Go.Gk
namespace Go.Gk
open Go Go.Proofs
def xp (H:Type) (d:DataW H):Nat:=YtjocleflknekmaaGreatDoor.Rows.uptoBulk d
def Ir (H:Type) (d:List (DataW H)):Nat:=YtjocleflknekmaaGreatDoor.Rows.uptoBulkAll d
theorem gU:UB xp Ir where
  str:=fun H b=>by simp [xp,YtjocleflknekmaaGreatDoor.Rows.uptoBulk]
  pos:=fun H d=>by
    unfold xp
    cases d with
    | lit l=>cases l <;> simp [YtjocleflknekmaaGreatDoor.Rows.uptoBulk]
    | nil=>simp [YtjocleflknekmaaGreatDoor.Rows.uptoBulk]
    | ptr d=>simp [YtjocleflknekmaaGreatDoor.Rows.uptoBulk]
    | slice elems spare=>simp [YtjocleflknekmaaGreatDoor.Rows.uptoBulk]
    | agg parts=>simp [YtjocleflknekmaaGreatDoor.Rows.uptoBulk]
    | iface t d=>simp [YtjocleflknekmaaGreatDoor.Rows.uptoBulk]
    | map entries=>simp [YtjocleflknekmaaGreatDoor.Rows.uptoBulk]
    | held h=>simp [YtjocleflknekmaaGreatDoor.Rows.uptoBulk]
  sl:=fun H e s=>by simp [xp,Ir,YtjocleflknekmaaGreatDoor.Rows.uptoBulk]
  ag:=fun H l=>by simp [xp,Ir,YtjocleflknekmaaGreatDoor.Rows.uptoBulk]
  nil:=fun H=>by simp [Ir,YtjocleflknekmaaGreatDoor.Rows.uptoBulkAll]
  cons:=fun H x l=>by simp [xp,Ir,YtjocleflknekmaaGreatDoor.Rows.uptoBulkAll]
theorem Fc:jk xp Tryz.prog 3 Int:=Da gU (by kernel_rfl)
theorem Kb:jk xp Tryz.prog 56 aI:=kK gU (fun(x:aI)=>(x.X0,x.Y0,x.X1,x.Y1)) (fun b=>⟨b.1,b.2.1,b.2.2.1,b.2.2.2⟩) (fun b=>rfl) Tryz.underlying56 (fP gU Fc (fP gU Fc (fP gU Fc (nI gU Fc)))) (fun b=>by simp only [FN];omega)
theorem Is:jk xp Tryz.prog 23 (List aI):=pR (e:=56) gU Kb
theorem Kc:jk xp Tryz.prog 22 (List (List aI)):=pR (e:=23) gU Is
theorem It:jk xp Tryz.prog 69 j6:=kK gU (fun(x:j6)=>(x.X,x.Y)) (fun b=>⟨b.1,b.2⟩) (fun b=>rfl) Tryz.underlying69 (fP gU Fc (nI gU Fc)) (fun b=>by simp only [Es];omega)
theorem KE:jk xp Tryz.prog 4 Bool:=Bq gU (by kernel_rfl)
theorem Kd:jk xp Tryz.prog 71 bW:=kK gU (fun(x:bW)=>(x.At,x.eW,x.cZ,x.To,x.gD)) (fun b=>⟨b.1,b.2.1,b.2.2.1,b.2.2.2.1,b.2.2.2.2⟩) (fun b=>rfl) Tryz.underlying71 (fP gU It (fP gU Fc (fP gU Fc (fP gU Fc (nI gU KE))))) (fun b=>by simp only [FO];omega)
theorem Ke:jk xp Tryz.prog 24 (List bW):=pR (e:=71) gU Kd
theorem IP:jk xp Tryz.prog 9 dK:=Db gU (by kernel_rfl)
theorem Kf:jk xp Tryz.prog 87 dL:=kK gU (fun(x:dL)=>(x.Part,x.fX,x.eQ,x.At)) (fun b=>⟨b.1,b.2.1,b.2.2.1,b.2.2.2⟩) (fun b=>rfl) Tryz.underlying87 (fP gU IP (fP gU IP (fP gU Fc (nI gU It)))) (fun b=>by simp only [Cj];omega)
theorem Kg:jk xp Tryz.prog 25 (List dL):=pR (e:=87) gU Kf
theorem Kh:jk xp Tryz.prog 27 iW:=kK gU (fun(x:iW)=>(x.aN,x.dH,x.aL,x.bD)) (fun b=>⟨b.1,b.2.1,b.2.2.1,b.2.2.2⟩) (fun b=>rfl) Tryz.underlying27 (fP gU Kc (fP gU Is (fP gU Ke (nI gU Kg)))) (fun b=>by simp only [Et];omega)
theorem Iu:jk xp Tryz.prog 29 fX:=kK gU (fun(x:fX)=>(x.Part,x.fX)) (fun b=>⟨b.1,b.2⟩) (fun b=>rfl) Tryz.underlying29 (fP gU IP (nI gU IP)) (fun b=>by simp only [GZ];omega)
end Go.Gk
namespace Go.Proofs
open Go.Shelf Go.RowKit Go.Lib Go.Sort
def Tryz.lay65_ren : Go.Shelf.Ren := ⟨fun | 6 => 65 | 15 => 88 | 14 => 87 | 28 => 110 | 29 => 111 | 20 => 102 | 21 => 103 | 22 => 104 | 23 => 105 | 24 => 106 | 25 => 107 | 26 => 108 | 27 => 109 | 46 => 124 | 47 => 125 | 48 => 126 | 49 => 127 | 50 => 128 | 57 => 136 | n => n, fun | 22 => 23 | 24 => 56 | 25 => 72 | 3 => 3 | 39 => 125 | 0 => 0 | 53 => 165 | 55 => 167 | 4 => 4 | 46 => 159 | 45 => 158 | 50 => 57 | 5 => 5 | 9 => 9 | 66 => 174 | 70 => 178 | 76 => 185 | 77 => 186 | n => n, fun | n => n⟩
theorem Tryz.lay65 : Go.Proofs.SlLaysF0.n6 Tryz.prog Tryz.lay65_ren := {
  mixed := by kernel_rfl
  f6 := ⟨Tryz.f65.name, by decide, Tryz.func65.trans (congrArg some (by kernel_rfl))⟩
  f14 := ⟨Tryz.f87.name, by decide, Tryz.func87.trans (congrArg some (by kernel_rfl))⟩
  f15 := Tryz.func88.trans (congrArg some (by kernel_rfl))
  f20 := ⟨Tryz.f102.name, by decide, Tryz.func102.trans (congrArg some (by kernel_rfl))⟩
  f21 := ⟨Tryz.f103.name, by decide, Tryz.func103.trans (congrArg some (by kernel_rfl))⟩
  f22 := ⟨Tryz.f104.name, by decide, Tryz.func104.trans (congrArg some (by kernel_rfl))⟩
  f23 := ⟨Tryz.f105.name, by decide, Tryz.func105.trans (congrArg some (by kernel_rfl))⟩
  f24 := ⟨Tryz.f106.name, by decide, Tryz.func106.trans (congrArg some (by kernel_rfl))⟩
  f25 := ⟨Tryz.f107.name, by decide, Tryz.func107.trans (congrArg some (by kernel_rfl))⟩
  f26 := ⟨Tryz.f108.name, by decide, Tryz.func108.trans (congrArg some (by kernel_rfl))⟩
  f27 := ⟨Tryz.f109.name, by decide, Tryz.func109.trans (congrArg some (by kernel_rfl))⟩
  f28 := Tryz.func110.trans (congrArg some (by kernel_rfl))
  f29 := Tryz.func111.trans (congrArg some (by kernel_rfl))
  f46 := ⟨Tryz.f124.name, by decide, Tryz.func124.trans (congrArg some (by kernel_rfl))⟩
  f47 := Tryz.func125.trans (congrArg some (by kernel_rfl))
  f48 := Tryz.func126.trans (congrArg some (by kernel_rfl))
  f49 := ⟨Tryz.f127.name, by decide, Tryz.func127.trans (congrArg some (by kernel_rfl))⟩
  f50 := ⟨Tryz.f128.name, by decide, Tryz.func128.trans (congrArg some (by kernel_rfl))⟩
  f57 := ⟨Tryz.f136.name, by decide, Tryz.func136.trans (congrArg some (by kernel_rfl))⟩
  t0 := Tryz.underlying0
  a0 := Tryz.isAgg0
  z0 := Tryz.sizeOf0
  v0 := Tryz.zeroValue0
  t3 := Tryz.underlying3
  a3 := Tryz.isAgg3
  z3 := Tryz.sizeOf3
  v3 := Tryz.zeroValue3
  t4 := Tryz.underlying4
  a4 := Tryz.isAgg4
  z4 := Tryz.sizeOf4
  v4 := Tryz.zeroValue4
  t5 := Tryz.underlying5
  a5 := Tryz.isAgg5
  z5 := Tryz.sizeOf5
  v5 := Tryz.zeroValue5
  t9 := Tryz.underlying9
  a9 := Tryz.isAgg9
  z9 := Tryz.sizeOf9
  v9 := Tryz.zeroValue9
  t22 := Tryz.underlying23
  a22 := Tryz.isAgg23
  z22 := Tryz.sizeOf23
  v22 := Tryz.zeroValue23
  t25 := Tryz.underlying72
  a25 := Tryz.isAgg72
  z25 := Tryz.sizeOf72
  v25 := Tryz.zeroValue72
  t39 := Tryz.underlying125
  a39 := Tryz.isAgg125
  z39 := Tryz.sizeOf125
  v39 := Tryz.zeroValue125
  t45 := Tryz.underlying158
  a45 := Tryz.isAgg158
  z45 := Tryz.sizeOf158
  v45 := Tryz.zeroValue158
  t46 := Tryz.underlying159
  a46 := Tryz.isAgg159
  z46 := Tryz.sizeOf159
  v46 := Tryz.zeroValue159
  t50 := Tryz.underlying57
  a50 := Tryz.isAgg57
  z50 := Tryz.sizeOf57
  v50 := Tryz.zeroValue57
  t53 := Tryz.underlying165
  a53 := Tryz.isAgg165
  z53 := Tryz.sizeOf165
  v53 := Tryz.zeroValue165
  t55 := Tryz.underlying167
  a55 := Tryz.isAgg167
  z55 := Tryz.sizeOf167
  v55 := Tryz.zeroValue167
  t66 := Tryz.underlying174
  a66 := Tryz.isAgg174
  z66 := Tryz.sizeOf174
  v66 := Tryz.zeroValue174
  t70 := Tryz.underlying178
  a70 := Tryz.isAgg178
  z70 := Tryz.sizeOf178
  v70 := Tryz.zeroValue178
  t76 := Tryz.underlying185
  a76 := Tryz.isAgg185
  z76 := Tryz.sizeOf185
  v76 := Tryz.zeroValue185
  t77 := Tryz.underlying186
  a77 := Tryz.isAgg186
  z77 := Tryz.sizeOf186
  v77 := Tryz.zeroValue186 }
def Tryz.lay67_ren : Go.Shelf.Ren := ⟨fun | 5 => 67 | 8 => 88 | 7 => 89 | 19 => 110 | 20 => 111 | 10 => 112 | 11 => 113 | 12 => 114 | 13 => 115 | 14 => 116 | 15 => 117 | 16 => 84 | 17 => 118 | 18 => 119 | 30 => 129 | 31 => 125 | 32 => 126 | 33 => 130 | 34 => 131 | 35 => 100 | 40 => 137 | n => n, fun | 23 => 63 | 25 => 3 | 3 => 3 | 32 => 125 | 22 => 63 | 0 => 0 | 44 => 165 | 46 => 167 | 4 => 4 | 36 => 159 | 35 => 158 | 41 => 57 | 5 => 5 | 9 => 9 | 53 => 174 | 57 => 178 | 63 => 185 | 64 => 186 | n => n, fun | n => n⟩
theorem Tryz.lay67 : Go.Proofs.SlLaysM.n5 Tryz.prog Tryz.lay67_ren := {
  mixed := by kernel_rfl
  f5 := ⟨Tryz.f67.name, by decide, Tryz.func67.trans (congrArg some (by kernel_rfl))⟩
  f7 := ⟨Tryz.f89.name, by decide, Tryz.func89.trans (congrArg some (by kernel_rfl))⟩
  f8 := Tryz.func88.trans (congrArg some (by kernel_rfl))
  f10 := ⟨Tryz.f112.name, by decide, Tryz.func112.trans (congrArg some (by kernel_rfl))⟩
  f11 := ⟨Tryz.f113.name, by decide, Tryz.func113.trans (congrArg some (by kernel_rfl))⟩
  f12 := ⟨Tryz.f114.name, by decide, Tryz.func114.trans (congrArg some (by kernel_rfl))⟩
  f13 := ⟨Tryz.f115.name, by decide, Tryz.func115.trans (congrArg some (by kernel_rfl))⟩
  f14 := ⟨Tryz.f116.name, by decide, Tryz.func116.trans (congrArg some (by kernel_rfl))⟩
  f15 := ⟨Tryz.f117.name, by decide, Tryz.func117.trans (congrArg some (by kernel_rfl))⟩
  f16 := ⟨Tryz.f84.name, by decide, Tryz.func84.trans (congrArg some (by kernel_rfl))⟩
  f17 := ⟨Tryz.f118.name, by decide, Tryz.func118.trans (congrArg some (by kernel_rfl))⟩
  f18 := ⟨Tryz.f119.name, by decide, Tryz.func119.trans (congrArg some (by kernel_rfl))⟩
  f19 := Tryz.func110.trans (congrArg some (by kernel_rfl))
  f20 := Tryz.func111.trans (congrArg some (by kernel_rfl))
  f30 := ⟨Tryz.f129.name, by decide, Tryz.func129.trans (congrArg some (by kernel_rfl))⟩
  f31 := Tryz.func125.trans (congrArg some (by kernel_rfl))
  f32 := Tryz.func126.trans (congrArg some (by kernel_rfl))
  f33 := ⟨Tryz.f130.name, by decide, Tryz.func130.trans (congrArg some (by kernel_rfl))⟩
  f34 := ⟨Tryz.f131.name, by decide, Tryz.func131.trans (congrArg some (by kernel_rfl))⟩
  f35 := ⟨Tryz.f100.name, by decide, Tryz.func100.trans (congrArg some (by kernel_rfl))⟩
  f40 := ⟨Tryz.f137.name, by decide, Tryz.func137.trans (congrArg some (by kernel_rfl))⟩
  t0 := Tryz.underlying0
  a0 := Tryz.isAgg0
  z0 := Tryz.sizeOf0
  v0 := Tryz.zeroValue0
  t3 := Tryz.underlying3
  a3 := Tryz.isAgg3
  z3 := Tryz.sizeOf3
  v3 := Tryz.zeroValue3
  t4 := Tryz.underlying4
  a4 := Tryz.isAgg4
  z4 := Tryz.sizeOf4
  v4 := Tryz.zeroValue4
  t5 := Tryz.underlying5
  a5 := Tryz.isAgg5
  z5 := Tryz.sizeOf5
  v5 := Tryz.zeroValue5
  t9 := Tryz.underlying9
  a9 := Tryz.isAgg9
  z9 := Tryz.sizeOf9
  v9 := Tryz.zeroValue9
  t22 := Tryz.underlying63
  a22 := Tryz.isAgg63
  z22 := Tryz.sizeOf63
  v22 := Tryz.zeroValue63
  t23 := Tryz.underlying63
  a23 := Tryz.isAgg63
  z23 := Tryz.sizeOf63
  v23 := Tryz.zeroValue63
  t25 := Tryz.underlying3
  a25 := Tryz.isAgg3
  z25 := Tryz.sizeOf3
  v25 := Tryz.zeroValue3
  t32 := Tryz.underlying125
  a32 := Tryz.isAgg125
  z32 := Tryz.sizeOf125
  v32 := Tryz.zeroValue125
  t35 := Tryz.underlying158
  a35 := Tryz.isAgg158
  z35 := Tryz.sizeOf158
  v35 := Tryz.zeroValue158
  t36 := Tryz.underlying159
  a36 := Tryz.isAgg159
  z36 := Tryz.sizeOf159
  v36 := Tryz.zeroValue159
  t41 := Tryz.underlying57
  a41 := Tryz.isAgg57
  z41 := Tryz.sizeOf57
  v41 := Tryz.zeroValue57
  t44 := Tryz.underlying165
  a44 := Tryz.isAgg165
  z44 := Tryz.sizeOf165
  v44 := Tryz.zeroValue165
  t46 := Tryz.underlying167
  a46 := Tryz.isAgg167
  z46 := Tryz.sizeOf167
  v46 := Tryz.zeroValue167
  t53 := Tryz.underlying174
  a53 := Tryz.isAgg174
  z53 := Tryz.sizeOf174
  v53 := Tryz.zeroValue174
  t57 := Tryz.underlying178
  a57 := Tryz.isAgg178
  z57 := Tryz.sizeOf178
  v57 := Tryz.zeroValue178
  t63 := Tryz.underlying185
  a63 := Tryz.isAgg185
  z63 := Tryz.sizeOf185
  v63 := Tryz.zeroValue185
  t64 := Tryz.underlying186
  a64 := Tryz.isAgg186
  z64 := Tryz.sizeOf186
  v64 := Tryz.zeroValue186 }
end Go.Proofs
namespace Go.Gk
open Go Go.Proofs
variable (N:Nat) {E w:World} {i0 i1 i2:Nat} {p0 p1 p2 res:Int} {v0 v1 v2:Value} {V:List HP}
theorem vH {res:Bool} (o:Holds E w V) (j:pH N p0 p1 p2=some res):
    Calls bH 96 [(vi p0),(vi p1),(vi p2)].toArray w (gI (bB E V res)):=by
 unfold pH at j
 refine enter Tryz.func96 zr zr (RC.sr (aM (vb false) (RL.ns (mv (vi p0) (mv (vi p1) (ic p0 p1 (mv (vb (decide (p0>=p1))) (RL.gs true (decide (p0>=p1)) (vi p0) zr zr zr dE ?_))))))))
 refine RL.gs true (decide (p0>=p1)) (vi p2) rfl rfl rfl dE (RL.gs true (decide (p0>=p1)) (vb (decide (p0<=p2))) rfl rfl rfl (eG .leq .i64 p0 p2 rfl (fun h=>by exact(cY h:cv (true&&((decide (p0>=p1))==true)) (vi p0)= (vi p0))) (fun h=>by exact(cY h:cv (true&&((decide (p0>=p1))==true)) (vi p2)= (vi p2))) rfl) (RL.pick (decide (p0>=p1)) (vb ((decide (p0>=p1))&&(decide (p0<=p2)))) (iX true) (aM (vb ((decide (p0>=p1))&&(decide (p0<=p2)))) (RL.nt (RC.ret ?_)))))
 obtain rfl:=oi j
 exact cH ⟨rfl,o.drop 0⟩
theorem jR {res:Bool} (o:Holds E w V) (j:jz N p0=some res):
    Calls bH 78 [(vi p0)].toArray w (gI (bB E V res)):=by
 unfold jz at j
 refine enter Tryz.func78 zr zr (RC.sr (aM (vb false) (RL.ns (mv (vi p0) ?_))))
 obtain⟨aa,ab,j⟩:=bd j
 refine RL.call zt zr I6 [(vi p0),(vi (-1000000)),(vi 1000000)] zr (aF (vH N (p0:=p0) (p1:=(-1000000)) (p2:=1000000) o ab) ?_)
 rintro _ w ⟨rfl,o⟩
 refine aM (vb aa) (RL.nt (RC.ret ?_))
 obtain rfl:=oi j
 exact cH ⟨rfl,o.drop 0⟩
theorem p9 {p0:aI} {res:Bool} (j:Holds E w V) (h0:V[i0]? =some (rd v0 p0)) (hb:kB N p0=some res):
    Calls bH 63 [v0].toArray w (gI (bB E V res)):=by
 unfold kB at hb
 refine enter Tryz.func63 zr zr ?_
 have j:=j.dup (i0+0) h0
 refine RC.sr (RL.cR 0 v0 j zr fun aq w j=>?_)
 refine aM (vb false) (RL.nq ?_)
 obtain⟨af,o,hb⟩:=bd hb
 refine RC.jn (fun(af:Bool)=>SH E V [(2,vb af)] []) af ?_ ?_
 ·refine RC.region (RL.bF zr ji (RL.aO 0 j zr fu cP ?_))
  obtain⟨aj,ak,o⟩:=bd o
  refine RL.call zt zr CV [(vi p0.X0)] zr (aF (jR N (p0:=p0.X0) j ak) ?_)
  rintro _ w ⟨rfl,j⟩
  refine mv (vb aj) (gv o (fun aa o=>?_) fun aa o=>?_)
  rotate_left
  ·refine cA aa (cA aa (cA aa (gw aa (vb false) (mv (vb false) (nr (nr (nr (RL.pick false (vb false) zr ?_))))))))
   refine mv (vb false) (nr (nr (nr (RL.pick false (vb false) zr (aM (vb false) (RL.nil ?_))))))
   obtain rfl:=oi o
   exact⟨rfl,j.sp 2 []⟩
  refine RL.bF (hg:=(cg aa)) zr jV (RL.aO (hg:=(cg aa)) 0 j zr fG cP ?_)
  obtain⟨ag,al,o⟩:=bd o
  refine RL.call (cg aa) zr CV [(vi p0.Y0)] zr (aF (jR N (p0:=p0.Y0) j al) ?_)
  rintro _ w ⟨rfl,j⟩
  refine gw aa (vb ag) (mv (vb ag) (gv o (fun ab o=>?_) fun ab o=>?_))
  rotate_left
  ·refine cA ab (cA ab (cA ab (gw ab (vb false) (mv (vb false) (nr (nr (nr (RL.pick false (vb false) zr ?_))))))))
   refine aM (vb false) (RL.nil ?_)
   obtain rfl:=oi o
   exact⟨rfl,j.sp 2 []⟩
  refine RL.bF (hg:=(cg ab)) zr jW (RL.aO (hg:=(cg ab)) 0 j zr fU cP ?_)
  obtain⟨ah,an,o⟩:=bd o
  refine RL.call (cg ab) zr CV [(vi p0.X1)] zr (aF (jR N (p0:=p0.X1) j an) ?_)
  rintro _ w ⟨rfl,j⟩
  refine gw ab (vb ah) (mv (vb ah) (gv o (fun ad o=>?_) fun ad o=>?_))
  rotate_left
  ·refine cA ad (cA ad (cA ad (gw ad (vb false) (aM (vb false) (RL.nil ?_)))))
   obtain rfl:=oi o
   exact⟨rfl,j.sp 2 []⟩
  refine RL.bF (hg:=(cg ad)) zr mZ (RL.aO (hg:=(cg ad)) 0 j zr iM cP ?_)
  obtain⟨ai,ao,o⟩:=bd o
  refine RL.call (cg ad) zr CV [(vi p0.Y1)] zr (aF (jR N (p0:=p0.Y1) j ao) ?_)
  rintro _ w ⟨rfl,j⟩
  refine gw ad (vb ai) (aM (vb ai) (RL.nil ?_))
  obtain rfl:=oi o
  exact⟨rfl,j.sp 2 []⟩
 rintro _ w ⟨O,rfl,j⟩
 refine aG (RC.ret ?_)
 obtain rfl:=oi hb
 exact cH ⟨rfl,j.drop 0⟩
def sL (E:World) (V:List HP) (r:Int) (U:Nat->Value) (w:World):Prop:=mc bH 30 Tryz.f40 (aT E V r) .ret U w
theorem rO {p0: (List aI)} (o:Holds E w V) (h0:V[i0]? =some (rd v0 p0)) (hb:jc N p0=some res):
    Calls bH 40 [v0].toArray w (gI (aT E V res)):=by
 unfold jc at hb
 refine enter Tryz.func40 zr zr ?_
 have o:=o.dup (i0+0) h0
 refine RC.sr (aM (vi 0) (RL.nq (RC.sr (mv v0 (RL.bK 0 p0 o qg (ic ((p0.length:Int)) 2000 (RL.nt (fy hb (fun hc hb=>?_) fun hc hb=>?_))))))))
 ·refine RC.sr (aM (vi 2) (RL.nt (RC.rt ?_)))
  obtain rfl:=oi hb
  exact cH ⟨rfl,o.drop 1⟩
 refine RC.ss (RC.sr (mv v0 (RL.bK 0 p0 o qg (mv (vi 0) (RL.nt ?_)))))
 obtain⟨aq,hN,hb⟩:=bd hb
 refine RC.range (fun(ae:Nat) (af:Unit)=>SH E V [(8,v0),(9,vi p0.length),(10,vi ae)] [rd v0 p0]) (fun(af:Unit)=>SH E V [] [rd v0 p0]) (sL E V) hN ?_ ?_ ?_ ?_ ?_
 ·exact o.sp 1 [0]
 ·rintro hm af _ w ⟨O,rfl,o⟩
  refine RC.sr (ic ((p0.length:Int)) ((p0.length:Int)) (RL.nq (RC.cX mT (RC.ex ?_))))
  exact⟨rfl,o.sp 1 [0]⟩
 ·rintro hm ae af fl _ w hk ⟨O,rfl,o⟩ hb
  refine RC.sr (ic ((ae:Int)) ((p0.length:Int)) (RL.nq (RC.cW (mS hk) (RC.ss (RC.bs ?_)))))
  obtain⟨j,aj,hb⟩:=bd hb
  refine RL.cG 0 o lx aj fun au o=>(RL.bU 0 j o iC fun av o=>(RL.alloc o oq.z fun ab w o=>?_))
  refine RL.bC 0 o 1 zr iC fun w o=>?_
  refine RL.nq (RC.sr (RL.aR (f:=(fun x=>x)) 0 o zr Fd.self iC fun ak o=>?_))
  obtain⟨al,an,hb⟩:=bd hb
  refine RL.call zt zr HA [ak] zr (aF (p9 N (i0:=0) o zr an) ?_)
  rintro _ w ⟨rfl,o⟩
  refine RL.not al (RL.nt (fy hb (fun hc hb=>?_) fun hc hb=>?_))
  ·refine RC.sr (aM (vi 1) (RL.nt (RC.rt (mn (cF ?_)))))
   obtain rfl:=oi hb
   exact⟨rfl,cH ⟨rfl,o.drop 5⟩⟩
  refine RC.sx (RL.bF rfl jW (RL.aO 1 o rfl fU cP (RL.bF rfl ji (RL.aO 1 o rfl fu cP (ic j.X1 j.X0 (mv (vb (decide (j.X1<=j.X0))) (RL.gs true (decide (j.X1<=j.X0)) (vp ab 3) rfl rfl rfl (dZ mZ) (RL.gs true (decide (j.X1<=j.X0)) (vi j.Y1) rfl rfl rfl (cD 1 rfl o (fun h=>by exact(cY h:cv (true&&((decide (j.X1<=j.X0))==false)) (vp ab 3)= (vp ab 3))) rfl iM cP) ?_))))))))
  refine RL.gs true (decide (j.X1<=j.X0)) (vp ab 1) rfl rfl rfl (dZ jV) (RL.gs true (decide (j.X1<=j.X0)) (vi j.Y0) rfl rfl rfl (cD 1 rfl o (fun h=>by exact(cY h:cv (true&&((decide (j.X1<=j.X0))==false)) (vp ab 1)= (vp ab 1))) rfl fG cP) (RL.gs true (decide (j.X1<=j.X0)) (vb (decide (j.Y1<=j.Y0))) rfl rfl rfl (eG .leq .i64 j.Y1 j.Y0 rfl (fun h=>by exact(cY h:cv (true&&((decide (j.X1<=j.X0))==false)) (vi j.Y1)= (vi j.Y1))) (fun h=>by exact(cY h:cv (true&&((decide (j.X1<=j.X0))==false)) (vi j.Y0)= (vi j.Y0))) rfl) (RL.pick (decide (j.X1<=j.X0)) (vb ((decide (j.X1<=j.X0))||(decide (j.Y1<=j.Y0)))) (mH true rfl) (RL.nt (fy hb (fun hc hb=>?_) fun hc hb=>?_)))))
  rotate_left
  ·refine RC.skip (bQ (aG (RC.region (RL.inc hk hm (mv (vi ((ae+1:Nat):Int)) (RL.nil ?_))))))
   obtain rfl:=oi hb
   exact⟨rfl,o.sp 5 [4]⟩
  refine RC.sr (aM (vi 13) (RL.nt (RC.rb (cF ?_))))
  obtain rfl:=oi hb
  exact⟨rfl,cH ⟨rfl,o.drop 5⟩⟩
 ·intro r U w e hK
  subst e
  refine cF ?_
  obtain rfl:=oi hb
  exact hK
 rintro af _ w rfl ⟨O,rfl,o⟩
 rw [Fo.fW] at hb
 refine aG (RC.sr (aM (vi 0) (RL.nt (RC.ret ?_))))
 obtain rfl:=oi hb
 exact cH ⟨rfl,o.drop 1⟩
theorem qJ {p0: (List aI)} {res: (List aI)} (j:Holds E w V) (h0:V[i0]? =some (rd v0 p0)) (o:gS N p0=some res):
    Calls bH 64 [v0].toArray w (gI (kQ E V res)):=by
 unfold gS at o
 refine enter Tryz.func64 zr zr ?_
 have j:=j.dup (i0+0) h0
 refine RC.sr (aM (.slice none 0 0) (RL.nq (RC.sr (mv v0 (RL.Ho (i:=0) zt zr j zr zr zr qg (RL.nt (RC.cond (b:=(Fw v0)) zr (fun hc=>?_) (fun hc=>?_))))))))
 ·have hx:=j.I1 (i:=0) rfl hc
  rw [hx] at o
  replace o:some ([]: (List aI))=_:=o
  refine RC.sr (aM (.slice none 0 0) (RL.nt (RC.rt ?_)))
  obtain rfl:=oi o
  have j:=j.cV aI 56
  exact cH (j.pk 2 [0])
 refine RC.sx (RL.eH ([]: (List aI)) j [] lx oq (fun M hs g=>zt) fun ae w j=>(mv v0 ?_))
 obtain⟨af,ab,o⟩:=bd o
 refine RL.app 0 1 j CW ab fun ad w j=>?_
 refine aM ad (RL.nt (RC.ret ?_))
 obtain rfl:=oi o
 exact cH (j.pk 2 [0])
theorem tJ {p0 p1:aI} (j:Holds E w V) (h0:V[i0]? =some (rd v0 p0)) (h1:V[i1]? =some (rd v1 p1)) (o:iu N p0 p1=some res):
    Calls bH 66 [v0,v1].toArray w (gI (aT E V res)):=by
 unfold iu at o
 refine enter Tryz.func66 zr zr ?_
 have j:=(j.dup (i0+0) h0).dup (i1+1) h1
 refine RC.sr (RL.cR 1 v0 j zr fun aa w j=>?_)
 refine RL.cR 1 v1 j zr fun ab w j=>?_
 refine aM (vi 0) (RL.ns (RL.bF zr jV (RL.aO 1 j zr fG cP (RL.bF zr jV (RL.aO 0 j zr fG cP (RL.jo p0.Y0 p1.Y0 (aM (vi (IntKind.wrap .i64 (p0.Y0 - p1.Y0))) (RL.nt ?_))))))))
 refine RC.ret ?_
 obtain rfl:=oi o
 exact cH ⟨rfl,j.drop 4⟩
def qK (E:World) (V:List HP) (r: (List Int)) (U:Nat->Value) (w:World):Prop:=mc bH 61 Tryz.f68 (ki E V r) .ret U w
theorem qh {p0: (List Int)} {res: (List Int)} (j:Holds E w (own 3 v0 p0::V)) (o:fN N p0=some res):
    Calls bH 68 [v0].toArray w (gI (ki E V res)):=by
 unfold fN at o
 refine enter Tryz.func68 zr zr (RC.sr (aM (.slice none 0 0) (RL.nq (RC.sr (mv v0 (RL.eK 0 p0 j lZ (ic ((p0.length:Int)) 2 (RL.nt ?_))))))))
 refine fy o (fun hc o=>?_) fun hc o=>?_
 ·refine RC.sr (mv v0 (aM v0 (RL.nt (RC.rt ?_))))
  obtain rfl:=oi o
  exact cH (j.pk 1 [0])
 refine RC.ss (RC.sr (aM (vi 1) (RL.nt ?_)))
 obtain⟨a2,hN,o⟩:=bd o
 refine RC.iter (fun(ab:Int)=>SH E V [(0,v0),(3,vi ab)] [own 3 v0 p0]) (fun(ab:Int)=>SH E V [(0,v0)] [own 3 v0 p0]) (qK E V) hN ?_ ?_ ?_ ?_
 ·exact j.sp 1 [0]
 ·rintro ab fl _ w ⟨O,rfl,j⟩ o
  refine RC.seq (RC.sr (mv (vi ab) (mv v0 (RL.eK 0 p0 j lZ (ic ab ((p0.length:Int)) (RL.nt (fy o (fun hc o=>?_) fun hc o=>?_)))))))
  rotate_left
  ·refine RC.ex ?_
   obtain rfl:=oi o
   exact⟨rfl,j.sp 1 [0]⟩
  refine RC.ss (RC.block (RC.seq (RC.vQ mixed ?_)))
  have j:=j.drew
  refine RO.go (mv v0 (RO.nx (mv (vi ab) (RO.nx ?_))))
  obtain⟨au,al,o⟩:=bd o
  refine RL.bL 0 j zr zr eI al (RO.nx (RL.dS (f:=(fun x=>x)) 0 j (jr 0 j al 0) (aZ al).2.1 Fd.self cP (RO.nx (mv v0 (RO.nx (mv (vi ab) (RO.nx (RL.jo ab 1 ?_))))))))
  refine RO.nx ?_
  obtain⟨av,an,o⟩:=bd o
  refine RL.bL 0 j zr zr eI an (RO.nx (RL.dS (f:=(fun x=>x)) 0 j (jr 0 j an 0) (aZ an).2.1 Fd.self cP (RO.nx (ic au av (RO.last (aG (fy o (fun hc o=>?_) fun hc o=>?_)))))))
  rotate_left
  ·refine RC.skip (bQ (aG (RC.region (mv (vi ab) (RL.jo ab 1 (aM (vi (IntKind.wrap .i64 (ab+1))) (RL.nil ?_)))))))
   obtain rfl:=oi o
   exact⟨rfl,j.sp 1 [0]⟩
  refine RC.sr (mv v0 (mv (vi ab) ?_))
  obtain⟨a3,af,o⟩:=bd o
  refine RL.view 0 ab zr j zr zr eI af (aM (vw v0 (Int.toNat ab) 1) (RL.nq (RC.sr (aM (vi 1) (RL.nt ?_)))))
  obtain⟨a4,hN,o⟩:=bd o
  refine RC.iter (fun(aa: (List Int)×Int×Int)=>SH E V [(0,v0),(3,vi aa.2.1),(4,(vw v0 (Int.toNat ab) 1)),(5,vi aa.2.2)] [own 3 v0 aa.1]) (fun(aa: (List Int)×Int×Int)=>SH E V [(0,v0),(3,vi aa.2.1)] [own 3 v0 aa.1]) (fun(r:Empty) _ _=>r.elim) hN ?_ ?_ ?_ ?_
  ·exact j.sp 1 [0]
  ·rintro aa fl _ w ⟨O,rfl,j⟩ o
   refine RC.seq (RC.sr (mv (vi aa.2.2) (mv (vw v0 (Int.toNat ab) 1) (RL.GF (i:=0) (l:=aa.1) zt zr j zr zr lZ (ic aa.2.2 ((((aa.1.length - Int.toNat ab):Nat):Int)) (RL.nt (fy o (fun hc o=>?_) fun hc o=>?_)))))))
   rotate_left
   ·refine RC.ex ?_
    obtain rfl:=oi o
    exact⟨rfl,j.sp 1 [0]⟩
   refine RC.ss (RC.block (RC.seq (RC.vQ mixed ?_)))
   have j:=j.drew
   refine RO.go (mv (vw v0 (Int.toNat ab) 1) (RO.nx (mv (vi aa.2.2) (RO.nx ?_))))
   obtain⟨aw,ag,o⟩:=bd o
   refine RL.DN 0 ab zr j zr zr zr eI (A9 af) (iK ag).1 (iK ag).2 (RO.nx (RL.dS (f:=(fun x=>x)) 0 j (jr 0 j (iK ag).2 0) (aZ (iK ag).2).2.1 Fd.self cP (RO.nx (mv (vw v0 (Int.toNat ab) 1) (RO.nx (mv (vi aa.2.2) (RO.nx (RL.jo aa.2.2 1 ?_))))))))
   refine RO.nx ?_
   obtain⟨ax,ah,o⟩:=bd o
   refine RL.DN 0 ab zr j zr zr zr eI (A9 af) (iK ah).1 (iK ah).2 (RO.nx (RL.dS (f:=(fun x=>x)) 0 j (jr 0 j (iK ah).2 0) (aZ (iK ah).2).2.1 Fd.self cP (RO.nx (ic aw ax (RO.last (aG ?_))))))
   obtain⟨ai,hj,o⟩:=bd o
   refine RC.jn (fun(ai: (List Int)×Int)=>SH E V [(0,v0),(3,vi ai.2),(4,(vw v0 (Int.toNat ab) 1)),(5,vi aa.2.2)] [own 3 v0 ai.1]) ai ?_ ?_
   ·refine fy hj (fun hc hj=>?_) fun hc hj=>?_
    rotate_left
    ·refine RC.skip ?_
     obtain rfl:=oi hj
     exact⟨rfl,j.sp 1 [0]⟩
    refine RC.sr (mv v0 (mv (vi aa.2.1) (mv (vw v0 (Int.toNat ab) 1) (mv (vi aa.2.2) ?_))))
    obtain⟨ay,aj,hj⟩:=bd hj
    refine RL.DN 0 ab zr j zr zr zr eI (A9 af) (iK aj).1 (iK aj).2 (RL.dS (f:=(fun x=>x)) 0 j (jr 0 j (iK aj).2 0) (aZ (iK aj).2).2.1 Fd.self cP ?_)
    obtain⟨a5,ao,hj⟩:=bd hj
    refine RL.bL 0 j zr zr eI ao ?_
    have j:=j.sc Int ay
    refine RL.gx (f:=(fun _ y=>y)) 1 0 j (jr 1 j ao 0) (aZ ao).2.1 zr Fs.self cP fun w j=>?_
    refine RL.nt (RC.region (mv (vi aa.2.1) (RL.jo aa.2.1 1 (aM (vi (IntKind.wrap .i64 (aa.2.1+1))) (RL.nil ?_)))))
    obtain rfl:=oi hj
    exact⟨rfl,j.sp 2 [1]⟩
   rintro _ w ⟨O,rfl,j⟩
   refine bQ (aG (RC.region (mv (vi aa.2.2) (RL.jo aa.2.2 1 (aM (vi (IntKind.wrap .i64 (aa.2.2+1))) (RL.nil ?_))))))
   obtain rfl:=oi o
   exact⟨rfl,j.sp 1 [0]⟩
  ·intro r _ _ _ _
   exact r.elim
  rintro aa _ w rfl ⟨O,rfl,j⟩
  rw [Fo.fW] at o
  refine aG (RC.sr (mv v0 (mv (vi aa.2.1) ?_)))
  obtain⟨a6,aq,o⟩:=bd o
  refine RL.view 0 aa.2.1 zr j zr zr eI aq (RL.zH 0 zt j zr zr tE Hg (DO aq) fun w j=>(RL.ns (mv v0 (mv (vi aa.2.1) ?_))))
  obtain⟨a7,az,o⟩:=bd o
  refine RL.tk 0 zr j zr zr eI (.inr ⟨rfl,zr⟩) (.inl zr) az fun a0 j=>(aM a0 (RL.nt (RC.rb (cF ?_))))
  obtain rfl:=oi o
  exact⟨rfl,cH (j.pk 1 [0])⟩
 ·intro r U w e hK
  subst e
  refine cF ?_
  obtain rfl:=oi o
  exact hK
 rintro ab _ w rfl ⟨O,rfl,j⟩
 rw [Fo.fW] at o
 refine aG (RC.sr (mv v0 (aM v0 (RL.nt (RC.ret ?_)))))
 obtain rfl:=oi o
 exact cH (j.pk 1 [0])
theorem tK {p0:aI} {p1: (List Int)} {res:Bool} (j:Holds E w V) (h0:V[i0]? =some (rd v0 p0)) (h1:V[i1]? =some (pt v1 p1)) (h2:V[i2]? =some (pt v2 p2)) (o:lQ N p0 p1 p2=some res):
    Calls bH 70 [v0,v1,v2].toArray w (gI (bB E V res)):=by
 unfold lQ at o
 refine enter Tryz.func70 zr zr ?_
 have j:=((j.dup (i0+0) h0).uA (i:=i1+1) h1).uA (i:=i2+2) h2
 refine RC.sr (RL.cR 2 v0 j zr fun ad w j=>?_)
 refine aM (vb false) (RL.nq (RC.vQ mixed ?_))
 have j:=j.drew
 refine RO.go (RL.bF zr mZ (RO.nx (RL.aO 0 j zr iM cP (RO.nx (RL.bU 2 p1 j fx fun ae j=>(RO.nx (RL.bJ p2 2 j cP (RO.nx ?_))))))))
 obtain⟨aa,ab,o⟩:=bd o
 refine RL.cG 0 j eI ab fun af j=>(RO.nx (RL.bJ aa 0 j cP (RO.nx (ic p0.Y1 aa (RO.nx (aM (vb (decide (p0.Y1<=aa))) (RO.last (aG ?_))))))))
 refine RC.ret ?_
 obtain rfl:=oi o
 exact cH ⟨rfl,j.drop 6⟩
def o8 (E:World) (V:List HP) (r:Int) (U:Nat->Value) (w:World):Prop:=mc bH 19 Tryz.f82 (aT E V r) .ret U w
theorem oN {p0: (List aI)} {p1:aI->Option Bool} (j:Holds E w V) (h0:V[i0]? =some (rd v0 p0)) (h1:E7 bH E V v1 p1 (fun(r:Bool)=>Value.bool r)) (o:jT N p0 p1=some res):
    Calls bH 82 [v0,v1].toArray w (gI (aT E V res)):=by
 unfold jT at o
 refine enter Tryz.func82 zr zr ?_
 have j:=j.dup (i0+0) h0
 refine RC.sr (aM (vi 0) (RL.nq (RC.sr (mv v0 (RL.bK 0 p0 j qg (mv (vi 0) (RL.nt ?_)))))))
 obtain⟨al,hN,o⟩:=bd o
 refine RC.range (fun(aa:Nat) (ab:Unit)=>SH E V [(0,v0),(1,v1),(7,vi p0.length),(8,vi aa)] [rd v0 p0]) (fun(ab:Unit)=>SH E V [] [rd v0 p0]) (o8 E V) hN ?_ ?_ ?_ ?_ ?_
 ·exact j.sp 1 [0]
 ·rintro hm ab _ w ⟨O,rfl,j⟩
  refine RC.sr (ic ((p0.length:Int)) ((p0.length:Int)) (RL.nq (RC.cX mT (RC.ex ?_))))
  exact⟨rfl,j.sp 1 [0]⟩
 ·rintro hm aa ab fl _ w hk ⟨O,rfl,j⟩ o
  refine RC.sr (ic ((aa:Int)) ((p0.length:Int)) (RL.nq (RC.cW (mS hk) (RC.ss (RC.bs (mv (vi aa) (aM (vi aa) (RL.ns ?_))))))))
  refine mv v1 (mv v0 (mv (vi aa) ?_))
  obtain⟨ag,ah,o⟩:=bd o
  refine RL.cG 0 j lx ah fun ao j=>(RL.bU 0 ag j iC fun aq j=>?_)
  obtain⟨ar,ai,o⟩:=bd o
  refine RL.yq 0 zr j zr h1 3 zr zr zr ai fun w j=>(RL.nt (fy o (fun hc o=>?_) fun hc o=>?_))
  rotate_left
  ·refine RC.skip (bQ (aG (RC.region (RL.inc hk hm (mv (vi ((aa+1:Nat):Int)) (RL.nil ?_))))))
   obtain rfl:=oi o
   exact⟨rfl,j.sp 3 [2]⟩
  refine RC.sr (mv (vi aa) (aM (vi aa) (RL.nt (RC.rb (cF ?_)))))
  obtain rfl:=oi o
  exact⟨rfl,cH ⟨rfl,j.drop 3⟩⟩
 ·intro r U w e hK
  subst e
  refine cF ?_
  obtain rfl:=oi o
  exact hK
 rintro ab _ w rfl ⟨O,rfl,j⟩
 rw [Fo.fW] at o
 refine aG (RC.sr (aM (vi (-1)) (RL.nt (RC.ret ?_))))
 obtain rfl:=oi o
 exact cH ⟨rfl,j.drop 1⟩
def kj (E:World) (V:List HP) (v0:Value) (p0: (List aI)) (res:Int) (v:Value) (w:World):Prop:=v= (vi res)/\Holds E w ([own 56 v0 p0]++V)
def nS (E:World) (V:List HP) (v0:Value) (p0: (List aI)) (r:Int) (U:Nat->Value) (w:World):Prop:=mc bH 19 Tryz.f82 (kj E V v0 p0 r) .ret U w
theorem nA {p0: (List aI)} {p1:aI->Option Bool} (o:Holds E w (own 56 v0 p0::V)) (h1:E7 bH E V v1 p1 (fun(r:Bool)=>Value.bool r)) (j:iY N p0 p1=some res):
    Calls bH 82 [v0,v1].toArray w (gI (kj E V v0 p0 res)):=by
 unfold iY at j
 refine enter Tryz.func82 zr zr (RC.sr (aM (vi 0) (RL.nq (RC.sr (mv v0 (RL.eK 0 p0 o qg (mv (vi 0) (RL.nt ?_))))))))
 obtain⟨ak,hN,j⟩:=bd j
 refine RC.range (fun(aa:Nat) (ab:Unit)=>SH E V [(0,v0),(1,v1),(7,vi p0.length),(8,vi aa)] [own 56 v0 p0]) (fun(ab:Unit)=>SH E V [(0,v0)] [own 56 v0 p0]) (nS E V v0 p0) hN ?_ ?_ ?_ ?_ ?_
 ·exact o.sp 1 [0]
 ·rintro hm ab _ w ⟨O,rfl,o⟩
  refine RC.sr (ic ((p0.length:Int)) ((p0.length:Int)) (RL.nq (RC.cX mT (RC.ex ?_))))
  exact⟨rfl,o.sp 1 [0]⟩
 ·rintro hm aa ab fl _ w hk ⟨O,rfl,o⟩ j
  refine RC.sr (ic ((aa:Int)) ((p0.length:Int)) (RL.nq (RC.cW (mS hk) (RC.ss (RC.bs (mv (vi aa) (aM (vi aa) (RL.ns ?_))))))))
  refine mv v1 (mv v0 (mv (vi aa) ?_))
  obtain⟨an,ad,j⟩:=bd j
  refine RL.bL 0 o zr zr lx ad (RL.gJ (f:=(fun x=>x)) 0 o (jr 0 o ad 0) (aZ ad).2.1 Fd.self iC fun ao o=>?_)
  obtain⟨aq,ah,j⟩:=bd j
  refine RL.yq 0 zr o zr h1 2 zr zr zr ah fun w o=>(RL.nt (fy j (fun hc j=>?_) fun hc j=>?_))
  rotate_left
  ·refine RC.skip (bQ (aG (RC.region (RL.inc hk hm (mv (vi ((aa+1:Nat):Int)) (RL.nil ?_))))))
   obtain rfl:=oi j
   exact⟨rfl,o.sp 2 [1]⟩
  refine RC.sr (mv (vi aa) (aM (vi aa) (RL.nt (RC.rb (cF ?_)))))
  obtain rfl:=oi j
  exact⟨rfl,cH ⟨rfl,o.pk 2 [1]⟩⟩
 ·intro r U w e hK
  subst e
  refine cF ?_
  obtain rfl:=oi j
  exact hK
 rintro ab _ w rfl ⟨O,rfl,o⟩
 rw [Fo.fW] at j
 refine aG (RC.sr (aM (vi (-1)) (RL.nt (RC.ret ?_))))
 obtain rfl:=oi j
 exact cH ⟨rfl,o.pk 1 [0]⟩
theorem ou {p0: (List aI)} {p1:aI->Option Bool} {res: (List aI)} (j:Holds E w (own 56 v0 p0::V)) (h1:E7 bH E V v1 p1 (fun(r:Bool)=>Value.bool r)) (o:gh N p0 p1=some res):
    Calls bH 69 [v0,v1].toArray w (gI (kQ E V res)):=by
 unfold gh at o
 refine enter Tryz.func69 zr zr (RC.sr (aM (.slice none 0 0) (RL.ns (mv v0 (mv v1 ?_)))))
 have j:=j.pull 0
 obtain⟨ad,aj,o⟩:=bd o
 refine RL.call zt zr HD [v0,v1] zr (aF (nA N j (h1.lift 1 zr) aj) ?_)
 rintro _ w ⟨rfl,j⟩
 refine aM (vi ad) (RL.nq (RC.sr (mv (vi ad) (ic ad ((-1)) (RL.nt (fy o (fun hc o=>?_) fun hc o=>?_))))))
 ·refine RC.sr (mv v0 (aM v0 (RL.nt (RC.rt ?_))))
  obtain rfl:=oi o
  exact cH (j.pk 2 [0])
 refine RC.ss (RC.sr (mv (vi ad) (RL.jo ad 1 (aM (vi (IntKind.wrap .i64 (ad+1))) (RL.nt ?_)))))
 obtain⟨ar,hN,o⟩:=bd o
 refine RC.iter (fun(aa: (List aI)×Int×Int)=>SH E V [(0,v0),(1,v1),(5,vi aa.2.1),(6,vi aa.2.2)] [own 56 v0 aa.1]) (fun(aa: (List aI)×Int×Int)=>SH E V [(0,v0),(5,vi aa.2.1)] [own 56 v0 aa.1]) (fun(r:Empty) _ _=>r.elim) hN ?_ ?_ ?_ ?_
 ·exact j.sp 2 [0]
 ·rintro aa fl _ w ⟨O,rfl,j⟩ o
  refine RC.seq (RC.sr (mv (vi aa.2.2) (mv v0 (RL.eK 0 aa.1 j qg (ic aa.2.2 ((aa.1.length:Int)) (RL.nt (fy o (fun hc o=>?_) fun hc o=>?_)))))))
  rotate_left
  ·refine RC.ex ?_
   obtain rfl:=oi o
   exact⟨rfl,j.sp 1 [0]⟩
  refine RC.ss (RC.bs (mv v0 (mv (vi aa.2.2) ?_)))
  obtain⟨av,ag,o⟩:=bd o
  refine RL.bL 0 j zr zr lx ag (RL.gJ (f:=(fun x=>x)) 0 j (jr 0 j ag 0) (aZ ag).2.1 Fd.self iC fun aw j=>?_)
  refine RL.alloc j oq.z fun ax w j=>?_
  refine RL.bC 0 j 1 zr iC fun w j=>?_
  refine RL.ns (mv v1 (RL.aR (f:=(fun x=>x)) 0 j zr Fd.self iC fun ay j=>?_))
  obtain⟨al,an,o⟩:=bd o
  refine RL.yq 0 zr j zr h1 4 zr zr zr an fun w j=>(RL.not al (RL.nt ?_))
  obtain⟨af,hj,o⟩:=bd o
  refine RC.jn (fun(af: (List aI)×Int)=>SH E V [(0,v0),(1,v1),(5,vi af.2),(6,vi aa.2.2)] [own 56 v0 af.1]) af ?_ ?_
  ·refine fy hj (fun hc hj=>?_) fun hc hj=>?_
   rotate_left
   ·refine RC.skip ?_
    obtain rfl:=oi hj
    exact⟨rfl,j.sp 4 [3]⟩
   refine RC.sr (mv v0 (mv (vi aa.2.1) (RL.aR (f:=(fun x=>x)) 1 j zr Fd.self iC fun az j=>?_)))
   obtain⟨a0,ah,hj⟩:=bd hj
   refine RL.bL 4 j zr zr lx ah (RL.gx (f:=(fun _ y=>y)) 4 0 j (jr 4 j ah 0) (aZ ah).2.1 zr Fs.self iC fun w j=>?_)
   refine RL.nt (RC.region (mv (vi aa.2.1) (RL.jo aa.2.1 1 (aM (vi (IntKind.wrap .i64 (aa.2.1+1))) (RL.nil ?_)))))
   obtain rfl:=oi hj
   exact⟨rfl,j.sp 5 [4]⟩
  rintro _ w ⟨O,rfl,j⟩
  refine bQ (aG (RC.region (mv (vi aa.2.2) (RL.jo aa.2.2 1 (aM (vi (IntKind.wrap .i64 (aa.2.2+1))) (RL.nil ?_))))))
  obtain rfl:=oi o
  exact⟨rfl,j.sp 1 [0]⟩
 ·intro r _ _ _ _
  exact r.elim
 rintro aa _ w rfl ⟨O,rfl,j⟩
 rw [Fo.fW] at o
 refine aG (RC.sr (mv v0 (mv (vi aa.2.1) ?_)))
 obtain⟨a1,ai,o⟩:=bd o
 refine RL.view 0 aa.2.1 zr j zr zr lx ai (RL.zH 0 zt j zr zr CW Jc (DO ai) fun w j=>(RL.ns (mv v0 (mv (vi aa.2.1) ?_))))
 obtain⟨a2,ao,o⟩:=bd o
 refine RL.tk 0 zr j zr zr lx (.inr ⟨rfl,zr⟩) (.inl zr) ao fun aq j=>(aM aq (RL.nt (RC.ret ?_)))
 obtain rfl:=oi o
 exact cH (j.pk 1 [0])
theorem qj {p0 p1:aI} (j:Holds E w V) (h0:V[i0]? =some (rd v0 p0)) (h1:V[i1]? =some (rd v1 p1)) (o:fO N p0 p1=some res):
    Calls bH 91 [v0,v1].toArray w (gI (aT E V res)):=by
 unfold fO at o
 refine enter Tryz.func91 zr zr ?_
 have j:=(j.dup (i0+0) h0).dup (i1+1) h1
 refine RC.sr (RL.cR 1 v0 j zr fun aa w j=>?_)
 refine RL.cR 1 v1 j zr fun ab w j=>?_
 refine aM (vi 0) (RL.ns (RL.bF zr ji (RL.aO 1 j zr fu cP (RL.bF zr ji (RL.aO 0 j zr fu cP (RL.jo p0.X0 p1.X0 (aM (vi (IntKind.wrap .i64 (p0.X0 - p1.X0))) (RL.nt ?_))))))))
 refine RC.ret ?_
 obtain rfl:=oi o
 exact cH ⟨rfl,j.drop 4⟩
def tL (E:World) (V:List HP) (v0:Value) (res: (List Int)×(List aI)) (v:Value) (w:World):Prop:=Holds E w ([own 3 v res.1,own 56 v0 res.2]++V)
theorem sM {p0: (List aI)} {res: (List Int)×(List aI)} (j:Holds E w (own 56 v0 p0::V)) (hb:gY N p0=some res):
    Calls bH 72 [v0].toArray w (gI (tL E V v0 res)):=by
 unfold gY at hb
 refine enter Tryz.func72 zr zr (RC.sr (aM (.slice none 0 0) (RL.ns (mv v0 ?_))))
 obtain⟨af,a1,hb⟩:=bd hb
 have j:=j.pull 0
 refine RL.call zt zr HB [v0,(.func (.func 91) #[] #[])] zr (aF (Ck Tryz.lay65 aI zr iC.E6 iC.sz Jf (fun j hi o hr=>qj N j hi o hr) j a1) ?_)
 rintro _ w ⟨rfl,j⟩
 refine RL.ns (aM (.slice none 0 0) (RL.nq (RC.sr (mv v0 (RL.eK 0 af j qg (mv (vi 0) (RL.nt ?_)))))))
 have j:=j.cV Int 3
 obtain⟨aa,hN,hb⟩:=bd hb
 refine RC.fold (fun(ah:Nat) (aa: (List Int)) U w=>∃av:Value,SH E V [(0,v0),(3,av),(9,v0),(10,vi af.length),(11,vi ah)] [own 56 v0 af,own 3 av aa] U w) (fun(aa: (List Int)) U w=>∃ai:Value,SH E V [(0,v0),(3,ai)] [own 56 v0 af,own 3 ai aa] U w) hN ?_ ?_ ?_ ?_
 ·exact⟨(.slice none 0 0),j.sp 3 [1,0]⟩
 ·rintro hm aa _ w ⟨a3,O,rfl,j⟩
  refine RC.sr (ic ((af.length:Int)) ((af.length:Int)) (RL.nq (RC.cX mT (RC.ex ?_))))
  exact⟨rfl,a3,j.sp 2 [0,1]⟩
 ·rintro hm ah aa s' _ w hk ⟨ag,O,rfl,j⟩ hb
  refine RC.sr (ic ((ah:Int)) ((af.length:Int)) (RL.nq (RC.cW (mS hk) (RC.ss (RC.bs ?_)))))
  obtain⟨ae,ak,hb⟩:=bd hb
  refine RL.bL 0 j zr zr lx ak (RL.gJ (f:=(fun x=>x)) 0 j (jr 0 j ak 0) (aZ ak).2.1 Fd.self iC fun a6 j=>?_)
  refine RL.alloc j oq.z fun ay w j=>?_
  refine RL.bC 0 j 1 zr iC fun w j=>?_
  refine RL.ns (mv ag (RL.eK 3 aa j lZ (RL.jo (aa.length:Int) 1 (aM (vi (IntKind.wrap .i64 ((aa.length:Int) - 1))) (RL.nq ?_)))))
  obtain⟨al,o,hb⟩:=bd hb
  refine RC.jn (fun(al:Bool)=>SH E V [(0,v0),(3,ag),(5,vp ay 0),(6,(vi (IntKind.wrap .i64 ((aa.length:Int) - 1)))),(9,v0),(10,vi af.length),(11,vi ah),(28,vb al)] [own 56 v0 af,own 3 ag aa,bx 56 ay ae]) al ?_ ?_
  ·refine RC.vQ mixed ?_
   have j:=j.drew
   refine RO.go (mv (vi (IntKind.wrap .i64 ((aa.length:Int) - 1))) (RO.nx (ic ((IntKind.wrap .i64 ((aa.length:Int) - 1))) 0 (RO.nx (mv (vb (decide ((IntKind.wrap .i64 ((aa.length:Int) - 1))>=0))) (gv o (fun ab o=>?_) fun ab o=>?_))))))
   rotate_left
   ·refine RO.nx (cA ab (RO.nx (cA ab (RO.nx (cA ab (RO.nx (cA ab (RO.nx ?_))))))))
    refine cA ab (RO.nx (cA ab (RO.nx (cA ab (RO.nx (gw ab (vb false) (RO.last ?_)))))))
    obtain rfl:=oi o
    exact⟨rfl,j.sp 4 [2,3,0]⟩
   refine RO.nx (RL.bF (hg:=(cg ab)) zr ji (RO.nx (RL.aO (hg:=(cg ab)) 0 j zr fu cP (RO.nx (RL.move ag (cg ab) (RO.nx (RL.move (vi (IntKind.wrap .i64 ((aa.length:Int) - 1))) (cg ab) (RO.nx ?_))))))))
   obtain⟨az,an,o⟩:=bd o
   refine RL.bL (hg:=(cg ab)) 3 j zr zr eI an (RO.nx (RL.dS (hg:=(cg ab)) (f:=(fun x=>x)) 3 j (jr 3 j an 0) (aZ an).2.1 Fd.self cP (RO.nx (RL.kz ae.X0 az (cg ab) (RO.nx (gw ab (vb (decide (ae.X0<=az))) (RO.last ?_)))))))
   obtain rfl:=oi o
   exact⟨rfl,j.sp 4 [2,3,0]⟩
  rintro _ w ⟨O,rfl,j⟩
  refine aG ?_
  obtain⟨ao,o,hb⟩:=bd hb
  refine RC.jn (fun(ao: (List Int)) U w=>∃aj:Value,SH E V [(0,v0),(3,aj),(9,v0),(10,vi af.length),(11,vi ah)] [own 56 v0 af,own 3 aj ao] U w) ao ?_ ?_
  ·refine fy o (fun hc o=>?_) fun hc o=>?_
   rotate_left
   ·refine RC.region (mv ag (RL.bF zr ji (RL.aO 2 j zr fu cP (RL.bF zr jW (RL.aO 2 j zr fU cP ?_)))))
    have j:=(j.sc Int ae.X0).sc Int ae.X1
    refine RL.eH ([ae.X0,ae.X1]: (List Int)) j [(vi ae.X0),(vi ae.X1)] eI D1 (fun M hs g=>⟨(g.sat 1 _ zr).1,⟨(g.sat 0 _ zr).1,zt⟩⟩) fun a7 w j=>?_
    have j:=j.freeze 0
    obtain⟨a8,a5,o⟩:=bd o
    refine RL.app 4 0 j tE a5 fun a0 w j=>?_
    refine aM a0 (RL.nil ?_)
    obtain rfl:=oi o
    exact⟨rfl,a0,j.sp 6 [3,4]⟩
   refine RC.yF mixed [0,0,0,0,0,0,0,0,0,0,2] [0,1,2,3,4,5,6,7,8,9,10] ?_
   have j:=j.drew
   refine DP.e0 zr (mv ag (cT zr (mv (vi (IntKind.wrap .i64 ((aa.length:Int) - 1))) (cT zr (mv ag (cT zr (mv (vi (IntKind.wrap .i64 ((aa.length:Int) - 1))) (cT zr ?_))))))))
   obtain⟨aq,ar,o⟩:=bd o
   refine RL.bL 1 j zr zr eI ar (cT zr (RL.dS (f:=(fun x=>x)) 1 j (jr 1 j ar 0) (aZ ar).2.1 Fd.self cP (cT zr (RL.bF zr jW (cT zr (RL.aO 2 j zr fU cP (cT zr (RL.max aq ae.X1 ?_))))))))
   refine cT zr ?_
   obtain⟨a9,au,o⟩:=bd o
   refine RL.bL 1 j zr zr eI au (vF zr ?_)
   have j:=j.sc Int (if aq<ae.X1 then ae.X1 else aq)
   refine RL.gx (f:=(fun _ y=>y)) 2 0 j (jr 2 j au 0) (aZ au).2.1 zr Fs.self cP fun w j=>?_
   refine DP.d2 zt (DP.z ?_)
   obtain rfl:=oi o
   exact⟨rfl,ag,j.sp 4 [1,2]⟩
  rintro _ w ⟨aj,O,rfl,j⟩
  refine bQ (aG (RC.region (RL.inc hk hm (mv (vi ((ah+1:Nat):Int)) (RL.nil ?_)))))
  obtain rfl:=oi hb
  exact⟨rfl,aj,j.sp 2 [0,1]⟩
 rintro _ w ⟨ai,O,rfl,j⟩
 refine aG (RC.sr (mv ai (aM ai (RL.nt (RC.ret ?_)))))
 obtain rfl:=oi hb
 exact cH (j.pk 2 [1,0])
def sN (E:World) (V:List HP) (r:Bool) (U:Nat->Value) (w:World):Prop:=mc bH 26 Tryz.f90 (bB E V r) .ret U w
theorem rP {p0: (List Int)} {p1: (List Int)} {res:Bool} (j:Holds E w V) (h0:V[i0]? =some (rd v0 p0)) (h1:V[i1]? =some (rd v1 p1)) (o:kC N p0 p1=some res):
    Calls bH 90 [v0,v1].toArray w (gI (bB E V res)):=by
 unfold kC at o
 refine enter Tryz.func90 zr zr ?_
 have j:=(j.dup (i0+0) h0).dup (i1+1) h1
 refine RC.sr (aM (vb false) (RL.nq (RC.sr (mv v0 (RL.bK 1 p0 j lZ (mv v1 (RL.bK 0 p1 j lZ (ic ((p0.length:Int)) ((p1.length:Int)) ?_))))))))
 refine RL.nt (fy o (fun hc o=>?_) fun hc o=>?_)
 ·refine RC.sr (aM (vb false) (RL.nt (RC.rt ?_)))
  obtain rfl:=oi o
  exact cH ⟨rfl,j.drop 2⟩
 refine RC.ss (RC.sr (mv v0 (RL.bK 1 p0 j lZ (mv (vi 0) (RL.nt ?_)))))
 obtain⟨an,hN,o⟩:=bd o
 refine RC.range (fun(aa:Nat) (ab:Unit)=>SH E V [(0,v0),(1,v1),(12,vi p0.length),(13,vi aa)] [rd v0 p0,rd v1 p1]) (fun(ab:Unit)=>SH E V [] [rd v0 p0,rd v1 p1]) (sN E V) hN ?_ ?_ ?_ ?_ ?_
 ·exact j.sp 2 [1,0]
 ·rintro hm ab _ w ⟨O,rfl,j⟩
  refine RC.sr (ic ((p0.length:Int)) ((p0.length:Int)) (RL.nq (RC.cX mT (RC.ex ?_))))
  exact⟨rfl,j.sp 2 [0,1]⟩
 ·rintro hm aa ab fl _ w hk ⟨O,rfl,j⟩ o
  refine RC.sr (ic ((aa:Int)) ((p0.length:Int)) (RL.nq (RC.cW (mS hk) (RC.ss (RC.bs (mv (vi aa) (aM (vi aa) (RL.nq ?_))))))))
  refine RC.vQ mixed ?_
  have j:=j.drew
  refine RO.go (mv v0 (RO.nx (mv (vi aa) (RO.nx ?_))))
  obtain⟨ag,aj,o⟩:=bd o
  refine RL.cG 0 j eI aj fun aq j=>(RO.nx (RL.bJ ag 0 j cP (RO.nx (mv v1 (RO.nx (mv (vi aa) (RO.nx ?_)))))))
  obtain⟨ah,ak,o⟩:=bd o
  refine RL.cG 2 j eI ak fun ar j=>(RO.nx (RL.bJ ah 0 j cP (RO.nx (ic ag ah (RO.last (aG (fy o (fun hc o=>?_) fun hc o=>?_)))))))
  rotate_left
  ·refine RC.skip (bQ (aG (RC.region (RL.inc hk hm (mv (vi ((aa+1:Nat):Int)) (RL.nil ?_))))))
   obtain rfl:=oi o
   exact⟨rfl,j.sp 4 [2,3]⟩
  refine RC.sr (aM (vb false) (RL.nt (RC.rb (cF ?_))))
  obtain rfl:=oi o
  exact⟨rfl,cH ⟨rfl,j.drop 4⟩⟩
 ·intro r U w e hK
  subst e
  refine cF ?_
  obtain rfl:=oi o
  exact hK
 rintro ab _ w rfl ⟨O,rfl,j⟩
 rw [Fo.fW] at o
 refine aG (RC.sr (aM (vb true) (RL.nt (RC.ret ?_))))
 obtain rfl:=oi o
 exact cH ⟨rfl,j.drop 2⟩
theorem oE {p0: (List aA)} {p1:aA} {res: (List aA)} (j:Holds E w (own 137 v0 p0::V)) (h1:V[i1]? =some (rd v1 p1)) (hb:gM N p0 p1=some res):
    Calls bH 71 [v0,v1].toArray w (gI (kI E V res)):=by
 unfold gM at hb
 refine enter Tryz.func71 zr zr ?_
 have j:=j.dup (i1+1) h1
 refine RC.sr (RL.cR 0 v1 j zr fun ae w j=>?_)
 refine aM (.slice none 0 0) (RL.nq (RC.sr (RL.bF zr j7 (RL.aR 0 j zr dB fx fun aw j=>(RL.bK 0 p1.Xs j lZ (ic ((p1.Xs.length:Int)) 0 (mv (vb ((p1.Xs.length:Int)==0)) (RL.gs true ((p1.Xs.length:Int)==0) (vp ae 1) zr zr zr (dZ ln) ?_))))))))
 refine RL.gs true ((p1.Xs.length:Int)==0) (vi p1.Y1) rfl rfl rfl (cD 1 rfl j (fun h=>by exact(cY h:cv (true&&(((p1.Xs.length:Int)==0)==false)) (vp ae 1)= (vp ae 1))) rfl eE cP) (RL.gs true ((p1.Xs.length:Int)==0) (vp ae 0) rfl rfl rfl (dZ nu) (RL.gs true ((p1.Xs.length:Int)==0) (vi p1.Y0) rfl rfl rfl (cD 1 rfl j (fun h=>by exact(cY h:cv (true&&(((p1.Xs.length:Int)==0)==false)) (vp ae 0)= (vp ae 0))) rfl fL cP) (RL.gs true ((p1.Xs.length:Int)==0) (vb (decide (p1.Y1<=p1.Y0))) rfl rfl rfl (eG .leq .i64 p1.Y1 p1.Y0 rfl (fun h=>by exact(cY h:cv (true&&(((p1.Xs.length:Int)==0)==false)) (vi p1.Y1)= (vi p1.Y1))) (fun h=>by exact(cY h:cv (true&&(((p1.Xs.length:Int)==0)==false)) (vi p1.Y0)= (vi p1.Y0))) rfl) (RL.pick ((p1.Xs.length:Int)==0) (vb (((p1.Xs.length:Int)==0)||(decide (p1.Y1<=p1.Y0)))) (mH true rfl) (RL.nt (fy hb (fun hc hb=>?_) fun hc hb=>?_))))))
 ·refine RC.sr (mv v0 (aM v0 (RL.nt (RC.rt ?_))))
  obtain rfl:=oi hb
  exact cH (j.pk 4 [3])
 refine RC.ss (RC.sr (mv v0 (RL.eK 3 p0 j m7 (RL.jo (p0.length:Int) 1 (aM (vi (IntKind.wrap .i64 ((p0.length:Int) - 1))) (RL.nq ?_))))))
 obtain⟨aj,hj,hb⟩:=bd hb
 refine RC.jn (fun(aj:Bool)=>SH E V [(0,v0),(3,vp ae 0),(5,(vi (IntKind.wrap .i64 ((p0.length:Int) - 1)))),(42,vb aj)] [own 137 v0 p0,bx 137 ae p1]) aj ?_ ?_
 ·refine RC.yF mixed [0,0,0,0,0,0,0,0,0,0,0,0,0,0,0,0,0,0,0,0,2,0] [0,1,2,3,4,5,6,7,8,9,10,11,12,13,14,15,16,17,18,19,20,21] ?_
  have j:=j.drew
  refine DP.e0 zr (mv (vi (IntKind.wrap .i64 ((p0.length:Int) - 1))) (cT zr (ic ((IntKind.wrap .i64 ((p0.length:Int) - 1))) 0 (cT zr (mv (vb (decide ((IntKind.wrap .i64 ((p0.length:Int) - 1))>=0))) (DP.d0 (gv hj (fun o hj=>?_) fun o hj=>?_)))))))
  rotate_left
  ·refine DP.e0 zr (cA o (cT zr (cA o (cT zr (cA o (cT zr (cA o (cT zr ?_))))))))
   refine cA o (cT zr (cA o (cT zr (cA o (cT zr (cA o (cT zr (gw o (vb false) ?_))))))))
   refine cT zr (mv (vb false) (cT zr (nr (cT zr (nr (cT zr (nr (cT zr ?_))))))))
   refine nr (cT zr (nr (cT zr (nr (cT zr (nr (vF zr (nr ?_))))))))
   refine B8 zr (RL.pick false (vb false) zr (DP.d0 (DP.z ?_)))
   obtain rfl:=oi hj
   exact⟨rfl,j.sp 4 [3,1]⟩
  refine DP.e0 zr (RL.move v0 (cg o) (cT zr (RL.move (vi (IntKind.wrap .i64 ((p0.length:Int) - 1))) (cg o) (cT zr ?_))))
  obtain⟨ak,af,hj⟩:=bd hj
  refine RL.bL (hg:=(cg o)) 3 j zr zr jK af (cT zr (RL.mU (hg:=(cg o)) (α:=aA) (jr 3 j af 0) ln (cT zr (RL.dS (hg:=(cg o)) 3 j (jr 3 j af 1) (aZ af).2.1 eE cP (cT zr (RL.bF (hg:=(cg o)) zr nu (cT zr (RL.aO (hg:=(cg o)) 1 j zr fL cP ?_))))))))
  refine cT zr (RL.kz ak.Y1 p1.Y0 (cg o) (cT zr (gw o (vb (ak.Y1==p1.Y0)) (cT zr (mv (vb (ak.Y1==p1.Y0)) (DP.d0 (gv hj (fun aa hj=>?_) fun aa hj=>?_)))))))
  rotate_left
  ·refine DP.e0 zr (cA aa (cT zr (cA aa (cT zr (cA aa (cT zr (cA aa (cT zr ?_))))))))
   refine cA aa (cT zr (cA aa (cT zr (cA aa (vF zr (cA aa (B8 zr (gw aa (vb false) ?_))))))))
   refine DP.d0 (DP.z ?_)
   obtain rfl:=oi hj
   exact⟨rfl,j.sp 4 [3,1]⟩
  refine DP.e0 zr (RL.move v0 (cg aa) (cT zr (RL.move (vi (IntKind.wrap .i64 ((p0.length:Int) - 1))) (cg aa) (cT zr ?_))))
  obtain⟨ax,ag,hj⟩:=bd hj
  refine RL.bL (hg:=(cg aa)) 3 j zr zr jK ag (cT zr (RL.mU (hg:=(cg aa)) (α:=aA) (jr 3 j ag 0) j7 (cT zr (RL.gJ (hg:=(cg aa)) 3 j (jr 3 j ag 2) (aZ ag).2.1 dB fx fun al j=>?_))))
  refine cT zr (RL.bF (hg:=(cg aa)) zr j7 (cT zr (RL.aR (hg:=(cg aa)) 2 j zr dB fx fun an j=>(vF zr ?_))))
  obtain⟨ao,aq,hj⟩:=bd hj
  refine RL.call (cg aa) zr Jh [al,an] zr (aF (rP N (i0:=1) (i1:=0) j zr zr aq) ?_)
  rintro _ w ⟨rfl,j⟩
  refine B8 zr (gw aa (vb ao) (DP.d0 (DP.z ?_)))
  obtain rfl:=oi hj
  exact⟨rfl,j.sp 6 [5,3]⟩
 rintro _ w ⟨O,rfl,j⟩
 refine aG (fy hb (fun hc hb=>?_) fun hc hb=>?_)
 rotate_left
 ·refine RC.sx (mv v0 (RL.aR (f:=(fun x=>x)) 1 j zr Fd.self tF fun ar j=>(RL.eH ([p1]: (List aA)) j [ar] jK Aa (fun M hs g=>⟨(g.sat 0 _ zr).1,zt⟩) fun ay w j=>?_)))
  have j:=j.freeze 0
  obtain⟨az,au,hb⟩:=bd hb
  refine RL.app 2 0 j HE au fun av w j=>?_
  refine aM av (RL.nt (RC.ret ?_))
  obtain rfl:=oi hb
  exact cH (j.pk 4 [2])
 refine RC.sr (mv v0 (mv (vi (IntKind.wrap .i64 ((p0.length:Int) - 1))) (RL.bF zr ln (RL.aO 1 j zr eE cP ?_))))
 obtain⟨a0,ah,hb⟩:=bd hb
 refine RL.bL 0 j zr zr jK ah (RL.mU (α:=aA) (jr 0 j ah 0) ln ?_)
 have j:=j.sc Int p1.Y1
 refine RL.gx 1 0 j (jr 1 j ah 1) (aZ ah).2.1 zr mY cP fun w j=>?_
 refine RL.ns (mv v0 (aM v0 (RL.nt (RC.rt ?_))))
 obtain rfl:=oi hb
 exact cH (j.pk 3 [1])
theorem kl {p0: (List aI)} {res: (List aA)} (j:Holds E w V) (h0:V[i0]? =some (rd v0 p0)) (o:fQ N p0=some res):
    Calls bH 42 [v0].toArray w (gI (kI E V res)):=by
 unfold fQ at o
 refine enter Tryz.func42 zr zr ?_
 have j:=j.dup (i0+0) h0
 refine RC.sr (aM (.slice none 0 0) (RL.ns (mv v0 ?_)))
 obtain⟨cd,bm,o⟩:=bd o
 refine RL.call zt zr I8 [v0] zr (aF (qJ N (i0:=0) j zr bm) ?_)
 rintro ad w j
 refine aM ad (RL.ns (mv ad ?_))
 obtain⟨ag,bn,o⟩:=bd o
 have j:=j.pull 0
 refine RL.call zt zr HB [ad,(.func (.func 66) #[] #[])] zr (aF (Ck Tryz.lay65 aI zr iC.E6 iC.sz I9 (fun j hi hj hr=>tJ N j hi hj hr) j bn) ?_)
 rintro _ w ⟨rfl,j⟩
 refine RL.ns (RL.nM j HC fun af w j=>?_)
 refine RL.nq (RC.sr (mv ad (RL.eK 1 ag j qg (mv (vi 0) (RL.nt ?_)))))
 obtain⟨an,hN,o⟩:=bd o
 refine RC.fold (fun(av:Nat) (an: (List Int)) U w=>∃a5:Value,SH E V [(0,ad),(3,vp af 0),(14,ad),(15,vi ag.length),(16,vi av)] [own 56 ad ag,bc 63 af [a5],own 3 a5 an] U w) (fun(an: (List Int)) U w=>∃al:Value,SH E V [(0,ad),(3,vp af 0)] [own 56 ad ag,bc 63 af [al],own 3 al an] U w) hN ?_ ?_ ?_ ?_
 ·have j:=j.cV Int 3
  exact⟨(.slice none 0 0),j.sp 5 [2,1,0]⟩
 ·rintro hm an _ w ⟨bo,O,rfl,j⟩
  refine RC.sr (ic ((ag.length:Int)) ((ag.length:Int)) (RL.nq (RC.cX mT (RC.ex ?_))))
  exact⟨rfl,bo,j.sp 3 [0,1,2]⟩
 ·rintro hm av an s' _ w hk ⟨bp,O,rfl,j⟩ o
  refine RC.sr (ic ((av:Int)) ((ag.length:Int)) (RL.nq (RC.cW (mS hk) (RC.ss (RC.bs ?_)))))
  obtain⟨ao,a0,o⟩:=bd o
  refine RL.bL 0 j zr zr lx a0 (RL.gJ (f:=(fun x=>x)) 0 j (jr 0 j a0 0) (aZ a0).2.1 Fd.self iC fun cf j=>?_)
  refine RL.alloc j oq.z fun ch w j=>?_
  refine RL.bC 0 j 1 zr iC fun w j=>?_
  refine RL.nt (RC.region (RL.bA 3 bp j fx (RL.bF zr jV (RL.aO 0 j zr fG cP (RL.bF zr mZ (RL.aO 0 j zr iM cP ?_))))))
  have j:=(j.sc Int ao.Y0).sc Int ao.Y1
  refine RL.eH ([ao.Y0,ao.Y1]: (List Int)) j [(vi ao.Y0),(vi ao.Y1)] eI D1 (fun M hs g=>⟨(g.sat 1 _ zr).1,⟨(g.sat 0 _ zr).1,zt⟩⟩) fun cj w j=>?_
  have j:=j.freeze 0
  obtain⟨ck,bq,o⟩:=bd o
  refine RL.app 7 0 j tE bq fun a8 w j=>?_
  refine RL.ir 6 a8 j zr zr (jw 7 j) fx fun w j=>?_
  refine RL.nil (bQ (aG (RC.region (RL.inc hk hm (mv (vi ((av+1:Nat):Int)) (RL.nil ?_))))))
  obtain rfl:=oi o
  exact⟨rfl,a8,j.sp 8 [5,6,7]⟩
 rintro _ w ⟨al,O,rfl,j⟩
 refine aG (RC.sr (RL.bA 1 al j fx ?_))
 obtain⟨cl,br,o⟩:=bd o
 have j:=j.pull 2
 refine RL.call zt zr Ja [al] zr (aF (Ev Tryz.lay67 j br) ?_)
 rintro _ w ⟨rfl,j⟩
 refine RL.ns (RL.bA 2 al j fx ?_)
 have j:=j.pull 0
 obtain⟨ah,bt,o⟩:=bd o
 refine RL.call zt zr Jb [al] zr (aF (qh N j bt) ?_)
 rintro bu w j
 refine RL.ir 3 bu j zr zr (jw 0 j) fx fun w j=>?_
 refine RL.ns (aM (.slice none 0 0) (RL.ns (aM (.slice none 0 0) (RL.ns (aM (vi 0) (RL.nq (RC.sr (RL.alloc j D1.z fun bw w j=>?_))))))))
 have j:=j.sc Int 0
 refine RL.bC 1 j 0 zr cP fun w j=>?_
 refine RL.nt ?_
 have j:=((((j.freeze 2).v8 (i:=5) (x:=ah) rfl (fun M hs g=>(mV (g.sat 2 _ rfl).1))).gm (i:=5) rfl).cV aA 137).cV aI 56
 obtain⟨cm,hN,o⟩:=bd o
 refine RC.iter (fun(aa: (List aA)×(List aI)×Int×Int) U w=>∃(a9 ba:Value) (bb:Nat),SH E V [(0,ad),(3,vp af 0),(6,a9),(7,ba),(8,vi aa.2.2.1),(9,vp bb 0)] [own 56 ad ag,pt (vp af 0) ah,own 137 a9 aa.1,own 56 ba aa.2.1,bx 3 bb aa.2.2.2] U w) (fun(aa: (List aA)×(List aI)×Int×Int) U w=>∃au:Value,SH E V [(6,au)] [own 56 ad ag,pt (vp af 0) ah,own 137 au aa.1] U w) (fun(r:Empty) _ _=>r.elim) hN ?_ ?_ ?_ ?_
 ·exact⟨(.slice none 0 0),(.slice none 0 0),bw,j.sp 9 [6,7,1,0,3]⟩
 ·rintro aa fl _ w ⟨aj,bf,ak,O,rfl,j⟩ o
  refine RC.seq (RC.sr (RL.aO (f:=(fun x=>x)) 4 j zr Fd.self cP (RL.jo aa.2.2.2 1 (RL.bU 1 ah j fx fun cn j=>(RL.bK 0 ah j lZ (ic ((IntKind.wrap .i64 (aa.2.2.2+1))) ((ah.length:Int)) (RL.nt (fy o (fun hc o=>?_) fun hc o=>?_))))))))
  rotate_left
  ·refine RC.ex ?_
   obtain rfl:=oi o
   exact⟨rfl,aj,j.sp 6 [1,2,3]⟩
  refine RC.ss (RC.bs (mv bf ?_))
  have j:=j.gm (i:=5) rfl
  refine RL.makeFunc [(vp af 0),(vp ak 0)] ?_
  have j:=j.pull 4
  obtain⟨cp,b0,o⟩:=bd o
  refine RL.call trivial rfl Je [bf,(.func (.func 70) #[] #[(vp af 0),(vp ak 0)])] rfl (aF (ou N j ⟨70,[(vp af 0),(vp ak 0)],rfl,Jd,fun w Γl v y0 r i j hi hr=>by exact aF (tK N (i0:=i) (i1:=Γl.length+2) (i2:=Γl.length+5) j hi (yp rfl) (yp rfl) hr) fun _ _ h=>h⟩ b0) ?_)
  rintro bg w j
  refine aM bg (RL.nq ?_)
  obtain⟨cq,hN,o⟩:=bd o
  refine RC.iter (fun(ae: (List aI)×Int) U w=>∃bh:Value,SH E V [(0,ad),(3,vp af 0),(6,aj),(7,bh),(8,vi ae.2),(9,vp ak 0)] [own 56 ad ag,pt (vp af 0) ah,own 137 aj aa.1,pt (vp ak 0) aa.2.2.2,own 56 bh ae.1] U w) (fun(ae: (List aI)×Int) U w=>∃aq:Value,SH E V [(0,ad),(3,vp af 0),(6,aj),(7,aq),(8,vi ae.2),(9,vp ak 0)] [own 56 ad ag,pt (vp af 0) ah,own 137 aj aa.1,pt (vp ak 0) aa.2.2.2,own 56 aq ae.1] U w) (fun(r:Empty) _ _=>r.elim) hN ?_ ?_ ?_ ?_
  ·exact⟨bg,j.sp 7 [2,3,4,6,0]⟩
  ·rintro ae fl _ w ⟨aw,O,rfl,j⟩ o
   refine RC.seq (RC.seq ?_)
   obtain⟨a2,hj,o⟩:=bd o
   refine RC.jn (fun(a2:Bool)=>SH E V [(0,ad),(3,vp af 0),(6,aj),(7,aw),(8,vi ae.2),(9,vp ak 0),(57,vb a2)] [own 56 ad ag,pt (vp af 0) ah,own 137 aj aa.1,own 56 aw ae.1,pt (vp ak 0) aa.2.2.2]) a2 ?_ ?_
   ·refine RC.vQ mixed ?_
    have j:=j.drew
    refine RO.go (mv (vi ae.2) (RO.nx (mv ad (RO.nx (RL.eK 0 ag j qg (RO.nx (ic ae.2 ((ag.length:Int)) (RO.nx ?_))))))))
    refine mv (vb (decide (ae.2< (ag.length:Int)))) (gv hj (fun ab hj=>?_) fun ab hj=>?_)
    rotate_left
    ·refine RO.nx (cA ab (RO.nx (cA ab (RO.nx (cA ab (RO.nx (cA ab (RO.nx ?_))))))))
     refine cA ab (RO.nx (cA ab (RO.nx (cA ab (RO.nx (cA ab (RO.nx (cA ab ?_))))))))
     refine RO.nx (cA ab (RO.nx (gw ab (vb false) (RO.last ?_))))
     obtain rfl:=oi hj
     exact⟨rfl,j.sp 5 [0,1,2,4,3]⟩
    refine RO.nx (RL.move ad (cg ab) (RO.nx (RL.move (vi ae.2) (cg ab) (RO.nx ?_))))
    obtain⟨bj,ax,hj⟩:=bd hj
    refine RL.bL (hg:=(cg ab)) 0 j zr zr lx ax (RO.nx (RL.mU (hg:=(cg ab)) (α:=aI) (jr 0 j ax 0) jV (RO.nx (RL.dS (hg:=(cg ab)) 0 j (jr 0 j ax 1) (aZ ax).2.1 fG cP (RO.nx (RL.bU (hg:=(cg ab)) 1 ah j fx fun cr j=>?_))))))
    refine RO.nx (RL.bJ (hg:=(cg ab)) aa.2.2.2 4 j cP (RO.nx ?_))
    obtain⟨a3,b1,hj⟩:=bd hj
    refine RL.cG (hg:=(cg ab)) 0 j eI b1 fun ct j=>(RO.nx (RL.bJ (hg:=(cg ab)) a3 0 j cP (RO.nx (RL.kz bj.Y0 a3 (cg ab) (RO.nx (gw ab (vb (decide (bj.Y0<=a3))) (RO.last ?_)))))))
    obtain rfl:=oi hj
    exact⟨rfl,j.sp 7 [2,3,4,6,5]⟩
   rintro _ w ⟨O,rfl,j⟩
   refine aG (fy o (fun hc o=>?_) fun hc o=>?_)
   rotate_left
   ·refine RC.ex ?_
    obtain rfl:=oi o
    exact⟨rfl,aw,j.sp 5 [0,1,2,4,3]⟩
   refine RC.sn (RC.block (RC.region (mv aw (mv ad (mv (vi ae.2) ?_)))))
   obtain⟨b2,a4,o⟩:=bd o
   refine RL.bL 0 j zr zr lx a4 (RL.gJ (f:=(fun x=>x)) 0 j (jr 0 j a4 0) (aZ a4).2.1 Fd.self iC fun b3 j=>?_)
   refine RL.eH ([b2]: (List aI)) j [b3] lx oq (fun M hs g=>⟨(g.sat 0 _ zr).1,zt⟩) fun cu w j=>?_
   have j:=j.freeze 0
   obtain⟨cv,b4,o⟩:=bd o
   refine RL.app 5 0 j CW b4 fun bk w j=>?_
   refine mv (vi ae.2) (RL.jo ae.2 1 (aM bk (aM (vi (IntKind.wrap .i64 (ae.2+1))) (RL.nil (bQ ?_)))))
   obtain rfl:=oi o
   exact⟨rfl,bk,j.sp 7 [2,3,4,6,5]⟩
  ·intro r _ _ _ _
   exact r.elim
  rintro ae _ w rfl ⟨aq,O,rfl,j⟩
  rw [Fo.fW] at o
  refine aG (RC.yF mixed [1,1,1,1,1,1,1,1,1,1,0,2,0,2,0] [0,1,2,3,4,5,6,7,8,9,10,11,12,13,14] ?_)
  have j:=j.drew
  refine DP.e1 aj zr (fun w=>RL.move aj zt DP.d1) (DP.wj ah 1 zr j fx fun cw a305 cx j=>(DP.B9 aa.2.2.2 5 zr zr zr j zr zr cP fun a307 cy j=>?_))
  obtain⟨ay,b5,o⟩:=bd o
  refine DP.GN 2 zr zr zt zr j zr zr zr eI b5 fun cz j=>(DP.B9 ay 0 zr zr zr j zr zr cP fun a311 c0 j=>(DP.wj ah 6 zr j fx fun c1 a314 c2 j=>(DP.B9 aa.2.2.2 10 zr zr zr j zr zr cP fun a316 c3 j=>(DP.e1 (vi (IntKind.wrap .i64 (aa.2.2.2+1))) zr (fun w=>RL.jo aa.2.2.2 1 DP.d1) ?_))))
  obtain⟨az,b6,o⟩:=bd o
  refine DP.GN 2 zr zr zt zr j zr zr zr eI b6 fun c4 j=>(DP.B9 az 0 zr zr zr j zr zr cP fun a320 c5 j=>(DP.e0 zr (mv aq (vF zr ?_))))
  have j:=j.pull 14
  obtain⟨b7,b8,o⟩:=bd o
  refine RL.call zt zr Jg [aq] zr (aF (sM N j b8) ?_)
  rintro b9 w j
  refine DP.d2 (⟨⟨⟨⟨⟨⟨zt,j.kV 10⟩,j.kV 9⟩,j.kV 7⟩,j.kV 5⟩,j.kV 4⟩,j.kV 2⟩) (DP.e0 zr ?_)
  have j:=((j.sc Int ay).sc Int az).freeze 2
  refine RL.build (⟨ay,az,b7.1⟩:aA) trivial rfl j [(0,vi ay),(1,vi az),(2,b9)] rfl Ge rfl (fun M hs g=>by have h:=tC M;exact dO.cons (f:=fun(x:aA) y=>{x with Y0:=y}) h p7 (g.sat 1 _ rfl).1 fun _ h=>dO.cons (f:=fun(x:aA) y=>{x with Y1:=y}) h mY (g.sat 0 _ rfl).1 fun _ h=>dO.cons (f:=fun(x:aA) y=>{x with Xs:=y}) h p8 (g.sat 2 _ rfl).1 fun _ h=>dO.nil h) fun ca j=>?_
  refine vF zr ?_
  have j:=j.pull 17
  obtain⟨c6,cb,o⟩:=bd o
  refine RL.call zt zr HF [aj,ca] zr (aF (oE N (i1:=0) j zr cb) ?_)
  rintro bl w j
  refine DP.d2 (⟨⟨⟨⟨⟨⟨zt,j.kV 14⟩,j.kV 13⟩,j.kV 11⟩,j.kV 9⟩,j.kV 8⟩,j.kV 6⟩) (DP.e0 zr (aM bl (DP.d0 ?_)))
  have j:=j.pl 21 [0,1,2,3,4,5,7,10,12,15,16,17,18,19,20]
  refine DP.z (bQ (aG (RC.seq (RC.sr (RL.bJ aa.2.2.2 13 j cP (RL.nt (RC.region (RL.alloc j D1.z fun cc w j=>?_))))))))
  have j:=j.sc Int aa.2.2.2
  refine RL.bC 1 j 0 zr cP fun w j=>?_
  refine RL.nt (RC.region (RL.aO (f:=(fun x=>x)) 1 j zr Fd.self cP (RL.jo aa.2.2.2 1 ?_)))
  have j:=j.sc Int (IntKind.wrap .i64 (aa.2.2.2+1))
  refine RL.tf 2 j zr zr zr 0 zr cP fun w j=>?_
  refine RL.nil ?_
  obtain rfl:=oi o
  exact⟨rfl,bl,aq,cc,j.sp 18 [13,14,3,8,2]⟩
 ·intro r _ _ _ _
  exact r.elim
 rintro aa _ w rfl ⟨au,O,rfl,j⟩
 rw [Fo.fW] at o
 refine aG (RC.sr (mv au (aM au (RL.nt (RC.ret ?_)))))
 obtain rfl:=oi o
 exact cH (j.pk 3 [2])
theorem ly {p0: (List aA)} {res: (List aI)} (j:Holds E w V) (h0:V[i0]? =some (rd v0 p0)) (o:gZ N p0=some res):
    Calls bH 43 [v0].toArray w (gI (kQ E V res)):=by
 unfold gZ at o
 refine enter Tryz.func43 zr zr ?_
 have j:=j.dup (i0+0) h0
 refine RC.sr (aM (.slice none 0 0) (RL.ns (aM (.slice none 0 0) (RL.nq (RC.sr (mv v0 (RL.bK 0 p0 j m7 (mv (vi 0) ?_))))))))
 refine RL.nt ?_
 obtain⟨ad,hN,o⟩:=bd o
 refine RC.fold (fun(ae:Nat) (ad: (List aI)) U w=>∃an:Value,SH E V [(3,an),(7,v0),(8,vi p0.length),(9,vi ae)] [rd v0 p0,own 56 an ad] U w) (fun(ad: (List aI)) U w=>∃af:Value,SH E V [(3,af)] [rd v0 p0,own 56 af ad] U w) hN ?_ ?_ ?_ ?_
 ·have j:=j.cV aI 56
  exact⟨(.slice none 0 0),j.sp 2 [1,0]⟩
 ·rintro hm ad _ w ⟨av,O,rfl,j⟩
  refine RC.sr (ic ((p0.length:Int)) ((p0.length:Int)) (RL.nq (RC.cX mT (RC.ex ?_))))
  exact⟨rfl,av,j.sp 2 [0,1]⟩
 ·rintro hm ae ad s' _ w hk ⟨aw,O,rfl,j⟩ o
  refine RC.sr (ic ((ae:Int)) ((p0.length:Int)) (RL.nq (RC.cW (mS hk) (RC.ss (RC.bs ?_)))))
  obtain⟨ab,ax,o⟩:=bd o
  refine RL.cG 0 j jK ax fun a3 j=>(RL.bU 0 ab j tF fun a4 j=>(RL.alloc j Aa.z fun ak w j=>?_))
  refine RL.bC 0 j 1 zr tF fun w j=>?_
  refine RL.ns (aM (vi 0) (RL.nt ?_))
  obtain⟨a5,hN,o⟩:=bd o
  refine RC.iter (fun(aa: (List aI)×Int) U w=>∃ar:Value,SH E V [(3,ar),(5,vp ak 0),(6,vi aa.2),(7,v0),(8,vi p0.length),(9,vi ae)] [bx 137 ak ab,rd v0 p0,own 56 ar aa.1] U w) (fun(aa: (List aI)×Int) U w=>∃ai:Value,SH E V [(3,ai),(7,v0),(8,vi p0.length),(9,vi ae)] [bx 137 ak ab,rd v0 p0,own 56 ai aa.1] U w) (fun(r:Empty) _ _=>r.elim) hN ?_ ?_ ?_ ?_
  ·exact⟨aw,j.sp 5 [0,3,4]⟩
  ·rintro aa fl _ w ⟨al,O,rfl,j⟩ o
   refine RC.seq (RC.sr (mv (vi aa.2) (RL.bF zr j7 (RL.aR 0 j zr dB fx fun a7 j=>(RL.bK 0 ab.Xs j lZ (ic aa.2 ((ab.Xs.length:Int)) (RL.nt (fy o (fun hc o=>?_) fun hc o=>?_))))))))
   rotate_left
   ·refine RC.ex ?_
    obtain rfl:=oi o
    exact⟨rfl,al,j.sp 4 [1,2,3]⟩
   refine RC.ss (RC.block (RC.yF mixed [1,0,0,0,0,0,0,0,0,0,0,0,0,0,0,0,0,2,2,0] [0,1,2,3,4,5,6,7,8,9,10,11,12,13,14,15,16,17,18,19] ?_))
   have j:=j.drew
   refine DP.e1 al zr (fun w=>RL.move al zt DP.d1) (DP.e0 zr (RL.bF zr j7 (cT zr (RL.aR 1 j zr dB fx fun a8 j=>(cT zr (mv (vi aa.2) (cT zr ?_)))))))
   obtain⟨ag,az,o⟩:=bd o
   refine RL.cG 0 j eI az fun a9 j=>(cT zr (RL.bJ ag 0 j cP (cT zr (RL.bF zr nu (cT zr (RL.aO 3 j zr fL cP (cT zr (RL.bF zr j7 ?_))))))))
   refine cT zr (RL.aR 3 j zr dB fx fun ba j=>(cT zr (mv (vi aa.2) (cT zr (RL.jo aa.2 1 (cT zr ?_))))))
   obtain⟨ah,a0,o⟩:=bd o
   refine RL.cG 0 j eI a0 fun bb j=>(cT zr (RL.bJ ah 0 j cP (cT zr (RL.bF zr ln (cT zr (RL.aO 5 j zr eE cP (cT zr ?_)))))))
   have j:=(((j.sc Int ag).sc Int ab.Y0).sc Int ah).sc Int ab.Y1
   refine RL.build (⟨ag,ab.Y0,ah,ab.Y1⟩:aI) trivial rfl j [(0,vi ag),(1,vi ab.Y0),(2,vi ah),(3,vi ab.Y1)] rfl CX rfl (fun M hs g=>by have h:=sF M;exact dO.cons (f:=fun(x:aI) y=>{x with X0:=y}) h rq (g.sat 3 _ rfl).1 fun _ h=>dO.cons (f:=fun(x:aI) y=>{x with Y0:=y}) h uF (g.sat 2 _ rfl).1 fun _ h=>dO.cons (f:=fun(x:aI) y=>{x with X1:=y}) h oZ (g.sat 1 _ rfl).1 fun _ h=>dO.cons (f:=fun(x:aI) y=>{x with Y1:=y}) h ru (g.sat 0 _ rfl).1 fun _ h=>dO.nil h) fun a1 j=>?_
   refine vF zr (RL.eH ([(⟨ag,ab.Y0,ah,ab.Y1⟩:aI)]: (List aI)) j [a1] lx oq (fun M hs g=>⟨(g.sat 0 _ zr).1,zt⟩) fun bc w j=>(GL zr ?_))
   have j:=j.freeze 0
   obtain⟨bf,a2,o⟩:=bd o
   refine RL.app 13 0 j CW a2 fun au w j=>?_
   refine B8 zr (aM au (DP.d0 (DP.z (bQ (aG (RC.region (mv (vi aa.2) (RL.jo aa.2 2 ?_))))))))
   refine aM (vi (IntKind.wrap .i64 (aa.2+2))) (RL.nil ?_)
   obtain rfl:=oi o
   exact⟨rfl,au,j.sp 14 [11,12,13]⟩
  ·intro r _ _ _ _
   exact r.elim
  rintro aa _ w rfl ⟨ai,O,rfl,j⟩
  rw [Fo.fW] at o
  refine bQ (aG (RC.region (RL.inc hk hm (mv (vi ((ae+1:Nat):Int)) (RL.nil ?_)))))
  obtain rfl:=oi o
  exact⟨rfl,ai,j.sp 3 [1,2]⟩
 rintro _ w ⟨af,O,rfl,j⟩
 refine aG (RC.sr (mv af (aM af (RL.nt (RC.ret ?_)))))
 obtain rfl:=oi o
 exact cH (j.pk 2 [1])
def rQ (E:World) (V:List HP) (r:Bool) (U:Nat->Value) (w:World):Prop:=mc bH 26 Tryz.f41 (bB E V r) .ret U w
theorem qL {p0: (List aI)} {p1: (List aI)} {res:Bool} (j:Holds E w V) (h0:V[i0]? =some (rd v0 p0)) (h1:V[i1]? =some (rd v1 p1)) (o:iP N p0 p1=some res):
    Calls bH 41 [v0,v1].toArray w (gI (bB E V res)):=by
 unfold iP at o
 refine enter Tryz.func41 zr zr ?_
 have j:=(j.dup (i0+0) h0).dup (i1+1) h1
 refine RC.sr (aM (vb false) (RL.nq (RC.sr (mv v0 (RL.bK 1 p0 j qg (mv v1 (RL.bK 0 p1 j qg (ic ((p0.length:Int)) ((p1.length:Int)) ?_))))))))
 refine RL.nt (fy o (fun hc o=>?_) fun hc o=>?_)
 ·refine RC.sr (aM (vb false) (RL.nt (RC.rt ?_)))
  obtain rfl:=oi o
  exact cH ⟨rfl,j.drop 2⟩
 refine RC.ss (RC.sr (mv v0 (RL.bK 1 p0 j qg (mv (vi 0) (RL.nt ?_)))))
 obtain⟨an,hN,o⟩:=bd o
 refine RC.range (fun(aa:Nat) (ab:Unit)=>SH E V [(0,v0),(1,v1),(12,vi p0.length),(13,vi aa)] [rd v0 p0,rd v1 p1]) (fun(ab:Unit)=>SH E V [] [rd v0 p0,rd v1 p1]) (rQ E V) hN ?_ ?_ ?_ ?_ ?_
 ·exact j.sp 2 [1,0]
 ·rintro hm ab _ w ⟨O,rfl,j⟩
  refine RC.sr (ic ((p0.length:Int)) ((p0.length:Int)) (RL.nq (RC.cX mT (RC.ex ?_))))
  exact⟨rfl,j.sp 2 [0,1]⟩
 ·rintro hm aa ab fl _ w hk ⟨O,rfl,j⟩ o
  refine RC.sr (ic ((aa:Int)) ((p0.length:Int)) (RL.nq (RC.cW (mS hk) (RC.ss (RC.bs (mv (vi aa) (aM (vi aa) (RL.nq ?_))))))))
  refine RC.vQ mixed ?_
  have j:=j.drew
  refine RO.go (mv v0 (RO.nx (mv (vi aa) (RO.nx ?_))))
  obtain⟨ag,aj,o⟩:=bd o
  refine RL.cG 0 j lx aj fun aq j=>(RO.nx (RL.bU 0 ag j iC fun ar j=>(RO.nx (mv v1 (RO.nx (mv (vi aa) (RO.nx ?_)))))))
  obtain⟨ah,ak,o⟩:=bd o
  refine RL.cG 3 j lx ak fun au j=>(RO.nx (RL.bU 0 ah j iC fun av j=>(RO.nx (RL.IK 2 0 ag ah zt zr j zr zr zr zr HG zr (RO.last (aG (fy o (fun hc o=>?_) fun hc o=>?_)))))))
  rotate_left
  ·refine RC.skip (bQ (aG (RC.region (RL.inc hk hm (mv (vi ((aa+1:Nat):Int)) (RL.nil ?_))))))
   obtain rfl:=oi o
   exact⟨rfl,j.sp 6 [4,5]⟩
  refine RC.sr (aM (vb false) (RL.nt (RC.rb (cF ?_))))
  obtain rfl:=oi o
  exact⟨rfl,cH ⟨rfl,j.drop 6⟩⟩
 ·intro r U w e hK
  subst e
  refine cF ?_
  obtain rfl:=oi o
  exact hK
 rintro ab _ w rfl ⟨O,rfl,j⟩
 rw [Fo.fW] at o
 refine aG (RC.sr (aM (vb true) (RL.nt (RC.ret ?_))))
 obtain rfl:=oi o
 exact cH ⟨rfl,j.drop 2⟩
def rR (E:World) (V:List HP) (r:Int) (U:Nat->Value) (w:World):Prop:=mc bH 52 Tryz.f18 (aT E V r) .ret U w
theorem km {p0: (List aI)} (j:Holds E w V) (h0:V[i0]? =some (rd v0 p0)) (hb:gj N p0=some res):
    Calls bH 18 [v0].toArray w (gI (aT E V res)):=by
 unfold gj at hb
 refine enter Tryz.func18 zr zr ?_
 have j:=j.dup (i0+0) h0
 refine RC.sr (aM (vi 0) (RL.nq (RC.sr (mv v0 ?_))))
 obtain⟨av,ay,hb⟩:=bd hb
 refine RL.call zt zr I7 [v0] zr (aF (rO N (i0:=0) j zr ay) ?_)
 rintro _ w ⟨rfl,j⟩
 refine aM (vi av) (RL.ns (mv (vi av) (ic av 0 (RL.nt (fy hb (fun hc hb=>?_) fun hc hb=>?_)))))
 ·refine RC.sr (mv (vi av) (aM (vi av) (RL.nt (RC.rt ?_))))
  obtain rfl:=oi hb
  exact cH ⟨rfl,j.drop 1⟩
 refine RC.ss (RC.sr (aM (vi 1) (RL.nt ?_)))
 obtain⟨bg,hN,hb⟩:=bd hb
 refine RC.iter (fun(ao:Int)=>SH E V [(0,v0),(4,vi ao)] [rd v0 p0]) (fun(ao:Int)=>SH E V [(0,v0)] [rd v0 p0]) (rR E V) hN ?_ ?_ ?_ ?_
 ·exact j.sp 1 [0]
 ·rintro ao fl _ w ⟨O,rfl,j⟩ hb
  refine RC.seq (RC.sr (mv (vi ao) (mv v0 (RL.bK 0 p0 j qg (ic ao ((p0.length:Int)) (RL.nt (fy hb (fun hc hb=>?_) fun hc hb=>?_)))))))
  rotate_left
  ·refine RC.ex ?_
   obtain rfl:=oi hb
   exact⟨rfl,j.sp 1 [0]⟩
  refine RC.ss (RC.block (RC.seq ?_))
  obtain⟨o,a1,hb⟩:=bd hb
  obtain⟨aa,a2,hb⟩:=bd hb
  refine RC.Ba E V mixed [1,1,1,0,0,1,1,0,0,0,0,0,0] [3,4,7,8,9,10,11,12] (fun(x:Value×Value×Value×Value×Nat×Nat)=>(fun ah ai aj ak ae af=>[(0,18,v0),(1,19,(vi ao)),(2,20,(vi (IntKind.wrap .i64 (ao - 1)))),(3,21,ah),(4,22,ai),(5,23,v0),(6,24,(vi ao)),(7,25,aj),(8,26,ak),(9,5,(vp ae 0)),(10,6,(vp af 0))]) x.1 x.2.1 x.2.2.1 x.2.2.2.1 x.2.2.2.2.1 x.2.2.2.2.2) [(0,v0),(4,vi ao)] [] (fun(D:Nat->Bool) (x:Value×Value×Value×Value×Nat×Nat)=>(fun ah ai aj ak ae af=>[bif D 0 then (pt ah o) else aU,bif D 1 then (rd ai o) else aU,bif D 2 then (pt aj aa) else aU,bif D 3 then (rd ak aa) else aU,bif D 6 then (bx 56 ae o) else (bif D 4 then (raw 56 ae 4) else aU),bif D 7 then (bx 56 af aa) else (bif D 5 then (raw 56 af 4) else aU),rd v0 p0]) x.1 x.2.1 x.2.2.1 x.2.2.2.1 x.2.2.2.2.1 x.2.2.2.2.2) (fun x=>by kernel_rfl) ?_ ⟨fun _=>gA gn,fun _=>gA gn,fun _=>FA gn rfl,?_,?_,fun _=>gA gn,fun _=>gA gn,?_,?_,?_,?_,?_,?_,trivial⟩ ?_
  ·have j:=((((((j.drew).aU).aU).aU).aU).aU).aU
   exact⟨(undef,undef,undef,undef,0,0),dX.none,(zZ zr),zt,j⟩
  ·rintro D U w hD ag aq ⟨⟨ah,ai,aj,ak,ae,af⟩,hv,ha,_,j⟩
   obtain⟨O,rfl⟩:=(ac (hv.at 0 rfl (ag.1 rfl)) (ac (hv.at 2 rfl (ag.2.1 rfl)) az)).dT
   have j:=j.bM 0 hD
   refine RL.cG 6 j lx a1 fun a3 j=>?_
   have j:=(j.pl 8 [0,2,3,4,5,6,7]).bS 0 true rfl aU
   exact RL.nil ⟨rfl,(a3,ai,aj,ak,ae,af),hv.pu 3,ha.u,zt,j⟩
  ·rintro D U w hD ag aq ⟨⟨ah,ai,aj,ak,ae,af⟩,hv,ha,_,j⟩
   obtain⟨O,rfl⟩:=(ac (hv.at 3 rfl (ag.1 rfl)) az).dT
   have j:=(j.bR 0 (ag.1 rfl)).bM 1 hD
   refine RL.bU 0 o j iC fun a4 j=>?_
   have j:=((j.pl 8 [1,0,3,4,5,6,7]).bS 0 (D 3) (ag.1 rfl) aU).bS 1 true rfl aU
   exact RL.nil ⟨rfl,(ah,a4,aj,ak,ae,af),hv.pu 4,ha.u,zt,j⟩
  ·rintro D U w hD ag aq ⟨⟨ah,ai,aj,ak,ae,af⟩,hv,ha,_,j⟩
   obtain⟨O,rfl⟩:=(ac (hv.at 5 rfl (ag.1 rfl)) (ac (hv.at 6 rfl (ag.2.1 rfl)) az)).dT
   have j:=j.bM 2 hD
   refine RL.cG 6 j lx a2 fun a5 j=>?_
   have j:=(j.pl 8 [1,2,0,4,5,6,7]).bS 2 true rfl aU
   exact RL.nil ⟨rfl,(ah,ai,a5,ak,ae,af),hv.pu 7,ha.u,zt,j⟩
  ·rintro D U w hD ag aq ⟨⟨ah,ai,aj,ak,ae,af⟩,hv,ha,_,j⟩
   obtain⟨O,rfl⟩:=(ac (hv.at 7 rfl (ag.1 rfl)) az).dT
   have j:=(j.bR 2 (ag.1 rfl)).bM 3 hD
   refine RL.bU 2 aa j iC fun a6 j=>?_
   have j:=((j.pl 8 [1,2,3,0,5,6,7]).bS 2 (D 7) (ag.1 rfl) aU).bS 3 true rfl aU
   exact RL.nil ⟨rfl,(ah,ai,aj,a6,ae,af),hv.pu 8,ha.u,zt,j⟩
  ·rintro D U w hD ag aq ⟨⟨ah,ai,aj,ak,ae,af⟩,hv,ha,_,j⟩
   obtain⟨O,rfl⟩:=(az (U:=U)).dT
   have j:=(j.bM 4 (nh aq hD 11)).bM 4 hD
   refine RL.alloc j oq.z fun aw w j=>?_
   have j:=((j.pl 8 [1,2,3,4,0,6,7]).bS 4 true rfl aU).fw 4 (D 11) (nh aq hD 11) (bx 56 aw o)
   exact RL.nil ⟨rfl,(ah,ai,aj,ak,aw,af),hv.pu 9,ha.u,zt,j⟩
  ·rintro D U w hD ag aq ⟨⟨ah,ai,aj,ak,ae,af⟩,hv,ha,_,j⟩
   obtain⟨O,rfl⟩:=(az (U:=U)).dT
   have j:=(j.bM 5 (nh aq hD 12)).bM 5 hD
   refine RL.alloc j oq.z fun ax w j=>?_
   have j:=((j.pl 8 [1,2,3,4,5,0,7]).bS 5 true rfl aU).fw 5 (D 12) (nh aq hD 12) (bx 56 ax aa)
   exact RL.nil ⟨rfl,(ah,ai,aj,ak,ae,ax),hv.pu 10,ha.u,zt,j⟩
  ·rintro D U w hD ag aq ⟨⟨ah,ai,aj,ak,ae,af⟩,hv,ha,_,j⟩
   obtain⟨O,rfl⟩:=(ac (hv.at 4 rfl (ag.2.1 rfl)) (ac (hv.at 9 rfl (ag.1 rfl)) az)).dT
   have j:=((j.bR 1 (ag.2.1 rfl)).bM 4 hD).bR 4 (ag.1 rfl)
   refine RL.bC 4 j 1 zr iC fun w j=>?_
   have j:=(j.bS 1 (D 4) (ag.2.1 rfl) aU).bS 4 true rfl (bif D 9 then (raw 56 ae 4) else aU)
   exact RL.nil ⟨rfl,(ah,ai,aj,ak,ae,af),hv.n1,ha,zt,j⟩
  ·rintro D U w hD ag aq ⟨⟨ah,ai,aj,ak,ae,af⟩,hv,ha,_,j⟩
   obtain⟨O,rfl⟩:=(ac (hv.at 8 rfl (ag.2.1 rfl)) (ac (hv.at 10 rfl (ag.1 rfl)) az)).dT
   have j:=((j.bR 3 (ag.2.1 rfl)).bM 5 hD).bR 5 (ag.1 rfl)
   refine RL.bC 5 j 3 zr iC fun w j=>?_
   have j:=(j.bS 3 (D 8) (ag.2.1 rfl) aU).bS 5 true rfl (bif D 10 then (raw 56 af 4) else aU)
   exact RL.nil ⟨rfl,(ah,ai,aj,ak,ae,af),hv.n1,ha,zt,j⟩
  rintro D U w ar ⟨⟨ah,ai,aj,ak,ae,af⟩,hv,ha,_,j⟩
  have j:=(((((j.bR 0 (gR ar 3)).bR 1 (gR ar 4)).bR 2 (gR ar 7)).bR 3 (gR ar 8)).bR 4 (gR ar 11)).bR 5 (gR ar 12)
  obtain⟨O,rfl⟩:=(ac (hv.at 9 rfl (gR ar 9)) (ac (hv.at 10 rfl (gR ar 10)) (ac (ha.at 0 rfl) (ac (ha.at 1 rfl) az)))).dT
  refine aG (RC.sr (RL.bF zr jV (RL.aO 5 j zr fG cP (RL.bF zr jV (RL.aO 4 j zr fG cP (ic aa.Y0 o.Y0 (mv (vb (decide (aa.Y0<o.Y0))) (RL.gs true (decide (aa.Y0<o.Y0)) (vp af 1) zr zr zr (dZ jV) ?_))))))))
  refine RL.gs true (decide (aa.Y0<o.Y0)) (vi aa.Y0) rfl rfl rfl (cD 5 rfl j (fun h=>by exact(cY h:cv (true&&((decide (aa.Y0<o.Y0))==false)) (vp af 1)= (vp af 1))) rfl fG cP) (RL.gs true (decide (aa.Y0<o.Y0)) (vp ae 1) rfl rfl rfl (dZ jV) (RL.gs true (decide (aa.Y0<o.Y0)) (vi o.Y0) rfl rfl rfl (cD 4 rfl j (fun h=>by exact(cY h:cv (true&&((decide (aa.Y0<o.Y0))==false)) (vp ae 1)= (vp ae 1))) rfl fG cP) (RL.gs true (decide (aa.Y0<o.Y0)) (vb (aa.Y0==o.Y0)) rfl rfl rfl (eG .eql .i64 aa.Y0 o.Y0 rfl (fun h=>by exact(cY h:cv (true&&((decide (aa.Y0<o.Y0))==false)) (vi aa.Y0)= (vi aa.Y0))) (fun h=>by exact(cY h:cv (true&&((decide (aa.Y0<o.Y0))==false)) (vi o.Y0)= (vi o.Y0))) rfl) (RL.gs true (decide (aa.Y0<o.Y0)) (vb (aa.Y0==o.Y0)) rfl rfl rfl (dE (hx:=fun h=>by exact(cY h:cv (true&&((decide (aa.Y0<o.Y0))==false)) (vb (aa.Y0==o.Y0))= (vb (aa.Y0==o.Y0))))) (RL.gs (true&&((decide (aa.Y0<o.Y0))==false)) (aa.Y0==o.Y0) (vp af 0) rfl rfl rfl (dZ ji) (RL.gs (true&&((decide (aa.Y0<o.Y0))==false)) (aa.Y0==o.Y0) (vi aa.X0) rfl rfl rfl (cD 5 rfl j (fun h=>by exact(cY h:cv ((true&&((decide (aa.Y0<o.Y0))==false))&&((aa.Y0==o.Y0)==true)) (vp af 0)= (vp af 0))) rfl fu cP) (RL.gs (true&&((decide (aa.Y0<o.Y0))==false)) (aa.Y0==o.Y0) (vp ae 0) rfl rfl rfl (dZ ji) (RL.gs (true&&((decide (aa.Y0<o.Y0))==false)) (aa.Y0==o.Y0) (vi o.X0) rfl rfl rfl (cD 4 rfl j (fun h=>by exact(cY h:cv ((true&&((decide (aa.Y0<o.Y0))==false))&&((aa.Y0==o.Y0)==true)) (vp ae 0)= (vp ae 0))) rfl fu cP) ?_))))))))
  refine RL.gs (true&&((decide (aa.Y0<o.Y0))==false)) (aa.Y0==o.Y0) (vb (decide (aa.X0<=o.X0))) rfl rfl rfl (eG .leq .i64 aa.X0 o.X0 rfl (fun h=>by exact(cY h:cv ((true&&((decide (aa.Y0<o.Y0))==false))&&((aa.Y0==o.Y0)==true)) (vi aa.X0)= (vi aa.X0))) (fun h=>by exact(cY h:cv ((true&&((decide (aa.Y0<o.Y0))==false))&&((aa.Y0==o.Y0)==true)) (vi o.X0)= (vi o.X0))) rfl) (RL.gs true (decide (aa.Y0<o.Y0)) (vb ((aa.Y0==o.Y0)&&(decide (aa.X0<=o.X0)))) rfl rfl rfl (pE (aa.Y0==o.Y0) rfl (fun h=>by exact(cY h:cv (true&&((decide (aa.Y0<o.Y0))==false)) (vb (aa.Y0==o.Y0))= (vb (aa.Y0==o.Y0)))) (fun h=>by exact iX (h:=h) (true&&((decide (aa.Y0<o.Y0))==false)))) (RL.pick (decide (aa.Y0<o.Y0)) (vb ((decide (aa.Y0<o.Y0))||((aa.Y0==o.Y0)&&(decide (aa.X0<=o.X0))))) (mH true rfl) (RL.nt (fy hb (fun hc hb=>?_) fun hc hb=>?_))))
  ·refine RC.sr (aM (vi 8) (RL.nt (RC.rb (cF ?_))))
   obtain rfl:=oi hb
   exact⟨rfl,cH ⟨rfl,j.drop 7⟩⟩
  refine RC.skip (bQ (aG (RC.region (mv (vi ao) (RL.jo ao 1 (aM (vi (IntKind.wrap .i64 (ao+1))) (RL.nil ?_)))))))
  obtain rfl:=oi hb
  exact⟨rfl,j.sp 7 [6]⟩
 ·intro r U w e hK
  subst e
  refine cF ?_
  obtain rfl:=oi hb
  exact hK
 rintro ao _ w rfl ⟨O,rfl,j⟩
 rw [Fo.fW] at hb
 refine aG (RC.seq (RC.sr (mv v0 ?_)))
 obtain⟨bj,a8,hb⟩:=bd hb
 refine RL.call zt zr D2 [v0] zr (aF (kl N (i0:=0) j zr a8) ?_)
 rintro a9 w j
 have j:=j.freeze 0
 obtain⟨bk,ba,hb⟩:=bd hb
 refine RL.call zt zr GP [a9] zr (aF (ly N (i0:=0) j zr ba) ?_)
 rintro bb w j
 refine mv v0 ?_
 have j:=j.freeze 0
 obtain⟨bc,bf,hb⟩:=bd hb
 refine RL.call zt zr Ji [bb,v0] zr (aF (qL N (i0:=0) (i1:=2) j zr zr bf) ?_)
 rintro _ w ⟨rfl,j⟩
 refine RL.not bc (RL.nt (fy hb (fun hc hb=>?_) fun hc hb=>?_))
 ·refine RC.sr (aM (vi 3) (RL.nt (RC.rt ?_)))
  obtain rfl:=oi hb
  exact cH ⟨rfl,j.drop 3⟩
 refine RC.sx (aM (vi 0) (RL.nt (RC.ret ?_)))
 obtain rfl:=oi hb
 exact cH ⟨rfl,j.drop 3⟩
theorem kL {res:Bool} (o:Holds E w V) (j:fY N p0 p1 p2=some res):
    Calls bH 45 [(vi p0),(vi p1),(vi p2)].toArray w (gI (bB E V res)):=by
 unfold fY at j
 refine enter Tryz.func45 zr zr (RC.sr (aM (vb false) (RL.ns (mv (vi p0) (mv (vi p1) (ic p0 p1 (mv (vb (decide (p0>=p1))) (RL.gs true (decide (p0>=p1)) (vi p0) zr zr zr dE ?_))))))))
 refine RL.gs true (decide (p0>=p1)) (vi p2) rfl rfl rfl dE (RL.gs true (decide (p0>=p1)) (vb (decide (p0<=p2))) rfl rfl rfl (eG .leq .i64 p0 p2 rfl (fun h=>by exact(cY h:cv (true&&((decide (p0>=p1))==true)) (vi p0)= (vi p0))) (fun h=>by exact(cY h:cv (true&&((decide (p0>=p1))==true)) (vi p2)= (vi p2))) rfl) (RL.pick (decide (p0>=p1)) (vb ((decide (p0>=p1))&&(decide (p0<=p2)))) (iX true) (aM (vb ((decide (p0>=p1))&&(decide (p0<=p2)))) (RL.nt (RC.ret ?_)))))
 obtain rfl:=oi j
 exact cH ⟨rfl,o.drop 0⟩
theorem o9 {p0:j6} {res:Bool} (j:Holds E w V) (h0:V[i0]? =some (rd v0 p0)) (hb:ig N p0=some res):
    Calls bH 48 [v0].toArray w (gI (bB E V res)):=by
 unfold ig at hb
 refine enter Tryz.func48 zr zr ?_
 have j:=j.dup (i0+0) h0
 refine RC.sr (RL.cR 0 v0 j zr fun ai w j=>?_)
 refine aM (vb false) (RL.nq ?_)
 obtain⟨ad,o,hb⟩:=bd hb
 refine RC.jn (fun(ad:Bool)=>SH E V [(2,vb ad)] []) ad ?_ ?_
 ·refine RC.region (RL.bF zr yJ (RL.aO 0 j zr pL cP ?_))
  obtain⟨af,ag,o⟩:=bd o
  refine RL.call zt zr CV [(vi p0.X)] zr (aF (jR N (p0:=p0.X) j ag) ?_)
  rintro _ w ⟨rfl,j⟩
  refine mv (vb af) (gv o (fun aa o=>?_) fun aa o=>?_)
  rotate_left
  ·refine cA aa (cA aa (cA aa (gw aa (vb false) (aM (vb false) (RL.nil ?_)))))
   obtain rfl:=oi o
   exact⟨rfl,j.sp 2 []⟩
  refine RL.bF (hg:=(cg aa)) zr yK (RL.aO (hg:=(cg aa)) 0 j zr pM cP ?_)
  obtain⟨ae,ah,o⟩:=bd o
  refine RL.call (cg aa) zr CV [(vi p0.Y)] zr (aF (jR N (p0:=p0.Y) j ah) ?_)
  rintro _ w ⟨rfl,j⟩
  refine gw aa (vb ae) (aM (vb ae) (RL.nil ?_))
  obtain rfl:=oi o
  exact⟨rfl,j.sp 2 []⟩
 rintro _ w ⟨O,rfl,j⟩
 refine aG (RC.ret ?_)
 obtain rfl:=oi hb
 exact cH ⟨rfl,j.drop 0⟩
end Go.Gk
