/-
  Printed texts: Go functions as plain functions, and that they are. No statement of the seed is proved here.
-/
import Derived.Test.YtjocleflknekmabGreatDoorProg
import Derived.Test.YtjocleflknekmabGreatDoorE1
import Derived.Test.YtjocleflknekmabGreatDoorA1
import Derived.Test.YtjocleflknekmabGreatDoorA2
import Derived.Test.YtjocleflknekmabGreatDoorRows
import Derived.Shelf.SlGeneric
import Derived.Ground.SlsfProg
import Derived.Ground.SlgmProg
import Derived.Ground.GgzProg
set_option linter.unusedVariables false
set_option linter.unusedSimpArgs false
set_option linter.unusedSectionVars false
set_option maxRecDepth 100000
set_option maxHeartbeats 40000000
namespace Go.Gk
open Go Go.Proofs
noncomputable abbrev bB:=Tryz.prog
def o9 (x:cM):=(x.Name,x.Kind,x.bJ)
instance instGTPinType:GT cM:=GT.via o9
instance instKVPinType:KV cM:=instKVvia (fun(x:cM)=>(x.Name,x.Kind,x.bJ))
theorem mE:Fd 0 (fun x:cM=>x.Name):= .v o9 (.fst .self)
theorem n0:Fd 1 (fun x:cM=>x.Kind):= .v o9 (.snd (.fst .self))
theorem mF:Fd 2 (fun x:cM=>x.bJ):= .v o9 (.snd (.snd (.self)))
def qO (x:aL):=(x.Name,x.aS)
instance instGTPartType:GT aL:=GT.via qO
theorem nr:Fd 0 (fun x:aL=>x.Name):= .v qO (.fst .self)
theorem pG:Fd 1 (fun x:aL=>x.aS):= .v qO (.snd (.self))
def yo (x:Part):=(x.Name,x.ju)
instance instGTPart:GT Part:=GT.via yo
instance instKVPart:KV Part:=instKVvia (fun(x:Part)=>(x.Name,x.ju))
theorem pV:Fd 0 (fun x:Part=>x.Name):= .v yo (.fst .self)
theorem wC:Fd 1 (fun x:Part=>x.ju):= .v yo (.snd (.self))
def tC (x:aX):=(x.Part,x.aX)
instance instGTPin:GT aX:=GT.via tC
instance instKVPin:KV aX:=instKVvia (fun(x:aX)=>(x.Part,x.aX))
theorem yp:Fd 0 (fun x:aX=>x.Part):= .v tC (.fst .self)
theorem Ch:Fs 0 bR (fun(x:aX) y=>{x with Part:=y}):= .v tC (.fst .self)
theorem yq:Fd 1 (fun x:aX=>x.aX):= .v tC (.snd (.self))
theorem Ci:Fs 1 bR (fun(x:aX) y=>{x with aX:=y}):= .v tC (.snd (.self))
def xW (x:Net):=(x.Name,x.aS,x.ru)
instance instGTNet:GT Net:=GT.via xW
theorem pW:Fd 0 (fun x:Net=>x.Name):= .v xW (.fst .self)
theorem si:Fd 1 (fun x:Net=>x.aS):= .v xW (.snd (.fst .self))
theorem GK:Fd 2 (fun x:Net=>x.ru):= .v xW (.snd (.snd (.self)))
def sj (x:bK):=(x.cJ,x.bE)
instance instGTNetlist:GT bK:=GT.via sj
theorem mG:Fd 0 (fun x:bK=>x.cJ):= .v sj (.fst .self)
theorem jE:Fd 1 (fun x:bK=>x.bE):= .v sj (.snd (.self))
def lW (x:aJ):=(x.X0,x.Y0,x.X1,x.Y1)
instance instGTRect:GT aJ:=GT.via lW
instance instKVRect:KV aJ:=instKVvia (fun(x:aJ)=>(x.X0,x.Y0,x.X1,x.Y1))
theorem fK:Fd 0 (fun x:aJ=>x.X0):= .v lW (.fst .self)
theorem pX:Fs 0 Int (fun(x:aJ) y=>{x with X0:=y}):= .v lW (.fst .self)
theorem gl:Fd 1 (fun x:aJ=>x.Y0):= .v lW (.snd (.fst .self))
theorem tD:Fs 1 Int (fun(x:aJ) y=>{x with Y0:=y}):= .v lW (.snd (.fst .self))
theorem gE:Fd 2 (fun x:aJ=>x.X1):= .v lW (.snd (.snd (.fst .self)))
theorem pY:Fs 2 Int (fun(x:aJ) y=>{x with X1:=y}):= .v lW (.snd (.snd (.fst .self)))
theorem j3:Fd 3 (fun x:aJ=>x.Y1):= .v lW (.snd (.snd (.snd (.self))))
theorem tE:Fs 3 Int (fun(x:aJ) y=>{x with Y1:=y}):= .v lW (.snd (.snd (.snd (.self))))
def wD (x:ka):=(x.X,x.Y)
instance instGTPoint:GT ka:=GT.via wD
instance instKVPoint:KV ka:=instKVvia (fun(x:ka)=>(x.X,x.Y))
theorem qP:Fd 0 (fun x:ka=>x.X):= .v wD (.fst .self)
theorem qQ:Fd 1 (fun x:ka=>x.Y):= .v wD (.snd (.self))
def oH (x:cN):=(x.At,x.eR,x.dD,x.To,x.jJ)
instance instGTBore:GT cN:=GT.via oH
theorem wE:Fd 0 (fun x:cN=>x.At):= .v oH (.fst .self)
theorem pZ:Fd 2 (fun x:cN=>x.eR):= .v oH (.snd (.fst .self))
theorem E8:Fs 2 Int (fun(x:cN) y=>{x with eR:=y}):= .v oH (.snd (.fst .self))
theorem m6:Fd 3 (fun x:cN=>x.dD):= .v oH (.snd (.snd (.fst .self)))
theorem ou:Fd 4 (fun x:cN=>x.To):= .v oH (.snd (.snd (.snd (.fst .self))))
theorem wF:Fd 5 (fun x:cN=>x.jJ):= .v oH (.snd (.snd (.snd (.snd (.self)))))
def sm (x:eQ):=(x.Part,x.aX,x.eU,x.At)
instance instGTLand:GT eQ:=GT.via sm
theorem Ag:Fd 0 (fun x:eQ=>x.Part):= .v sm (.fst .self)
theorem Ah:Fd 1 (fun x:eQ=>x.aX):= .v sm (.snd (.fst .self))
theorem wG:Fd 2 (fun x:eQ=>x.eU):= .v sm (.snd (.snd (.fst .self)))
theorem wH:Fd 3 (fun x:eQ=>x.At):= .v sm (.snd (.snd (.snd (.self))))
def vu (x:kr):=(x.aO,x.eC,x.bL,x.bM)
instance instGTArt:GT kr:=GT.via vu
theorem p5:Fd 0 (fun x:kr=>x.aO):= .v vu (.fst .self)
theorem yr:Fd 1 (fun x:kr=>x.eC):= .v vu (.snd (.fst .self))
theorem sq:Fd 2 (fun x:kr=>x.bL):= .v vu (.snd (.snd (.fst .self)))
theorem p6:Fd 3 (fun x:kr=>x.bM):= .v vu (.snd (.snd (.snd (.self))))
def je (x:aA):=(x.Y0,x.Y1,x.Xs)
instance instGTshape_Band:GT aA:=GT.via je
theorem fT:Fd 0 (fun x:aA=>x.Y0):= .v je (.fst .self)
theorem rz:Fs 0 Int (fun(x:aA) y=>{x with Y0:=y}):= .v je (.fst .self)
theorem eK:Fd 1 (fun x:aA=>x.Y1):= .v je (.snd (.fst .self))
theorem nO:Fs 1 Int (fun(x:aA) y=>{x with Y1:=y}):= .v je (.snd (.fst .self))
theorem dF:Fd 2 (fun x:aA=>x.Xs):= .v je (.snd (.snd (.self)))
theorem rA:Fs 2 (List Int) (fun(x:aA) y=>{x with Xs:=y}):= .v je (.snd (.snd (.self)))
def iV (x:aI):=(x.eU,x.Set,x.nT)
instance instGTcopper_Piece:GT aI:=GT.via iV
theorem pd:Fd 0 (fun x:aI=>x.eU):= .v iV (.fst .self)
theorem vv:Fs 0 Int (fun(x:aI) y=>{x with eU:=y}):= .v iV (.fst .self)
theorem vx:Fs 1 (List aA) (fun(x:aI) y=>{x with Set:=y}):= .v iV (.snd (.fst .self))
theorem pf:Fd 2 (fun x:aI=>x.nT):= .v iV (.snd (.snd (.self)))
theorem vz:Fs 2 (List aJ) (fun(x:aI) y=>{x with nT:=y}):= .v iV (.snd (.snd (.self)))
def Ai (x:bJ):=(x.mA,x.bL,x.aS)
instance instGTGroup:GT bJ:=GT.via Ai
theorem Di:Fd 2 (fun x:bJ=>x.aS):= .v Ai (.snd (.snd (.self)))
def vA (x:kb):=(x.cN,x.Number)
instance instGTHop:GT kb:=GT.via vA
instance instKVHop:KV kb:=instKVvia (fun(x:kb)=>(x.cN,x.Number))
theorem GL:Fd 0 (fun x:kb=>x.cN):= .v vA (.fst .self)
theorem GM:Fs 0 Bool (fun(x:kb) y=>{x with cN:=y}):= .v vA (.fst .self)
theorem Cj:Fd 1 (fun x:kb=>x.Number):= .v vA (.snd (.self))
theorem Ck:Fs 1 Int (fun(x:kb) y=>{x with Number:=y}):= .v vA (.snd (.self))
def p7 (x:dC):=(x.Kind,x.bE,x.aS)
instance instGTWrong:GT dC:=GT.via p7
theorem Dj:Fd 0 (fun x:dC=>x.Kind):= .v p7 (.fst .self)
theorem qR:Fs 0 Int (fun(x:dC) y=>{x with Kind:=y}):= .v p7 (.fst .self)
theorem yt:Fs 1 (List bR) (fun(x:dC) y=>{x with bE:=y}):= .v p7 (.snd (.fst .self))
theorem qS:Fs 2 (List aX) (fun(x:dC) y=>{x with aS:=y}):= .v p7 (.snd (.snd (.self)))
theorem GN (M:dO):GT.ok M (#[(.string ⟨#[]⟩),(.string ⟨#[]⟩)]:Array Value).toList (⟨⟨[]⟩,⟨[]⟩⟩:aX):=⟨[(.string ⟨#[]⟩)],[(.string ⟨#[]⟩)],rfl,(show GT.ok M [(.string ⟨#[]⟩)] (⟨[]⟩:bR) from rfl),(show GT.ok M [(.string ⟨#[]⟩)] (⟨[]⟩:bR) from rfl)⟩
theorem xX (M:dO):GT.ok M (#[(.int .i64 0),(.slice none 0 0),(.slice none 0 0)]:Array Value).toList (⟨0,[],[]⟩:dC):=⟨[(.int .i64 0)],[(.slice none 0 0),(.slice none 0 0)],rfl,(show GT.ok M [(.int .i64 0)] (0:Int) from rfl),⟨[(.slice none 0 0)],[(.slice none 0 0)],rfl,(show GT.ok M [(.slice none 0 0)] ([]: (List bR)) from ⟨_,rfl,none,0,0,rfl,rfl,bI _,by simp [maxLen],fun _ _ h=>by simp at h⟩),(show GT.ok M [(.slice none 0 0)] ([]: (List aX)) from ⟨_,rfl,none,0,0,rfl,rfl,bI _,by simp [maxLen],fun _ _ h=>by simp at h⟩)⟩⟩
theorem uI (M:dO):GT.ok M (#[(.int .i64 0),(.int .i64 0),(.int .i64 0),(.int .i64 0)]:Array Value).toList (⟨0,0,0,0⟩:aJ):=⟨[(.int .i64 0)],[(.int .i64 0),(.int .i64 0),(.int .i64 0)],rfl,(show GT.ok M [(.int .i64 0)] (0:Int) from rfl),⟨[(.int .i64 0)],[(.int .i64 0),(.int .i64 0)],rfl,(show GT.ok M [(.int .i64 0)] (0:Int) from rfl),⟨[(.int .i64 0)],[(.int .i64 0)],rfl,(show GT.ok M [(.int .i64 0)] (0:Int) from rfl),(show GT.ok M [(.int .i64 0)] (0:Int) from rfl)⟩⟩⟩
theorem Ir (M:dO):GT.ok M (#[(.int .i64 0),(.int .i64 0)]:Array Value).toList (⟨0,0⟩:ka):=⟨[(.int .i64 0)],[(.int .i64 0)],rfl,(show GT.ok M [(.int .i64 0)] (0:Int) from rfl),(show GT.ok M [(.int .i64 0)] (0:Int) from rfl)⟩
theorem JP (M:dO):GT.ok M (#[(.int .i64 0),(.int .i64 0),(.int .i64 0),(.int .i64 0),(.int .i64 0),(.bool false)]:Array Value).toList (⟨⟨0,0⟩,0,0,0,false⟩:cN):=⟨[(.int .i64 0),(.int .i64 0)],[(.int .i64 0),(.int .i64 0),(.int .i64 0),(.bool false)],rfl,(show GT.ok M [(.int .i64 0),(.int .i64 0)] (⟨0,0⟩:ka) from Ir M),⟨[(.int .i64 0)],[(.int .i64 0),(.int .i64 0),(.bool false)],rfl,(show GT.ok M [(.int .i64 0)] (0:Int) from rfl),⟨[(.int .i64 0)],[(.int .i64 0),(.bool false)],rfl,(show GT.ok M [(.int .i64 0)] (0:Int) from rfl),⟨[(.int .i64 0)],[(.bool false)],rfl,(show GT.ok M [(.int .i64 0)] (0:Int) from rfl),(show GT.ok M [(.bool false)] (false:Bool) from rfl)⟩⟩⟩⟩
theorem vB (M:dO):GT.ok M (#[(.int .i64 0),(.int .i64 0),(.slice none 0 0)]:Array Value).toList (⟨0,0,[]⟩:aA):=⟨[(.int .i64 0)],[(.int .i64 0),(.slice none 0 0)],rfl,(show GT.ok M [(.int .i64 0)] (0:Int) from rfl),⟨[(.int .i64 0)],[(.slice none 0 0)],rfl,(show GT.ok M [(.int .i64 0)] (0:Int) from rfl),(show GT.ok M [(.slice none 0 0)] ([]: (List Int)) from ⟨_,rfl,none,0,0,rfl,rfl,bI _,by simp [maxLen],fun _ _ h=>by simp at h⟩)⟩⟩
theorem yu (M:dO):GT.ok M (#[(.int .i64 0),(.slice none 0 0),(.slice none 0 0)]:Array Value).toList (⟨0,[],[]⟩:aI):=⟨[(.int .i64 0)],[(.slice none 0 0),(.slice none 0 0)],rfl,(show GT.ok M [(.int .i64 0)] (0:Int) from rfl),⟨[(.slice none 0 0)],[(.slice none 0 0)],rfl,(show GT.ok M [(.slice none 0 0)] ([]: (List aA)) from ⟨_,rfl,none,0,0,rfl,rfl,bI _,by simp [maxLen],fun _ _ h=>by simp at h⟩),(show GT.ok M [(.slice none 0 0)] ([]: (List aJ)) from ⟨_,rfl,none,0,0,rfl,rfl,bI _,by simp [maxLen],fun _ _ h=>by simp at h⟩)⟩⟩
theorem GO (M:dO):GT.ok M (#[(.bool false),(.int .i64 0)]:Array Value).toList (⟨false,0⟩:kb):=⟨[(.bool false)],[(.int .i64 0)],rfl,(show GT.ok M [(.bool false)] (false:Bool) from rfl),(show GT.ok M [(.int .i64 0)] (0:Int) from rfl)⟩
structure cF where
  mA: (List Int)
  bL: (List Int)
  aS:RV
  deriving Inhabited
def qT (x:cF):=(x.mA,x.bL,x.aS)
instance instGTGroup_r2:GT cF:=GT.via qT
theorem zH:Fd 2 (fun x:cF=>x.aS):= .v qT (.snd (.snd (.self)))
theorem zI:Fs 2 RV (fun(x:cF) y=>{x with aS:=y}):= .v qT (.snd (.snd (.self)))
def bX:XT cF bJ:=⟨fun u x=>u.mA=x.mA/\u.bL=x.bL,fun M h u x=>(u.mA=x.mA/\u.bL=x.bL)/\uz 34 M h u.aS.v x.aS,fun{M M' h u x} hk hh=>⟨hh.1,(own 34 u.aS.v x.aS).mono hk hh.2⟩,fun h=>h.1⟩
theorem su:XO bX 34 2 (fun u=>u.aS) (fun u r=>{u with aS:=r}) (fun x=>x.aS) (fun x y=>{x with aS:=y}):=⟨zH,zI,by decide,fun h=>h.2,fun hr ho=>⟨hr,ho⟩⟩
theorem AX (M h:dO) (u:cF) (x:bJ) (cs:List Value) (hd: ∀b o,h b=some o->M b=none) (hx:bX.ok M h u x) (hc:GT.ok M cs u):GT.ok (oX M h) cs x:=by
  obtain⟨⟨e0,e1⟩,ho⟩:=hx
  obtain⟨c0,d0,hd0,a0,c1,d1,hd1,a1,a2⟩:=hc
  exact⟨c0,d0,hd0,GT.mono (tw M h) (show GT.ok M c0 x.mA from e0▸(show GT.ok M c0 u.mA from a0)),⟨c1,d1,hd1,GT.mono (tw M h) (show GT.ok M c1 x.bL from e1▸(show GT.ok M c1 u.bL from a1)),⟨u.aS.v,a2,uz.sl hd ho⟩⟩⟩
theorem yv:lB bB 26 true 2:=ry
theorem wI:lB bB 32 true 4:=ry
theorem JQ:lB bB 22 false 1:=ry
theorem JR:Tryz.prog.underlying 22=some (.slice 123):=by kernel_rfl
theorem E9:tx bB 22 123 2:=AV
theorem Cl:lB bB 123 true 2:=ry
theorem Kz:zF bB 123 2:=AW (.agg #[(.string ⟨#[]⟩),(.slice none 0 0)])
theorem xY:lS bB 123 0 0:=mV
theorem pQ:lB bB 9 false 1:=ry
theorem yw:Tryz.prog.underlying 9=some (.string):=by kernel_rfl
theorem Me (a:bR) (b:Int) (w:World): (callFunc 175 [(str a),(.int .u8 b)].toArray).run bB w = .ok (.value (vi (Lib.indexByte a.cB (Int.toNat b).toUInt8))) w:=yd Extern.BytealgIndexByte.indexByte Tryz.func175 (Lib.run_indexByteString _ _ w)
theorem Jf:gD bB 156:=gQ Tryz.func156
theorem KA:gD bB 119:=gQ Tryz.func119
theorem Is:gD bB 78:=gQ Tryz.func78
theorem AY:lS bB 123 1 1:=mV
theorem GP:lB bB 121 false 1:=ry
theorem yx:Tryz.prog.underlying 121=some (.slice 129):=by kernel_rfl
theorem xu:tx bB 121 129 3:=AV
theorem vC:lB bB 129 true 3:=ry
theorem GQ:zF bB 129 3:=AW (.agg #[(.string ⟨#[]⟩),(.int .i64 0),(.int .i64 0)])
theorem vD:lS bB 129 0 0:=mV
theorem xZ:lS bB 129 1 1:=mV
theorem dE:lB bB 3 false 1:=ry
theorem vE:lS bB 129 2 2:=mV
theorem mixed:Tryz.prog.follows .mixedOrders=true:=by kernel_rfl
theorem KB:gD bB 157:=gQ Tryz.func157
theorem KC:gD bB 121:=gQ Tryz.func121
theorem KD:gD bB 120:=gQ Tryz.func120
theorem Mf:gD bB 79:=gQ Tryz.func79
theorem Mg:gD bB 36:=gQ Tryz.func36
theorem AZ:lS bB 26 0 0:=mV
theorem It:lB bB 23 false 1:=ry
theorem Iu:Tryz.prog.underlying 23=some (.slice 93):=by kernel_rfl
theorem Fa:tx bB 23 93 2:=AV
theorem Dk:lB bB 93 true 2:=ry
theorem KE:zF bB 93 2:=AW (.agg #[(.string ⟨#[]⟩),(.string ⟨#[]⟩)])
theorem yy:lS bB 93 0 0:=mV
theorem Dl:lS bB 93 1 1:=mV
theorem Eu:Tryz.prog.underlying 3=some (.int .i64):=by kernel_rfl
theorem Cm:Tryz.prog.underlying 99=some (.int .u64):=by kernel_rfl
theorem gK (a b:bR) (w:World): (callFunc 110 [(str a),(str b)].toArray).run bB w = .ok (.value (vi (Lib.compareBytes a.cB b.cB))) w:=yd Extern.BytealgCompare.compare Tryz.func110 (Lib.run_compareString _ _ w)
theorem Mh:gD bB 61:=gQ Tryz.func61
theorem GR:gD bB 27:=gQ Tryz.func27
theorem Mi:gD bB 88:=gQ Tryz.func88
theorem Mj:gD bB 87:=gQ Tryz.func87
theorem JS:gD bB 43:=gQ Tryz.func43
theorem Mk (a:bR) (b:Int) (w:World): (callFunc 178 [(str a),(.int .u8 b)].toArray).run bB w = .ok (.value (vi ((Lib.countByte a.cB (Int.toNat b).toUInt8:Nat):Int))) w:=yd Extern.BytealgCount.count Tryz.func178 (Lib.run_countString _ _ w)
theorem KF:gD bB 179:=gQ Tryz.func179
theorem Jg:gD bB 160:=gQ Tryz.func160
theorem KG:gD bB 159:=gQ Tryz.func159
theorem Ml:rY bB 40 9 1 16:=rY.of (.string ⟨#[]⟩)
theorem N9:E1 bB 9 (⟨[]⟩:bR):=E1.of (.string ⟨#[]⟩) (fun M=>rfl)
theorem GS:tx bB 40 9 1:=AV
theorem KH:gD bB 123:=gQ Tryz.func123
theorem Mm:gD bB 81:=gQ Tryz.func81
theorem KI:Tryz.prog.underlying 40=some (.slice 9):=by kernel_rfl
theorem KJ:gD bB 122:=gQ Tryz.func122
theorem Mn:gD bB 82:=gQ Tryz.func82
theorem Mo:gD bB 80:=gQ Tryz.func80
theorem JT:gD bB 38:=gQ Tryz.func38
theorem Mp:gD bB 37:=gQ Tryz.func37
theorem sw:lS bB 26 1 1:=mV
theorem Cn:lB bB 24 false 1:=ry
theorem GU:Tryz.prog.underlying 24=some (.slice 59):=by kernel_rfl
theorem Dm:tx bB 24 59 3:=AV
theorem A0:lB bB 59 true 3:=ry
theorem Iv:zF bB 59 3:=AW (.agg #[(.string ⟨#[]⟩),(.slice none 0 0),(.slice none 0 0)])
theorem wJ:lS bB 59 0 0:=mV
theorem yz:lS bB 59 1 1:=mV
theorem xK:lB bB 41 false 1:=ry
theorem rJ:Tryz.prog.underlying 41=some (.slice 34):=by kernel_rfl
theorem gT:lB bB 34 true 2:=ry
theorem Dn:lS bB 34 0 0:=mV
theorem Mq:gD bB 84:=gQ Tryz.func84
theorem Mr:gD bB 83:=gQ Tryz.func83
theorem Ms:gD bB 41:=gQ Tryz.func41
theorem Dp:lS bB 34 1 1:=mV
theorem Mt:gD bB 86:=gQ Tryz.func86
theorem Mu:gD bB 85:=gQ Tryz.func85
theorem Mv:gD bB 42:=gQ Tryz.func42
theorem KK:gD bB 20:=gQ Tryz.func20
theorem qU:tx bB 41 34 2:=AV
theorem sA:zF bB 34 2:=AW (.agg #[(.string ⟨#[]⟩),(.string ⟨#[]⟩)])
theorem Iw:gD bB 13:=gQ Tryz.func13
theorem Jh:Kk bB 34 aX:=⟨fun M cs ds a b w ha hb=>by
  obtain⟨_,_,rfl,rfl,rfl⟩:=ha
  obtain⟨_,_,rfl,rfl,rfl⟩:=hb
  refine(pR 9999 Tryz.underlying34 (Gd.cons (by decide) (ig pQ rfl _) (ig pQ rfl _) (uD yw _ _ w) (Gd.cons (by decide) (ig pQ rfl _) (ig pQ rfl _) (uD yw _ _ w) Gd.nil))).trans ?_
  congr 1
  cases a;cases b;unfold tC
  rw [fH]
  simp,by kernel_rfl⟩
theorem Ji:wA bB 34 aX:=wA.struct Tryz.underlying34 rfl Jh (fun k=>(Jc.cons (by decide) (ig pQ rfl) (fun b w=>MapKept.run_checkKey yw (k:=Gk.str k.Part) trivial b 9998) (Jc.cons (by decide) (ig pQ rfl) (fun b w=>MapKept.run_checkKey yw (k:=Gk.str k.aX) trivial b 9998) Jc.nil))) (fun k x hx=>by
  have hx:x∈[Sc.toV k.Part,Sc.toV k.aX]:=hx
  simp only [fG,List.not_mem_nil,or_false] at hx
  rcases hx with rfl | rfl
  · exact MapKept.sameBits_self (d:= .string) (k:=Gk.str k.Part) trivial _
  · exact MapKept.sameBits_self (d:= .string) (k:=Gk.str k.aX) trivial _)
theorem GV:AJ bB 54 34 4 aX Bool (false:Bool):=⟨by kernel_rfl,Ji,xS (.bool false) (fun M=>⟨_,rfl,rfl⟩)⟩
theorem Mw:gD bB 40:=gQ Tryz.func40
theorem Mx:gD bB 39:=gQ Tryz.func39
theorem JU:lS bB 59 2 2:=mV
theorem My:lB bB 40 false 1:=ry
theorem KL:gD bB 19:=gQ Tryz.func19
theorem wK:lS bB 32 0 0:=mV
theorem Fb:lB bB 27 false 1:=ry
theorem Co:Tryz.prog.underlying 27=some (.slice 28):=by kernel_rfl
theorem GW:lS bB 32 1 1:=mV
theorem A1:lB bB 28 false 1:=ry
theorem sB:Tryz.prog.underlying 28=some (.slice 83):=by kernel_rfl
theorem Fc:tx bB 27 28 1:=AV
theorem mH:tx bB 28 83 4:=AV
theorem jf:lB bB 83 true 4:=ry
theorem pH:zF bB 83 4:=AW (.agg #[(.int .i64 0),(.int .i64 0),(.int .i64 0),(.int .i64 0)])
theorem kn:lS bB 83 0 0:=mV
theorem KM:gD bB 113:=gQ Tryz.func113
theorem Fe:gD bB 66:=gQ Tryz.func66
theorem k9:lS bB 83 1 1:=mV
theorem ld:lS bB 83 2 2:=mV
theorem oI:lS bB 83 3 3:=mV
theorem KN:gD bB 76:=gQ Tryz.func76
theorem Mz:gD bB 89:=gQ Tryz.func89
theorem Ff:rY bB 28 83 4 32:=rY.of (.agg #[(.int .i64 0),(.int .i64 0),(.int .i64 0),(.int .i64 0)])
theorem MA:gD bB 67:=gQ Tryz.func67
theorem MB:gD bB 69:=gQ Tryz.func69
theorem KO:gD bB 68:=gQ Tryz.func68
theorem KP:LQ bB 68 [(.slice none 0 0)]:=⟨(.slice none 0 0),fun _=>by kernel_rfl,rfl⟩
theorem fU:lB bB 68 false 1:=ry
theorem fV:tx bB 68 3 1:=AV
theorem H5:zF bB 3 1:=AW (.int .i64 0)
theorem wL:rY bB 68 3 1 8:=rY.of (.int .i64 0)
theorem MC:gD bB 70:=gQ Tryz.func70
theorem nC:Tryz.prog.underlying 68=some (.slice 3):=by kernel_rfl
theorem KQ:E1 bB 3 (0:Int):=E1.of (.int .i64 0) (fun M=>rfl)
theorem MD:gD bB 71:=gQ Tryz.func71
theorem Jj:gD bB 116:=gQ Tryz.func116
theorem ME:E1 bB 83 (⟨0,0,0,0⟩:aJ):=E1.of (.agg #[(.int .i64 0),(.int .i64 0),(.int .i64 0),(.int .i64 0)]) (fun M=>(uI M))
theorem MF:gD bB 73:=gQ Tryz.func73
theorem MG:gD bB 72:=gQ Tryz.func72
theorem KR:gD bB 118:=gQ Tryz.func118
theorem MH:gD bB 75:=gQ Tryz.func75
theorem Jk:xH bB 153 [(0,1),(1,1),(2,1)] #[(.int .i64 0),(.int .i64 0),(.slice none 0 0)]:=xH.of (.agg #[(.int .i64 0),(.int .i64 0),(.slice none 0 0)]) Tryz.underlying153
theorem kO:lS bB 153 2 2:=mV
theorem mc:lS bB 153 1 1:=mV
theorem n8:lS bB 153 0 0:=mV
theorem nU:Tryz.prog.underlying 113=some (.slice 153):=by kernel_rfl
theorem ky:tx bB 113 153 3:=AV
theorem KS:gD bB 117:=gQ Tryz.func117
theorem vF:lB bB 153 true 3:=ry
theorem Cp:zF bB 153 3:=AW (.agg #[(.int .i64 0),(.int .i64 0),(.slice none 0 0)])
theorem KT:rY bB 113 153 3 40:=rY.of (.agg #[(.int .i64 0),(.int .i64 0),(.slice none 0 0)])
theorem KU:gD bB 74:=gQ Tryz.func74
theorem GX:gD bB 34:=gQ Tryz.func34
theorem Fg:xH bB 83 [(0,1),(1,1),(2,1),(3,1)] #[(.int .i64 0),(.int .i64 0),(.int .i64 0),(.int .i64 0)]:=xH.of (.agg #[(.int .i64 0),(.int .i64 0),(.int .i64 0),(.int .i64 0)]) Tryz.underlying83
theorem JV:gD bB 91:=gQ Tryz.func91
theorem Jl:Kk bB 83 aJ:=⟨fun M cs ds a b w ha hb=>by
  obtain⟨_,_,rfl,rfl,⟨_,_,rfl,rfl,⟨_,_,rfl,rfl,rfl⟩⟩⟩:=ha
  obtain⟨_,_,rfl,rfl,⟨_,_,rfl,rfl,⟨_,_,rfl,rfl,rfl⟩⟩⟩:=hb
  refine(pR 9999 Tryz.underlying83 (Gd.cons (by decide) (ig dE rfl _) (ig dE rfl _) (oA Eu _ _ w) (Gd.cons (by decide) (ig dE rfl _) (ig dE rfl _) (oA Eu _ _ w) (Gd.cons (by decide) (ig dE rfl _) (ig dE rfl _) (oA Eu _ _ w) (Gd.cons (by decide) (ig dE rfl _) (ig dE rfl _) (oA Eu _ _ w) Gd.nil))))).trans ?_
  congr 1
  cases a;cases b;unfold lW
  rw [fH]
  simp,by kernel_rfl⟩
theorem MI:gD bB 90:=gQ Tryz.func90
theorem KW:gD bB 44:=gQ Tryz.func44
theorem pI:lS bB 32 2 2:=mV
theorem zJ:lB bB 29 false 1:=ry
theorem A2:Tryz.prog.underlying 29=some (.slice 87):=by kernel_rfl
theorem Cq:tx bB 29 87 6:=AV
theorem oY:lB bB 87 true 6:=ry
theorem Fh:zF bB 87 6:=AW (.agg #[(.int .i64 0),(.int .i64 0),(.int .i64 0),(.int .i64 0),(.int .i64 0),(.bool false)])
theorem yA:lS bB 87 1 2:=mV
theorem Ix:gD bB 31:=gQ Tryz.func31
theorem Dq:lS bB 87 0 0:=mV
theorem Iy:lB bB 77 true 2:=ry
theorem A3:lS bB 77 0 0:=mV
theorem A4:lS bB 77 1 1:=mV
theorem KX:gD bB 32:=gQ Tryz.func32
theorem Fi:gD bB 33:=gQ Tryz.func33
theorem MJ:gD bB 77:=gQ Tryz.func77
theorem MK:gD bB 35:=gQ Tryz.func35
theorem KY:gD bB 18:=gQ Tryz.func18
theorem uJ:lS bB 87 2 3:=mV
theorem wM:lS bB 87 3 4:=mV
theorem ML:gD bB 45:=gQ Tryz.func45
theorem wN:lS bB 32 3 3:=mV
theorem Fj:lB bB 30 false 1:=ry
theorem GY:Tryz.prog.underlying 30=some (.slice 79):=by kernel_rfl
theorem Fk:tx bB 30 79 5:=AV
theorem uK:lB bB 79 true 5:=ry
theorem JW:zF bB 79 5:=AW (.agg #[(.string ⟨#[]⟩),(.string ⟨#[]⟩),(.int .i64 0),(.int .i64 0),(.int .i64 0)])
theorem GZ:lS bB 79 0 0:=mV
theorem G0:lS bB 79 1 1:=mV
theorem Dr:lS bB 79 2 2:=mV
theorem Ds:lS bB 79 3 3:=mV
theorem KZ:xH bB 34 [(0,1),(1,1)] #[(.string ⟨#[]⟩),(.string ⟨#[]⟩)]:=xH.of (.agg #[(.string ⟨#[]⟩),(.string ⟨#[]⟩)]) Tryz.underlying34
theorem Fm:gD bB 17:=gQ Tryz.func17
theorem MM:gD bB 46:=gQ Tryz.func46
theorem K0:gD bB 92:=gQ Tryz.func92
theorem MN:gD bB 47:=gQ Tryz.func47
theorem MO:xH bB 71 [(0,4),(4,1),(5,1),(6,1),(7,1),(8,1),(9,1),(10,1),(11,1)] #[(.slice none 0 0),(.slice none 0 0),(.slice none 0 0),(.slice none 0 0),(.slice none 0 0),(.slice none 0 0),(.slice none 0 0),(.slice none 0 0),(.slice none 0 0),(.slice none 0 0),(.slice none 0 0),(.slice none 0 0)]:=xH.of (.agg #[(.slice none 0 0),(.slice none 0 0),(.slice none 0 0),(.slice none 0 0),(.slice none 0 0),(.slice none 0 0),(.slice none 0 0),(.slice none 0 0),(.slice none 0 0),(.slice none 0 0),(.slice none 0 0),(.slice none 0 0)]) Tryz.underlying71
theorem qV:lS bB 71 0 0:=mV
theorem JX:gD bB 93:=gQ Tryz.func93
theorem G1:tx bB 64 113 1:=AV
theorem G2:zF bB 113 1:=AW (.slice none 0 0)
theorem K1:Tryz.prog.underlying 64=some (.slice 113):=by kernel_rfl
theorem Jm:lB bB 113 false 1:=ry
theorem Jn:gD bB 161:=gQ Tryz.func161
theorem NV:Tryz.prog.underlying 4=some (.bool):=by kernel_rfl
theorem K2:gD bB 162:=gQ Tryz.func162
theorem K3:gD bB 125:=gQ Tryz.func125
theorem K4:gD bB 124:=gQ Tryz.func124
theorem MP:gD bB 94:=gQ Tryz.func94
theorem MQ:gD bB 95:=gQ Tryz.func95
theorem G3:lS bB 71 1 4:=mV
theorem K5:lB bB 64 false 1:=ry
theorem K6:rY bB 64 113 1 24:=rY.of (.slice none 0 0)
theorem G4:gD bB 126:=gQ Tryz.func126
theorem yB:AJ bB 102 3 3 Int Int (0:Int):=⟨by kernel_rfl,(wA.int Eu),xS (.int .i64 0) (fun M=>⟨_,rfl,rfl⟩)⟩
theorem MR:zF bB 28 1:=AW (.slice none 0 0)
theorem MS:rY bB 27 28 1 24:=rY.of (.slice none 0 0)
theorem MT:gD bB 96:=gQ Tryz.func96
theorem wO:lS bB 71 2 5:=mV
theorem Fp:lB bB 65 false 1:=ry
theorem K7:xH bB 171 [(0,1),(1,1),(2,1)] #[(.int .i64 0),(.slice none 0 0),(.slice none 0 0)]:=xH.of (.agg #[(.int .i64 0),(.slice none 0 0),(.slice none 0 0)]) Tryz.underlying171
theorem JY:tx bB 65 171 3:=AV
theorem G5:zF bB 171 3:=AW (.agg #[(.int .i64 0),(.slice none 0 0),(.slice none 0 0)])
theorem MU:rY bB 65 171 3 56:=rY.of (.agg #[(.int .i64 0),(.slice none 0 0),(.slice none 0 0)])
theorem Iz:Tryz.prog.underlying 65=some (.slice 171):=by kernel_rfl
theorem MV:gD bB 48:=gQ Tryz.func48
theorem MW:gD bB 99:=gQ Tryz.func99
theorem Ev:lB bB 171 true 3:=ry
theorem Dt:lS bB 87 4 5:=mV
theorem LU:lB bB 4 false 1:=ry
theorem Ew:lS bB 171 0 0:=mV
theorem Ex:lS bB 171 2 2:=mV
theorem MX:gD bB 98:=gQ Tryz.func98
theorem K8:gD bB 97:=gQ Tryz.func97
theorem Du:lS bB 71 3 6:=mV
theorem JZ:lB bB 66 false 1:=ry
theorem Fq:tx bB 66 68 1:=AV
theorem K9:zF bB 68 1:=AW (.slice none 0 0)
theorem La:rY bB 66 68 1 24:=rY.of (.slice none 0 0)
theorem MY:gD bB 49:=gQ Tryz.func49
theorem Lb:xH bB 204 [(0,1)] #[(.slice none 0 0)]:=xH.of (.agg #[(.slice none 0 0)]) Tryz.underlying204
theorem n9:lS bB 204 0 0:=mV
theorem Lc:gD bB 100:=gQ Tryz.func100
theorem J0:Tryz.prog.underlying 66=some (.slice 68):=by kernel_rfl
theorem G6:gD bB 127:=gQ Tryz.func127
theorem Ld:gD bB 101:=gQ Tryz.func101
theorem Dv:lS bB 71 5 8:=mV
theorem A5:lS bB 71 6 9:=mV
theorem Le:gD bB 102:=gQ Tryz.func102
theorem MZ:LQ bB 73 [(.slice none 0 0),(.slice none 0 0),(.slice none 0 0)]:=⟨(.agg #[(.slice none 0 0),(.slice none 0 0),(.slice none 0 0)]),fun _=>by kernel_rfl,rfl⟩
theorem uL:lS bB 71 4 7:=mV
theorem Dw:lB bB 67 false 1:=ry
theorem J3:Tryz.prog.underlying 67=some (.slice 73):=by kernel_rfl
theorem Dx:lS bB 73 0 0:=mV
theorem Dy:lS bB 73 1 1:=mV
theorem IA:lB bB 73 true 3:=ry
theorem IB:tx bB 67 73 3:=AV
theorem Lg:zF bB 73 3:=AW (.agg #[(.slice none 0 0),(.slice none 0 0),(.slice none 0 0)])
theorem M1:rY bB 67 73 3 72:=rY.of (.agg #[(.slice none 0 0),(.slice none 0 0),(.slice none 0 0)])
theorem G7:zF bB 179 2:=AW (.agg #[(.bool false),(.int .i64 0)])
theorem Lh:gD bB 163:=gQ Tryz.func163
theorem Jo:gD bB 128:=gQ Tryz.func128
theorem G8:xH bB 179 [(0,1),(1,1)] #[(.bool false),(.int .i64 0)]:=xH.of (.agg #[(.bool false),(.int .i64 0)]) Tryz.underlying179
theorem vG:lB bB 179 true 2:=ry
theorem Li:gD bB 103:=gQ Tryz.func103
theorem IC:lS bB 179 0 0:=mV
theorem Ey:lS bB 179 1 1:=mV
theorem Lj:gD bB 104:=gQ Tryz.func104
theorem Dz:lS bB 73 2 2:=mV
theorem zK:rY bB 41 34 2 32:=rY.of (.agg #[(.string ⟨#[]⟩),(.string ⟨#[]⟩)])
theorem yC:lS bB 71 7 10:=mV
theorem G9:lS bB 71 8 11:=mV
theorem Ll:lB bB 69 false 1:=ry
theorem M3:tx bB 69 179 2:=AV
theorem M4:rY bB 69 179 2 16:=rY.of (.agg #[(.bool false),(.int .i64 0)])
theorem M5:gD bB 50:=gQ Tryz.func50
theorem Lm:gD bB 21:=gQ Tryz.func21
theorem Oa:gD bB 8:=gQ Tryz.func8
theorem Ha:AJ bB 52 34 3 aX Int (0:Int):=⟨by kernel_rfl,Ji,xS (.int .i64 0) (fun M=>⟨_,rfl,rfl⟩)⟩
theorem M6:gD bB 9:=gQ Tryz.func9
theorem M7:xH bB 56 [(0,2),(2,1),(3,1)] #[(.slice none 0 0),(.slice none 0 0),(.map none),(.map none)]:=xH.of (.agg #[(.slice none 0 0),(.slice none 0 0),(.map none),(.map none)]) Tryz.underlying56
theorem M8:LQ bB 56 [(.slice none 0 0),(.slice none 0 0),(.map none),(.map none)]:=⟨(.agg #[(.slice none 0 0),(.slice none 0 0),(.map none),(.map none)]),fun _=>by kernel_rfl,rfl⟩
theorem J4:lB bB 56 true 4:=ry
theorem M9:gD bB 22:=gQ Tryz.func22
theorem Na:gD bB 10:=gQ Tryz.func10
theorem DA:lS bB 56 2 3:=mV
theorem J5:lB bB 54 false 1:=ry
theorem Nb:gD bB 24:=gQ Tryz.func24
theorem Nc:gD bB 23:=gQ Tryz.func23
theorem ID:gD bB 11:=gQ Tryz.func11
theorem Nf:gD bB 12:=gQ Tryz.func12
theorem IE:xH bB 43 [(0,1),(1,1),(2,1)] #[(.int .i64 0),(.slice none 0 0),(.slice none 0 0)]:=xH.of (.agg #[(.int .i64 0),(.slice none 0 0),(.slice none 0 0)]) Tryz.underlying43
theorem Hb:tx bB 35 43 3:=AV
theorem IF:zF bB 43 3:=AW (.agg #[(.int .i64 0),(.slice none 0 0),(.slice none 0 0)])
theorem IG:rY bB 35 43 3 56:=rY.of (.agg #[(.int .i64 0),(.slice none 0 0),(.slice none 0 0)])
theorem Ez:Tryz.prog.underlying 101=some (.slice 41):=by kernel_rfl
theorem Cr:tx bB 101 41 1:=AV
theorem Ng:zF bB 41 1:=AW (.slice none 0 0)
theorem Ln:rY bB 101 41 1 24:=rY.of (.slice none 0 0)
theorem Nh:E1 bB 34 (⟨⟨[]⟩,⟨[]⟩⟩:aX):=E1.of (.agg #[(.string ⟨#[]⟩),(.string ⟨#[]⟩)]) (fun M=>(GN M))
theorem Ni:gD bB 62:=gQ Tryz.func62
theorem Nj:gD bB 28:=gQ Tryz.func28
theorem Nk:gD bB 14:=gQ Tryz.func14
theorem Ob:zF bB 9 1:=AW (.string ⟨#[]⟩)
theorem Hc:lS bB 56 1 2:=mV
theorem Lo:lB bB 52 false 1:=ry
theorem J6:lS bB 56 0 0:=mV
theorem Lp:AJ bB 104 9 4 bR Bool (false:Bool):=⟨by kernel_rfl,(wA.str yw),xS (.bool false) (fun M=>⟨_,rfl,rfl⟩)⟩
theorem Nl:gD bB 30:=gQ Tryz.func30
theorem Nm:gD bB 29:=gQ Tryz.func29
theorem Nn:gD bB 64:=gQ Tryz.func64
theorem Np:gD bB 65:=gQ Tryz.func65
theorem Lq:Tryz.prog.underlying 104=some (.map 9 4):=by kernel_rfl
theorem Nq:gD bB 15:=gQ Tryz.func15
theorem Nr:gD bB 16:=gQ Tryz.func16
theorem Oc:gD bB 4:=gQ Tryz.func4
theorem Lr:Tryz.prog.underlying 35=some (.slice 43):=by kernel_rfl
theorem Ns:xH bB 87 [(0,2),(2,1),(3,1),(4,1),(5,1)] #[(.int .i64 0),(.int .i64 0),(.int .i64 0),(.int .i64 0),(.int .i64 0),(.bool false)]:=xH.of (.agg #[(.int .i64 0),(.int .i64 0),(.int .i64 0),(.int .i64 0),(.int .i64 0),(.bool false)]) Tryz.underlying87
theorem LV:gD bB 5:=gQ Tryz.func5
theorem J7:lS bB 43 0 0:=mV
theorem NW:gD bB 6:=gQ Tryz.func6
theorem NX:gD bB 7:=gQ Tryz.func7
def pJ (E:World) (V:List HP) (res:Option ((List (List aJ))×(List aJ)×(List cN)×(List eQ)×(List (List aA))×(List aI)×(List (List Int))×(List bJ)×(List Int)×(List Int)×(List Int)×(List kb))×Int) (v:Value) (w:World):Prop:=Ge res.1 (v = .tuple #[(.pointer none),(vi res.2)]/\Holds E w V) (fun y=>∃(ub0:Nat) (u0_0 u0_1:Value) (u0_2 u0_3:Value) (u0_4 u0_5:Value) (u0_6 u0_7:Value) (u0_8 u0_9:Value) (u0_10 u0_11:Value),v = .tuple #[vp ub0 0,(vi res.2)]/\Holds E w ([bc 71 ub0 [u0_0,u0_1,u0_2,u0_3,u0_4,u0_5,u0_6,u0_7,u0_8,u0_9,u0_10,u0_11],rd u0_0 y.1,rd u0_1 y.2.1,rd u0_2 y.2.2.1,rd u0_3 y.2.2.2.1,own 113 u0_4 y.2.2.2.2.1,rd u0_5 y.2.2.2.2.2.1,rd u0_6 y.2.2.2.2.2.2.1,own 73 u0_7 y.2.2.2.2.2.2.2.1,rd u0_8 y.2.2.2.2.2.2.2.2.1,rd u0_9 y.2.2.2.2.2.2.2.2.2.1,own 3 u0_10 y.2.2.2.2.2.2.2.2.2.2.1,own 179 u0_11 y.2.2.2.2.2.2.2.2.2.2.2]++V))
def lI (E:World) (V:List HP) (res: (List aX)) (v:Value) (w:World):Prop:=Holds E w ([own 34 v res]++V)
def pg (E:World) (V:List HP) (res:aJ) (v:Value) (w:World):Prop:=Holds E w ([rd v res]++V)
def aH (E:World) (V:List HP) (res:Int) (v:Value) (w:World):Prop:=v= (vi res)/\Holds E w V
def bA (E:World) (V:List HP) (res:Bool) (v:Value) (w:World):Prop:=v= (vb res)/\Holds E w V
def dG (E:World) (V:List HP) (res:Int×Bool) (v:Value) (w:World):Prop:=v = .tuple #[(vi res.1),(vb res.2)]/\Holds E w V
def oJ (E:World) (V:List HP) (res: (List bR)) (v:Value) (w:World):Prop:=Holds E w ([own 9 v res]++V)
def lR (E:World) (V:List HP) (res: (List aJ)) (v:Value) (w:World):Prop:=Holds E w ([own 83 v res]++V)
def lf (E:World) (V:List HP) (res: (List Int)) (v:Value) (w:World):Prop:=Holds E w ([own 3 v res]++V)
def lJ (E:World) (V:List HP) (res: (List aA)) (v:Value) (w:World):Prop:=Holds E w ([own 153 v res]++V)
end Go.Gk
namespace Go.Gk
open Go Go.Proofs
def sC (H:Type) (d:DataW H):Nat:=YtjocleflknekmabGreatDoor.Rows.uptoBulk d
def Lt (H:Type) (d:List (DataW H)):Nat:=YtjocleflknekmabGreatDoor.Rows.uptoBulkAll d
theorem dT:UB sC Lt where
  str:=fun H b=>by simp [sC,YtjocleflknekmabGreatDoor.Rows.uptoBulk]
  pos:=fun H d=>by
    unfold sC
    cases d with
    | lit l=>cases l <;> simp [YtjocleflknekmabGreatDoor.Rows.uptoBulk]
    | nil=>simp [YtjocleflknekmabGreatDoor.Rows.uptoBulk]
    | ptr d=>simp [YtjocleflknekmabGreatDoor.Rows.uptoBulk]
    | slice elems spare=>simp [YtjocleflknekmabGreatDoor.Rows.uptoBulk]
    | agg parts=>simp [YtjocleflknekmabGreatDoor.Rows.uptoBulk]
    | iface t d=>simp [YtjocleflknekmabGreatDoor.Rows.uptoBulk]
    | map entries=>simp [YtjocleflknekmabGreatDoor.Rows.uptoBulk]
    | held h=>simp [YtjocleflknekmabGreatDoor.Rows.uptoBulk]
  sl:=fun H e s=>by simp [sC,Lt,YtjocleflknekmabGreatDoor.Rows.uptoBulk]
  ag:=fun H l=>by simp [sC,Lt,YtjocleflknekmabGreatDoor.Rows.uptoBulk]
  nil:=fun H=>by simp [Lt,YtjocleflknekmabGreatDoor.Rows.uptoBulkAll]
  cons:=fun H x l=>by simp [sC,Lt,YtjocleflknekmabGreatDoor.Rows.uptoBulkAll]
theorem H6:gq sC Tryz.prog 9 bR:=Fw dT (by kernel_rfl)
theorem Gg:gq sC Tryz.prog 3 Int:=Fv dT (by kernel_rfl)
theorem Lu:gq sC Tryz.prog 129 cM:=gC dT (fun(x:cM)=>(x.Name,x.Kind,x.bJ)) (fun b=>⟨b.1,b.2.1,b.2.2⟩) (fun b=>rfl) Tryz.underlying129 (dP dT H6 (dP dT Gg (j5 dT Gg))) (fun b=>by simp only [yJ];omega)
theorem Lv:gq sC Tryz.prog 121 (List cM):=jN (e:=129) dT Lu
theorem Lw:gq sC Tryz.prog 123 aL:=gC dT (fun(x:aL)=>(x.Name,x.aS)) (fun b=>⟨b.1,b.2⟩) (fun b=>rfl) Tryz.underlying123 (dP dT H6 (j5 dT Lv)) (fun b=>by simp only [pj];omega)
theorem Nt:gq sC Tryz.prog 22 (List aL):=jN (e:=123) dT Lw
theorem Nu:gq sC Tryz.prog 93 Part:=gC dT (fun(x:Part)=>(x.Name,x.ju)) (fun b=>⟨b.1,b.2⟩) (fun b=>rfl) Tryz.underlying93 (dP dT H6 (j5 dT H6)) (fun b=>by simp only [ED];omega)
theorem Nv:gq sC Tryz.prog 23 (List Part):=jN (e:=93) dT Nu
theorem J9:gq sC Tryz.prog 34 aX:=gC dT (fun(x:aX)=>(x.Part,x.aX)) (fun b=>⟨b.1,b.2⟩) (fun b=>rfl) Tryz.underlying34 (dP dT H6 (j5 dT H6)) (fun b=>by simp only [J8];omega)
theorem Nw:gq sC Tryz.prog 41 (List aX):=jN (e:=34) dT J9
theorem Ny:gq sC Tryz.prog 40 (List bR):=jN (e:=9) dT H6
theorem Nz:gq sC Tryz.prog 59 Net:=gC dT (fun(x:Net)=>(x.Name,x.aS,x.ru)) (fun b=>⟨b.1,b.2.1,b.2.2⟩) (fun b=>rfl) Tryz.underlying59 (dP dT H6 (dP dT Nw (j5 dT Ny))) (fun b=>by simp only [Bc];omega)
theorem NA:gq sC Tryz.prog 24 (List Net):=jN (e:=59) dT Nz
theorem NB:gq sC Tryz.prog 26 bK:=gC dT (fun(x:bK)=>(x.cJ,x.bE)) (fun b=>⟨b.1,b.2⟩) (fun b=>rfl) Tryz.underlying26 (dP dT Nv (j5 dT NA)) (fun b=>by simp only [m9];omega)
theorem NC:gq sC Tryz.prog 83 aJ:=gC dT (fun(x:aJ)=>(x.X0,x.Y0,x.X1,x.Y1)) (fun b=>⟨b.1,b.2.1,b.2.2.1,b.2.2.2⟩) (fun b=>rfl) Tryz.underlying83 (dP dT Gg (dP dT Gg (dP dT Gg (j5 dT Gg)))) (fun b=>by simp only [IK];omega)
theorem Lx:gq sC Tryz.prog 28 (List aJ):=jN (e:=83) dT NC
theorem ND:gq sC Tryz.prog 27 (List (List aJ)):=jN (e:=28) dT Lx
theorem Ly:gq sC Tryz.prog 77 ka:=gC dT (fun(x:ka)=>(x.X,x.Y)) (fun b=>⟨b.1,b.2⟩) (fun b=>rfl) Tryz.underlying77 (dP dT Gg (j5 dT Gg)) (fun b=>by simp only [Hh];omega)
theorem Od:gq sC Tryz.prog 4 Bool:=DD dT (by kernel_rfl)
theorem NF:gq sC Tryz.prog 87 cN:=gC dT (fun(x:cN)=>(x.At,x.eR,x.dD,x.To,x.jJ)) (fun b=>⟨b.1,b.2.1,b.2.2.1,b.2.2.2.1,b.2.2.2.2⟩) (fun b=>rfl) Tryz.underlying87 (dP dT Ly (dP dT Gg (dP dT Gg (dP dT Gg (j5 dT Od))))) (fun b=>by simp only [IL];omega)
theorem NG:gq sC Tryz.prog 29 (List cN):=jN (e:=87) dT NF
theorem NH:gq sC Tryz.prog 79 eQ:=gC dT (fun(x:eQ)=>(x.Part,x.aX,x.eU,x.At)) (fun b=>⟨b.1,b.2.1,b.2.2.1,b.2.2.2⟩) (fun b=>rfl) Tryz.underlying79 (dP dT H6 (dP dT H6 (dP dT Gg (j5 dT Ly)))) (fun b=>by simp only [EE];omega)
theorem NI:gq sC Tryz.prog 30 (List eQ):=jN (e:=79) dT NH
theorem NJ:gq sC Tryz.prog 32 kr:=gC dT (fun(x:kr)=>(x.aO,x.eC,x.bL,x.bM)) (fun b=>⟨b.1,b.2.1,b.2.2.1,b.2.2.2⟩) (fun b=>rfl) Tryz.underlying32 (dP dT ND (dP dT Lx (dP dT NG (j5 dT NI)))) (fun b=>by simp only [Hi];omega)
end Go.Gk
namespace Go.Proofs
open Go.Shelf Go.RowKit Go.Lib Go.Sort
def Tryz.lay68_ren : Go.Shelf.Ren := ⟨fun | 6 => 68 | 15 => 26 | 14 => 114 | 28 => 59 | 29 => 60 | 20 => 139 | 21 => 140 | 22 => 141 | 23 => 142 | 24 => 143 | 25 => 144 | 26 => 145 | 27 => 146 | 46 => 168 | 47 => 106 | 48 => 107 | 49 => 169 | 50 => 170 | 57 => 181 | n => n, fun | 22 => 28 | 24 => 83 | 25 => 127 | 3 => 3 | 39 => 99 | 0 => 0 | 53 => 138 | 55 => 140 | 4 => 4 | 46 => 132 | 45 => 131 | 50 => 90 | 5 => 5 | 9 => 9 | 66 => 183 | 70 => 187 | 76 => 206 | 77 => 207 | n => n, fun | n => n⟩
theorem Tryz.lay68 : Go.Proofs.SlLaysF0.n6 Tryz.prog Tryz.lay68_ren := {
  mixed := by kernel_rfl
  f6 := ⟨Tryz.f68.name, by decide, Tryz.func68.trans (congrArg some (by kernel_rfl))⟩
  f14 := ⟨Tryz.f114.name, by decide, Tryz.func114.trans (congrArg some (by kernel_rfl))⟩
  f15 := Tryz.func26.trans (congrArg some (by kernel_rfl))
  f20 := ⟨Tryz.f139.name, by decide, Tryz.func139.trans (congrArg some (by kernel_rfl))⟩
  f21 := ⟨Tryz.f140.name, by decide, Tryz.func140.trans (congrArg some (by kernel_rfl))⟩
  f22 := ⟨Tryz.f141.name, by decide, Tryz.func141.trans (congrArg some (by kernel_rfl))⟩
  f23 := ⟨Tryz.f142.name, by decide, Tryz.func142.trans (congrArg some (by kernel_rfl))⟩
  f24 := ⟨Tryz.f143.name, by decide, Tryz.func143.trans (congrArg some (by kernel_rfl))⟩
  f25 := ⟨Tryz.f144.name, by decide, Tryz.func144.trans (congrArg some (by kernel_rfl))⟩
  f26 := ⟨Tryz.f145.name, by decide, Tryz.func145.trans (congrArg some (by kernel_rfl))⟩
  f27 := ⟨Tryz.f146.name, by decide, Tryz.func146.trans (congrArg some (by kernel_rfl))⟩
  f28 := Tryz.func59.trans (congrArg some (by kernel_rfl))
  f29 := Tryz.func60.trans (congrArg some (by kernel_rfl))
  f46 := ⟨Tryz.f168.name, by decide, Tryz.func168.trans (congrArg some (by kernel_rfl))⟩
  f47 := Tryz.func106.trans (congrArg some (by kernel_rfl))
  f48 := Tryz.func107.trans (congrArg some (by kernel_rfl))
  f49 := ⟨Tryz.f169.name, by decide, Tryz.func169.trans (congrArg some (by kernel_rfl))⟩
  f50 := ⟨Tryz.f170.name, by decide, Tryz.func170.trans (congrArg some (by kernel_rfl))⟩
  f57 := ⟨Tryz.f181.name, by decide, Tryz.func181.trans (congrArg some (by kernel_rfl))⟩
  t0 := Tryz.underlying0
  a0 := Tryz.isAgg0
  z0 := Tryz.sizeOf0
  v0 := Tryz.zeroValue0
  t3 := Tryz.underlying3
  a3 := Tryz.isAgg3
  z3 := Tryz.sizeOf3
  v3 := Tryz.zeroValue3
  t4 := Tryz.underlying4
  a4 := Tryz.isAgg4
  z4 := Tryz.sizeOf4
  v4 := Tryz.zeroValue4
  t5 := Tryz.underlying5
  a5 := Tryz.isAgg5
  z5 := Tryz.sizeOf5
  v5 := Tryz.zeroValue5
  t9 := Tryz.underlying9
  a9 := Tryz.isAgg9
  z9 := Tryz.sizeOf9
  v9 := Tryz.zeroValue9
  t22 := Tryz.underlying28
  a22 := Tryz.isAgg28
  z22 := Tryz.sizeOf28
  v22 := Tryz.zeroValue28
  t25 := Tryz.underlying127
  a25 := Tryz.isAgg127
  z25 := Tryz.sizeOf127
  v25 := Tryz.zeroValue127
  t39 := Tryz.underlying99
  a39 := Tryz.isAgg99
  z39 := Tryz.sizeOf99
  v39 := Tryz.zeroValue99
  t45 := Tryz.underlying131
  a45 := Tryz.isAgg131
  z45 := Tryz.sizeOf131
  v45 := Tryz.zeroValue131
  t46 := Tryz.underlying132
  a46 := Tryz.isAgg132
  z46 := Tryz.sizeOf132
  v46 := Tryz.zeroValue132
  t50 := Tryz.underlying90
  a50 := Tryz.isAgg90
  z50 := Tryz.sizeOf90
  v50 := Tryz.zeroValue90
  t53 := Tryz.underlying138
  a53 := Tryz.isAgg138
  z53 := Tryz.sizeOf138
  v53 := Tryz.zeroValue138
  t55 := Tryz.underlying140
  a55 := Tryz.isAgg140
  z55 := Tryz.sizeOf140
  v55 := Tryz.zeroValue140
  t66 := Tryz.underlying183
  a66 := Tryz.isAgg183
  z66 := Tryz.sizeOf183
  v66 := Tryz.zeroValue183
  t70 := Tryz.underlying187
  a70 := Tryz.isAgg187
  z70 := Tryz.sizeOf187
  v70 := Tryz.zeroValue187
  t76 := Tryz.underlying206
  a76 := Tryz.isAgg206
  z76 := Tryz.sizeOf206
  v76 := Tryz.zeroValue206
  t77 := Tryz.underlying207
  a77 := Tryz.isAgg207
  z77 := Tryz.sizeOf207
  v77 := Tryz.zeroValue207 }
def Tryz.lay70_ren : Go.Shelf.Ren := ⟨fun | 5 => 70 | 8 => 26 | 7 => 115 | 19 => 59 | 20 => 60 | 10 => 147 | 11 => 148 | 12 => 149 | 13 => 150 | 14 => 151 | 15 => 152 | 16 => 153 | 17 => 154 | 18 => 155 | 30 => 171 | 31 => 106 | 32 => 107 | 33 => 172 | 34 => 173 | 35 => 174 | 40 => 182 | n => n, fun | 23 => 68 | 25 => 3 | 3 => 3 | 32 => 99 | 22 => 68 | 0 => 0 | 44 => 138 | 46 => 140 | 4 => 4 | 36 => 132 | 35 => 131 | 41 => 90 | 5 => 5 | 9 => 9 | 53 => 183 | 57 => 187 | 63 => 206 | 64 => 207 | n => n, fun | n => n⟩
theorem Tryz.lay70 : Go.Proofs.SlLaysM.n5 Tryz.prog Tryz.lay70_ren := {
  mixed := by kernel_rfl
  f5 := ⟨Tryz.f70.name, by decide, Tryz.func70.trans (congrArg some (by kernel_rfl))⟩
  f7 := ⟨Tryz.f115.name, by decide, Tryz.func115.trans (congrArg some (by kernel_rfl))⟩
  f8 := Tryz.func26.trans (congrArg some (by kernel_rfl))
  f10 := ⟨Tryz.f147.name, by decide, Tryz.func147.trans (congrArg some (by kernel_rfl))⟩
  f11 := ⟨Tryz.f148.name, by decide, Tryz.func148.trans (congrArg some (by kernel_rfl))⟩
  f12 := ⟨Tryz.f149.name, by decide, Tryz.func149.trans (congrArg some (by kernel_rfl))⟩
  f13 := ⟨Tryz.f150.name, by decide, Tryz.func150.trans (congrArg some (by kernel_rfl))⟩
  f14 := ⟨Tryz.f151.name, by decide, Tryz.func151.trans (congrArg some (by kernel_rfl))⟩
  f15 := ⟨Tryz.f152.name, by decide, Tryz.func152.trans (congrArg some (by kernel_rfl))⟩
  f16 := ⟨Tryz.f153.name, by decide, Tryz.func153.trans (congrArg some (by kernel_rfl))⟩
  f17 := ⟨Tryz.f154.name, by decide, Tryz.func154.trans (congrArg some (by kernel_rfl))⟩
  f18 := ⟨Tryz.f155.name, by decide, Tryz.func155.trans (congrArg some (by kernel_rfl))⟩
  f19 := Tryz.func59.trans (congrArg some (by kernel_rfl))
  f20 := Tryz.func60.trans (congrArg some (by kernel_rfl))
  f30 := ⟨Tryz.f171.name, by decide, Tryz.func171.trans (congrArg some (by kernel_rfl))⟩
  f31 := Tryz.func106.trans (congrArg some (by kernel_rfl))
  f32 := Tryz.func107.trans (congrArg some (by kernel_rfl))
  f33 := ⟨Tryz.f172.name, by decide, Tryz.func172.trans (congrArg some (by kernel_rfl))⟩
  f34 := ⟨Tryz.f173.name, by decide, Tryz.func173.trans (congrArg some (by kernel_rfl))⟩
  f35 := ⟨Tryz.f174.name, by decide, Tryz.func174.trans (congrArg some (by kernel_rfl))⟩
  f40 := ⟨Tryz.f182.name, by decide, Tryz.func182.trans (congrArg some (by kernel_rfl))⟩
  t0 := Tryz.underlying0
  a0 := Tryz.isAgg0
  z0 := Tryz.sizeOf0
  v0 := Tryz.zeroValue0
  t3 := Tryz.underlying3
  a3 := Tryz.isAgg3
  z3 := Tryz.sizeOf3
  v3 := Tryz.zeroValue3
  t4 := Tryz.underlying4
  a4 := Tryz.isAgg4
  z4 := Tryz.sizeOf4
  v4 := Tryz.zeroValue4
  t5 := Tryz.underlying5
  a5 := Tryz.isAgg5
  z5 := Tryz.sizeOf5
  v5 := Tryz.zeroValue5
  t9 := Tryz.underlying9
  a9 := Tryz.isAgg9
  z9 := Tryz.sizeOf9
  v9 := Tryz.zeroValue9
  t22 := Tryz.underlying68
  a22 := Tryz.isAgg68
  z22 := Tryz.sizeOf68
  v22 := Tryz.zeroValue68
  t23 := Tryz.underlying68
  a23 := Tryz.isAgg68
  z23 := Tryz.sizeOf68
  v23 := Tryz.zeroValue68
  t25 := Tryz.underlying3
  a25 := Tryz.isAgg3
  z25 := Tryz.sizeOf3
  v25 := Tryz.zeroValue3
  t32 := Tryz.underlying99
  a32 := Tryz.isAgg99
  z32 := Tryz.sizeOf99
  v32 := Tryz.zeroValue99
  t35 := Tryz.underlying131
  a35 := Tryz.isAgg131
  z35 := Tryz.sizeOf131
  v35 := Tryz.zeroValue131
  t36 := Tryz.underlying132
  a36 := Tryz.isAgg132
  z36 := Tryz.sizeOf132
  v36 := Tryz.zeroValue132
  t41 := Tryz.underlying90
  a41 := Tryz.isAgg90
  z41 := Tryz.sizeOf90
  v41 := Tryz.zeroValue90
  t44 := Tryz.underlying138
  a44 := Tryz.isAgg138
  z44 := Tryz.sizeOf138
  v44 := Tryz.zeroValue138
  t46 := Tryz.underlying140
  a46 := Tryz.isAgg140
  z46 := Tryz.sizeOf140
  v46 := Tryz.zeroValue140
  t53 := Tryz.underlying183
  a53 := Tryz.isAgg183
  z53 := Tryz.sizeOf183
  v53 := Tryz.zeroValue183
  t57 := Tryz.underlying187
  a57 := Tryz.isAgg187
  z57 := Tryz.sizeOf187
  v57 := Tryz.zeroValue187
  t63 := Tryz.underlying206
  a63 := Tryz.isAgg206
  z63 := Tryz.sizeOf206
  v63 := Tryz.zeroValue206
  t64 := Tryz.underlying207
  a64 := Tryz.isAgg207
  z64 := Tryz.sizeOf207
  v64 := Tryz.zeroValue207 }
def Tryz.lay12_ren : Go.Shelf.Ren := ⟨fun | 6 => 12 | 15 => 26 | 14 => 25 | 28 => 59 | 29 => 60 | 20 => 51 | 21 => 52 | 22 => 53 | 23 => 54 | 24 => 55 | 25 => 56 | 26 => 57 | 27 => 58 | 46 => 105 | 47 => 106 | 48 => 107 | 49 => 108 | 50 => 109 | 57 => 129 | n => n, fun | 22 => 41 | 24 => 34 | 25 => 62 | 3 => 3 | 39 => 99 | 0 => 0 | 53 => 138 | 55 => 140 | 4 => 4 | 46 => 132 | 45 => 131 | 50 => 90 | 5 => 5 | 9 => 9 | 66 => 183 | 70 => 187 | 76 => 206 | 77 => 207 | n => n, fun | n => n⟩
theorem Tryz.lay12 : Go.Proofs.SlLaysF0.n6 Tryz.prog Tryz.lay12_ren := {
  mixed := by kernel_rfl
  f6 := ⟨Tryz.f12.name, by decide, Tryz.func12.trans (congrArg some (by kernel_rfl))⟩
  f14 := ⟨Tryz.f25.name, by decide, Tryz.func25.trans (congrArg some (by kernel_rfl))⟩
  f15 := Tryz.func26.trans (congrArg some (by kernel_rfl))
  f20 := ⟨Tryz.f51.name, by decide, Tryz.func51.trans (congrArg some (by kernel_rfl))⟩
  f21 := ⟨Tryz.f52.name, by decide, Tryz.func52.trans (congrArg some (by kernel_rfl))⟩
  f22 := ⟨Tryz.f53.name, by decide, Tryz.func53.trans (congrArg some (by kernel_rfl))⟩
  f23 := ⟨Tryz.f54.name, by decide, Tryz.func54.trans (congrArg some (by kernel_rfl))⟩
  f24 := ⟨Tryz.f55.name, by decide, Tryz.func55.trans (congrArg some (by kernel_rfl))⟩
  f25 := ⟨Tryz.f56.name, by decide, Tryz.func56.trans (congrArg some (by kernel_rfl))⟩
  f26 := ⟨Tryz.f57.name, by decide, Tryz.func57.trans (congrArg some (by kernel_rfl))⟩
  f27 := ⟨Tryz.f58.name, by decide, Tryz.func58.trans (congrArg some (by kernel_rfl))⟩
  f28 := Tryz.func59.trans (congrArg some (by kernel_rfl))
  f29 := Tryz.func60.trans (congrArg some (by kernel_rfl))
  f46 := ⟨Tryz.f105.name, by decide, Tryz.func105.trans (congrArg some (by kernel_rfl))⟩
  f47 := Tryz.func106.trans (congrArg some (by kernel_rfl))
  f48 := Tryz.func107.trans (congrArg some (by kernel_rfl))
  f49 := ⟨Tryz.f108.name, by decide, Tryz.func108.trans (congrArg some (by kernel_rfl))⟩
  f50 := ⟨Tryz.f109.name, by decide, Tryz.func109.trans (congrArg some (by kernel_rfl))⟩
  f57 := ⟨Tryz.f129.name, by decide, Tryz.func129.trans (congrArg some (by kernel_rfl))⟩
  t0 := Tryz.underlying0
  a0 := Tryz.isAgg0
  z0 := Tryz.sizeOf0
  v0 := Tryz.zeroValue0
  t3 := Tryz.underlying3
  a3 := Tryz.isAgg3
  z3 := Tryz.sizeOf3
  v3 := Tryz.zeroValue3
  t4 := Tryz.underlying4
  a4 := Tryz.isAgg4
  z4 := Tryz.sizeOf4
  v4 := Tryz.zeroValue4
  t5 := Tryz.underlying5
  a5 := Tryz.isAgg5
  z5 := Tryz.sizeOf5
  v5 := Tryz.zeroValue5
  t9 := Tryz.underlying9
  a9 := Tryz.isAgg9
  z9 := Tryz.sizeOf9
  v9 := Tryz.zeroValue9
  t22 := Tryz.underlying41
  a22 := Tryz.isAgg41
  z22 := Tryz.sizeOf41
  v22 := Tryz.zeroValue41
  t25 := Tryz.underlying62
  a25 := Tryz.isAgg62
  z25 := Tryz.sizeOf62
  v25 := Tryz.zeroValue62
  t39 := Tryz.underlying99
  a39 := Tryz.isAgg99
  z39 := Tryz.sizeOf99
  v39 := Tryz.zeroValue99
  t45 := Tryz.underlying131
  a45 := Tryz.isAgg131
  z45 := Tryz.sizeOf131
  v45 := Tryz.zeroValue131
  t46 := Tryz.underlying132
  a46 := Tryz.isAgg132
  z46 := Tryz.sizeOf132
  v46 := Tryz.zeroValue132
  t50 := Tryz.underlying90
  a50 := Tryz.isAgg90
  z50 := Tryz.sizeOf90
  v50 := Tryz.zeroValue90
  t53 := Tryz.underlying138
  a53 := Tryz.isAgg138
  z53 := Tryz.sizeOf138
  v53 := Tryz.zeroValue138
  t55 := Tryz.underlying140
  a55 := Tryz.isAgg140
  z55 := Tryz.sizeOf140
  v55 := Tryz.zeroValue140
  t66 := Tryz.underlying183
  a66 := Tryz.isAgg183
  z66 := Tryz.sizeOf183
  v66 := Tryz.zeroValue183
  t70 := Tryz.underlying187
  a70 := Tryz.isAgg187
  z70 := Tryz.sizeOf187
  v70 := Tryz.zeroValue187
  t76 := Tryz.underlying206
  a76 := Tryz.isAgg206
  z76 := Tryz.sizeOf206
  v76 := Tryz.zeroValue206
  t77 := Tryz.underlying207
  a77 := Tryz.isAgg207
  z77 := Tryz.sizeOf207
  v77 := Tryz.zeroValue207 }
def Tryz.lay30_ren : Go.Shelf.Ren := ⟨fun | 7 => 30 | 10 => 65 | n => n, fun | 23 => 104 | 26 => 9 | 3 => 4 | 28 => 107 | 0 => 0 | 27 => 106 | 33 => 117 | 4 => 4 | n => n, fun | n => n⟩
theorem Tryz.lay30 : Go.Proofs.SlLaysZ.n7 Tryz.prog Tryz.lay30_ren := {
  mixed := by kernel_rfl
  f7 := ⟨Tryz.f30.name, by decide, Tryz.func30.trans (congrArg some (by kernel_rfl))⟩
  f10 := ⟨Tryz.f65.name, by decide, Tryz.func65.trans (congrArg some (by kernel_rfl))⟩
  t0 := Tryz.underlying0
  a0 := Tryz.isAgg0
  z0 := Tryz.sizeOf0
  v0 := Tryz.zeroValue0
  t4 := Tryz.underlying4
  a4 := Tryz.isAgg4
  z4 := Tryz.sizeOf4
  v4 := Tryz.zeroValue4
  t23 := Tryz.underlying104
  a23 := Tryz.isAgg104
  z23 := Tryz.sizeOf104
  v23 := Tryz.zeroValue104
  t26 := Tryz.underlying9
  a26 := Tryz.isAgg9
  z26 := Tryz.sizeOf9
  v26 := Tryz.zeroValue9
  t27 := Tryz.underlying106
  a27 := Tryz.isAgg106
  z27 := Tryz.sizeOf106
  v27 := Tryz.zeroValue106
  t28 := Tryz.underlying107
  a28 := Tryz.isAgg107
  z28 := Tryz.sizeOf107
  v28 := Tryz.zeroValue107
  t33 := Tryz.underlying117
  a33 := Tryz.isAgg117
  z33 := Tryz.sizeOf117
  v33 := Tryz.zeroValue117 }
def Tryz.lay29_ren : Go.Shelf.Ren := ⟨fun | 6 => 29 | 8 => 63 | 9 => 64 | 11 => 111 | 13 => 26 | 12 => 112 | 23 => 59 | 24 => 60 | 14 => 130 | 15 => 131 | 16 => 132 | 17 => 133 | 18 => 134 | 19 => 135 | 20 => 136 | 21 => 137 | 22 => 138 | 25 => 164 | 26 => 106 | 27 => 107 | 28 => 165 | 29 => 166 | 30 => 167 | 31 => 180 | n => n, fun | 26 => 9 | 28 => 107 | 24 => 40 | 0 => 0 | 3 => 3 | 37 => 99 | 48 => 138 | 50 => 140 | 4 => 4 | 40 => 132 | 39 => 131 | 45 => 90 | 5 => 5 | 9 => 9 | 51 => 183 | 55 => 187 | 57 => 206 | 58 => 207 | 33 => 117 | n => n, fun | n => n⟩
theorem Tryz.lay29 : Go.Proofs.SlLaysZ.n6 Tryz.prog Tryz.lay29_ren := {
  mixed := by kernel_rfl
  f6 := ⟨Tryz.f29.name, by decide, Tryz.func29.trans (congrArg some (by kernel_rfl))⟩
  f8 := ⟨Tryz.f63.name, by decide, Tryz.func63.trans (congrArg some (by kernel_rfl))⟩
  f11 := ⟨Tryz.f111.name, by decide, Tryz.func111.trans (congrArg some (by kernel_rfl))⟩
  t0 := Tryz.underlying0
  a0 := Tryz.isAgg0
  z0 := Tryz.sizeOf0
  v0 := Tryz.zeroValue0
  t24 := Tryz.underlying40
  a24 := Tryz.isAgg40
  z24 := Tryz.sizeOf40
  v24 := Tryz.zeroValue40
  t26 := Tryz.underlying9
  a26 := Tryz.isAgg9
  z26 := Tryz.sizeOf9
  v26 := Tryz.zeroValue9
  t28 := Tryz.underlying107
  a28 := Tryz.isAgg107
  z28 := Tryz.sizeOf107
  v28 := Tryz.zeroValue107
  i26 := by kernel_rfl }
def Tryz.lay64_ren : Go.Shelf.Ren := ⟨fun | 6 => 64 | 8 => 26 | 9 => 112 | 19 => 59 | 20 => 60 | 21 => 130 | 22 => 131 | 23 => 132 | 24 => 133 | 25 => 134 | 26 => 135 | 27 => 136 | 28 => 137 | 29 => 138 | 36 => 164 | 31 => 106 | 32 => 107 | 37 => 165 | 38 => 166 | 39 => 167 | 41 => 180 | n => n, fun | 27 => 40 | 29 => 9 | 3 => 3 | 32 => 99 | 26 => 40 | 0 => 0 | 44 => 138 | 46 => 140 | 4 => 4 | 36 => 132 | 35 => 131 | 41 => 90 | 5 => 5 | 9 => 9 | 53 => 183 | 57 => 187 | 63 => 206 | 64 => 207 | n => n, fun | n => n⟩
theorem Tryz.lay64 : Go.Proofs.SlLaysM.n6 Tryz.prog Tryz.lay64_ren := {
  mixed := by kernel_rfl
  f6 := ⟨Tryz.f64.name, by decide, Tryz.func64.trans (congrArg some (by kernel_rfl))⟩
  f8 := Tryz.func26.trans (congrArg some (by kernel_rfl))
  f9 := ⟨Tryz.f112.name, by decide, Tryz.func112.trans (congrArg some (by kernel_rfl))⟩
  f19 := Tryz.func59.trans (congrArg some (by kernel_rfl))
  f20 := Tryz.func60.trans (congrArg some (by kernel_rfl))
  f21 := ⟨Tryz.f130.name, by decide, Tryz.func130.trans (congrArg some (by kernel_rfl))⟩
  f22 := ⟨Tryz.f131.name, by decide, Tryz.func131.trans (congrArg some (by kernel_rfl))⟩
  f23 := ⟨Tryz.f132.name, by decide, Tryz.func132.trans (congrArg some (by kernel_rfl))⟩
  f24 := ⟨Tryz.f133.name, by decide, Tryz.func133.trans (congrArg some (by kernel_rfl))⟩
  f25 := ⟨Tryz.f134.name, by decide, Tryz.func134.trans (congrArg some (by kernel_rfl))⟩
  f26 := ⟨Tryz.f135.name, by decide, Tryz.func135.trans (congrArg some (by kernel_rfl))⟩
  f27 := ⟨Tryz.f136.name, by decide, Tryz.func136.trans (congrArg some (by kernel_rfl))⟩
  f28 := ⟨Tryz.f137.name, by decide, Tryz.func137.trans (congrArg some (by kernel_rfl))⟩
  f29 := ⟨Tryz.f138.name, by decide, Tryz.func138.trans (congrArg some (by kernel_rfl))⟩
  f31 := Tryz.func106.trans (congrArg some (by kernel_rfl))
  f32 := Tryz.func107.trans (congrArg some (by kernel_rfl))
  f36 := ⟨Tryz.f164.name, by decide, Tryz.func164.trans (congrArg some (by kernel_rfl))⟩
  f37 := ⟨Tryz.f165.name, by decide, Tryz.func165.trans (congrArg some (by kernel_rfl))⟩
  f38 := ⟨Tryz.f166.name, by decide, Tryz.func166.trans (congrArg some (by kernel_rfl))⟩
  f39 := ⟨Tryz.f167.name, by decide, Tryz.func167.trans (congrArg some (by kernel_rfl))⟩
  f41 := ⟨Tryz.f180.name, by decide, Tryz.func180.trans (congrArg some (by kernel_rfl))⟩
  t0 := Tryz.underlying0
  a0 := Tryz.isAgg0
  z0 := Tryz.sizeOf0
  v0 := Tryz.zeroValue0
  t3 := Tryz.underlying3
  a3 := Tryz.isAgg3
  z3 := Tryz.sizeOf3
  v3 := Tryz.zeroValue3
  t4 := Tryz.underlying4
  a4 := Tryz.isAgg4
  z4 := Tryz.sizeOf4
  v4 := Tryz.zeroValue4
  t5 := Tryz.underlying5
  a5 := Tryz.isAgg5
  z5 := Tryz.sizeOf5
  v5 := Tryz.zeroValue5
  t9 := Tryz.underlying9
  a9 := Tryz.isAgg9
  z9 := Tryz.sizeOf9
  v9 := Tryz.zeroValue9
  t26 := Tryz.underlying40
  a26 := Tryz.isAgg40
  z26 := Tryz.sizeOf40
  v26 := Tryz.zeroValue40
  t27 := Tryz.underlying40
  a27 := Tryz.isAgg40
  z27 := Tryz.sizeOf40
  v27 := Tryz.zeroValue40
  t29 := Tryz.underlying9
  a29 := Tryz.isAgg9
  z29 := Tryz.sizeOf9
  v29 := Tryz.zeroValue9
  t32 := Tryz.underlying99
  a32 := Tryz.isAgg99
  z32 := Tryz.sizeOf99
  v32 := Tryz.zeroValue99
  t35 := Tryz.underlying131
  a35 := Tryz.isAgg131
  z35 := Tryz.sizeOf131
  v35 := Tryz.zeroValue131
  t36 := Tryz.underlying132
  a36 := Tryz.isAgg132
  z36 := Tryz.sizeOf132
  v36 := Tryz.zeroValue132
  t41 := Tryz.underlying90
  a41 := Tryz.isAgg90
  z41 := Tryz.sizeOf90
  v41 := Tryz.zeroValue90
  t44 := Tryz.underlying138
  a44 := Tryz.isAgg138
  z44 := Tryz.sizeOf138
  v44 := Tryz.zeroValue138
  t46 := Tryz.underlying140
  a46 := Tryz.isAgg140
  z46 := Tryz.sizeOf140
  v46 := Tryz.zeroValue140
  t53 := Tryz.underlying183
  a53 := Tryz.isAgg183
  z53 := Tryz.sizeOf183
  v53 := Tryz.zeroValue183
  t57 := Tryz.underlying187
  a57 := Tryz.isAgg187
  z57 := Tryz.sizeOf187
  v57 := Tryz.zeroValue187
  t63 := Tryz.underlying206
  a63 := Tryz.isAgg206
  z63 := Tryz.sizeOf206
  v63 := Tryz.zeroValue206
  t64 := Tryz.underlying207
  a64 := Tryz.isAgg207
  z64 := Tryz.sizeOf207
  v64 := Tryz.zeroValue207 }
end Go.Proofs
namespace Go.Gk
open Go Go.Proofs
variable (N:Nat) {E w:World} {i0 i1:Nat} {p1 p2 p3 res:Int} {v0 v1 v2:Value} {V:List HP}
theorem lX {p0:bR} (o:Holds E w V) (j:gJ N p0 p1=some res):
    Calls bB 156 [(str p0),(.int .u8 p1)].toArray w (gr (aH E V res)):=by
 unfold gJ at j
 refine enter Tryz.func156 zr zr (RC.sr (aM (vi 0) (RL.ns (mv (str p0) (mv (.int .u8 p1) (RL.yd (vi (Lib.indexByte p0.cB (Int.toNat p1).toUInt8)) zr [(str p0),(.int .u8 p1)] zr (Me p0 p1 w) (aM (vi (Lib.indexByte p0.cB (Int.toNat p1).toUInt8)) (RL.nt ?_))))))))
 refine RC.ret ?_
 obtain rfl:=oi j
 exact bU ⟨rfl,o.drop 0⟩
theorem sD {p0:bR} (o:Holds E w V) (j:ij N p0 p1=some res):
    Calls bB 119 [(str p0),(.int .u8 p1)].toArray w (gr (aH E V res)):=by
 unfold ij at j
 refine enter Tryz.func119 zr zr (RC.sr (aM (vi 0) (RL.ns (mv (str p0) (mv (.int .u8 p1) ?_)))))
 obtain⟨aa,ab,j⟩:=bd j
 refine RL.call zt zr Jf [(str p0),(.int .u8 p1)] zr (aF (lX N (p0:=p0) (p1:=p1) o ab) ?_)
 rintro _ w ⟨rfl,o⟩
 refine aM (vi aa) (RL.nt (RC.ret ?_))
 obtain rfl:=oi j
 exact bU ⟨rfl,o.drop 0⟩
def wP (E:World) (V:List HP) (r:Bool) (U:Nat->Value) (w:World):Prop:=mu bB 49 Tryz.f78 (bA E V r) .ret U w
theorem kP {p0:bR} {res:Bool} (hw:Holds E w V) (o:fM N p0=some res):
    Calls bB 78 [(str p0)].toArray w (gr (bA E V res)):=by
 unfold fM at o
 refine enter Tryz.func78 zr zr (RC.sr (aM (vb false) (RL.nq (RC.sr (mv (str p0) (RL.lens p0 yw (mv (vi 0) (RL.nt ?_))))))))
 obtain⟨ar,hN,o⟩:=bd o
 refine RC.range (fun(ab:Nat) (af:Unit)=>SH E V [(0,(str p0)),(6,vi p0.cB.length),(7,vi ab)] []) (fun(af:Unit)=>SH E V [(0,(str p0))] []) (wP E V) hN ?_ ?_ ?_ ?_ ?_
 ·exact hw.sp 0 []
 ·rintro hm af _ w ⟨O,rfl,hw⟩
  refine RC.sr (ic ((p0.cB.length:Int)) ((p0.cB.length:Int)) (RL.nq (RC.cP mz (RC.ex ?_))))
  exact⟨rfl,hw.sp 0 []⟩
 ·rintro hm ab af fl _ w hk ⟨O,rfl,hw⟩ o
  refine RC.sr (ic ((ab:Int)) ((p0.cB.length:Int)) (RL.nq (RC.cO (my hk) (RC.ss (RC.bs (mv (vi ab) (aM (vi ab) (RL.ns ?_))))))))
  refine mv (str p0) (mv (vi ab) ?_)
  obtain⟨j,al,o⟩:=bd o
  refine RL.idxs p0 (ab:Int) j zr zr zr yw al (aM (.int .u8 (j.toNat:Int)) (RL.nq ?_))
  obtain⟨ag,hj,o⟩:=bd o
  refine RC.jn (fun(ag:Bool)=>SH E V [(0,(str p0)),(6,vi p0.cB.length),(7,vi ab),(39,vb ag)] []) ag ?_ ?_
  ·refine RC.region (mv (.int .u8 (j.toNat:Int)) (ic ((j.toNat:Int)) 65 (mv (vb (decide ((j.toNat:Int)<65))) (RL.gs true (decide ((j.toNat:Int)<65)) (.int .u8 (j.toNat:Int)) rfl rfl rfl dQ (RL.gs true (decide ((j.toNat:Int)<65)) (vb (decide ((j.toNat:Int)>90))) rfl rfl rfl (eM .gtr .u8 (j.toNat:Int) 90 rfl (fun h=>by exact(dI h:cv (true&&((decide ((j.toNat:Int)<65))==false)) (.int .u8 (j.toNat:Int))= (.int .u8 (j.toNat:Int)))) (fun _=>rfl) rfl) (RL.pick (decide ((j.toNat:Int)<65)) (vb ((decide ((j.toNat:Int)<65))||(decide ((j.toNat:Int)>90)))) (nz true) (mv (vb ((decide ((j.toNat:Int)<65))||(decide ((j.toNat:Int)>90)))) (RL.gs true ((decide ((j.toNat:Int)<65))||(decide ((j.toNat:Int)>90))) (.int .u8 (j.toNat:Int)) rfl rfl rfl dQ ?_))))))))
   refine RL.gs true ((decide ((j.toNat:Int)<65))||(decide ((j.toNat:Int)>90))) (vb (decide ((j.toNat:Int)<97))) rfl rfl rfl (eM .lss .u8 (j.toNat:Int) 97 rfl (fun h=>by exact(dI h:cv (true&&(((decide ((j.toNat:Int)<65))||(decide ((j.toNat:Int)>90)))==true)) (.int .u8 (j.toNat:Int))= (.int .u8 (j.toNat:Int)))) (fun _=>rfl) rfl) (RL.gs true ((decide ((j.toNat:Int)<65))||(decide ((j.toNat:Int)>90))) (vb (decide ((j.toNat:Int)<97))) rfl rfl rfl (dQ (hx:=fun h=>by exact(dI h:cv (true&&(((decide ((j.toNat:Int)<65))||(decide ((j.toNat:Int)>90)))==true)) (vb (decide ((j.toNat:Int)<97)))= (vb (decide ((j.toNat:Int)<97)))))) (RL.gs (true&&(((decide ((j.toNat:Int)<65))||(decide ((j.toNat:Int)>90)))==true)) (decide ((j.toNat:Int)<97)) (.int .u8 (j.toNat:Int)) rfl rfl rfl dQ (RL.gs (true&&(((decide ((j.toNat:Int)<65))||(decide ((j.toNat:Int)>90)))==true)) (decide ((j.toNat:Int)<97)) (vb (decide ((j.toNat:Int)>122))) rfl rfl rfl (eM .gtr .u8 (j.toNat:Int) 122 rfl (fun h=>by exact(dI h:cv ((true&&(((decide ((j.toNat:Int)<65))||(decide ((j.toNat:Int)>90)))==true))&&((decide ((j.toNat:Int)<97))==false)) (.int .u8 (j.toNat:Int))= (.int .u8 (j.toNat:Int)))) (fun _=>rfl) rfl) (RL.gs true ((decide ((j.toNat:Int)<65))||(decide ((j.toNat:Int)>90))) (vb ((decide ((j.toNat:Int)<97))||(decide ((j.toNat:Int)>122)))) rfl rfl rfl (tz (decide ((j.toNat:Int)<97)) rfl (fun h=>by exact(dI h:cv (true&&(((decide ((j.toNat:Int)<65))||(decide ((j.toNat:Int)>90)))==true)) (vb (decide ((j.toNat:Int)<97)))= (vb (decide ((j.toNat:Int)<97))))) (fun h=>by exact nz (h:=h) (true&&(((decide ((j.toNat:Int)<65))||(decide ((j.toNat:Int)>90)))==true)))) (RL.pick ((decide ((j.toNat:Int)<65))||(decide ((j.toNat:Int)>90))) (vb (((decide ((j.toNat:Int)<65))||(decide ((j.toNat:Int)>90)))&&((decide ((j.toNat:Int)<97))||(decide ((j.toNat:Int)>122))))) (kg true) (mv (vb (((decide ((j.toNat:Int)<65))||(decide ((j.toNat:Int)>90)))&&((decide ((j.toNat:Int)<97))||(decide ((j.toNat:Int)>122))))) (RL.gs true (((decide ((j.toNat:Int)<65))||(decide ((j.toNat:Int)>90)))&&((decide ((j.toNat:Int)<97))||(decide ((j.toNat:Int)>122)))) (.int .u8 (j.toNat:Int)) rfl rfl rfl dQ (RL.gs true (((decide ((j.toNat:Int)<65))||(decide ((j.toNat:Int)>90)))&&((decide ((j.toNat:Int)<97))||(decide ((j.toNat:Int)>122)))) (vb (decide ((j.toNat:Int)<48))) rfl rfl rfl (eM .lss .u8 (j.toNat:Int) 48 rfl (fun h=>by exact(dI h:cv (true&&((((decide ((j.toNat:Int)<65))||(decide ((j.toNat:Int)>90)))&&((decide ((j.toNat:Int)<97))||(decide ((j.toNat:Int)>122))))==true)) (.int .u8 (j.toNat:Int))= (.int .u8 (j.toNat:Int)))) (fun _=>rfl) rfl) ?_))))))))
   refine RL.gs true (((decide ((j.toNat:Int)<65))||(decide ((j.toNat:Int)>90)))&&((decide ((j.toNat:Int)<97))||(decide ((j.toNat:Int)>122)))) (vb (decide ((j.toNat:Int)<48))) rfl rfl rfl (dQ (hx:=fun h=>by exact(dI h:cv (true&&((((decide ((j.toNat:Int)<65))||(decide ((j.toNat:Int)>90)))&&((decide ((j.toNat:Int)<97))||(decide ((j.toNat:Int)>122))))==true)) (vb (decide ((j.toNat:Int)<48)))= (vb (decide ((j.toNat:Int)<48)))))) (RL.gs (true&&((((decide ((j.toNat:Int)<65))||(decide ((j.toNat:Int)>90)))&&((decide ((j.toNat:Int)<97))||(decide ((j.toNat:Int)>122))))==true)) (decide ((j.toNat:Int)<48)) (.int .u8 (j.toNat:Int)) rfl rfl rfl dQ (RL.gs (true&&((((decide ((j.toNat:Int)<65))||(decide ((j.toNat:Int)>90)))&&((decide ((j.toNat:Int)<97))||(decide ((j.toNat:Int)>122))))==true)) (decide ((j.toNat:Int)<48)) (vb (decide ((j.toNat:Int)>57))) rfl rfl rfl (eM .gtr .u8 (j.toNat:Int) 57 rfl (fun h=>by exact(dI h:cv ((true&&((((decide ((j.toNat:Int)<65))||(decide ((j.toNat:Int)>90)))&&((decide ((j.toNat:Int)<97))||(decide ((j.toNat:Int)>122))))==true))&&((decide ((j.toNat:Int)<48))==false)) (.int .u8 (j.toNat:Int))= (.int .u8 (j.toNat:Int)))) (fun _=>rfl) rfl) (RL.gs true (((decide ((j.toNat:Int)<65))||(decide ((j.toNat:Int)>90)))&&((decide ((j.toNat:Int)<97))||(decide ((j.toNat:Int)>122)))) (vb ((decide ((j.toNat:Int)<48))||(decide ((j.toNat:Int)>57)))) rfl rfl rfl (tz (decide ((j.toNat:Int)<48)) rfl (fun h=>by exact(dI h:cv (true&&((((decide ((j.toNat:Int)<65))||(decide ((j.toNat:Int)>90)))&&((decide ((j.toNat:Int)<97))||(decide ((j.toNat:Int)>122))))==true)) (vb (decide ((j.toNat:Int)<48)))= (vb (decide ((j.toNat:Int)<48))))) (fun h=>by exact nz (h:=h) (true&&((((decide ((j.toNat:Int)<65))||(decide ((j.toNat:Int)>90)))&&((decide ((j.toNat:Int)<97))||(decide ((j.toNat:Int)>122))))==true)))) (RL.pick (((decide ((j.toNat:Int)<65))||(decide ((j.toNat:Int)>90)))&&((decide ((j.toNat:Int)<97))||(decide ((j.toNat:Int)>122)))) (vb ((((decide ((j.toNat:Int)<65))||(decide ((j.toNat:Int)>90)))&&((decide ((j.toNat:Int)<97))||(decide ((j.toNat:Int)>122))))&&((decide ((j.toNat:Int)<48))||(decide ((j.toNat:Int)>57))))) (kg true) (mv (vb ((((decide ((j.toNat:Int)<65))||(decide ((j.toNat:Int)>90)))&&((decide ((j.toNat:Int)<97))||(decide ((j.toNat:Int)>122))))&&((decide ((j.toNat:Int)<48))||(decide ((j.toNat:Int)>57))))) (gZ hj (fun ad hj=>?_) fun ad hj=>?_))))))
   rotate_left
   ·refine bZ ad (bZ ad (bZ ad (g9 ad (vb false) (RL.nil ?_))))
    obtain rfl:=oi hj
    exact⟨rfl,hw.sp 0 []⟩
   refine RL.move (.int .u8 (j.toNat:Int)) (cg ad) ?_
   obtain⟨aj,an,hj⟩:=bd hj
   refine RL.call (cg ad) zr KA [(str ⟨[95,43,45,35]⟩),(.int .u8 (j.toNat:Int))] zr (aF (sD N (p0:=⟨[95,43,45,35]⟩) (p1:=(j.toNat:Int)) hw an) ?_)
   rintro _ w ⟨rfl,hw⟩
   refine RL.kI aj 0 (cg ad) (g9 ad (vb (decide (aj<0))) (RL.nil ?_))
   obtain rfl:=oi hj
   exact⟨rfl,hw.sp 0 []⟩
  rintro _ w ⟨O,rfl,hw⟩
  refine aG (eH o (fun hc o=>?_) fun hc o=>?_)
  rotate_left
  ·refine RC.skip (bO (aG (RC.region (RL.inc hk hm (mv (vi ((ab+1:Nat):Int)) (RL.nil ?_))))))
   obtain rfl:=oi o
   exact⟨rfl,hw.sp 0 []⟩
  refine RC.sr (aM (vb false) (RL.nt (RC.rb (bN ?_))))
  obtain rfl:=oi o
  exact⟨rfl,bU ⟨rfl,hw.drop 0⟩⟩
 ·intro r U w e hK
  subst e
  refine bN ?_
  obtain rfl:=oi o
  exact hK
 rintro af _ w rfl ⟨O,rfl,hw⟩
 rw [Fo.fW] at o
 refine aG (RC.sr (mv (str p0) (RL.lens p0 yw (ic ((p0.cB.length:Int)) 1 (mv (vb (decide ((p0.cB.length:Int)>=1))) (RL.gs true (decide ((p0.cB.length:Int)>=1)) (str p0) rfl rfl rfl dQ (RL.gs true (decide ((p0.cB.length:Int)>=1)) (vi p0.cB.length) rfl rfl rfl (H9 (s:=p0) rfl (fun h=>by exact(dI h:cv (true&&((decide ((p0.cB.length:Int)>=1))==true)) (str p0)= (str p0))) yw) (RL.gs true (decide ((p0.cB.length:Int)>=1)) (vb (decide ((p0.cB.length:Int)<=40))) rfl rfl rfl (eM .leq .i64 (p0.cB.length:Int) 40 rfl (fun h=>by exact(dI h:cv (true&&((decide ((p0.cB.length:Int)>=1))==true)) (vi p0.cB.length)= (vi p0.cB.length))) (fun _=>rfl) rfl) ?_))))))))
 refine RL.pick (decide ((p0.cB.length:Int)>=1)) (vb ((decide ((p0.cB.length:Int)>=1))&&(decide ((p0.cB.length:Int)<=40)))) (kg true) (aM (vb ((decide ((p0.cB.length:Int)>=1))&&(decide ((p0.cB.length:Int)<=40)))) (RL.nt (RC.ret ?_)))
 obtain rfl:=oi o
 exact bU ⟨rfl,hw.drop 0⟩
theorem qc {p0 p1:cM} {res:Bool} (j:Holds E w V) (h0:V[i0]? =some (rd v0 p0)) (h1:V[i1]? =some (pt v1 p1)) (hb:eV N p0 p1=some res):
    Calls bB 121 [v0,v1].toArray w (gr (bA E V res)):=by
 unfold eV at hb
 refine enter Tryz.func121 zr zr ?_
 have j:=(j.dup (i0+0) h0).uC (i:=i1+1) h1
 refine RC.sr (RL.cQ 1 v0 j zr fun af w j=>?_)
 refine aM (vb false) (RL.nq ?_)
 obtain⟨ae,hj,hb⟩:=bd hb
 refine RC.jn (fun(ae:Bool)=>SH E V [(3,vb ae)] []) ae ?_ ?_
 ·refine RC.region (RL.fB 1 j zr vE mF fun ag j=>(RL.bQ p1.bJ 0 j dE (ic p1.bJ 0 (mv (vb (decide (p1.bJ>0))) (gZ hj (fun o hj=>?_) fun o hj=>?_)))))
  rotate_left
  ·refine bZ o (bZ o (bZ o (bZ o (bZ o (g9 o (vb false) (mv (vb false) (oG (oG ?_))))))))
   refine oG (oG (oG (RL.pick false (vb false) zr (aM (vb false) (RL.nil ?_)))))
   obtain rfl:=oi hj
   exact⟨rfl,j.sp 4 []⟩
  refine RL.bH (hg:=(cg o)) zr vE (RL.aP (hg:=(cg o)) 1 j zr mF dE (RL.fB (hg:=(cg o)) 2 j zr vE mF fun ah j=>(RL.bQ (hg:=(cg o)) p1.bJ 0 j dE (RL.kI p0.bJ p1.bJ (cg o) (g9 o (vb (p0.bJ==p1.bJ)) (mv (vb (p0.bJ==p1.bJ)) (gZ hj (fun aa hj=>?_) fun aa hj=>?_)))))))
  ·refine RL.bH (hg:=(cg aa)) zr xZ (RL.aP (hg:=(cg aa)) 2 j zr n0 dE (RL.fB (hg:=(cg aa)) 3 j zr xZ n0 fun ai j=>(RL.bQ (hg:=(cg aa)) p1.Kind 0 j dE (RL.kI p0.Kind p1.Kind (cg aa) (g9 aa (vb (p0.Kind != p1.Kind)) (aM (vb (p0.Kind != p1.Kind)) (RL.nil ?_)))))))
   obtain rfl:=oi hj
   exact⟨rfl,j.sp 6 []⟩
  refine bZ aa (bZ aa (bZ aa (bZ aa (bZ aa (g9 aa (vb false) (aM (vb false) (RL.nil ?_)))))))
  obtain rfl:=oi hj
  exact⟨rfl,j.sp 5 []⟩
 rintro _ w ⟨O,rfl,j⟩
 refine aG (RC.ret ?_)
 obtain rfl:=oi hb
 exact bU ⟨rfl,j.drop 0⟩
def oK (E:World) (V:List HP) (r:Int) (U:Nat->Value) (w:World):Prop:=mu bB 19 Tryz.f157 (aH E V r) .ret U w
theorem oc {p0: (List cM)} {p1:cM->Option Bool} (j:Holds E w V) (h0:V[i0]? =some (rd v0 p0)) (h1:Ef bB E V v1 p1 (fun(r:Bool)=>Value.bool r)) (o:jK N p0 p1=some res):
    Calls bB 157 [v0,v1].toArray w (gr (aH E V res)):=by
 unfold jK at o
 refine enter Tryz.func157 zr zr ?_
 have j:=j.dup (i0+0) h0
 refine RC.sr (aM (vi 0) (RL.nq (RC.sr (mv v0 (RL.bF 0 p0 j yx (mv (vi 0) (RL.nt ?_)))))))
 obtain⟨al,hN,o⟩:=bd o
 refine RC.range (fun(aa:Nat) (ab:Unit)=>SH E V [(0,v0),(1,v1),(7,vi p0.length),(8,vi aa)] [rd v0 p0]) (fun(ab:Unit)=>SH E V [] [rd v0 p0]) (oK E V) hN ?_ ?_ ?_ ?_ ?_
 ·exact j.sp 1 [0]
 ·rintro hm ab _ w ⟨O,rfl,j⟩
  refine RC.sr (ic ((p0.length:Int)) ((p0.length:Int)) (RL.nq (RC.cP mz (RC.ex ?_))))
  exact⟨rfl,j.sp 1 [0]⟩
 ·rintro hm aa ab fl _ w hk ⟨O,rfl,j⟩ o
  refine RC.sr (ic ((aa:Int)) ((p0.length:Int)) (RL.nq (RC.cO (my hk) (RC.ss (RC.bs (mv (vi aa) (aM (vi aa) (RL.ns ?_))))))))
  refine mv v1 (mv v0 (mv (vi aa) ?_))
  obtain⟨ag,ah,o⟩:=bd o
  refine RL.cA 0 j xu ah fun ao j=>(RL.bC 0 ag j vC fun aq j=>?_)
  obtain⟨ar,ai,o⟩:=bd o
  refine RL.uB 0 j h1 3 ai fun w j=>(RL.nt (eH o (fun hc o=>?_) fun hc o=>?_))
  rotate_left
  ·refine RC.skip (bO (aG (RC.region (RL.inc hk hm (mv (vi ((aa+1:Nat):Int)) (RL.nil ?_))))))
   obtain rfl:=oi o
   exact⟨rfl,j.sp 3 [2]⟩
  refine RC.sr (mv (vi aa) (aM (vi aa) (RL.nt (RC.rb (bN ?_)))))
  obtain rfl:=oi o
  exact⟨rfl,bU ⟨rfl,j.drop 3⟩⟩
 ·intro r U w e hK
  subst e
  refine bN ?_
  obtain rfl:=oi o
  exact hK
 rintro ab _ w rfl ⟨O,rfl,j⟩
 rw [Fo.fW] at o
 refine aG (RC.sr (aM (vi (-1)) (RL.nt (RC.ret ?_))))
 obtain rfl:=oi o
 exact bU ⟨rfl,j.drop 1⟩
theorem na {p0: (List cM)} {p1:cM->Option Bool} {res:Bool} (j:Holds E w V) (h0:V[i0]? =some (rd v0 p0)) (h1:Ef bB E V v1 p1 (fun(r:Bool)=>Value.bool r)) (o:gm N p0 p1=some res):
    Calls bB 120 [v0,v1].toArray w (gr (bA E V res)):=by
 unfold gm at o
 refine enter Tryz.func120 zr zr ?_
 have j:=j.dup (i0+0) h0
 refine RC.sr (aM (vb false) (RL.ns (mv v0 (mv v1 ?_))))
 obtain⟨aa,ab,o⟩:=bd o
 refine RL.call zt zr KB [v0,v1] zr (aF (oc N (i0:=0) j zr (h1.lift 1 zr) ab) ?_)
 rintro _ w ⟨rfl,j⟩
 refine ic aa 0 (aM (vb (decide (aa>=0))) (RL.nt (RC.ret ?_)))
 obtain rfl:=oi o
 exact bU ⟨rfl,j.drop 1⟩
def nV (E:World) (V:List HP) (r:Int) (U:Nat->Value) (w:World):Prop:=mu bB 71 Tryz.f79 (aH E V r) .ret U w
theorem sE {p0: (List cM)} (j:Holds E w V) (h0:V[i0]? =some (rd v0 p0)) (o:jv N p0=some res):
    Calls bB 79 [v0].toArray w (gr (aH E V res)):=by
 unfold jv at o
 refine enter Tryz.func79 zr zr ?_
 have j:=j.dup (i0+0) h0
 refine RC.sr (aM (vi 0) (RL.nq (RC.sr (mv v0 (RL.bF 0 p0 j yx (ic ((p0.length:Int)) 0 (RL.nt (eH o (fun hc o=>?_) fun hc o=>?_))))))))
 ·refine RC.sr (aM (vi 9) (RL.nt (RC.rt ?_)))
  obtain rfl:=oi o
  exact bU ⟨rfl,j.drop 1⟩
 refine RC.ss (RC.sr (mv v0 (RL.bF 0 p0 j yx (ic ((p0.length:Int)) 200 (RL.nt (eH o (fun hc o=>?_) fun hc o=>?_))))))
 ·refine RC.sr (aM (vi 2) (RL.nt (RC.rt ?_)))
  obtain rfl:=oi o
  exact bU ⟨rfl,j.drop 1⟩
 refine RC.ss (RC.sr (mv v0 (RL.bF 0 p0 j yx (mv (vi 0) (RL.nt ?_)))))
 obtain⟨a4,hN,o⟩:=bd o
 refine RC.range (fun(ad:Nat) (ak:Unit)=>SH E V [(0,v0),(13,v0),(14,vi p0.length),(15,vi ad)] [rd v0 p0]) (fun(ak:Unit)=>SH E V [(0,v0)] [rd v0 p0]) (nV E V) hN ?_ ?_ ?_ ?_ ?_
 ·exact j.sp 1 [0]
 ·rintro hm ak _ w ⟨O,rfl,j⟩
  refine RC.sr (ic ((p0.length:Int)) ((p0.length:Int)) (RL.nq (RC.cP mz (RC.ex ?_))))
  exact⟨rfl,j.sp 1 [0]⟩
 ·rintro hm ad ak fl _ w hk ⟨O,rfl,j⟩ o
  refine RC.sr (ic ((ad:Int)) ((p0.length:Int)) (RL.nq (RC.cO (my hk) (RC.ss (RC.bs (mv (vi ad) ?_))))))
  obtain⟨gK,aw,o⟩:=bd o
  refine RL.cA 0 j xu aw fun a5 j=>(RL.bC 0 gK j vC fun a6 j=>(RL.alloc j GQ.z fun ag w j=>?_))
  refine aM (vi ad) (RL.bD 0 j 1 zr vC fun w j=>?_)
  refine RL.nt (RC.bs (RL.bH zr vD (RL.aP 0 j zr mE pQ ?_)))
  obtain⟨au,ax,o⟩:=bd o
  refine RL.call zt zr Is [(str gK.Name)] zr (aF (kP N (p0:=gK.Name) j ax) ?_)
  rintro _ w ⟨rfl,j⟩
  refine RL.not au (aM (vb (!au)) (RL.nt (eH o (fun hc o=>?_) fun hc o=>?_)))
  ·refine RC.sr (aM (vi 5) (RL.nt (RC.rb (iA (bN ?_)))))
   obtain rfl:=oi o
   exact⟨rfl,bU ⟨rfl,j.drop 4⟩⟩
  refine RC.sr (RL.bH rfl xZ (RL.aP 0 j rfl n0 dE (ic gK.Kind 1 (mv (vb (decide (gK.Kind<1))) (RL.gs true (decide (gK.Kind<1)) (vp ag 1) rfl rfl rfl (fA xZ) (RL.gs true (decide (gK.Kind<1)) (vi gK.Kind) rfl rfl rfl (cL 0 rfl j (fun h=>by exact(dI h:cv (true&&((decide (gK.Kind<1))==false)) (vp ag 1)= (vp ag 1))) rfl n0 dE) (RL.gs true (decide (gK.Kind<1)) (vb (decide (gK.Kind>7))) rfl rfl rfl (eM .gtr .i64 gK.Kind 7 rfl (fun h=>by exact(dI h:cv (true&&((decide (gK.Kind<1))==false)) (vi gK.Kind)= (vi gK.Kind))) (fun _=>rfl) rfl) (RL.pick (decide (gK.Kind<1)) (vb ((decide (gK.Kind<1))||(decide (gK.Kind>7)))) (nz true) ?_))))))))
  refine aM (vb ((decide (gK.Kind<1))||(decide (gK.Kind>7)))) (RL.nt (eH o (fun hc o=>?_) fun hc o=>?_))
  ·refine RC.sr (aM (vi 4) (RL.nt (RC.rb (iA (bN ?_)))))
   obtain rfl:=oi o
   exact⟨rfl,bU ⟨rfl,j.drop 4⟩⟩
  refine RC.sr (RL.bH rfl vE (RL.aP 0 j rfl mF dE (ic gK.bJ 0 (mv (vb (decide (gK.bJ<0))) (RL.gs true (decide (gK.bJ<0)) (vp ag 2) rfl rfl rfl (fA vE) (RL.gs true (decide (gK.bJ<0)) (vi gK.bJ) rfl rfl rfl (cL 0 rfl j (fun h=>by exact(dI h:cv (true&&((decide (gK.bJ<0))==false)) (vp ag 2)= (vp ag 2))) rfl mF dE) (RL.gs true (decide (gK.bJ<0)) (vb (decide (gK.bJ>200))) rfl rfl rfl (eM .gtr .i64 gK.bJ 200 rfl (fun h=>by exact(dI h:cv (true&&((decide (gK.bJ<0))==false)) (vi gK.bJ)= (vi gK.bJ))) (fun _=>rfl) rfl) (RL.pick (decide (gK.bJ<0)) (vb ((decide (gK.bJ<0))||(decide (gK.bJ>200)))) (nz true) ?_))))))))
  refine aM (vb ((decide (gK.bJ<0))||(decide (gK.bJ>200)))) (RL.nt (eH o (fun hc o=>?_) fun hc o=>?_))
  ·refine RC.sr (aM (vi 1) (RL.nt (RC.rb (iA (bN ?_)))))
   obtain rfl:=oi o
   exact⟨rfl,bU ⟨rfl,j.drop 4⟩⟩
  refine RC.seq ?_
  obtain⟨ao,hj,o⟩:=bd o
  refine RC.jn (fun(ao:Bool)=>SH E V [(0,v0),(13,v0),(14,vi p0.length),(15,vi ad),(43,vb ao)] [rd v0 p0]) ao ?_ ?_
  ·refine RC.zA mixed ?_
   have j:=j.drew
   refine RO.go (mv (vi ad) (RO.nx (ic ((ad:Int)) 0 (RO.nx (mv (vb (decide ((ad:Int)>0))) (gZ hj (fun aa hj=>?_) fun aa hj=>?_))))))
   rotate_left
   ·refine RO.nx (bZ aa (RO.nx (bZ aa (RO.nx (bZ aa (RO.nx (bZ aa (RO.nx ?_))))))))
    refine bZ aa (RO.nx (bZ aa (RO.nx (bZ aa (RO.nx (bZ aa (RO.nx (bZ aa ?_))))))))
    refine RO.nx (g9 aa (vb false) (RO.nx (aM (vb false) (RO.last ?_))))
    obtain rfl:=oi hj
    exact⟨rfl,j.sp 4 [3]⟩
   refine RO.nx (RL.bH (hg:=(cg aa)) zr vD (RO.nx (RL.aP (hg:=(cg aa)) 0 j zr mE pQ (RO.nx (RL.move v0 (cg aa) (RO.nx (RL.move (vi ad) (cg aa) (RO.nx ?_))))))))
   refine RL.jQ (hg:=(cg aa)) (ad:Int) 1 (RO.nx ?_)
   obtain⟨ah,ay,hj⟩:=bd hj
   refine RL.cA (hg:=(cg aa)) 3 j xu ay fun a7 j=>(RO.nx (RL.fB (hg:=(cg aa)) 0 j zr vD mE fun a8 j=>(RO.nx (RL.bQ (hg:=(cg aa)) ah.Name 0 j pQ (RO.nx (RL.zD gK.Name ah.Name (cg aa) zr zr zr zr (RO.nx (g9 aa (vb (gK.Name.xF ah.Name||gK.Name.oW ah.Name)) ?_))))))))
   refine RO.nx (aM (vb (gK.Name.xF ah.Name||gK.Name.oW ah.Name)) (RO.last ?_))
   obtain rfl:=oi hj
   exact⟨rfl,j.sp 6 [5]⟩
  rintro _ w ⟨O,rfl,j⟩
  refine aG (eH o (fun hc o=>?_) fun hc o=>?_)
  rotate_left
  ·refine RC.skip (bO (bO (aG (RC.region (RL.inc hk hm (mv (vi ((ad+1:Nat):Int)) (RL.nil ?_)))))))
   obtain rfl:=oi o
   exact⟨rfl,j.sp 1 [0]⟩
  refine RC.sr (aM (vi 8) (RL.nt (RC.rb (iA (bN ?_)))))
  obtain rfl:=oi o
  exact⟨rfl,bU ⟨rfl,j.drop 1⟩⟩
 ·intro r U w e hK
  subst e
  refine bN ?_
  obtain rfl:=oi o
  exact hK
 rintro ak _ w rfl ⟨O,rfl,j⟩
 rw [Fo.fW] at o
 refine aG (RC.seq (RC.sr (mv v0 (RL.bF 0 p0 j yx (mv (vi 0) (RL.nt ?_))))))
 obtain⟨a9,hN,o⟩:=bd o
 refine RC.range (fun(af:Nat) (al:Unit)=>SH E V [(0,v0),(58,v0),(59,vi p0.length),(60,vi af)] [rd v0 p0]) (fun(al:Unit)=>SH E V [] [rd v0 p0]) (nV E V) hN ?_ ?_ ?_ ?_ ?_
 ·exact j.sp 1 [0]
 ·rintro hm al _ w ⟨O,rfl,j⟩
  refine RC.sr (ic ((p0.length:Int)) ((p0.length:Int)) (RL.nq (RC.cP mz (RC.ex ?_))))
  exact⟨rfl,j.sp 1 [0]⟩
 ·rintro hm af al fl _ w hk ⟨O,rfl,j⟩ o
  refine RC.sr (ic ((af:Int)) ((p0.length:Int)) (RL.nq (RC.cO (my hk) (RC.ss (RC.bs (mv (vi af) ?_))))))
  obtain⟨az,a0,o⟩:=bd o
  refine RL.cA 0 j xu a0 fun ba j=>(RL.bC 0 az j vC fun bb j=>(RL.alloc j GQ.z fun ar w j=>?_))
  refine aM (vi af) (RL.bD 0 j 1 zr vC fun w j=>?_)
  refine RL.ns (mv v0 (mv (vi af) ?_))
  obtain⟨bc,a1,o⟩:=bd o
  refine RL.cut (hl:= .inr ⟨rfl,zr⟩) 3 j xu (.inl zr) a1 fun a2 j=>?_
  have j:=j.hZ (i:=1) rfl
  refine RL.makeFunc [(vp ar 0)] ?_
  obtain⟨bf,a3,o⟩:=bd o
  refine RL.call trivial rfl KD [a2,(.func (.func 121) #[] #[(vp ar 0)])] rfl (aF (na N (i0:=0) j rfl ⟨121,[(vp ar 0)],rfl,KC,fun w Γl v y0 r i j hi hr=>by exact aF (qc N (i0:=i) (i1:=Γl.length+1) j hi uA hr) fun _ _ h=>h⟩ a3) ?_)
  rintro _ w ⟨rfl,j⟩
  refine RL.nt (eH o (fun hc o=>?_) fun hc o=>?_)
  rotate_left
  ·refine RC.skip (bO (aG (RC.region (RL.inc hk hm (mv (vi ((af+1:Nat):Int)) (RL.nil ?_))))))
   obtain rfl:=oi o
   exact⟨rfl,j.sp 5 [4]⟩
  refine RC.sr (aM (vi 12) (RL.nt (RC.rb (bN ?_))))
  obtain rfl:=oi o
  exact⟨rfl,bU ⟨rfl,j.drop 5⟩⟩
 ·intro r U w e hK
  subst e
  refine bN ?_
  obtain rfl:=oi o
  exact hK
 rintro al _ w rfl ⟨O,rfl,j⟩
 rw [Fo.fW] at o
 refine aG (RC.sr (aM (vi 0) (RL.nt (RC.ret ?_))))
 obtain rfl:=oi o
 exact bU ⟨rfl,j.drop 1⟩
def sF (E:World) (V:List HP) (r:Int) (U:Nat->Value) (w:World):Prop:=mu bB 40 Tryz.f36 (aH E V r) .ret U w
theorem rK {p0: (List aL)} (j:Holds E w V) (h0:V[i0]? =some (rd v0 p0)) (o:iY N p0=some res):
    Calls bB 36 [v0].toArray w (gr (aH E V res)):=by
 unfold iY at o
 refine enter Tryz.func36 zr zr ?_
 have j:=j.dup (i0+0) h0
 refine RC.sr (aM (vi 0) (RL.nq (RC.sr (mv v0 (RL.bF 0 p0 j JR (ic ((p0.length:Int)) 200 (RL.nt (eH o (fun hc o=>?_) fun hc o=>?_))))))))
 ·refine RC.sr (aM (vi 2) (RL.nt (RC.rt ?_)))
  obtain rfl:=oi o
  exact bU ⟨rfl,j.drop 1⟩
 refine RC.ss (RC.sr (mv v0 (RL.bF 0 p0 j JR (mv (vi 0) (RL.nt ?_)))))
 obtain⟨ay,hN,o⟩:=bd o
 refine RC.range (fun(ab:Nat) (ah:Unit)=>SH E V [(0,v0),(9,v0),(10,vi p0.length),(11,vi ab)] [rd v0 p0]) (fun(ah:Unit)=>SH E V [] [rd v0 p0]) (sF E V) hN ?_ ?_ ?_ ?_ ?_
 ·exact j.sp 1 [0]
 ·rintro hm ah _ w ⟨O,rfl,j⟩
  refine RC.sr (ic ((p0.length:Int)) ((p0.length:Int)) (RL.nq (RC.cP mz (RC.ex ?_))))
  exact⟨rfl,j.sp 1 [0]⟩
 ·rintro hm ab ah fl _ w hk ⟨O,rfl,j⟩ o
  refine RC.sr (ic ((ab:Int)) ((p0.length:Int)) (RL.nq (RC.cO (my hk) (RC.ss (RC.bs (mv (vi ab) ?_))))))
  obtain⟨af,ao,o⟩:=bd o
  refine RL.cA 0 j E9 ao fun a0 j=>(RL.bC 0 af j Cl fun a1 j=>(RL.alloc j Kz.z fun a2 w j=>?_))
  refine aM (vi ab) (RL.bD 0 j 1 zr Cl fun w j=>?_)
  refine RL.nq (RC.sr (RL.bH zr xY (RL.aP 0 j zr nr pQ ?_)))
  obtain⟨aq,ar,o⟩:=bd o
  refine RL.call zt zr Is [(str af.Name)] zr (aF (kP N (p0:=af.Name) j ar) ?_)
  rintro _ w ⟨rfl,j⟩
  refine RL.not aq (RL.nt (eH o (fun hc o=>?_) fun hc o=>?_))
  ·refine RC.sr (aM (vi 5) (RL.nt (RC.rt (iA (bN ?_)))))
   obtain rfl:=oi o
   exact⟨rfl,bU ⟨rfl,j.drop 4⟩⟩
  refine RC.ss (RC.sr (RL.bH zr AY (RL.aN 0 j zr pG GP fun au j=>?_)))
  obtain⟨ag,av,o⟩:=bd o
  refine RL.call zt zr Mf [au] zr (aF (sE N (i0:=0) j zr av) ?_)
  rintro _ w ⟨rfl,j⟩
  refine aM (vi ag) (RL.ns (mv (vi ag) (ic ag 0 (RL.nt (eH o (fun hc o=>?_) fun hc o=>?_)))))
  ·refine RC.sr (mv (vi ag) (aM (vi ag) (RL.nt (RC.rt (iA (bN ?_))))))
   obtain rfl:=oi o
   exact⟨rfl,bU ⟨rfl,j.drop 5⟩⟩
  refine RC.ss ?_
  obtain⟨aj,hj,o⟩:=bd o
  refine RC.jn (fun(aj:Bool)=>SH E V [(0,v0),(9,v0),(10,vi p0.length),(11,vi ab),(38,vb aj)] [rd v0 p0]) aj ?_ ?_
  ·refine RC.zA mixed ?_
   have j:=j.drew
   refine RO.go (mv (vi ab) (RO.nx (ic ((ab:Int)) 0 (RO.nx (mv (vb (decide ((ab:Int)>0))) (gZ hj (fun aa hj=>?_) fun aa hj=>?_))))))
   rotate_left
   ·refine RO.nx (bZ aa (RO.nx (bZ aa (RO.nx (bZ aa (RO.nx (bZ aa (RO.nx ?_))))))))
    refine bZ aa (RO.nx (bZ aa (RO.nx (bZ aa (RO.nx (bZ aa (RO.nx (bZ aa ?_))))))))
    refine RO.nx (g9 aa (vb false) (RO.last ?_))
    obtain rfl:=oi hj
    exact⟨rfl,j.sp 5 [4]⟩
   refine RO.nx (RL.bH (hg:=(cg aa)) zr xY (RO.nx (RL.aP (hg:=(cg aa)) 1 j zr nr pQ (RO.nx (RL.move v0 (cg aa) (RO.nx (RL.move (vi ab) (cg aa) (RO.nx ?_))))))))
   refine RL.jQ (hg:=(cg aa)) (ab:Int) 1 (RO.nx ?_)
   obtain⟨ai,aw,hj⟩:=bd hj
   refine RL.cA (hg:=(cg aa)) 4 j E9 aw fun a3 j=>(RO.nx (RL.fB (hg:=(cg aa)) 0 j zr xY nr fun a4 j=>(RO.nx (RL.bQ (hg:=(cg aa)) ai.Name 0 j pQ (RO.nx (RL.zD af.Name ai.Name (cg aa) zr zr zr zr (RO.nx (g9 aa (vb (af.Name.xF ai.Name||af.Name.oW ai.Name)) ?_))))))))
   refine RO.last ?_
   obtain rfl:=oi hj
   exact⟨rfl,j.sp 7 [6]⟩
  rintro _ w ⟨O,rfl,j⟩
  refine aG (eH o (fun hc o=>?_) fun hc o=>?_)
  rotate_left
  ·refine RC.skip (bO (aG (RC.region (RL.inc hk hm (mv (vi ((ab+1:Nat):Int)) (RL.nil ?_))))))
   obtain rfl:=oi o
   exact⟨rfl,j.sp 1 [0]⟩
  refine RC.sr (aM (vi 8) (RL.nt (RC.rb (bN ?_))))
  obtain rfl:=oi o
  exact⟨rfl,bU ⟨rfl,j.drop 1⟩⟩
 ·intro r U w e hK
  subst e
  refine bN ?_
  obtain rfl:=oi o
  exact hK
 rintro ah _ w rfl ⟨O,rfl,j⟩
 rw [Fo.fW] at o
 refine aG (RC.sr (aM (vi 0) (RL.nt (RC.ret ?_))))
 obtain rfl:=oi o
 exact bU ⟨rfl,j.drop 1⟩
theorem ko {p0: (List aL)} {p1:bR} {p2:aL->bR->Option Int} {res:Int×Bool} (o:Holds E w V) (h0:V[i0]? =some (rd v0 p0)) (h2:H0 bB E V v2 p2 (fun(r:Int)=>Value.int .i64 r)) (hb:dN N p0 p1 p2=some res):
    Calls bB 87 [v0,(str p1),v2].toArray w (gr (dG E V res)):=by
 unfold dN at hb
 refine enter Tryz.func87 zr zr ?_
 have o:=o.dup (i0+0) h0
 refine RC.sr (aM (vi 0) (aM (vb false) (RL.ns (mv v0 (RL.bF 0 p0 o JR (aM (vi p0.length) (RL.ns (mv (vi p0.length) ?_))))))))
 refine aM (vi 0) (aM (vi p0.length) (RL.nq ?_))
 obtain⟨au,hN,hb⟩:=bd hb
 refine RC.iter (fun(j:Int×Int)=>SH E V [(0,v0),(1,(str p1)),(2,v2),(8,vi p0.length),(9,vi j.1),(10,vi j.2)] [rd v0 p0]) (fun(j:Int×Int)=>SH E V [(0,v0),(1,(str p1)),(2,v2),(8,vi p0.length),(9,vi j.1)] [rd v0 p0]) (fun(r:Empty) _ _=>r.elim) hN ?_ ?_ ?_ ?_
 ·exact o.sp 1 [0]
 ·rintro j fl _ w ⟨O,rfl,o⟩ hb
  refine RC.seq (RC.sr (mv (vi j.1) (mv (vi j.2) (ic j.1 j.2 (RL.nt (eH hb (fun hc hb=>?_) fun hc hb=>?_))))))
  rotate_left
  ·refine RC.ex ?_
   obtain rfl:=oi hb
   exact⟨rfl,o.sp 1 [0]⟩
  refine RC.sn (RC.bs (mv (vi j.1) (mv (vi j.2) (RL.jQ j.1 j.2 (RL.conv (IntKind.wrap .i64 (j.1+j.2)) ⟨_,Eu⟩ Cm (RL.bin (v':=(.int .u64 1)) (.int .u64 (IntKind.wrap .u64 (IntKind.wrap .i64 (j.1+j.2)))) (.int .u64 (Int.fdiv (IntKind.wrap .u64 (IntKind.wrap .i64 (j.1+j.2))) 2)) zt zr zr zr (RL.conv (Int.fdiv (IntKind.wrap .u64 (IntKind.wrap .i64 (j.1+j.2))) 2) ⟨_,Cm⟩ Eu (aM (vi (IntKind.wrap .i64 (Int.fdiv (IntKind.wrap .u64 (IntKind.wrap .i64 (j.1+j.2))) 2))) ?_))))))))
  refine RL.ns (mv v2 (mv v0 (mv (vi (IntKind.wrap .i64 (Int.fdiv (IntKind.wrap .u64 (IntKind.wrap .i64 (j.1+j.2))) 2))) ?_)))
  obtain⟨aj,ak,hb⟩:=bd hb
  refine RL.cA 0 o E9 ak fun aw o=>(RL.bC 0 aj o Cl fun ax o=>(mv (str p1) ?_))
  have o:=o.sc bR p1
  obtain⟨al,an,hb⟩:=bd hb
  refine RL.qG 1 0 zt o h2 4 an fun w o=>(ic al 0 (RL.nt ?_))
  obtain⟨ae,hj,hb⟩:=bd hb
  refine RC.jn (fun(ae:Int×Int)=>SH E V [(0,v0),(1,(str p1)),(2,v2),(8,vi p0.length),(9,vi ae.1),(10,vi ae.2)] [rd v0 p0]) ae ?_ ?_
  ·refine eH hj (fun hc hj=>?_) fun hc hj=>?_
   rotate_left
   ·refine RC.region (mv (vi (IntKind.wrap .i64 (Int.fdiv (IntKind.wrap .u64 (IntKind.wrap .i64 (j.1+j.2))) 2))) (aM (vi (IntKind.wrap .i64 (Int.fdiv (IntKind.wrap .u64 (IntKind.wrap .i64 (j.1+j.2))) 2))) (RL.nil ?_)))
    obtain rfl:=oi hj
    exact⟨rfl,o.sp 4 [3]⟩
   refine RC.region (mv (vi (IntKind.wrap .i64 (Int.fdiv (IntKind.wrap .u64 (IntKind.wrap .i64 (j.1+j.2))) 2))) (RL.jQ (IntKind.wrap .i64 (Int.fdiv (IntKind.wrap .u64 (IntKind.wrap .i64 (j.1+j.2))) 2)) 1 (aM (vi (IntKind.wrap .i64 ((IntKind.wrap .i64 (Int.fdiv (IntKind.wrap .u64 (IntKind.wrap .i64 (j.1+j.2))) 2))+1))) (RL.nil ?_))))
   obtain rfl:=oi hj
   exact⟨rfl,o.sp 4 [3]⟩
  rintro _ w ⟨O,rfl,o⟩
  refine bO ?_
  obtain rfl:=oi hb
  exact⟨rfl,o.sp 1 [0]⟩
 ·intro r _ _ _ _
  exact r.elim
 rintro j _ w rfl ⟨O,rfl,o⟩
 rw [Fo.fW] at hb
 refine aG (RC.seq ?_)
 obtain⟨ag,hj,hb⟩:=bd hb
 refine RC.jn (fun(ag:Bool)=>SH E V [(6,vi j.1),(7,vb ag)] []) ag ?_ ?_
 ·refine RC.region (mv (vi j.1) (mv (vi j.1) (mv (vi p0.length) (ic j.1 ((p0.length:Int)) (mv (vb (decide (j.1< (p0.length:Int)))) (gZ hj (fun ab hj=>?_) fun ab hj=>?_))))))
  rotate_left
  ·refine bZ ab (bZ ab (bZ ab (bZ ab (bZ ab (bZ ab (bZ ab (bZ ab (g9 ab (vb false) ?_))))))))
   refine aM (vi j.1) (aM (vb false) (RL.nil ?_))
   obtain rfl:=oi hj
   exact⟨rfl,o.sp 1 []⟩
  refine RL.move v2 (cg ab) (RL.move v0 (cg ab) (RL.move (vi j.1) (cg ab) ?_))
  obtain⟨ao,aq,hj⟩:=bd hj
  refine RL.cA (hg:=(cg ab)) 0 o E9 aq fun ay o=>(RL.bC (hg:=(cg ab)) 0 ao o Cl fun az o=>(RL.move (str p1) (cg ab) ?_))
  have o:=o.sc bR p1
  obtain⟨ah,ar,hj⟩:=bd hj
  refine RL.qG 1 0 (cg ab) o h2 4 ar fun w o=>(RL.kI ah 0 (cg ab) (g9 ab (vb (ah==0)) (aM (vi j.1) (aM (vb (ah==0)) (RL.nil ?_)))))
  obtain rfl:=oi hj
  exact⟨rfl,o.sp 4 []⟩
 rintro _ w ⟨O,rfl,o⟩
 refine aG (RC.ret ?_)
 obtain rfl:=oi hb
 exact oz ⟨rfl,o.drop 0⟩
theorem pK {p0 p1:bR} (o:Holds E w V) (j:kJ N p0 p1=some res):
    Calls bB 61 [(str p0),(str p1)].toArray w (gr (aH E V res)):=by
 unfold kJ at j
 refine enter Tryz.func61 zr zr (RC.sr (aM (vi 0) (RL.ns (mv (str p0) (mv (str p1) (RL.yd (vi (Lib.compareBytes p0.cB p1.cB)) zr [(str p0),(str p1)] zr (gK p0 p1 w) (aM (vi (Lib.compareBytes p0.cB p1.cB)) (RL.nt ?_))))))))
 refine RC.ret ?_
 obtain rfl:=oi j
 exact bU ⟨rfl,o.drop 0⟩
theorem jg {p0 p1:bR} (o:Holds E w V) (j:iB N p0 p1=some res):
    Calls bB 27 [(str p0),(str p1)].toArray w (gr (aH E V res)):=by
 unfold iB at j
 refine enter Tryz.func27 zr zr (RC.sr (aM (vi 0) (RL.ns (mv (str p0) (mv (str p1) ?_)))))
 obtain⟨aa,ab,j⟩:=bd j
 refine RL.call zt zr Mh [(str p0),(str p1)] zr (aF (pK N (p0:=p0) (p1:=p1) o ab) ?_)
 rintro _ w ⟨rfl,o⟩
 refine aM (vi aa) (RL.nt (RC.ret ?_))
 obtain rfl:=oi j
 exact bU ⟨rfl,o.drop 0⟩
theorem sG {p0:aL} {p1:bR} (j:Holds E w V) (h0:V[i0]? =some (rd v0 p0)) (o:ik N p0 p1=some res):
    Calls bB 88 [v0,(str p1)].toArray w (gr (aH E V res)):=by
 unfold ik at o
 refine enter Tryz.func88 zr zr ?_
 have j:=j.dup (i0+0) h0
 refine RC.sr (RL.cQ 0 v0 j zr fun ad w j=>?_)
 refine aM (vi 0) (RL.ns (RL.bH zr xY (RL.aP 0 j zr nr pQ (mv (str p1) ?_))))
 obtain⟨aa,ab,o⟩:=bd o
 refine RL.call zt zr GR [(str p0.Name),(str p1)] zr (aF (jg N (p0:=p0.Name) (p1:=p1) j ab) ?_)
 rintro _ w ⟨rfl,j⟩
 refine aM (vi aa) (RL.nt (RC.ret ?_))
 obtain rfl:=oi o
 exact bU ⟨rfl,j.drop 2⟩
theorem mI {p0: (List aL)} {p1:bR} (hw:Holds E w V) (h0:V[i0]? =some (rd v0 p0)) (hb:iZ N p0 p1=some res):
    Calls bB 43 [v0,(str p1)].toArray w (gr (aH E V res)):=by
 unfold iZ at hb
 refine enter Tryz.func43 zr zr ?_
 have hw:=hw.dup (i0+0) h0
 refine RC.sr (aM (vi 0) (RL.ns (mv v0 (mv (str p1) ?_))))
 obtain⟨o,ad,hb⟩:=bd hb
 refine RL.call trivial rfl Mj [v0,(str p1),(.func (.func 88) #[] #[])] rfl (aF (ko N (p1:=p1) (i0:=0) hw rfl ⟨88,[],rfl,Mi,fun w Γl v v' y0 y1 r i j hw hi hj hr=>by obtain rfl:=hw.xG (γ:=bR) hj;exact aF (sG N (p1:=y1) (i0:=i) hw hi hr) fun _ _ h=>h⟩ ad) ?_)
 rintro _ w ⟨rfl,hw⟩
 refine mv (.tuple #[(vi o.1),(vb o.2)]) (RL.extract (vi o.1) (RL.extract (vb o.2) (aM (vi o.1) (aM (vb o.2) (RL.nq (RC.sr (mv (vb o.2) (RL.not o.2 ?_))))))))
 refine RL.nt (eH hb (fun hc hb=>?_) fun hc hb=>?_)
 ·refine RC.sr (aM (vi (-1)) (RL.nt (RC.rt ?_)))
  obtain rfl:=oi hb
  exact bU ⟨rfl,hw.drop 1⟩
 refine RC.sx (mv (vi o.1) (aM (vi o.1) (RL.nt (RC.ret ?_))))
 obtain rfl:=oi hb
 exact bU ⟨rfl,hw.drop 1⟩
def sH (E:World) (V:List HP) (r:Int) (U:Nat->Value) (w:World):Prop:=mu bB 46 Tryz.f37 (aH E V r) .ret U w
theorem rL {p0: (List aL)} {p1: (List Part)} {p2:bR->Option Bool} (j:Holds E w V) (h0:V[i0]? =some (rd v0 p0)) (h1:V[i1]? =some (rd v1 p1)) (h2:Ef bB E V v2 p2 (fun(r:Bool)=>Value.bool r)) (o:i5 N p0 p1 p2=some res):
    Calls bB 37 [v0,v1,v2].toArray w (gr (aH E V res)):=by
 unfold i5 at o
 refine enter Tryz.func37 zr zr ?_
 have j:=(j.dup (i0+0) h0).dup (i1+1) h1
 refine RC.sr (aM (vi 0) (RL.nq (RC.sr (mv v1 (RL.bF 0 p1 j Iu (ic ((p1.length:Int)) 1000 (RL.nt (eH o (fun hc o=>?_) fun hc o=>?_))))))))
 ·refine RC.sr (aM (vi 2) (RL.nt (RC.rt ?_)))
  obtain rfl:=oi o
  exact bU ⟨rfl,j.drop 2⟩
 refine RC.ss (RC.sr (mv v1 (RL.bF 0 p1 j Iu (mv (vi 0) (RL.nt ?_)))))
 obtain⟨ax,hN,o⟩:=bd o
 refine RC.range (fun(ab:Nat) (ah:Unit)=>SH E V [(0,v0),(1,v1),(2,v2),(12,v1),(13,vi p1.length),(14,vi ab)] [rd v0 p0,rd v1 p1]) (fun(ah:Unit)=>SH E V [] [rd v0 p0,rd v1 p1]) (sH E V) hN ?_ ?_ ?_ ?_ ?_
 ·exact j.sp 2 [1,0]
 ·rintro hm ah _ w ⟨O,rfl,j⟩
  refine RC.sr (ic ((p1.length:Int)) ((p1.length:Int)) (RL.nq (RC.cP mz (RC.ex ?_))))
  exact⟨rfl,j.sp 2 [0,1]⟩
 ·rintro hm ab ah fl _ w hk ⟨O,rfl,j⟩ o
  refine RC.sr (ic ((ab:Int)) ((p1.length:Int)) (RL.nq (RC.cO (my hk) (RC.ss (RC.bs (mv (vi ab) ?_))))))
  obtain⟨ad,aq,o⟩:=bd o
  refine RL.cA 1 j Fa aq fun az j=>(RL.bC 0 ad j Dk fun a0 j=>(RL.alloc j KE.z fun a1 w j=>?_))
  refine aM (vi ab) (RL.bD 0 j 1 zr Dk fun w j=>?_)
  refine RL.nt (RC.bs (mv v2 (RL.bH zr yy (RL.aP 0 j zr pV pQ ?_))))
  have j:=j.sc bR ad.Name
  obtain⟨al,ar,o⟩:=bd o
  refine RL.uB 0 j h2 6 ar fun w j=>(RL.not al (aM (vb (!al)) (RL.nt (eH o (fun hc o=>?_) fun hc o=>?_))))
  ·refine RC.sr (aM (vi 5) (RL.nt (RC.rb (iA (bN ?_)))))
   obtain rfl:=oi o
   exact⟨rfl,bU ⟨rfl,j.drop 6⟩⟩
  refine RC.sr (mv v0 (RL.bH zr Dl (RL.aP 1 j zr wC pQ ?_)))
  obtain⟨an,au,o⟩:=bd o
  refine RL.call zt zr JS [v0,(str ad.ju)] zr (aF (mI N (p1:=ad.ju) (i0:=4) j zr au) ?_)
  rintro _ w ⟨rfl,j⟩
  refine ic an 0 (aM (vb (decide (an<0))) (RL.nt (eH o (fun hc o=>?_) fun hc o=>?_)))
  ·refine RC.sr (aM (vi 9) (RL.nt (RC.rb (iA (bN ?_)))))
   obtain rfl:=oi o
   exact⟨rfl,bU ⟨rfl,j.drop 6⟩⟩
  refine RC.seq ?_
  obtain⟨ai,hj,o⟩:=bd o
  refine RC.jn (fun(ai:Bool)=>SH E V [(0,v0),(1,v1),(2,v2),(12,v1),(13,vi p1.length),(14,vi ab),(31,vb ai)] [rd v0 p0,rd v1 p1]) ai ?_ ?_
  ·refine RC.zA mixed ?_
   have j:=j.drew
   refine RO.go (mv (vi ab) (RO.nx (ic ((ab:Int)) 0 (RO.nx (mv (vb (decide ((ab:Int)>0))) (gZ hj (fun aa hj=>?_) fun aa hj=>?_))))))
   rotate_left
   ·refine RO.nx (bZ aa (RO.nx (bZ aa (RO.nx (bZ aa (RO.nx (bZ aa (RO.nx ?_))))))))
    refine bZ aa (RO.nx (bZ aa (RO.nx (bZ aa (RO.nx (bZ aa (RO.nx (bZ aa ?_))))))))
    refine RO.nx (g9 aa (vb false) (RO.nx (aM (vb false) (RO.last ?_))))
    obtain rfl:=oi hj
    exact⟨rfl,j.sp 6 [4,5]⟩
   refine RO.nx (RL.bH (hg:=(cg aa)) zr yy (RO.nx (RL.aP (hg:=(cg aa)) 1 j zr pV pQ (RO.nx (RL.move v1 (cg aa) (RO.nx (RL.move (vi ab) (cg aa) (RO.nx ?_))))))))
   refine RL.jQ (hg:=(cg aa)) (ab:Int) 1 (RO.nx ?_)
   obtain⟨ag,av,hj⟩:=bd hj
   refine RL.cA (hg:=(cg aa)) 5 j Fa av fun a2 j=>(RO.nx (RL.fB (hg:=(cg aa)) 0 j zr yy pV fun a3 j=>(RO.nx (RL.bQ (hg:=(cg aa)) ag.Name 0 j pQ (RO.nx (RL.zD ad.Name ag.Name (cg aa) zr zr zr zr (RO.nx (g9 aa (vb (ad.Name.xF ag.Name||ad.Name.oW ag.Name)) ?_))))))))
   refine RO.nx (aM (vb (ad.Name.xF ag.Name||ad.Name.oW ag.Name)) (RO.last ?_))
   obtain rfl:=oi hj
   exact⟨rfl,j.sp 8 [6,7]⟩
  rintro _ w ⟨O,rfl,j⟩
  refine aG (eH o (fun hc o=>?_) fun hc o=>?_)
  rotate_left
  ·refine RC.skip (bO (bO (aG (RC.region (RL.inc hk hm (mv (vi ((ab+1:Nat):Int)) (RL.nil ?_)))))))
   obtain rfl:=oi o
   exact⟨rfl,j.sp 2 [0,1]⟩
  refine RC.sr (aM (vi 8) (RL.nt (RC.rb (iA (bN ?_)))))
  obtain rfl:=oi o
  exact⟨rfl,bU ⟨rfl,j.drop 2⟩⟩
 ·intro r U w e hK
  subst e
  refine bN ?_
  obtain rfl:=oi o
  exact hK
 rintro ah _ w rfl ⟨O,rfl,j⟩
 rw [Fo.fW] at o
 refine aG (RC.sr (aM (vi 0) (RL.nt (RC.ret ?_))))
 obtain rfl:=oi o
 exact bU ⟨rfl,j.drop 2⟩
theorem sI {p0 p1:bR} (o:Holds E w V) (j:jw N p0 p1=some res):
    Calls bB 179 [(str p0),(str p1)].toArray w (gr (aH E V res)):=by
 unfold jw at j
 refine enter Tryz.func179 zr zr (RC.sr (aM (vi 0) (RL.ns (mv (str p1) (RL.lens p1 yw (aM (vi p1.cB.length) (RL.nq (RC.bs ?_))))))))
 refine mv (vi p1.cB.length) (ic ((p1.cB.length:Int)) 0 (mv (vb ((p1.cB.length:Int)==0)) (RL.gs true ((p1.cB.length:Int)==0) (str p1) rfl rfl rfl dQ (RL.gs true ((p1.cB.length:Int)==0) (str p0) rfl rfl rfl dQ (RL.gs true ((p1.cB.length:Int)==0) (vb (p1.oW p0)) rfl rfl rfl (Ee (bop:= .eql) p1 p0 rfl (fun h=>by exact(dI h:cv (true&&(((p1.cB.length:Int)==0)==false)) (str p1)= (str p1))) (fun h=>by exact(dI h:cv (true&&(((p1.cB.length:Int)==0)==false)) (str p0)= (str p0))) rfl) (RL.pick ((p1.cB.length:Int)==0) (vb (((p1.cB.length:Int)==0)||(p1.oW p0))) (nz true) (aM (vb (((p1.cB.length:Int)==0)||(p1.oW p0))) (RL.nt ?_))))))))
 refine eH j (fun hc j=>?_) fun hc j=>?_
 ·refine RC.sr (aM (vi 0) (RL.nt (RC.rb (bN ?_))))
  obtain rfl:=oi j
  exact bU ⟨rfl,o.drop 0⟩
 refine RC.sr (mv (vi p1.cB.length) (ic ((p1.cB.length:Int)) 1 (aM (vb ((p1.cB.length:Int)==1)) (RL.nt (eH j (fun hc j=>?_) fun hc j=>?_)))))
 ·refine RC.sr (mv (str p0) (mv (str p1) ?_))
  obtain⟨ab,ad,j⟩:=bd j
  refine RL.idxs p1 0 ab zr zr zr yw ad ?_
  obtain⟨ae,af,j⟩:=bd j
  refine RL.call zt zr Jf [(str p0),(.int .u8 (ab.toNat:Int))] zr (aF (lX N (p0:=p0) (p1:=(ab.toNat:Int)) o af) ?_)
  rintro _ w ⟨rfl,o⟩
  refine aM (vi ae) (RL.nt (RC.rb (bN ?_)))
  obtain rfl:=oi j
  exact bU ⟨rfl,o.drop 0⟩
 refine RC.sr (mv (vi p1.cB.length) (mv (str p0) (RL.lens p0 yw (ic ((p1.cB.length:Int)) ((p0.cB.length:Int)) (aM (vb (decide ((p1.cB.length:Int)>=(p0.cB.length:Int)))) (RL.nt (eH j (fun hc j=>?_) fun hc j=>?_)))))))
 rotate_left
 ·cases j
 refine RC.sr (aM (vi (-1)) (RL.nt (RC.rb (bN ?_))))
 obtain rfl:=oi j
 exact bU ⟨rfl,o.drop 0⟩
theorem qd {p0 p1:bR} (o:Holds E w V) (j:kE N p0 p1=some res):
    Calls bB 160 [(str p0),(str p1)].toArray w (gr (aH E V res)):=by
 unfold kE at j
 refine enter Tryz.func160 zr zr (RC.sr (aM (vi 0) (RL.ns (mv (str p0) (mv (str p1) ?_)))))
 obtain⟨aa,ab,j⟩:=bd j
 refine RL.call zt zr KF [(str p0),(str p1)] zr (aF (sI N (p0:=p0) (p1:=p1) o ab) ?_)
 rintro _ w ⟨rfl,o⟩
 refine aM (vi aa) (RL.nt (RC.ret ?_))
 obtain rfl:=oi j
 exact bU ⟨rfl,o.drop 0⟩
def xL (E:World) (V:List HP) (r:Int) (U:Nat->Value) (w:World):Prop:=mu bB 34 Tryz.f159 (aH E V r) .ret U w
theorem wQ {p0 p1:bR} (hw:Holds E w V) (j:lT N p0 p1=some res):
    Calls bB 159 [(str p0),(str p1)].toArray w (gr (aH E V res)):=by
 unfold lT at j
 refine enter Tryz.func159 zr zr (RC.sr (aM (vi 0) (RL.nq (RC.sr (mv (str p1) (RL.lens p1 yw (ic ((p1.cB.length:Int)) 0 (RL.nt ?_))))))))
 refine eH j (fun hc j=>?_) fun hc j=>?_
 ·cases j
 refine RC.ss (RC.sr (mv (str p1) (RL.lens p1 yw (ic ((p1.cB.length:Int)) 1 (RL.nt (eH j (fun hc j=>?_) fun hc j=>?_))))))
 ·refine RC.sr (mv (str p0) (mv (str p1) ?_))
  obtain⟨ad,af,j⟩:=bd j
  refine RL.idxs p1 0 ad zr zr zr yw af (RL.yd (vi ((Lib.countByte p0.cB (Int.toNat (ad.toNat:Int)).toUInt8:Nat):Int)) zr [(str p0),(.int .u8 (ad.toNat:Int))] zr (Mk p0 (ad.toNat:Int) w) (aM (vi ((Lib.countByte p0.cB (Int.toNat (ad.toNat:Int)).toUInt8:Nat):Int)) (RL.nt (RC.rt ?_))))
  obtain rfl:=oi j
  exact bU ⟨rfl,hw.drop 0⟩
 refine RC.sx (aM (vi 0) (RL.nt ?_))
 obtain⟨al,hN,j⟩:=bd j
 refine RC.iter (fun(o:bR×Int)=>SH E V [(0,(str o.1)),(1,(str p1)),(4,vi 0),(5,vi o.2)] []) (fun(o:bR×Int)=>SH E V [(4,vi 0)] []) (xL E V) hN ?_ ?_ ?_ ?_
 ·exact hw.sp 0 []
 ·rintro o fl _ w ⟨O,rfl,hw⟩ j
  refine RC.bs (mv (str o.1) (mv (str p1) ?_))
  obtain⟨ae,ah,j⟩:=bd j
  refine RL.call zt zr Jg [(str o.1),(str p1)] zr (aF (qd N (p0:=o.1) (p1:=p1) hw ah) ?_)
  rintro _ w ⟨rfl,hw⟩
  refine aM (vi ae) (RL.nq (RC.sr (mv (vi ae) (ic ae ((-1)) (RL.nt (eH j (fun hc j=>?_) fun hc j=>?_))))))
  ·refine RC.sr (mv (vi o.2) (aM (vi o.2) (RL.nt (RC.rt (iA ?_)))))
   obtain rfl:=oi j
   exact⟨rfl,bU ⟨rfl,hw.drop 0⟩⟩
  refine RC.sx (mv (vi o.2) (RL.jQ o.2 1 (aM (vi (IntKind.wrap .i64 (o.2+1))) (RL.nt (RC.region (mv (str o.1) (mv (vi ae) (mv (str p1) ?_))))))))
  refine RL.lens p1 yw (RL.jQ ae (p1.cB.length:Int) ?_)
  obtain⟨ai,aj,j⟩:=bd j
  refine RL.uF o.1 zr zr yw (.inl zr) (.inr ⟨rfl,zr⟩) aj (aM (str ai) (RL.nil (bO ?_)))
  obtain rfl:=oi j
  exact⟨rfl,hw.sp 0 []⟩
 ·intro r U w e hK
  subst e
  obtain rfl:=oi j
  exact hK
 rintro o _ w rfl ⟨O,rfl,hw⟩
 rw [Fo.fW] at j
 obtain rfl:=oi j
 refine Ed ?_
 exact bU ⟨rfl,hw.drop 0⟩
theorem tW {p0 p1:bR} {res: (List bR)} (o:Holds E w V) (j:lD N p0 p1 p2 p3=some res):
    Calls bB 123 [(str p0),(str p1),(vi p2),(vi p3)].toArray w (gr (oJ E V res)):=by
 unfold lD at j
 refine enter Tryz.func123 zr zr (RC.sr (aM (.slice none 0 0) (RL.nq (RC.sr (mv (vi p3) (ic p3 0 (RL.nt (eH j (fun hc j=>?_) fun hc j=>?_))))))))
 ·refine RC.sr (aM (.slice none 0 0) (RL.nt (RC.rt ?_)))
  obtain rfl:=oi j
  have o:=o.cW bR 9
  exact bU (o.pk 1 [0])
 refine RC.ss (RC.sr (mv (str p1) (RL.zD p1 ⟨[]⟩ zt zr zr zr zr (RL.nt (eH j (fun hc j=>?_) fun hc j=>?_)))))
 ·cases j
 refine RC.ss (RC.sr (mv (vi p3) (ic p3 0 (RL.nt ?_))))
 obtain⟨ab,hj,j⟩:=bd j
 refine RC.jn (fun(ab:Int)=>SH E V [(0,(str p0)),(1,(str p1)),(2,vi p2),(3,vi ab)] []) ab ?_ ?_
 ·refine eH hj (fun hc hj=>?_) fun hc hj=>?_
  rotate_left
  ·refine RC.skip ?_
   obtain rfl:=oi hj
   exact⟨rfl,o.sp 0 []⟩
  refine RC.region (mv (str p0) (mv (str p1) ?_))
  obtain⟨aj,ak,hj⟩:=bd hj
  refine RL.call zt zr KG [(str p0),(str p1)] zr (aF (wQ N (p0:=p0) (p1:=p1) o ak) ?_)
  rintro _ w ⟨rfl,o⟩
  refine RL.jQ aj 1 (aM (vi (IntKind.wrap .i64 (aj+1))) (RL.nil ?_))
  obtain rfl:=oi hj
  exact⟨rfl,o.sp 0 []⟩
 rintro _ w ⟨O,rfl,o⟩
 refine aG (RC.sr (mv (vi ab) (mv (str p0) (RL.lens p0 yw (RL.jQ (p0.cB.length:Int) 1 (RL.min ab (IntKind.wrap .i64 ((p0.cB.length:Int)+1)) (aM (vi (if (IntKind.wrap .i64 ((p0.cB.length:Int)+1))<ab then (IntKind.wrap .i64 ((p0.cB.length:Int)+1)) else ab)) (RL.ns ?_))))))))
 refine mv (vi (if (IntKind.wrap .i64 ((p0.cB.length:Int)+1))<ab then (IntKind.wrap .i64 ((p0.cB.length:Int)+1)) else ab)) ?_
 obtain⟨ay,al,j⟩:=bd j
 refine RL.mk (if (IntKind.wrap .i64 ((p0.cB.length:Int)+1))<ab then (IntKind.wrap .i64 ((p0.cB.length:Int)+1)) else ab) zr o zr zr Ml N9 al fun ae w o=>?_
 refine aM ae (RL.ns (mv (vi (if (IntKind.wrap .i64 ((p0.cB.length:Int)+1))<ab then (IntKind.wrap .i64 ((p0.cB.length:Int)+1)) else ab)) (RL.jQ (if (IntKind.wrap .i64 ((p0.cB.length:Int)+1))<ab then (IntKind.wrap .i64 ((p0.cB.length:Int)+1)) else ab) 1 (aM (vi (IntKind.wrap .i64 ((if (IntKind.wrap .i64 ((p0.cB.length:Int)+1))<ab then (IntKind.wrap .i64 ((p0.cB.length:Int)+1)) else ab) - 1))) (RL.ns (aM (vi 0) (RL.nq ?_)))))))
 obtain⟨az,hN,j⟩:=bd j
 refine RC.iter (fun(aa:bR×(List bR)×Int)=>SH E V [(0,(str aa.1)),(1,(str p1)),(2,vi p2),(3,(vi (IntKind.wrap .i64 ((if (IntKind.wrap .i64 ((p0.cB.length:Int)+1))<ab then (IntKind.wrap .i64 ((p0.cB.length:Int)+1)) else ab) - 1)))),(9,ae),(10,vi aa.2.2)] [own 9 ae aa.2.1]) (fun(aa:bR×(List bR)×Int)=>SH E V [(0,(str aa.1)),(9,ae),(10,vi aa.2.2)] [own 9 ae aa.2.1]) (fun(r:Empty) _ _=>r.elim) hN ?_ ?_ ?_ ?_
 ·exact o.sp 1 [0]
 ·rintro aa fl _ w ⟨O,rfl,o⟩ j
  refine RC.seq (RC.sr (mv (vi aa.2.2) (mv (vi (IntKind.wrap .i64 ((if (IntKind.wrap .i64 ((p0.cB.length:Int)+1))<ab then (IntKind.wrap .i64 ((p0.cB.length:Int)+1)) else ab) - 1))) (ic aa.2.2 ((IntKind.wrap .i64 ((if (IntKind.wrap .i64 ((p0.cB.length:Int)+1))<ab then (IntKind.wrap .i64 ((p0.cB.length:Int)+1)) else ab) - 1))) (RL.nt (eH j (fun hc j=>?_) fun hc j=>?_))))))
  rotate_left
  ·refine RC.ex ?_
   obtain rfl:=oi j
   exact⟨rfl,o.sp 1 [0]⟩
  refine RC.sn (RC.bs (mv (str aa.1) (mv (str p1) ?_)))
  obtain⟨ag,ao,j⟩:=bd j
  refine RL.call zt zr Jg [(str aa.1),(str p1)] zr (aF (qd N (p0:=aa.1) (p1:=p1) o ao) ?_)
  rintro _ w ⟨rfl,o⟩
  refine aM (vi ag) (RL.nq (RC.sr (mv (vi ag) (ic ag 0 (RL.nt (eH j (fun hc j=>?_) fun hc j=>?_))))))
  ·refine RC.ex (JA (by decide) ?_)
   obtain rfl:=oi j
   exact⟨rfl,o.sp 1 [0]⟩
  refine RC.sx (mv ae (mv (vi aa.2.2) (mv (str aa.1) (mv (vi ag) (mv (vi p2) (RL.jQ ag p2 ?_))))))
  obtain⟨aq,ar,j⟩:=bd j
  refine RL.uF aa.1 zr zr yw (.inr ⟨rfl,zr⟩) (.inl zr) ar ?_
  obtain⟨a1,ah,j⟩:=bd j
  refine RL.bY 0 o zr zr GS ah ?_
  have o:=o.sc bR aq
  refine RL.iH (f:=(fun _ y=>y)) 1 0 o (kC 1 o ah 0) (bG ah).2.1 zr Fs.self pQ fun w o=>?_
  refine RL.ns (mv (str aa.1) (mv (vi ag) (mv (str p1) (RL.lens p1 yw (RL.jQ ag (p1.cB.length:Int) ?_)))))
  obtain⟨au,av,j⟩:=bd j
  refine RL.uF aa.1 zr zr yw (.inl zr) (.inr ⟨rfl,zr⟩) av (aM (str au) (RL.nt (RC.region (mv (vi aa.2.2) (RL.jQ aa.2.2 1 (aM (vi (IntKind.wrap .i64 (aa.2.2+1))) (RL.nil (bO ?_))))))))
  obtain rfl:=oi j
  exact⟨rfl,o.sp 2 [1]⟩
 ·intro r _ _ _ _
  exact r.elim
 rintro aa _ w rfl ⟨O,rfl,o⟩
 rw [Fo.fW] at j
 refine aG (RC.sr (mv ae (mv (vi aa.2.2) (mv (str aa.1) ?_))))
 obtain⟨a2,ai,j⟩:=bd j
 refine RL.bY 0 o zr zr GS ai ?_
 have o:=o.sc bR aa.1
 refine RL.iH (f:=(fun _ y=>y)) 1 0 o (kC 1 o ai 0) (bG ai).2.1 zr Fs.self pQ fun w o=>?_
 refine RL.ns (mv ae (mv (vi aa.2.2) (RL.jQ aa.2.2 1 ?_)))
 obtain⟨a3,aw,j⟩:=bd j
 refine RL.xR 1 zr o zr zr GS (.inr ⟨rfl,zr⟩) aw fun ax o=>(aM ax (RL.nt (RC.ret ?_)))
 obtain rfl:=oi j
 exact bU (o.pk 2 [1])
theorem wR {p0 p1:bR} {res: (List bR)} (o:Holds E w V) (j:lU N p0 p1=some res):
    Calls bB 81 [(str p0),(str p1)].toArray w (gr (oJ E V res)):=by
 unfold lU at j
 refine enter Tryz.func81 zr zr (RC.sr (aM (.slice none 0 0) (RL.ns (mv (str p0) (mv (str p1) ?_)))))
 obtain⟨ad,aa,j⟩:=bd j
 refine RL.call zt zr KH [(str p0),(str p1),(vi 0),(vi (-1))] zr (aF (tW N (p0:=p0) (p1:=p1) (p2:=0) (p3:=(-1)) o aa) ?_)
 rintro ab w o
 refine aM ab (RL.nt (RC.ret ?_))
 obtain rfl:=oi j
 exact bU (o.pk 1 [0])
def oZ (E:World) (V:List HP) (r:Int) (U:Nat->Value) (w:World):Prop:=mu bB 19 Tryz.f122 (aH E V r) .ret U w
theorem oL {p0: (List bR)} {p1:bR->Option Bool} (j:Holds E w V) (h0:V[i0]? =some (rd v0 p0)) (h1:Ef bB E V v1 p1 (fun(r:Bool)=>Value.bool r)) (o:jT N p0 p1=some res):
    Calls bB 122 [v0,v1].toArray w (gr (aH E V res)):=by
 unfold jT at o
 refine enter Tryz.func122 zr zr ?_
 have j:=j.dup (i0+0) h0
 refine RC.sr (aM (vi 0) (RL.nq (RC.sr (mv v0 (RL.bF 0 p0 j KI (mv (vi 0) (RL.nt ?_)))))))
 obtain⟨al,hN,o⟩:=bd o
 refine RC.range (fun(aa:Nat) (ab:Unit)=>SH E V [(0,v0),(1,v1),(7,vi p0.length),(8,vi aa)] [rd v0 p0]) (fun(ab:Unit)=>SH E V [] [rd v0 p0]) (oZ E V) hN ?_ ?_ ?_ ?_ ?_
 ·exact j.sp 1 [0]
 ·rintro hm ab _ w ⟨O,rfl,j⟩
  refine RC.sr (ic ((p0.length:Int)) ((p0.length:Int)) (RL.nq (RC.cP mz (RC.ex ?_))))
  exact⟨rfl,j.sp 1 [0]⟩
 ·rintro hm aa ab fl _ w hk ⟨O,rfl,j⟩ o
  refine RC.sr (ic ((aa:Int)) ((p0.length:Int)) (RL.nq (RC.cO (my hk) (RC.ss (RC.bs (mv (vi aa) (aM (vi aa) (RL.ns ?_))))))))
  refine mv v1 (mv v0 (mv (vi aa) ?_))
  obtain⟨af,ah,o⟩:=bd o
  refine RL.cA 0 j GS ah fun ao j=>(RL.bQ af 0 j pQ ?_)
  have j:=j.sc bR af
  obtain⟨aq,ai,o⟩:=bd o
  refine RL.uB 0 j h1 3 ai fun w j=>(RL.nt (eH o (fun hc o=>?_) fun hc o=>?_))
  rotate_left
  ·refine RC.skip (bO (aG (RC.region (RL.inc hk hm (mv (vi ((aa+1:Nat):Int)) (RL.nil ?_))))))
   obtain rfl:=oi o
   exact⟨rfl,j.sp 3 [2]⟩
  refine RC.sr (mv (vi aa) (aM (vi aa) (RL.nt (RC.rb (bN ?_)))))
  obtain rfl:=oi o
  exact⟨rfl,bU ⟨rfl,j.drop 3⟩⟩
 ·intro r U w e hK
  subst e
  refine bN ?_
  obtain rfl:=oi o
  exact hK
 rintro ab _ w rfl ⟨O,rfl,j⟩
 rw [Fo.fW] at o
 refine aG (RC.sr (aM (vi (-1)) (RL.nt (RC.ret ?_))))
 obtain rfl:=oi o
 exact bU ⟨rfl,j.drop 1⟩
theorem nD {p0: (List bR)} {p1:bR->Option Bool} {res:Bool} (j:Holds E w V) (h0:V[i0]? =some (rd v0 p0)) (h1:Ef bB E V v1 p1 (fun(r:Bool)=>Value.bool r)) (o:gx N p0 p1=some res):
    Calls bB 80 [v0,v1].toArray w (gr (bA E V res)):=by
 unfold gx at o
 refine enter Tryz.func80 zr zr ?_
 have j:=j.dup (i0+0) h0
 refine RC.sr (aM (vb false) (RL.ns (mv v0 (mv v1 ?_))))
 obtain⟨aa,ab,o⟩:=bd o
 refine RL.call zt zr KJ [v0,v1] zr (aF (oL N (i0:=0) j zr (h1.lift 1 zr) ab) ?_)
 rintro _ w ⟨rfl,j⟩
 refine ic aa 0 (aM (vb (decide (aa>=0))) (RL.nt (RC.ret ?_)))
 obtain rfl:=oi o
 exact bU ⟨rfl,j.drop 1⟩
theorem sJ {p0:bR} {res:Bool} (o:Holds E w V) (j:gz N p0=some res):
    Calls bB 82 [(str p0)].toArray w (gr (bA E V res)):=by
 unfold gz at j
 refine enter Tryz.func82 zr zr (RC.sr (aM (vb false) (RL.ns (mv (str p0) ?_))))
 obtain⟨aa,ab,j⟩:=bd j
 refine RL.call zt zr Is [(str p0)] zr (aF (kP N (p0:=p0) o ab) ?_)
 rintro _ w ⟨rfl,o⟩
 refine RL.not aa (aM (vb (!aa)) (RL.nt (RC.ret ?_)))
 obtain rfl:=oi j
 exact bU ⟨rfl,o.drop 0⟩
theorem mJ {p0:bR} {res:Bool} (j:Holds E w V) (hb:gW N p0=some res):
    Calls bB 38 [(str p0)].toArray w (gr (bA E V res)):=by
 unfold gW at hb
 refine enter Tryz.func38 zr zr (RC.sr (aM (vb false) (RL.nq ?_)))
 obtain⟨ad,hj,hb⟩:=bd hb
 refine RC.jn (fun(ad:Bool)=>SH E V [(2,vb ad)] []) ad ?_ ?_
 ·refine RC.region (mv (str p0) (RL.lens p0 yw (ic ((p0.cB.length:Int)) 200 (mv (vb (decide ((p0.cB.length:Int)<=200))) (gZ hj (fun o hj=>?_) fun o hj=>?_)))))
  rotate_left
  ·refine bZ o (bZ o (bZ o (bZ o (g9 o (vb false) (aM (vb false) (RL.nil ?_))))))
   obtain rfl:=oi hj
   exact⟨rfl,j.sp 0 []⟩
  refine RL.move (str p0) (cg o) ?_
  obtain⟨ai,af,hj⟩:=bd hj
  refine RL.call (cg o) zr Mm [(str p0),(str ⟨[47]⟩)] zr (aF (wR N (p0:=p0) (p1:=⟨[47]⟩) j af) ?_)
  rintro ag w j
  have j:=j.freeze 0
  obtain⟨ae,ah,hj⟩:=bd hj
  refine RL.call (cg o) rfl Mo [ag,(.func (.func 82) #[] #[])] rfl (aF (nD N (i0:=0) j rfl ⟨82,[],rfl,Mn,fun w Γl v y0 r i j hi hr=>by obtain rfl:=j.xG (γ:=bR) hi;exact aF (sJ N (p0:=y0) j hr) fun _ _ h=>h⟩ ah) ?_)
  rintro _ w ⟨rfl,j⟩
  refine RL.not (hg:=(cg o)) ae (g9 o (vb (!ae)) (aM (vb (!ae)) (RL.nil ?_)))
  obtain rfl:=oi hj
  exact⟨rfl,j.sp 1 []⟩
 rintro _ w ⟨O,rfl,j⟩
 refine aG (RC.ret ?_)
 obtain rfl:=oi hb
 exact bU ⟨rfl,j.drop 0⟩
theorem lk {p0: (List Part)} {p1:bR} {p2:Part->bR->Option Int} {res:Int×Bool} (o:Holds E w V) (h0:V[i0]? =some (rd v0 p0)) (h2:H0 bB E V v2 p2 (fun(r:Int)=>Value.int .i64 r)) (hb:eD N p0 p1 p2=some res):
    Calls bB 83 [v0,(str p1),v2].toArray w (gr (dG E V res)):=by
 unfold eD at hb
 refine enter Tryz.func83 zr zr ?_
 have o:=o.dup (i0+0) h0
 refine RC.sr (aM (vi 0) (aM (vb false) (RL.ns (mv v0 (RL.bF 0 p0 o Iu (aM (vi p0.length) (RL.ns (mv (vi p0.length) ?_))))))))
 refine aM (vi 0) (aM (vi p0.length) (RL.nq ?_))
 obtain⟨au,hN,hb⟩:=bd hb
 refine RC.iter (fun(j:Int×Int)=>SH E V [(0,v0),(1,(str p1)),(2,v2),(8,vi p0.length),(9,vi j.1),(10,vi j.2)] [rd v0 p0]) (fun(j:Int×Int)=>SH E V [(0,v0),(1,(str p1)),(2,v2),(8,vi p0.length),(9,vi j.1)] [rd v0 p0]) (fun(r:Empty) _ _=>r.elim) hN ?_ ?_ ?_ ?_
 ·exact o.sp 1 [0]
 ·rintro j fl _ w ⟨O,rfl,o⟩ hb
  refine RC.seq (RC.sr (mv (vi j.1) (mv (vi j.2) (ic j.1 j.2 (RL.nt (eH hb (fun hc hb=>?_) fun hc hb=>?_))))))
  rotate_left
  ·refine RC.ex ?_
   obtain rfl:=oi hb
   exact⟨rfl,o.sp 1 [0]⟩
  refine RC.sn (RC.bs (mv (vi j.1) (mv (vi j.2) (RL.jQ j.1 j.2 (RL.conv (IntKind.wrap .i64 (j.1+j.2)) ⟨_,Eu⟩ Cm (RL.bin (v':=(.int .u64 1)) (.int .u64 (IntKind.wrap .u64 (IntKind.wrap .i64 (j.1+j.2)))) (.int .u64 (Int.fdiv (IntKind.wrap .u64 (IntKind.wrap .i64 (j.1+j.2))) 2)) zt zr zr zr (RL.conv (Int.fdiv (IntKind.wrap .u64 (IntKind.wrap .i64 (j.1+j.2))) 2) ⟨_,Cm⟩ Eu (aM (vi (IntKind.wrap .i64 (Int.fdiv (IntKind.wrap .u64 (IntKind.wrap .i64 (j.1+j.2))) 2))) ?_))))))))
  refine RL.ns (mv v2 (mv v0 (mv (vi (IntKind.wrap .i64 (Int.fdiv (IntKind.wrap .u64 (IntKind.wrap .i64 (j.1+j.2))) 2))) ?_)))
  obtain⟨aj,ak,hb⟩:=bd hb
  refine RL.cA 0 o Fa ak fun aw o=>(RL.bC 0 aj o Dk fun ax o=>(mv (str p1) ?_))
  have o:=o.sc bR p1
  obtain⟨al,an,hb⟩:=bd hb
  refine RL.qG 1 0 zt o h2 4 an fun w o=>(ic al 0 (RL.nt ?_))
  obtain⟨ae,hj,hb⟩:=bd hb
  refine RC.jn (fun(ae:Int×Int)=>SH E V [(0,v0),(1,(str p1)),(2,v2),(8,vi p0.length),(9,vi ae.1),(10,vi ae.2)] [rd v0 p0]) ae ?_ ?_
  ·refine eH hj (fun hc hj=>?_) fun hc hj=>?_
   rotate_left
   ·refine RC.region (mv (vi (IntKind.wrap .i64 (Int.fdiv (IntKind.wrap .u64 (IntKind.wrap .i64 (j.1+j.2))) 2))) (aM (vi (IntKind.wrap .i64 (Int.fdiv (IntKind.wrap .u64 (IntKind.wrap .i64 (j.1+j.2))) 2))) (RL.nil ?_)))
    obtain rfl:=oi hj
    exact⟨rfl,o.sp 4 [3]⟩
   refine RC.region (mv (vi (IntKind.wrap .i64 (Int.fdiv (IntKind.wrap .u64 (IntKind.wrap .i64 (j.1+j.2))) 2))) (RL.jQ (IntKind.wrap .i64 (Int.fdiv (IntKind.wrap .u64 (IntKind.wrap .i64 (j.1+j.2))) 2)) 1 (aM (vi (IntKind.wrap .i64 ((IntKind.wrap .i64 (Int.fdiv (IntKind.wrap .u64 (IntKind.wrap .i64 (j.1+j.2))) 2))+1))) (RL.nil ?_))))
   obtain rfl:=oi hj
   exact⟨rfl,o.sp 4 [3]⟩
  rintro _ w ⟨O,rfl,o⟩
  refine bO ?_
  obtain rfl:=oi hb
  exact⟨rfl,o.sp 1 [0]⟩
 ·intro r _ _ _ _
  exact r.elim
 rintro j _ w rfl ⟨O,rfl,o⟩
 rw [Fo.fW] at hb
 refine aG (RC.seq ?_)
 obtain⟨ag,hj,hb⟩:=bd hb
 refine RC.jn (fun(ag:Bool)=>SH E V [(6,vi j.1),(7,vb ag)] []) ag ?_ ?_
 ·refine RC.region (mv (vi j.1) (mv (vi j.1) (mv (vi p0.length) (ic j.1 ((p0.length:Int)) (mv (vb (decide (j.1< (p0.length:Int)))) (gZ hj (fun ab hj=>?_) fun ab hj=>?_))))))
  rotate_left
  ·refine bZ ab (bZ ab (bZ ab (bZ ab (bZ ab (bZ ab (bZ ab (bZ ab (g9 ab (vb false) ?_))))))))
   refine aM (vi j.1) (aM (vb false) (RL.nil ?_))
   obtain rfl:=oi hj
   exact⟨rfl,o.sp 1 []⟩
  refine RL.move v2 (cg ab) (RL.move v0 (cg ab) (RL.move (vi j.1) (cg ab) ?_))
  obtain⟨ao,aq,hj⟩:=bd hj
  refine RL.cA (hg:=(cg ab)) 0 o Fa aq fun ay o=>(RL.bC (hg:=(cg ab)) 0 ao o Dk fun az o=>(RL.move (str p1) (cg ab) ?_))
  have o:=o.sc bR p1
  obtain⟨ah,ar,hj⟩:=bd hj
  refine RL.qG 1 0 (cg ab) o h2 4 ar fun w o=>(RL.kI ah 0 (cg ab) (g9 ab (vb (ah==0)) (aM (vi j.1) (aM (vb (ah==0)) (RL.nil ?_)))))
  obtain rfl:=oi hj
  exact⟨rfl,o.sp 4 []⟩
 rintro _ w ⟨O,rfl,o⟩
 refine aG (RC.ret ?_)
 obtain rfl:=oi hb
 exact oz ⟨rfl,o.drop 0⟩
theorem sL {p0:Part} {p1:bR} (j:Holds E w V) (h0:V[i0]? =some (rd v0 p0)) (o:il N p0 p1=some res):
    Calls bB 84 [v0,(str p1)].toArray w (gr (aH E V res)):=by
 unfold il at o
 refine enter Tryz.func84 zr zr ?_
 have j:=j.dup (i0+0) h0
 refine RC.sr (RL.cQ 0 v0 j zr fun ad w j=>?_)
 refine aM (vi 0) (RL.ns (RL.bH zr yy (RL.aP 0 j zr pV pQ (mv (str p1) ?_))))
 obtain⟨aa,ab,o⟩:=bd o
 refine RL.call zt zr GR [(str p0.Name),(str p1)] zr (aF (jg N (p0:=p0.Name) (p1:=p1) j ab) ?_)
 rintro _ w ⟨rfl,j⟩
 refine aM (vi aa) (RL.nt (RC.ret ?_))
 obtain rfl:=oi o
 exact bU ⟨rfl,j.drop 2⟩
theorem vK {p0: (List Part)} {p1:bR} (hw:Holds E w V) (h0:V[i0]? =some (rd v0 p0)) (hb:kY N p0 p1=some res):
    Calls bB 41 [v0,(str p1)].toArray w (gr (aH E V res)):=by
 unfold kY at hb
 refine enter Tryz.func41 zr zr ?_
 have hw:=hw.dup (i0+0) h0
 refine RC.sr (aM (vi 0) (RL.ns (mv v0 (mv (str p1) ?_))))
 obtain⟨o,ad,hb⟩:=bd hb
 refine RL.call trivial rfl Mr [v0,(str p1),(.func (.func 84) #[] #[])] rfl (aF (lk N (p1:=p1) (i0:=0) hw rfl ⟨84,[],rfl,Mq,fun w Γl v v' y0 y1 r i j hw hi hj hr=>by obtain rfl:=hw.xG (γ:=bR) hj;exact aF (sL N (p1:=y1) (i0:=i) hw hi hr) fun _ _ h=>h⟩ ad) ?_)
 rintro _ w ⟨rfl,hw⟩
 refine mv (.tuple #[(vi o.1),(vb o.2)]) (RL.extract (vi o.1) (RL.extract (vb o.2) (aM (vi o.1) (aM (vb o.2) (RL.nq (RC.sr (mv (vb o.2) (RL.not o.2 ?_))))))))
 refine RL.nt (eH hb (fun hc hb=>?_) fun hc hb=>?_)
 ·refine RC.sr (aM (vi (-1)) (RL.nt (RC.rt ?_)))
  obtain rfl:=oi hb
  exact bU ⟨rfl,hw.drop 1⟩
 refine RC.sx (mv (vi o.1) (aM (vi o.1) (RL.nt (RC.ret ?_))))
 obtain rfl:=oi hb
 exact bU ⟨rfl,hw.drop 1⟩
theorem kz {p0: (List cM)} {p1:bR} {p2:cM->bR->Option Int} {res:Int×Bool} (o:Holds E w V) (h0:V[i0]? =some (rd v0 p0)) (h2:H0 bB E V v2 p2 (fun(r:Int)=>Value.int .i64 r)) (hb:dR N p0 p1 p2=some res):
    Calls bB 85 [v0,(str p1),v2].toArray w (gr (dG E V res)):=by
 unfold dR at hb
 refine enter Tryz.func85 zr zr ?_
 have o:=o.dup (i0+0) h0
 refine RC.sr (aM (vi 0) (aM (vb false) (RL.ns (mv v0 (RL.bF 0 p0 o yx (aM (vi p0.length) (RL.ns (mv (vi p0.length) ?_))))))))
 refine aM (vi 0) (aM (vi p0.length) (RL.nq ?_))
 obtain⟨au,hN,hb⟩:=bd hb
 refine RC.iter (fun(j:Int×Int)=>SH E V [(0,v0),(1,(str p1)),(2,v2),(8,vi p0.length),(9,vi j.1),(10,vi j.2)] [rd v0 p0]) (fun(j:Int×Int)=>SH E V [(0,v0),(1,(str p1)),(2,v2),(8,vi p0.length),(9,vi j.1)] [rd v0 p0]) (fun(r:Empty) _ _=>r.elim) hN ?_ ?_ ?_ ?_
 ·exact o.sp 1 [0]
 ·rintro j fl _ w ⟨O,rfl,o⟩ hb
  refine RC.seq (RC.sr (mv (vi j.1) (mv (vi j.2) (ic j.1 j.2 (RL.nt (eH hb (fun hc hb=>?_) fun hc hb=>?_))))))
  rotate_left
  ·refine RC.ex ?_
   obtain rfl:=oi hb
   exact⟨rfl,o.sp 1 [0]⟩
  refine RC.sn (RC.bs (mv (vi j.1) (mv (vi j.2) (RL.jQ j.1 j.2 (RL.conv (IntKind.wrap .i64 (j.1+j.2)) ⟨_,Eu⟩ Cm (RL.bin (v':=(.int .u64 1)) (.int .u64 (IntKind.wrap .u64 (IntKind.wrap .i64 (j.1+j.2)))) (.int .u64 (Int.fdiv (IntKind.wrap .u64 (IntKind.wrap .i64 (j.1+j.2))) 2)) zt zr zr zr (RL.conv (Int.fdiv (IntKind.wrap .u64 (IntKind.wrap .i64 (j.1+j.2))) 2) ⟨_,Cm⟩ Eu (aM (vi (IntKind.wrap .i64 (Int.fdiv (IntKind.wrap .u64 (IntKind.wrap .i64 (j.1+j.2))) 2))) ?_))))))))
  refine RL.ns (mv v2 (mv v0 (mv (vi (IntKind.wrap .i64 (Int.fdiv (IntKind.wrap .u64 (IntKind.wrap .i64 (j.1+j.2))) 2))) ?_)))
  obtain⟨aj,ak,hb⟩:=bd hb
  refine RL.cA 0 o xu ak fun aw o=>(RL.bC 0 aj o vC fun ax o=>(mv (str p1) ?_))
  have o:=o.sc bR p1
  obtain⟨al,an,hb⟩:=bd hb
  refine RL.qG 1 0 zt o h2 4 an fun w o=>(ic al 0 (RL.nt ?_))
  obtain⟨ae,hj,hb⟩:=bd hb
  refine RC.jn (fun(ae:Int×Int)=>SH E V [(0,v0),(1,(str p1)),(2,v2),(8,vi p0.length),(9,vi ae.1),(10,vi ae.2)] [rd v0 p0]) ae ?_ ?_
  ·refine eH hj (fun hc hj=>?_) fun hc hj=>?_
   rotate_left
   ·refine RC.region (mv (vi (IntKind.wrap .i64 (Int.fdiv (IntKind.wrap .u64 (IntKind.wrap .i64 (j.1+j.2))) 2))) (aM (vi (IntKind.wrap .i64 (Int.fdiv (IntKind.wrap .u64 (IntKind.wrap .i64 (j.1+j.2))) 2))) (RL.nil ?_)))
    obtain rfl:=oi hj
    exact⟨rfl,o.sp 4 [3]⟩
   refine RC.region (mv (vi (IntKind.wrap .i64 (Int.fdiv (IntKind.wrap .u64 (IntKind.wrap .i64 (j.1+j.2))) 2))) (RL.jQ (IntKind.wrap .i64 (Int.fdiv (IntKind.wrap .u64 (IntKind.wrap .i64 (j.1+j.2))) 2)) 1 (aM (vi (IntKind.wrap .i64 ((IntKind.wrap .i64 (Int.fdiv (IntKind.wrap .u64 (IntKind.wrap .i64 (j.1+j.2))) 2))+1))) (RL.nil ?_))))
   obtain rfl:=oi hj
   exact⟨rfl,o.sp 4 [3]⟩
  rintro _ w ⟨O,rfl,o⟩
  refine bO ?_
  obtain rfl:=oi hb
  exact⟨rfl,o.sp 1 [0]⟩
 ·intro r _ _ _ _
  exact r.elim
 rintro j _ w rfl ⟨O,rfl,o⟩
 rw [Fo.fW] at hb
 refine aG (RC.seq ?_)
 obtain⟨ag,hj,hb⟩:=bd hb
 refine RC.jn (fun(ag:Bool)=>SH E V [(6,vi j.1),(7,vb ag)] []) ag ?_ ?_
 ·refine RC.region (mv (vi j.1) (mv (vi j.1) (mv (vi p0.length) (ic j.1 ((p0.length:Int)) (mv (vb (decide (j.1< (p0.length:Int)))) (gZ hj (fun ab hj=>?_) fun ab hj=>?_))))))
  rotate_left
  ·refine bZ ab (bZ ab (bZ ab (bZ ab (bZ ab (bZ ab (bZ ab (bZ ab (g9 ab (vb false) ?_))))))))
   refine aM (vi j.1) (aM (vb false) (RL.nil ?_))
   obtain rfl:=oi hj
   exact⟨rfl,o.sp 1 []⟩
  refine RL.move v2 (cg ab) (RL.move v0 (cg ab) (RL.move (vi j.1) (cg ab) ?_))
  obtain⟨ao,aq,hj⟩:=bd hj
  refine RL.cA (hg:=(cg ab)) 0 o xu aq fun ay o=>(RL.bC (hg:=(cg ab)) 0 ao o vC fun az o=>(RL.move (str p1) (cg ab) ?_))
  have o:=o.sc bR p1
  obtain⟨ah,ar,hj⟩:=bd hj
  refine RL.qG 1 0 (cg ab) o h2 4 ar fun w o=>(RL.kI ah 0 (cg ab) (g9 ab (vb (ah==0)) (aM (vi j.1) (aM (vb (ah==0)) (RL.nil ?_)))))
  obtain rfl:=oi hj
  exact⟨rfl,o.sp 4 []⟩
 rintro _ w ⟨O,rfl,o⟩
 refine aG (RC.ret ?_)
 obtain rfl:=oi hb
 exact oz ⟨rfl,o.drop 0⟩
theorem tX {p0:cM} {p1:bR} (j:Holds E w V) (h0:V[i0]? =some (rd v0 p0)) (o:iU N p0 p1=some res):
    Calls bB 86 [v0,(str p1)].toArray w (gr (aH E V res)):=by
 unfold iU at o
 refine enter Tryz.func86 zr zr ?_
 have j:=j.dup (i0+0) h0
 refine RC.sr (RL.cQ 0 v0 j zr fun ad w j=>?_)
 refine aM (vi 0) (RL.ns (RL.bH zr vD (RL.aP 0 j zr mE pQ (mv (str p1) ?_))))
 obtain⟨aa,ab,o⟩:=bd o
 refine RL.call zt zr GR [(str p0.Name),(str p1)] zr (aF (jg N (p0:=p0.Name) (p1:=p1) j ab) ?_)
 rintro _ w ⟨rfl,j⟩
 refine aM (vi aa) (RL.nt (RC.ret ?_))
 obtain rfl:=oi o
 exact bU ⟨rfl,j.drop 2⟩
theorem wS {p0:aL} {p1:bR} (o:Holds E w V) (h0:V[i0]? =some (rd v0 p0)) (hb:lV N p0 p1=some res):
    Calls bB 42 [v0,(str p1)].toArray w (gr (aH E V res)):=by
 unfold lV at hb
 refine enter Tryz.func42 zr zr ?_
 have o:=o.dup (i0+0) h0
 refine RC.sr (RL.cQ 0 v0 o zr fun ah w o=>?_)
 refine aM (vi 0) (RL.ns (RL.bH zr AY (RL.aN 0 o zr pG GP fun ad o=>(mv (str p1) ?_))))
 obtain⟨aa,ae,hb⟩:=bd hb
 refine RL.call trivial rfl Mu [ad,(str p1),(.func (.func 86) #[] #[])] rfl (aF (kz N (p1:=p1) (i0:=0) o rfl ⟨86,[],rfl,Mt,fun w Γl v v' y0 y1 r i j o hi hj hr=>by obtain rfl:=o.xG (γ:=bR) hj;exact aF (tX N (p1:=y1) (i0:=i) o hi hr) fun _ _ h=>h⟩ ae) ?_)
 rintro _ w ⟨rfl,o⟩
 refine mv (.tuple #[(vi aa.1),(vb aa.2)]) (RL.extract (vi aa.1) (RL.extract (vb aa.2) (aM (vi aa.1) (aM (vb aa.2) (RL.nq (RC.sr (mv (vb aa.2) (RL.not aa.2 ?_))))))))
 refine RL.nt (eH hb (fun hc hb=>?_) fun hc hb=>?_)
 ·refine RC.sr (aM (vi (-1)) (RL.nt (RC.rt ?_)))
  obtain rfl:=oi hb
  exact bU ⟨rfl,o.drop 3⟩
 refine RC.sx (mv (vi aa.1) (aM (vi aa.1) (RL.nt (RC.ret ?_))))
 obtain rfl:=oi hb
 exact bU ⟨rfl,o.drop 3⟩
end Go.Gk
