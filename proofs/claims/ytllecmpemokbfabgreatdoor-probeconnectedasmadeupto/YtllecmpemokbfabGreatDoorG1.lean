/-
  Printed texts: Go functions as plain functions, and that they are. No statement of the seed is proved here.
-/
import Derived.Test.YtllecmpemokbfabGreatDoorProg
import Derived.Test.YtllecmpemokbfabGreatDoorE1
import Derived.Test.YtllecmpemokbfabGreatDoorA1
import Derived.Test.YtllecmpemokbfabGreatDoorA2
import Derived.Test.YtllecmpemokbfabGreatDoorRows
import Derived.Shelf.SlGeneric
import Derived.Ground.SlsfProg
import Derived.Ground.SlgmProg
set_option linter.unusedVariables false
set_option linter.unusedSimpArgs false
set_option linter.unusedSectionVars false
set_option maxRecDepth 100000
set_option maxHeartbeats 4000000
namespace Go.Gk
open Go Go.Proofs
noncomputable abbrev bC:=Tryz.prog
def kb (x:aI):=(x.X0,x.Y0,x.X1,x.Y1)
instance instGTRect:GT aI:=GT.via kb
instance instKVRect:KV aI:=instKVvia (fun(x:aI)=>(x.X0,x.Y0,x.X1,x.Y1))
theorem eH:Fd 0 (fun x:aI=>x.X0):= .v kb (.fst .self)
theorem qc:Fs 0 Int (fun(x:aI) y=>{x with X0:=y}):= .v kb (.fst .self)
theorem eW:Fd 1 (fun x:aI=>x.Y0):= .v kb (.snd (.fst .self))
theorem th:Fs 1 Int (fun(x:aI) y=>{x with Y0:=y}):= .v kb (.snd (.fst .self))
theorem fD:Fd 2 (fun x:aI=>x.X1):= .v kb (.snd (.snd (.fst .self)))
theorem nC:Fs 2 Int (fun(x:aI) y=>{x with X1:=y}):= .v kb (.snd (.snd (.fst .self)))
theorem iL:Fd 3 (fun x:aI=>x.Y1):= .v kb (.snd (.snd (.snd (.self))))
theorem qd:Fs 3 Int (fun(x:aI) y=>{x with Y1:=y}):= .v kb (.snd (.snd (.snd (.self))))
def ti (x:iO):=(x.X,x.Y)
instance instGTPoint:GT iO:=GT.via ti
instance instKVPoint:KV iO:=instKVvia (fun(x:iO)=>(x.X,x.Y))
theorem oj:Fd 0 (fun x:iO=>x.X):= .v ti (.fst .self)
theorem om:Fd 1 (fun x:iO=>x.Y):= .v ti (.snd (.self))
def nD (x:bU):=(x.At,x.eB,x.cK,x.To,x.gh)
instance instGTBore:GT bU:=GT.via nD
theorem tj:Fd 0 (fun x:bU=>x.At):= .v nD (.fst .self)
theorem nE:Fd 2 (fun x:bU=>x.eB):= .v nD (.snd (.fst .self))
theorem lk:Fd 3 (fun x:bU=>x.cK):= .v nD (.snd (.snd (.fst .self)))
theorem mg:Fd 4 (fun x:bU=>x.To):= .v nD (.snd (.snd (.snd (.fst .self))))
theorem qe:Fd 5 (fun x:bU=>x.gh):= .v nD (.snd (.snd (.snd (.snd (.self)))))
def mw (x:cT):=(x.Part,x.eK,x.dY,x.At)
instance instGTLand:GT cT:=GT.via mw
theorem wk:Fd 0 (fun x:cT=>x.Part):= .v mw (.fst .self)
theorem AG:Fs 0 cS (fun(x:cT) y=>{x with Part:=y}):= .v mw (.fst .self)
theorem wm:Fd 1 (fun x:cT=>x.eK):= .v mw (.snd (.fst .self))
theorem AH:Fs 1 cS (fun(x:cT) y=>{x with eK:=y}):= .v mw (.snd (.fst .self))
theorem tk:Fd 2 (fun x:cT=>x.dY):= .v mw (.snd (.snd (.fst .self)))
theorem tl:Fd 3 (fun x:cT=>x.At):= .v mw (.snd (.snd (.snd (.self))))
def rU (x:jS):=(x.aJ,x.dJ,x.aS,x.bE)
instance instGTArt:GT jS:=GT.via rU
theorem nF:Fd 0 (fun x:jS=>x.aJ):= .v rU (.fst .self)
theorem uG:Fd 1 (fun x:jS=>x.dJ):= .v rU (.snd (.fst .self))
theorem o9:Fd 2 (fun x:jS=>x.aS):= .v rU (.snd (.snd (.fst .self)))
theorem pd:Fd 3 (fun x:jS=>x.bE):= .v rU (.snd (.snd (.snd (.self))))
def rV (x:eK):=(x.Part,x.eK)
instance instGTPin:GT eK:=GT.via rV
instance instKVPin:KV eK:=instKVvia (fun(x:eK)=>(x.Part,x.eK))
theorem yf:Fd 0 (fun x:eK=>x.Part):= .v rV (.fst .self)
theorem uH:Fs 0 cS (fun(x:eK) y=>{x with Part:=y}):= .v rV (.fst .self)
theorem yg:Fd 1 (fun x:eK=>x.eK):= .v rV (.snd (.self))
theorem uI:Fs 1 cS (fun(x:eK) y=>{x with eK:=y}):= .v rV (.snd (.self))
def oq (x:eZ):=(x.bU,x.Number)
instance instGTHop:GT eZ:=GT.via oq
instance instKVHop:KV eZ:=instKVvia (fun(x:eZ)=>(x.bU,x.Number))
theorem uJ:Fd 0 (fun x:eZ=>x.bU):= .v oq (.fst .self)
theorem BT:Fs 0 Bool (fun(x:eZ) y=>{x with bU:=y}):= .v oq (.fst .self)
theorem mx:Fd 1 (fun x:eZ=>x.Number):= .v oq (.snd (.self))
theorem yh:Fs 1 Int (fun(x:eZ) y=>{x with Number:=y}):= .v oq (.snd (.self))
def nG (x:kA):=(x.Open,x.eZ,x.A,x.B)
instance instGTFlaw:GT kA:=GT.via nG
theorem ll:Fd 0 (fun x:kA=>x.Open):= .v nG (.fst .self)
theorem mh:Fd 1 (fun x:kA=>x.eZ):= .v nG (.snd (.fst .self))
theorem qf:Fd 3 (fun x:kA=>x.A):= .v nG (.snd (.snd (.fst .self)))
theorem qg:Fd 4 (fun x:kA=>x.B):= .v nG (.snd (.snd (.snd (.self))))
def gN (x:aA):=(x.Y0,x.Y1,x.Xs)
instance instGTshape_Band:GT aA:=GT.via gN
theorem eN:Fd 0 (fun x:aA=>x.Y0):= .v gN (.fst .self)
theorem oH:Fs 0 Int (fun(x:aA) y=>{x with Y0:=y}):= .v gN (.fst .self)
theorem dM:Fd 1 (fun x:aA=>x.Y1):= .v gN (.snd (.fst .self))
theorem lQ:Fs 1 Int (fun(x:aA) y=>{x with Y1:=y}):= .v gN (.snd (.fst .self))
theorem cN:Fd 2 (fun x:aA=>x.Xs):= .v gN (.snd (.snd (.self)))
theorem oI:Fs 2 (List Int) (fun(x:aA) y=>{x with Xs:=y}):= .v gN (.snd (.snd (.self)))
def gD (x:aH):=(x.dY,x.Set,x.lW)
instance instGTcopper_Piece:GT aH:=GT.via gD
theorem mW:Fd 0 (fun x:aH=>x.dY):= .v gD (.fst .self)
theorem rW:Fs 0 Int (fun(x:aH) y=>{x with dY:=y}):= .v gD (.fst .self)
theorem rX:Fs 1 (List aA) (fun(x:aH) y=>{x with Set:=y}):= .v gD (.snd (.fst .self))
theorem mX:Fd 2 (fun x:aH=>x.lW):= .v gD (.snd (.snd (.self)))
theorem rY:Fs 2 (List aI) (fun(x:aH) y=>{x with lW:=y}):= .v gD (.snd (.snd (.self)))
def AJ (x:cP):=(x.lO,x.aS,x.gV)
instance instGTGroup:GT cP:=GT.via AJ
theorem BU (M:cU):GT.ok M (#[(.string ⟨#[]⟩),(.string ⟨#[]⟩)]:Array Value).toList (⟨⟨[]⟩,⟨[]⟩⟩:eK):=⟨[(.string ⟨#[]⟩)],[(.string ⟨#[]⟩)],rfl,(show GT.ok M [(.string ⟨#[]⟩)] (⟨[]⟩:cS) from rfl),(show GT.ok M [(.string ⟨#[]⟩)] (⟨[]⟩:cS) from rfl)⟩
theorem q9 (M:cU):GT.ok M (#[(.int .i64 0),(.int .i64 0),(.int .i64 0),(.int .i64 0)]:Array Value).toList (⟨0,0,0,0⟩:aI):=⟨[(.int .i64 0)],[(.int .i64 0),(.int .i64 0),(.int .i64 0)],rfl,(show GT.ok M [(.int .i64 0)] (0:Int) from rfl),⟨[(.int .i64 0)],[(.int .i64 0),(.int .i64 0)],rfl,(show GT.ok M [(.int .i64 0)] (0:Int) from rfl),⟨[(.int .i64 0)],[(.int .i64 0)],rfl,(show GT.ok M [(.int .i64 0)] (0:Int) from rfl),(show GT.ok M [(.int .i64 0)] (0:Int) from rfl)⟩⟩⟩
theorem Db (M:cU):GT.ok M (#[(.int .i64 0),(.int .i64 0)]:Array Value).toList (⟨0,0⟩:iO):=⟨[(.int .i64 0)],[(.int .i64 0)],rfl,(show GT.ok M [(.int .i64 0)] (0:Int) from rfl),(show GT.ok M [(.int .i64 0)] (0:Int) from rfl)⟩
theorem Ej (M:cU):GT.ok M (#[(.string ⟨#[]⟩),(.string ⟨#[]⟩),(.int .i64 0),(.int .i64 0),(.int .i64 0)]:Array Value).toList (⟨⟨[]⟩,⟨[]⟩,0,⟨0,0⟩⟩:cT):=⟨[(.string ⟨#[]⟩)],[(.string ⟨#[]⟩),(.int .i64 0),(.int .i64 0),(.int .i64 0)],rfl,(show GT.ok M [(.string ⟨#[]⟩)] (⟨[]⟩:cS) from rfl),⟨[(.string ⟨#[]⟩)],[(.int .i64 0),(.int .i64 0),(.int .i64 0)],rfl,(show GT.ok M [(.string ⟨#[]⟩)] (⟨[]⟩:cS) from rfl),⟨[(.int .i64 0)],[(.int .i64 0),(.int .i64 0)],rfl,(show GT.ok M [(.int .i64 0)] (0:Int) from rfl),(show GT.ok M [(.int .i64 0),(.int .i64 0)] (⟨0,0⟩:iO) from Db M)⟩⟩⟩
theorem z9 (M:cU):GT.ok M (#[(.bool false),(.int .i64 0)]:Array Value).toList (⟨false,0⟩:eZ):=⟨[(.bool false)],[(.int .i64 0)],rfl,(show GT.ok M [(.bool false)] (false:Bool) from rfl),(show GT.ok M [(.int .i64 0)] (0:Int) from rfl)⟩
theorem uK (M:cU):GT.ok M (#[(.int .i64 0),(.slice none 0 0),(.slice none 0 0)]:Array Value).toList (⟨0,[],[]⟩:aH):=⟨[(.int .i64 0)],[(.slice none 0 0),(.slice none 0 0)],rfl,(show GT.ok M [(.int .i64 0)] (0:Int) from rfl),⟨[(.slice none 0 0)],[(.slice none 0 0)],rfl,(show GT.ok M [(.slice none 0 0)] ([]: (List aA)) from ⟨_,rfl,none,0,0,rfl,rfl,bG _,by simp [maxLen],fun _ _ h=>by simp at h⟩),(show GT.ok M [(.slice none 0 0)] ([]: (List aI)) from ⟨_,rfl,none,0,0,rfl,rfl,bG _,by simp [maxLen],fun _ _ h=>by simp at h⟩)⟩⟩
theorem rZ (M:cU):GT.ok M (#[(.int .i64 0),(.int .i64 0),(.slice none 0 0)]:Array Value).toList (⟨0,0,[]⟩:aA):=⟨[(.int .i64 0)],[(.int .i64 0),(.slice none 0 0)],rfl,(show GT.ok M [(.int .i64 0)] (0:Int) from rfl),⟨[(.int .i64 0)],[(.slice none 0 0)],rfl,(show GT.ok M [(.int .i64 0)] (0:Int) from rfl),(show GT.ok M [(.slice none 0 0)] ([]: (List Int)) from ⟨_,rfl,none,0,0,rfl,rfl,bG _,by simp [maxLen],fun _ _ h=>by simp at h⟩)⟩⟩
structure bO where
  lO: (List Int)
  aS: (List Int)
  gV:RV
  deriving Inhabited
def ot (x:bO):=(x.lO,x.aS,x.gV)
instance instGTGroup_r2:GT bO:=GT.via ot
theorem vJ:Fd 2 (fun x:bO=>x.gV):= .v ot (.snd (.snd (.self)))
theorem vK:Fs 2 RV (fun(x:bO) y=>{x with gV:=y}):= .v ot (.snd (.snd (.self)))
def bI:XT bO cP:=⟨fun u x=>u.lO=x.lO/\u.aS=x.aS,fun M h u x=>(u.lO=x.lO/\u.aS=x.aS)/\qZ 29 M h u.gV.v x.gV,fun{M M' h u x} hk hh=>⟨hh.1,(own 29 u.gV.v x.gV).mono hk hh.2⟩,fun h=>h.1⟩
theorem pf:XO bI 29 2 (fun u=>u.gV) (fun u r=>{u with gV:=r}) (fun x=>x.gV) (fun x y=>{x with gV:=y}):=⟨vJ,vK,by decide,fun h=>h.2,fun hr ho=>⟨hr,ho⟩⟩
theorem wZ (M h:cU) (u:bO) (x:cP) (cs:List Value) (hd: ∀b o,h b=some o->M b=none) (hx:bI.ok M h u x) (hc:GT.ok M cs u):GT.ok (mL M h) cs x:=by
  obtain⟨⟨e0,e1⟩,ho⟩:=hx
  obtain⟨c0,d0,hd0,a0,c1,d1,hd1,a1,a2⟩:=hc
  exact⟨c0,d0,hd0,GT.mono (pZ M h) (show GT.ok M c0 x.lO from e0▸(show GT.ok M c0 u.lO from a0)),⟨c1,d1,hd1,GT.mono (pZ M h) (show GT.ok M c1 x.aS from e1▸(show GT.ok M c1 u.aS from a1)),⟨u.gV.v,a2,qZ.sl hd ho⟩⟩⟩
theorem r5:kQ bC 27 true 4:=rT
theorem r6:kQ bC 29 true 2:=rT
theorem tm:lC bC 27 0 0:=mM
theorem AK:kQ bC 22 false 1:=rT
theorem yi:Tryz.prog.underlying 22=some (.slice 23):=by kernel_rfl
theorem BV:lC bC 27 1 1:=mM
theorem w3:kQ bC 23 false 1:=rT
theorem pg:Tryz.prog.underlying 23=some (.slice 46):=by kernel_rfl
theorem zd:s8 bC 22 23 1:=z7
theorem kN:s8 bC 23 46 4:=z7
theorem gW:kQ bC 46 true 4:=rT
theorem ni:yN bC 46 4:=z8 (.agg #[(.int .i64 0),(.int .i64 0),(.int .i64 0),(.int .i64 0)])
theorem iV:lC bC 46 0 0:=mM
theorem cE:kQ bC 3 false 1:=rT
theorem Gu:gZ bC 84:=iB Tryz.func84
theorem AL:gZ bC 68:=iB Tryz.func68
theorem jD:lC bC 46 1 1:=mM
theorem jE:lC bC 46 2 2:=mM
theorem my:lC bC 46 3 3:=mM
theorem E2:gZ bC 53:=iB Tryz.func53
theorem Gv:gZ bC 31:=iB Tryz.func31
theorem mixed:Tryz.prog.follows .mixedOrders=true:=by kernel_rfl
theorem AM:rF bC 23 46 4 32:=rF.of (.agg #[(.int .i64 0),(.int .i64 0),(.int .i64 0),(.int .i64 0)])
theorem Gw:gZ bC 54:=iB Tryz.func54
theorem Gx:gZ bC 56:=iB Tryz.func56
theorem E3:gZ bC 55:=iB Tryz.func55
theorem E4:ES bC 43 [(.slice none 0 0)]:=⟨(.slice none 0 0),fun _=>by kernel_rfl,rfl⟩
theorem eJ:kQ bC 43 false 1:=rT
theorem eC:s8 bC 43 3 1:=z7
theorem BW:yN bC 3 1:=z8 (.int .i64 0)
theorem r7:rF bC 43 3 1 8:=rF.of (.int .i64 0)
theorem Gy:gZ bC 57:=iB Tryz.func57
theorem ln:Tryz.prog.underlying 43=some (.slice 3):=by kernel_rfl
theorem EJ:CQ bC 3 (0:Int):=CQ.of (.int .i64 0) (fun M=>rfl)
theorem Gz:gZ bC 58:=iB Tryz.func58
theorem E5:gZ bC 72:=iB Tryz.func72
theorem GA:CQ bC 46 (⟨0,0,0,0⟩:aI):=CQ.of (.agg #[(.int .i64 0),(.int .i64 0),(.int .i64 0),(.int .i64 0)]) (fun M=>(q9 M))
theorem GC:gZ bC 60:=iB Tryz.func60
theorem GD:gZ bC 59:=iB Tryz.func59
theorem GF:gZ bC 79:=iB Tryz.func79
theorem GG:gZ bC 62:=iB Tryz.func62
theorem DK:uo bC 121 [(0,1),(1,1),(2,1)] #[(.int .i64 0),(.int .i64 0),(.slice none 0 0)]:=uo.of (.agg #[(.int .i64 0),(.int .i64 0),(.slice none 0 0)]) Tryz.underlying121
theorem jm:lC bC 121 2 2:=mM
theorem kr:lC bC 121 1 1:=mM
theorem l8:lC bC 121 0 0:=mM
theorem qA:Tryz.prog.underlying 85=some (.slice 121):=by kernel_rfl
theorem lR:s8 bC 85 121 3:=z7
theorem GH:gZ bC 78:=iB Tryz.func78
theorem r8:kQ bC 121 true 3:=rT
theorem yj:yN bC 121 3:=z8 (.agg #[(.int .i64 0),(.int .i64 0),(.slice none 0 0)])
theorem GI:rF bC 85 121 3 40:=rF.of (.agg #[(.int .i64 0),(.int .i64 0),(.slice none 0 0)])
theorem E6:gZ bC 61:=iB Tryz.func61
theorem BX:gZ bC 33:=iB Tryz.func33
theorem AO:uo bC 46 [(0,1),(1,1),(2,1),(3,1)] #[(.int .i64 0),(.int .i64 0),(.int .i64 0),(.int .i64 0)]:=uo.of (.agg #[(.int .i64 0),(.int .i64 0),(.int .i64 0),(.int .i64 0)]) Tryz.underlying46
theorem Ek:gZ bC 34:=iB Tryz.func34
theorem Bt:Tryz.prog.underlying 3=some (.int .i64):=by kernel_rfl
theorem E7:D5 bC 46 aI:=⟨fun M cs ds a b w ha hb=>by
  obtain⟨_,_,rfl,rfl,⟨_,_,rfl,rfl,⟨_,_,rfl,rfl,rfl⟩⟩⟩:=ha
  obtain⟨_,_,rfl,rfl,⟨_,_,rfl,rfl,⟨_,_,rfl,rfl,rfl⟩⟩⟩:=hb
  refine(jR 9999 Tryz.underlying46 (v5.cons (by decide) (dH cE _) (dH cE _) (iQ Bt _ _ w) (v5.cons (by decide) (dH cE _) (dH cE _) (iQ Bt _ _ w) (v5.cons (by decide) (dH cE _) (dH cE _) (iQ Bt _ _ w) (v5.cons (by decide) (dH cE _) (dH cE _) (iQ Bt _ _ w) v5.nil))))).trans ?_
  congr 1
  cases a;cases b;unfold kb
  rw [fH]
  simp,by kernel_rfl⟩
theorem GJ:gZ bC 32:=iB Tryz.func32
theorem E8:gZ bC 11:=iB Tryz.func11
theorem lq:lC bC 27 2 2:=mM
theorem tn:kQ bC 24 false 1:=rT
theorem uL:Tryz.prog.underlying 24=some (.slice 61):=by kernel_rfl
theorem w4:s8 bC 24 61 6:=z7
theorem mN:kQ bC 61 true 6:=rT
theorem AP:yN bC 61 6:=z8 (.agg #[(.int .i64 0),(.int .i64 0),(.int .i64 0),(.int .i64 0),(.int .i64 0),(.bool false)])
theorem uM:lC bC 61 1 2:=mM
theorem Dc:gZ bC 36:=iB Tryz.func36
theorem ze:lC bC 61 0 0:=mM
theorem Dd:kQ bC 48 true 2:=rT
theorem w5:lC bC 48 0 0:=mM
theorem w6:lC bC 48 1 1:=mM
theorem E9:gZ bC 39:=iB Tryz.func39
theorem AQ:gZ bC 15:=iB Tryz.func15
theorem GK:gZ bC 80:=iB Tryz.func80
theorem GL:gZ bC 63:=iB Tryz.func63
theorem GM:gZ bC 35:=iB Tryz.func35
theorem ra:lC bC 61 2 3:=mM
theorem tp:lC bC 61 3 4:=mM
theorem GN:gZ bC 12:=iB Tryz.func12
theorem tq:lC bC 27 3 3:=mM
theorem AR:kQ bC 25 false 1:=rT
theorem BZ:Tryz.prog.underlying 25=some (.slice 50):=by kernel_rfl
theorem AU:s8 bC 25 50 5:=z7
theorem uN:kQ bC 50 true 5:=rT
theorem El:yN bC 50 5:=z8 (.agg #[(.string ⟨#[]⟩),(.string ⟨#[]⟩),(.int .i64 0),(.int .i64 0),(.int .i64 0)])
theorem B0:lC bC 50 0 0:=mM
theorem B1:kQ bC 9 false 1:=rT
theorem yk:Tryz.prog.underlying 9=some (.string):=by kernel_rfl
theorem GO (a:cS) (b:Int) (w:World): (callFunc 123 [(str a),(.int .u8 b)].toArray).run bC w = .ok (.value (vi ((Lib.countByte a.cA (Int.toNat b).toUInt8:Nat):Int))) w:=uw Extern.BytealgCount.count Tryz.func123 (Lib.run_countString _ _ w)
theorem GP (a:cS) (b:Int) (w:World): (callFunc 111 [(str a),(.int .u8 b)].toArray).run bC w = .ok (.value (vi (Lib.indexByte a.cA (Int.toNat b).toUInt8))) w:=uw Extern.BytealgIndexByte.indexByte Tryz.func111 (Lib.run_indexByteString _ _ w)
theorem Fa:gZ bC 83:=iB Tryz.func83
theorem Fb:gZ bC 124:=iB Tryz.func124
theorem DL:gZ bC 110:=iB Tryz.func110
theorem Fc:gZ bC 109:=iB Tryz.func109
theorem Fe:rF bC 123 9 1 16:=rF.of (.string ⟨#[]⟩)
theorem H4:CQ bC 9 (⟨[]⟩:cS):=CQ.of (.string ⟨#[]⟩) (fun M=>rfl)
theorem Aa:s8 bC 123 9 1:=z7
theorem GQ:gZ bC 82:=iB Tryz.func82
theorem GR:gZ bC 65:=iB Tryz.func65
theorem Ff:Tryz.prog.underlying 123=some (.slice 9):=by kernel_rfl
theorem GS:gZ bC 81:=iB Tryz.func81
theorem GU:gZ bC 67:=iB Tryz.func67
theorem Fg:gZ bC 38:=iB Tryz.func38
theorem GV:gZ bC 66:=iB Tryz.func66
theorem GW:gZ bC 64:=iB Tryz.func64
theorem GX:gZ bC 37:=iB Tryz.func37
theorem B2:lC bC 50 1 1:=mM
theorem zf:lC bC 50 2 2:=mM
theorem zg:lC bC 50 3 3:=mM
theorem Fh:yN bC 29 2:=z8 (.agg #[(.string ⟨#[]⟩),(.string ⟨#[]⟩)])
theorem Em:uo bC 29 [(0,1),(1,1)] #[(.string ⟨#[]⟩),(.string ⟨#[]⟩)]:=uo.of (.agg #[(.string ⟨#[]⟩),(.string ⟨#[]⟩)]) Tryz.underlying29
theorem De:gZ bC 25:=iB Tryz.func25
theorem B3:lC bC 29 0 0:=mM
theorem H5 (a b:cS) (w:World): (callFunc 88 [(str a),(str b)].toArray).run bC w = .ok (.value (vi (Lib.compareBytes a.cA b.cA))) w:=uw Extern.BytealgCompare.compare Tryz.func88 (Lib.run_compareString _ _ w)
theorem GY:gZ bC 74:=iB Tryz.func74
theorem Fi:gZ bC 52:=iB Tryz.func52
theorem B4:lC bC 29 1 1:=mM
theorem Fj:gZ bC 24:=iB Tryz.func24
theorem GZ:gZ bC 13:=iB Tryz.func13
theorem Fk:gZ bC 40:=iB Tryz.func40
theorem G0:gZ bC 14:=iB Tryz.func14
theorem G1:uo bC 57 [(0,4),(4,1),(5,1),(6,1),(7,1),(8,1),(9,1),(10,1),(11,1)] #[(.slice none 0 0),(.slice none 0 0),(.slice none 0 0),(.slice none 0 0),(.slice none 0 0),(.slice none 0 0),(.slice none 0 0),(.slice none 0 0),(.slice none 0 0),(.slice none 0 0),(.slice none 0 0),(.slice none 0 0)]:=uo.of (.agg #[(.slice none 0 0),(.slice none 0 0),(.slice none 0 0),(.slice none 0 0),(.slice none 0 0),(.slice none 0 0),(.slice none 0 0),(.slice none 0 0),(.slice none 0 0),(.slice none 0 0),(.slice none 0 0),(.slice none 0 0)]) Tryz.underlying57
theorem lS:lC bC 57 0 0:=mM
theorem En:gZ bC 41:=iB Tryz.func41
theorem B5:s8 bC 51 85 1:=z7
theorem Eo:yN bC 85 1:=z8 (.slice none 0 0)
theorem Fm:Tryz.prog.underlying 51=some (.slice 85):=by kernel_rfl
theorem Fp:kQ bC 85 false 1:=rT
theorem Fq:gZ bC 85:=iB Tryz.func85
theorem Ft:Tryz.prog.underlying 4=some (.bool):=by kernel_rfl
theorem G2:gZ bC 86:=iB Tryz.func86
theorem G3:gZ bC 70:=iB Tryz.func70
theorem G4:gZ bC 69:=iB Tryz.func69
theorem G5:gZ bC 42:=iB Tryz.func42
theorem G6:gZ bC 43:=iB Tryz.func43
theorem B6:lC bC 57 1 4:=mM
theorem Fu:kQ bC 51 false 1:=rT
theorem Fv:rF bC 51 85 1 24:=rF.of (.slice none 0 0)
theorem Ep:gZ bC 71:=iB Tryz.func71
theorem yl:y4 bC 81 3 3 Int Int (0:Int):=⟨by kernel_rfl,(ux.int Bt),zR (.int .i64 0) (fun M=>⟨_,rfl,rfl⟩)⟩
theorem Fw:yN bC 23 1:=z8 (.slice none 0 0)
theorem G7:rF bC 22 23 1 24:=rF.of (.slice none 0 0)
theorem G8:gZ bC 44:=iB Tryz.func44
theorem ph:lC bC 57 2 5:=mM
theorem ym:kQ bC 52 false 1:=rT
theorem G9:uo bC 98 [(0,1),(1,1),(2,1)] #[(.int .i64 0),(.slice none 0 0),(.slice none 0 0)]:=uo.of (.agg #[(.int .i64 0),(.slice none 0 0),(.slice none 0 0)]) Tryz.underlying98
theorem Er:s8 bC 52 98 3:=z7
theorem Es:yN bC 98 3:=z8 (.agg #[(.int .i64 0),(.slice none 0 0),(.slice none 0 0)])
theorem Ha:rF bC 52 98 3 56:=rF.of (.agg #[(.int .i64 0),(.slice none 0 0),(.slice none 0 0)])
theorem AV:Tryz.prog.underlying 52=some (.slice 98):=by kernel_rfl
theorem Hb:gZ bC 16:=iB Tryz.func16
theorem Hc:gZ bC 47:=iB Tryz.func47
theorem Df:kQ bC 98 true 3:=rT
theorem w7:lC bC 61 4 5:=mM
theorem wo:kQ bC 4 false 1:=rT
theorem B7:lC bC 98 0 0:=mM
theorem B8:lC bC 98 2 2:=mM
theorem Hd:gZ bC 46:=iB Tryz.func46
theorem Fx:gZ bC 45:=iB Tryz.func45
theorem w8:lC bC 57 3 6:=mM
theorem Dg:kQ bC 53 false 1:=rT
theorem zh:s8 bC 53 43 1:=z7
theorem Fy:yN bC 43 1:=z8 (.slice none 0 0)
theorem Fz:rF bC 53 43 1 24:=rF.of (.slice none 0 0)
theorem He:gZ bC 17:=iB Tryz.func17
theorem FA:uo bC 112 [(0,1)] #[(.slice none 0 0)]:=uo.of (.agg #[(.slice none 0 0)]) Tryz.underlying112
theorem l9:lC bC 112 0 0:=mM
theorem FB:gZ bC 27:=iB Tryz.func27
theorem Dh:Tryz.prog.underlying 53=some (.slice 43):=by kernel_rfl
theorem AW:gZ bC 30:=iB Tryz.func30
theorem FC:gZ bC 29:=iB Tryz.func29
theorem zi:lC bC 57 5 8:=mM
theorem w9:lC bC 57 6 9:=mM
theorem Hf:gZ bC 48:=iB Tryz.func48
theorem FD:ES bC 105 [(.slice none 0 0),(.slice none 0 0),(.slice none 0 0)]:=⟨(.agg #[(.slice none 0 0),(.slice none 0 0),(.slice none 0 0)]),fun _=>by kernel_rfl,rfl⟩
theorem tr:lC bC 57 4 7:=mM
theorem AX:kQ bC 54 false 1:=rT
theorem FE:Tryz.prog.underlying 54=some (.slice 105):=by kernel_rfl
theorem xc:lC bC 105 0 0:=mM
theorem xd:lC bC 105 1 1:=mM
theorem FF:kQ bC 105 true 3:=rT
theorem Et:s8 bC 54 105 3:=z7
theorem FG:yN bC 105 3:=z8 (.agg #[(.slice none 0 0),(.slice none 0 0),(.slice none 0 0)])
theorem Hg:rF bC 54 105 3 72:=rF.of (.agg #[(.slice none 0 0),(.slice none 0 0),(.slice none 0 0)])
theorem Di:yN bC 67 2:=z8 (.agg #[(.bool false),(.int .i64 0)])
theorem Hh:gZ bC 87:=iB Tryz.func87
theorem FH:gZ bC 73:=iB Tryz.func73
theorem Dj:uo bC 67 [(0,1),(1,1)] #[(.bool false),(.int .i64 0)]:=uo.of (.agg #[(.bool false),(.int .i64 0)]) Tryz.underlying67
theorem qB:kQ bC 67 true 2:=rT
theorem Hi:gZ bC 49:=iB Tryz.func49
theorem zj:lC bC 67 0 0:=mM
theorem re:lC bC 67 1 1:=mM
theorem Hj:gZ bC 50:=iB Tryz.func50
theorem Ab:lC bC 105 2 2:=mM
theorem DM:kQ bC 103 false 1:=rT
theorem FI:s8 bC 103 29 2:=z7
theorem FJ:rF bC 103 29 2 32:=rF.of (.agg #[(.string ⟨#[]⟩),(.string ⟨#[]⟩)])
theorem uO:lC bC 57 7 10:=mM
theorem zk:lC bC 57 8 11:=mM
theorem Eu:kQ bC 55 false 1:=rT
theorem FK:s8 bC 55 67 2:=z7
theorem Hk:rF bC 55 67 2 16:=rF.of (.agg #[(.bool false),(.int .i64 0)])
theorem Hl:gZ bC 18:=iB Tryz.func18
theorem HR:gZ bC 7:=iB Tryz.func7
theorem B9:Tryz.prog.underlying 37=some (.slice 69):=by kernel_rfl
theorem Ev:kQ bC 38 false 1:=rT
theorem FL:gZ bC 20:=iB Tryz.func20
theorem Ca:s8 bC 37 69 5:=z7
theorem vL:kQ bC 69 true 5:=rT
theorem Ew:yN bC 69 5:=z8 (.agg #[(.bool false),(.bool false),(.int .i64 0),(.int .i64 0),(.int .i64 0)])
theorem rf:lC bC 69 0 0:=mM
theorem xe:lC bC 69 2 3:=mM
theorem xf:lC bC 69 3 4:=mM
theorem tt:lC bC 69 1 1:=mM
theorem FM:D5 bC 67 eZ:=⟨fun M cs ds a b w ha hb=>by
  obtain⟨_,_,rfl,rfl,rfl⟩:=ha
  obtain⟨_,_,rfl,rfl,rfl⟩:=hb
  refine(jR 9999 Tryz.underlying67 (v5.cons (by decide) (dH wo _) (dH wo _) (lD Ft _ _ w) (v5.cons (by decide) (dH cE _) (dH cE _) (iQ Bt _ _ w) v5.nil))).trans ?_
  congr 1
  cases a;cases b;unfold oq
  rw [fH]
  simp,by kernel_rfl⟩
theorem Ex:gZ bC 19:=iB Tryz.func19
theorem FN:D5 bC 69 kA:=⟨fun M cs ds a b w ha hb=>by
  obtain⟨_,_,rfl,rfl,⟨_,_,rfl,⟨_,_,rfl,rfl,rfl⟩,⟨_,_,rfl,rfl,rfl⟩⟩⟩:=ha
  obtain⟨_,_,rfl,rfl,⟨_,_,rfl,⟨_,_,rfl,rfl,rfl⟩,⟨_,_,rfl,rfl,rfl⟩⟩⟩:=hb
  refine(jR 9999 Tryz.underlying69 (v5.cons (by decide) (dH wo _) (dH wo _) (lD Ft _ _ w) (v5.cons (by decide) (v7 qB rfl _) (v7 qB rfl _) (jR 9998 Tryz.underlying66 (v5.cons (by decide) (dH wo _) (dH wo _) (lD Ft _ _ w) (v5.cons (by decide) (dH cE _) (dH cE _) (iQ Bt _ _ w) v5.nil))) (v5.cons (by decide) (dH cE _) (dH cE _) (iQ Bt _ _ w) (v5.cons (by decide) (dH cE _) (dH cE _) (iQ Bt _ _ w) v5.nil))))).trans ?_
  congr 1
  obtain⟨_,⟨_,_⟩,_,_⟩:=a;obtain⟨_,⟨_,_⟩,_,_⟩:=b;unfold nG oq
  rw [fH]
  simp,by kernel_rfl⟩
theorem Hm:gZ bC 51:=iB Tryz.func51
theorem Hn:gZ bC 21:=iB Tryz.func21
theorem H6:gZ bC 8:=iB Tryz.func8
theorem DN:Tryz.prog.underlying 109=some (.int .u64):=by kernel_rfl
theorem Ho:gZ bC 23:=iB Tryz.func23
theorem Hp:gZ bC 22:=iB Tryz.func22
theorem Gc:gZ bC 9:=iB Tryz.func9
theorem Hq:ES bC 77 [(.map none)]:=⟨(.map none),fun _=>by kernel_rfl,rfl⟩
theorem Cb:kQ bC 77 false 1:=rT
theorem FO:gZ bC 26:=iB Tryz.func26
theorem Dk:y4 bC 77 3 4 Int Bool (false:Bool):=⟨by kernel_rfl,(ux.int Bt),zR (.bool false) (fun M=>⟨_,rfl,rfl⟩)⟩
theorem Hr:ES bC 78 [(.pointer none)]:=⟨(.pointer none),fun _=>by kernel_rfl,rfl⟩
theorem Cc:kQ bC 78 false 1:=rT
theorem FP:gZ bC 28:=iB Tryz.func28
theorem Hs:Tryz.prog.underlying 55=some (.slice 67):=by kernel_rfl
theorem Ht:gZ bC 10:=iB Tryz.func10
theorem HS:gZ bC 4:=iB Tryz.func4
theorem Hu:uo bC 50 [(0,1),(1,1),(2,1),(3,2)] #[(.string ⟨#[]⟩),(.string ⟨#[]⟩),(.int .i64 0),(.int .i64 0),(.int .i64 0)]:=uo.of (.agg #[(.string ⟨#[]⟩),(.string ⟨#[]⟩),(.int .i64 0),(.int .i64 0),(.int .i64 0)]) Tryz.underlying50
theorem Hv:uo bC 27 [(0,1),(1,1),(2,1),(3,1)] #[(.slice none 0 0),(.slice none 0 0),(.slice none 0 0),(.slice none 0 0)]:=uo.of (.agg #[(.slice none 0 0),(.slice none 0 0),(.slice none 0 0),(.slice none 0 0)]) Tryz.underlying27
theorem Hx:yN bC 27 4:=z8 (.agg #[(.slice none 0 0),(.slice none 0 0),(.slice none 0 0),(.slice none 0 0)])
theorem HT:gZ bC 5:=iB Tryz.func5
theorem HU:gZ bC 6:=iB Tryz.func6
def gX (E:World) (V:List HP) (b0:Nat) (v0_0 v0_1:Value) (v0_2 v0_3:Value) (v0_4 v0_5:Value) (v0_6 v0_7:Value) (v0_8 v0_9:Value) (v0_10 v0_11:Value) (res:Int) (v:Value) (w:World):Prop:=v= (vi res)/\Holds E w ([bc 57 b0 [v0_0,v0_1,v0_2,v0_3,v0_4,v0_5,v0_6,v0_7,v0_8,v0_9,v0_10,v0_11]]++V)
def mY (E:World) (V:List HP) (res:aI) (v:Value) (w:World):Prop:=Holds E w ([rd v res]++V)
def mz (E:World) (V:List HP) (res: (List cS)) (v:Value) (w:World):Prop:=Holds E w ([own 9 v res]++V)
def bB (E:World) (V:List HP) (res:Bool) (v:Value) (w:World):Prop:=v= (vb res)/\Holds E w V
def aO (E:World) (V:List HP) (res:Int) (v:Value) (w:World):Prop:=v= (vi res)/\Holds E w V
def j8 (E:World) (V:List HP) (res: (List aI)) (v:Value) (w:World):Prop:=Holds E w ([own 46 v res]++V)
def jF (E:World) (V:List HP) (res: (List Int)) (v:Value) (w:World):Prop:=Holds E w ([own 3 v res]++V)
def jY (E:World) (V:List HP) (res: (List aA)) (v:Value) (w:World):Prop:=Holds E w ([own 121 v res]++V)
end Go.Gk
namespace Go.Gk
open Go Go.Proofs
def vE (H:Type) (d:DataW H):Nat:=YtllecmpemokbfabGreatDoor.Rows.uptoBulk d
def FR (H:Type) (d:List (DataW H)):Nat:=YtllecmpemokbfabGreatDoor.Rows.uptoBulkAll d
theorem f0:UB vE FR where
  str:=fun H b=>by simp [vE,YtllecmpemokbfabGreatDoor.Rows.uptoBulk]
  pos:=fun H d=>by
    unfold vE
    cases d with
    | lit l=>cases l <;> simp [YtllecmpemokbfabGreatDoor.Rows.uptoBulk]
    | nil=>simp [YtllecmpemokbfabGreatDoor.Rows.uptoBulk]
    | ptr d=>simp [YtllecmpemokbfabGreatDoor.Rows.uptoBulk]
    | slice elems spare=>simp [YtllecmpemokbfabGreatDoor.Rows.uptoBulk]
    | agg parts=>simp [YtllecmpemokbfabGreatDoor.Rows.uptoBulk]
    | iface t d=>simp [YtllecmpemokbfabGreatDoor.Rows.uptoBulk]
    | map entries=>simp [YtllecmpemokbfabGreatDoor.Rows.uptoBulk]
    | held h=>simp [YtllecmpemokbfabGreatDoor.Rows.uptoBulk]
  sl:=fun H e s=>by simp [vE,FR,YtllecmpemokbfabGreatDoor.Rows.uptoBulk]
  ag:=fun H l=>by simp [vE,FR,YtllecmpemokbfabGreatDoor.Rows.uptoBulk]
  nil:=fun H=>by simp [FR,YtllecmpemokbfabGreatDoor.Rows.uptoBulkAll]
  cons:=fun H x l=>by simp [vE,FR,YtllecmpemokbfabGreatDoor.Rows.uptoBulkAll]
theorem CS:iM vE Tryz.prog 3 Int:=A2 f0 (by kernel_rfl)
theorem Hy:iM vE Tryz.prog 46 aI:=jZ f0 (fun(x:aI)=>(x.X0,x.Y0,x.X1,x.Y1)) (fun b=>⟨b.1,b.2.1,b.2.2.1,b.2.2.2⟩) (fun b=>rfl) Tryz.underlying46 (eR f0 CS (eR f0 CS (eR f0 CS (mj f0 CS)))) (fun b=>by simp only [Dr];omega)
theorem FT:iM vE Tryz.prog 23 (List aI):=ov (e:=46) f0 Hy
theorem Hz:iM vE Tryz.prog 22 (List (List aI)):=ov (e:=23) f0 FT
theorem FU:iM vE Tryz.prog 48 iO:=jZ f0 (fun(x:iO)=>(x.X,x.Y)) (fun b=>⟨b.1,b.2⟩) (fun b=>rfl) Tryz.underlying48 (eR f0 CS (mj f0 CS)) (fun b=>by simp only [Cm];omega)
theorem H7:iM vE Tryz.prog 4 Bool:=zp f0 (by kernel_rfl)
theorem HA:iM vE Tryz.prog 61 bU:=jZ f0 (fun(x:bU)=>(x.At,x.eB,x.cK,x.To,x.gh)) (fun b=>⟨b.1,b.2.1,b.2.2.1,b.2.2.2.1,b.2.2.2.2⟩) (fun b=>rfl) Tryz.underlying61 (eR f0 FU (eR f0 CS (eR f0 CS (eR f0 CS (mj f0 H7))))) (fun b=>by simp only [Ds];omega)
theorem HB:iM vE Tryz.prog 24 (List bU):=ov (e:=61) f0 HA
theorem Gd:iM vE Tryz.prog 9 cS:=A3 f0 (by kernel_rfl)
theorem HC:iM vE Tryz.prog 50 cT:=jZ f0 (fun(x:cT)=>(x.Part,x.eK,x.dY,x.At)) (fun b=>⟨b.1,b.2.1,b.2.2.1,b.2.2.2⟩) (fun b=>rfl) Tryz.underlying50 (eR f0 Gd (eR f0 Gd (eR f0 CS (mj f0 FU)))) (fun b=>by simp only [Ad];omega)
theorem HD:iM vE Tryz.prog 25 (List cT):=ov (e:=50) f0 HC
theorem HE:iM vE Tryz.prog 27 jS:=jZ f0 (fun(x:jS)=>(x.aJ,x.dJ,x.aS,x.bE)) (fun b=>⟨b.1,b.2.1,b.2.2.1,b.2.2.2⟩) (fun b=>rfl) Tryz.underlying27 (eR f0 Hz (eR f0 FT (eR f0 HB (mj f0 HD)))) (fun b=>by simp only [Cn];omega)
theorem FV:iM vE Tryz.prog 29 eK:=jZ f0 (fun(x:eK)=>(x.Part,x.eK)) (fun b=>⟨b.1,b.2⟩) (fun b=>rfl) Tryz.underlying29 (eR f0 Gd (mj f0 Gd)) (fun b=>by simp only [Ez];omega)
end Go.Gk
namespace Go.Proofs
open Go.Shelf Go.RowKit Go.Lib Go.Sort
def Tryz.lay55_ren : Go.Shelf.Ren := ⟨fun | 6 => 55 | 15 => 76 | 14 => 75 | 28 => 97 | 29 => 98 | 20 => 89 | 21 => 90 | 22 => 91 | 23 => 92 | 24 => 93 | 25 => 94 | 26 => 95 | 27 => 96 | 46 => 112 | 47 => 113 | 48 => 114 | 49 => 115 | 50 => 116 | 57 => 125 | n => n, fun | 22 => 23 | 24 => 46 | 25 => 62 | 3 => 3 | 39 => 109 | 0 => 0 | 53 => 148 | 55 => 150 | 4 => 4 | 46 => 142 | 45 => 141 | 50 => 71 | 5 => 5 | 9 => 9 | 66 => 158 | 70 => 162 | 76 => 169 | 77 => 170 | n => n, fun | n => n⟩
theorem Tryz.lay55 : Go.Proofs.SlLaysF0.n6 Tryz.prog Tryz.lay55_ren := {
  mixed := by kernel_rfl
  f6 := ⟨Tryz.f55.name, by decide, Tryz.func55.trans (congrArg some (by kernel_rfl))⟩
  f14 := ⟨Tryz.f75.name, by decide, Tryz.func75.trans (congrArg some (by kernel_rfl))⟩
  f15 := Tryz.func76.trans (congrArg some (by kernel_rfl))
  f20 := ⟨Tryz.f89.name, by decide, Tryz.func89.trans (congrArg some (by kernel_rfl))⟩
  f21 := ⟨Tryz.f90.name, by decide, Tryz.func90.trans (congrArg some (by kernel_rfl))⟩
  f22 := ⟨Tryz.f91.name, by decide, Tryz.func91.trans (congrArg some (by kernel_rfl))⟩
  f23 := ⟨Tryz.f92.name, by decide, Tryz.func92.trans (congrArg some (by kernel_rfl))⟩
  f24 := ⟨Tryz.f93.name, by decide, Tryz.func93.trans (congrArg some (by kernel_rfl))⟩
  f25 := ⟨Tryz.f94.name, by decide, Tryz.func94.trans (congrArg some (by kernel_rfl))⟩
  f26 := ⟨Tryz.f95.name, by decide, Tryz.func95.trans (congrArg some (by kernel_rfl))⟩
  f27 := ⟨Tryz.f96.name, by decide, Tryz.func96.trans (congrArg some (by kernel_rfl))⟩
  f28 := Tryz.func97.trans (congrArg some (by kernel_rfl))
  f29 := Tryz.func98.trans (congrArg some (by kernel_rfl))
  f46 := ⟨Tryz.f112.name, by decide, Tryz.func112.trans (congrArg some (by kernel_rfl))⟩
  f47 := Tryz.func113.trans (congrArg some (by kernel_rfl))
  f48 := Tryz.func114.trans (congrArg some (by kernel_rfl))
  f49 := ⟨Tryz.f115.name, by decide, Tryz.func115.trans (congrArg some (by kernel_rfl))⟩
  f50 := ⟨Tryz.f116.name, by decide, Tryz.func116.trans (congrArg some (by kernel_rfl))⟩
  f57 := ⟨Tryz.f125.name, by decide, Tryz.func125.trans (congrArg some (by kernel_rfl))⟩
  t0 := Tryz.underlying0
  a0 := Tryz.isAgg0
  z0 := Tryz.sizeOf0
  v0 := Tryz.zeroValue0
  t3 := Tryz.underlying3
  a3 := Tryz.isAgg3
  z3 := Tryz.sizeOf3
  v3 := Tryz.zeroValue3
  t4 := Tryz.underlying4
  a4 := Tryz.isAgg4
  z4 := Tryz.sizeOf4
  v4 := Tryz.zeroValue4
  t5 := Tryz.underlying5
  a5 := Tryz.isAgg5
  z5 := Tryz.sizeOf5
  v5 := Tryz.zeroValue5
  t9 := Tryz.underlying9
  a9 := Tryz.isAgg9
  z9 := Tryz.sizeOf9
  v9 := Tryz.zeroValue9
  t22 := Tryz.underlying23
  a22 := Tryz.isAgg23
  z22 := Tryz.sizeOf23
  v22 := Tryz.zeroValue23
  t25 := Tryz.underlying62
  a25 := Tryz.isAgg62
  z25 := Tryz.sizeOf62
  v25 := Tryz.zeroValue62
  t39 := Tryz.underlying109
  a39 := Tryz.isAgg109
  z39 := Tryz.sizeOf109
  v39 := Tryz.zeroValue109
  t45 := Tryz.underlying141
  a45 := Tryz.isAgg141
  z45 := Tryz.sizeOf141
  v45 := Tryz.zeroValue141
  t46 := Tryz.underlying142
  a46 := Tryz.isAgg142
  z46 := Tryz.sizeOf142
  v46 := Tryz.zeroValue142
  t50 := Tryz.underlying71
  a50 := Tryz.isAgg71
  z50 := Tryz.sizeOf71
  v50 := Tryz.zeroValue71
  t53 := Tryz.underlying148
  a53 := Tryz.isAgg148
  z53 := Tryz.sizeOf148
  v53 := Tryz.zeroValue148
  t55 := Tryz.underlying150
  a55 := Tryz.isAgg150
  z55 := Tryz.sizeOf150
  v55 := Tryz.zeroValue150
  t66 := Tryz.underlying158
  a66 := Tryz.isAgg158
  z66 := Tryz.sizeOf158
  v66 := Tryz.zeroValue158
  t70 := Tryz.underlying162
  a70 := Tryz.isAgg162
  z70 := Tryz.sizeOf162
  v70 := Tryz.zeroValue162
  t76 := Tryz.underlying169
  a76 := Tryz.isAgg169
  z76 := Tryz.sizeOf169
  v76 := Tryz.zeroValue169
  t77 := Tryz.underlying170
  a77 := Tryz.isAgg170
  z77 := Tryz.sizeOf170
  v77 := Tryz.zeroValue170 }
def Tryz.lay57_ren : Go.Shelf.Ren := ⟨fun | 5 => 57 | 8 => 76 | 7 => 77 | 19 => 97 | 20 => 98 | 10 => 99 | 11 => 100 | 12 => 101 | 13 => 102 | 14 => 103 | 15 => 104 | 16 => 105 | 17 => 106 | 18 => 107 | 30 => 117 | 31 => 113 | 32 => 114 | 33 => 118 | 34 => 119 | 35 => 120 | 40 => 126 | n => n, fun | 23 => 43 | 25 => 3 | 3 => 3 | 32 => 109 | 22 => 43 | 0 => 0 | 44 => 148 | 46 => 150 | 4 => 4 | 36 => 142 | 35 => 141 | 41 => 71 | 5 => 5 | 9 => 9 | 53 => 158 | 57 => 162 | 63 => 169 | 64 => 170 | n => n, fun | n => n⟩
theorem Tryz.lay57 : Go.Proofs.SlLaysM.n5 Tryz.prog Tryz.lay57_ren := {
  mixed := by kernel_rfl
  f5 := ⟨Tryz.f57.name, by decide, Tryz.func57.trans (congrArg some (by kernel_rfl))⟩
  f7 := ⟨Tryz.f77.name, by decide, Tryz.func77.trans (congrArg some (by kernel_rfl))⟩
  f8 := Tryz.func76.trans (congrArg some (by kernel_rfl))
  f10 := ⟨Tryz.f99.name, by decide, Tryz.func99.trans (congrArg some (by kernel_rfl))⟩
  f11 := ⟨Tryz.f100.name, by decide, Tryz.func100.trans (congrArg some (by kernel_rfl))⟩
  f12 := ⟨Tryz.f101.name, by decide, Tryz.func101.trans (congrArg some (by kernel_rfl))⟩
  f13 := ⟨Tryz.f102.name, by decide, Tryz.func102.trans (congrArg some (by kernel_rfl))⟩
  f14 := ⟨Tryz.f103.name, by decide, Tryz.func103.trans (congrArg some (by kernel_rfl))⟩
  f15 := ⟨Tryz.f104.name, by decide, Tryz.func104.trans (congrArg some (by kernel_rfl))⟩
  f16 := ⟨Tryz.f105.name, by decide, Tryz.func105.trans (congrArg some (by kernel_rfl))⟩
  f17 := ⟨Tryz.f106.name, by decide, Tryz.func106.trans (congrArg some (by kernel_rfl))⟩
  f18 := ⟨Tryz.f107.name, by decide, Tryz.func107.trans (congrArg some (by kernel_rfl))⟩
  f19 := Tryz.func97.trans (congrArg some (by kernel_rfl))
  f20 := Tryz.func98.trans (congrArg some (by kernel_rfl))
  f30 := ⟨Tryz.f117.name, by decide, Tryz.func117.trans (congrArg some (by kernel_rfl))⟩
  f31 := Tryz.func113.trans (congrArg some (by kernel_rfl))
  f32 := Tryz.func114.trans (congrArg some (by kernel_rfl))
  f33 := ⟨Tryz.f118.name, by decide, Tryz.func118.trans (congrArg some (by kernel_rfl))⟩
  f34 := ⟨Tryz.f119.name, by decide, Tryz.func119.trans (congrArg some (by kernel_rfl))⟩
  f35 := ⟨Tryz.f120.name, by decide, Tryz.func120.trans (congrArg some (by kernel_rfl))⟩
  f40 := ⟨Tryz.f126.name, by decide, Tryz.func126.trans (congrArg some (by kernel_rfl))⟩
  t0 := Tryz.underlying0
  a0 := Tryz.isAgg0
  z0 := Tryz.sizeOf0
  v0 := Tryz.zeroValue0
  t3 := Tryz.underlying3
  a3 := Tryz.isAgg3
  z3 := Tryz.sizeOf3
  v3 := Tryz.zeroValue3
  t4 := Tryz.underlying4
  a4 := Tryz.isAgg4
  z4 := Tryz.sizeOf4
  v4 := Tryz.zeroValue4
  t5 := Tryz.underlying5
  a5 := Tryz.isAgg5
  z5 := Tryz.sizeOf5
  v5 := Tryz.zeroValue5
  t9 := Tryz.underlying9
  a9 := Tryz.isAgg9
  z9 := Tryz.sizeOf9
  v9 := Tryz.zeroValue9
  t22 := Tryz.underlying43
  a22 := Tryz.isAgg43
  z22 := Tryz.sizeOf43
  v22 := Tryz.zeroValue43
  t23 := Tryz.underlying43
  a23 := Tryz.isAgg43
  z23 := Tryz.sizeOf43
  v23 := Tryz.zeroValue43
  t25 := Tryz.underlying3
  a25 := Tryz.isAgg3
  z25 := Tryz.sizeOf3
  v25 := Tryz.zeroValue3
  t32 := Tryz.underlying109
  a32 := Tryz.isAgg109
  z32 := Tryz.sizeOf109
  v32 := Tryz.zeroValue109
  t35 := Tryz.underlying141
  a35 := Tryz.isAgg141
  z35 := Tryz.sizeOf141
  v35 := Tryz.zeroValue141
  t36 := Tryz.underlying142
  a36 := Tryz.isAgg142
  z36 := Tryz.sizeOf142
  v36 := Tryz.zeroValue142
  t41 := Tryz.underlying71
  a41 := Tryz.isAgg71
  z41 := Tryz.sizeOf71
  v41 := Tryz.zeroValue71
  t44 := Tryz.underlying148
  a44 := Tryz.isAgg148
  z44 := Tryz.sizeOf148
  v44 := Tryz.zeroValue148
  t46 := Tryz.underlying150
  a46 := Tryz.isAgg150
  z46 := Tryz.sizeOf150
  v46 := Tryz.zeroValue150
  t53 := Tryz.underlying158
  a53 := Tryz.isAgg158
  z53 := Tryz.sizeOf158
  v53 := Tryz.zeroValue158
  t57 := Tryz.underlying162
  a57 := Tryz.isAgg162
  z57 := Tryz.sizeOf162
  v57 := Tryz.zeroValue162
  t63 := Tryz.underlying169
  a63 := Tryz.isAgg169
  z63 := Tryz.sizeOf169
  v63 := Tryz.zeroValue169
  t64 := Tryz.underlying170
  a64 := Tryz.isAgg170
  z64 := Tryz.sizeOf170
  v64 := Tryz.zeroValue170 }
end Go.Proofs
namespace Go.Gk
open Go Go.Proofs
variable (N:Nat) {E w:World} {i0 i1 i2:Nat} {p0 p1 p2 res:Int} {v0 v1 v2:Value} {V:List HP}
theorem t8 {res:Bool} (o:Holds E w V) (j:oc N p0 p1 p2=some res):
    Calls bC 84 [(vi p0),(vi p1),(vi p2)].toArray w (gE (bB E V res)):=by
 unfold oc at j
 refine enter Tryz.func84 zr zr (RC.sr (aP (vb false) (RL.ns (mv (vi p0) (mv (vi p1) (ic p0 p1 (mv (vb (decide (p0>=p1))) (RL.gs true (decide (p0>=p1)) (vi p0) zr zr zr dD ?_))))))))
 refine RL.gs true (decide (p0>=p1)) (vi p2) rfl rfl rfl dD (RL.gs true (decide (p0>=p1)) (vb (decide (p0<=p2))) rfl rfl rfl (dT .leq .i64 p0 p2 rfl (fun h=>by exact(cI h:cv (true&&((decide (p0>=p1))==true)) (vi p0)= (vi p0))) (fun h=>by exact(cI h:cv (true&&((decide (p0>=p1))==true)) (vi p2)= (vi p2))) rfl) (RL.pick (decide (p0>=p1)) (vb ((decide (p0>=p1))&&(decide (p0<=p2)))) (gG true) (aP (vb ((decide (p0>=p1))&&(decide (p0<=p2)))) (RL.nt (RC.ret ?_)))))
 obtain rfl:=oi j
 exact cB ⟨rfl,o.drop 0⟩
theorem jf {res:Bool} (o:Holds E w V) (j:iS N p0=some res):
    Calls bC 68 [(vi p0)].toArray w (gE (bB E V res)):=by
 unfold iS at j
 refine enter Tryz.func68 zr zr (RC.sr (aP (vb false) (RL.ns (mv (vi p0) ?_))))
 obtain⟨aa,ab,j⟩:=bd j
 refine RL.call zt zr Gu [(vi p0),(vi (-1000000)),(vi 1000000)] zr (aF (t8 N (p0:=p0) (p1:=(-1000000)) (p2:=1000000) o ab) ?_)
 rintro _ w ⟨rfl,o⟩
 refine aP (vb aa) (RL.nt (RC.ret ?_))
 obtain rfl:=oi j
 exact cB ⟨rfl,o.drop 0⟩
theorem oJ {p0:aI} {res:Bool} (j:Holds E w V) (h0:V[i0]? =some (rd v0 p0)) (hb:jT N p0=some res):
    Calls bC 53 [v0].toArray w (gE (bB E V res)):=by
 unfold jT at hb
 refine enter Tryz.func53 zr zr ?_
 have j:=j.dup (i0+0) h0
 refine RC.sr (RL.dC 0 v0 j zr fun aq w j=>?_)
 refine aP (vb false) (RL.nq ?_)
 obtain⟨af,o,hb⟩:=bd hb
 refine RC.jn (fun(af:Bool)=>SH E V [(2,vb af)] []) af ?_ ?_
 ·refine RC.region (RL.bA zr iV (RL.aM 0 j zr eH cE ?_))
  obtain⟨aj,ak,o⟩:=bd o
  refine RL.call zt zr AL [(vi p0.X0)] zr (aF (jf N (p0:=p0.X0) j ak) ?_)
  rintro _ w ⟨rfl,j⟩
  refine mv (vb aj) (gC o (fun aa o=>?_) fun aa o=>?_)
  rotate_left
  ·refine bV aa (bV aa (bV aa (gF aa (vb false) (mv (vb false) (ng (ng (ng (RL.pick false (vb false) zr ?_))))))))
   refine mv (vb false) (ng (ng (ng (RL.pick false (vb false) zr (aP (vb false) (RL.nil ?_))))))
   obtain rfl:=oi o
   exact⟨rfl,j.sp 2 []⟩
  refine RL.bA (hg:=(cg aa)) zr jD (RL.aM (hg:=(cg aa)) 0 j zr eW cE ?_)
  obtain⟨ag,al,o⟩:=bd o
  refine RL.call (cg aa) zr AL [(vi p0.Y0)] zr (aF (jf N (p0:=p0.Y0) j al) ?_)
  rintro _ w ⟨rfl,j⟩
  refine gF aa (vb ag) (mv (vb ag) (gC o (fun ab o=>?_) fun ab o=>?_))
  rotate_left
  ·refine bV ab (bV ab (bV ab (gF ab (vb false) (mv (vb false) (ng (ng (ng (RL.pick false (vb false) zr ?_))))))))
   refine aP (vb false) (RL.nil ?_)
   obtain rfl:=oi o
   exact⟨rfl,j.sp 2 []⟩
  refine RL.bA (hg:=(cg ab)) zr jE (RL.aM (hg:=(cg ab)) 0 j zr fD cE ?_)
  obtain⟨ah,an,o⟩:=bd o
  refine RL.call (cg ab) zr AL [(vi p0.X1)] zr (aF (jf N (p0:=p0.X1) j an) ?_)
  rintro _ w ⟨rfl,j⟩
  refine gF ab (vb ah) (mv (vb ah) (gC o (fun ad o=>?_) fun ad o=>?_))
  rotate_left
  ·refine bV ad (bV ad (bV ad (gF ad (vb false) (aP (vb false) (RL.nil ?_)))))
   obtain rfl:=oi o
   exact⟨rfl,j.sp 2 []⟩
  refine RL.bA (hg:=(cg ad)) zr my (RL.aM (hg:=(cg ad)) 0 j zr iL cE ?_)
  obtain⟨ai,ao,o⟩:=bd o
  refine RL.call (cg ad) zr AL [(vi p0.Y1)] zr (aF (jf N (p0:=p0.Y1) j ao) ?_)
  rintro _ w ⟨rfl,j⟩
  refine gF ad (vb ai) (aP (vb ai) (RL.nil ?_))
  obtain rfl:=oi o
  exact⟨rfl,j.sp 2 []⟩
 rintro _ w ⟨O,rfl,j⟩
 refine aG (RC.ret ?_)
 obtain rfl:=oi hb
 exact cB ⟨rfl,j.drop 0⟩
def rk (E:World) (V:List HP) (r:Int) (U:Nat->Value) (w:World):Prop:=lM bC 30 Tryz.f31 (aO E V r) .ret U w
theorem qC {p0: (List aI)} (o:Holds E w V) (h0:V[i0]? =some (rd v0 p0)) (hb:iE N p0=some res):
    Calls bC 31 [v0].toArray w (gE (aO E V res)):=by
 unfold iE at hb
 refine enter Tryz.func31 zr zr ?_
 have o:=o.dup (i0+0) h0
 refine RC.sr (aP (vi 0) (RL.nq (RC.sr (mv v0 (RL.bF 0 p0 o pg (ic ((p0.length:Int)) 2000 (RL.nt (fE hb (fun hc hb=>?_) fun hc hb=>?_))))))))
 ·refine RC.sr (aP (vi 2) (RL.nt (RC.rt ?_)))
  obtain rfl:=oi hb
  exact cB ⟨rfl,o.drop 1⟩
 refine RC.ss (RC.sr (mv v0 (RL.bF 0 p0 o pg (mv (vi 0) (RL.nt ?_)))))
 obtain⟨aq,hN,hb⟩:=bd hb
 refine RC.range (fun(ae:Nat) (af:Unit)=>SH E V [(8,v0),(9,vi p0.length),(10,vi ae)] [rd v0 p0]) (fun(af:Unit)=>SH E V [] [rd v0 p0]) (rk E V) hN ?_ ?_ ?_ ?_ ?_
 ·exact o.sp 1 [0]
 ·rintro hm af _ w ⟨O,rfl,o⟩
  refine RC.sr (ic ((p0.length:Int)) ((p0.length:Int)) (RL.nq (RC.cY nb (RC.ex ?_))))
  exact⟨rfl,o.sp 1 [0]⟩
 ·rintro hm ae af fl _ w hk ⟨O,rfl,o⟩ hb
  refine RC.sr (ic ((ae:Int)) ((p0.length:Int)) (RL.nq (RC.cX (na hk) (RC.ss (RC.bs ?_)))))
  obtain⟨j,aj,hb⟩:=bd hb
  refine RL.cF 0 o kN aj fun au o=>(RL.bY 0 j o gW fun av o=>(RL.alloc o ni.z fun ab w o=>?_))
  refine RL.bJ 0 o 1 zr gW fun w o=>?_
  refine RL.nq (RC.sr (RL.aZ (f:=(fun x=>x)) 0 o zr Fd.self gW fun ak o=>?_))
  obtain⟨al,an,hb⟩:=bd hb
  refine RL.call zt zr E2 [ak] zr (aF (oJ N (i0:=0) o zr an) ?_)
  rintro _ w ⟨rfl,o⟩
  refine RL.not al (RL.nt (fE hb (fun hc hb=>?_) fun hc hb=>?_))
  ·refine RC.sr (aP (vi 1) (RL.nt (RC.rt (lj (bZ ?_)))))
   obtain rfl:=oi hb
   exact⟨rfl,cB ⟨rfl,o.drop 5⟩⟩
  refine RC.sx (RL.bA rfl jE (RL.aM 1 o rfl fD cE (RL.bA rfl iV (RL.aM 1 o rfl eH cE (ic j.X1 j.X0 (mv (vb (decide (j.X1<=j.X0))) (RL.gs true (decide (j.X1<=j.X0)) (vp ab 3) rfl rfl rfl (dI my) (RL.gs true (decide (j.X1<=j.X0)) (vi j.Y1) rfl rfl rfl (bQ 1 rfl o (fun h=>by exact(cI h:cv (true&&((decide (j.X1<=j.X0))==false)) (vp ab 3)= (vp ab 3))) rfl iL cE) ?_))))))))
  refine RL.gs true (decide (j.X1<=j.X0)) (vp ab 1) rfl rfl rfl (dI jD) (RL.gs true (decide (j.X1<=j.X0)) (vi j.Y0) rfl rfl rfl (bQ 1 rfl o (fun h=>by exact(cI h:cv (true&&((decide (j.X1<=j.X0))==false)) (vp ab 1)= (vp ab 1))) rfl eW cE) (RL.gs true (decide (j.X1<=j.X0)) (vb (decide (j.Y1<=j.Y0))) rfl rfl rfl (dT .leq .i64 j.Y1 j.Y0 rfl (fun h=>by exact(cI h:cv (true&&((decide (j.X1<=j.X0))==false)) (vi j.Y1)= (vi j.Y1))) (fun h=>by exact(cI h:cv (true&&((decide (j.X1<=j.X0))==false)) (vi j.Y0)= (vi j.Y0))) rfl) (RL.pick (decide (j.X1<=j.X0)) (vb ((decide (j.X1<=j.X0))||(decide (j.Y1<=j.Y0)))) (oF true rfl) (RL.nt (fE hb (fun hc hb=>?_) fun hc hb=>?_)))))
  rotate_left
  ·refine RC.skip (bT (aG (RC.region (RL.inc hk hm (mv (vi ((ae+1:Nat):Int)) (RL.nil ?_))))))
   obtain rfl:=oi hb
   exact⟨rfl,o.sp 5 [4]⟩
  refine RC.sr (aP (vi 13) (RL.nt (RC.rb (bZ ?_))))
  obtain rfl:=oi hb
  exact⟨rfl,cB ⟨rfl,o.drop 5⟩⟩
 ·intro r U w e hK
  subst e
  refine bZ ?_
  obtain rfl:=oi hb
  exact hK
 rintro af _ w rfl ⟨O,rfl,o⟩
 rw [Fo.gm] at hb
 refine aG (RC.sr (aP (vi 0) (RL.nt (RC.ret ?_))))
 obtain rfl:=oi hb
 exact cB ⟨rfl,o.drop 1⟩
theorem pj {p0: (List aI)} {res: (List aI)} (j:Holds E w V) (h0:V[i0]? =some (rd v0 p0)) (o:fX N p0=some res):
    Calls bC 54 [v0].toArray w (gE (j8 E V res)):=by
 unfold fX at o
 refine enter Tryz.func54 zr zr ?_
 have j:=j.dup (i0+0) h0
 refine RC.sr (aP (.slice none 0 0) (RL.nq (RC.sr (mv v0 (RL.ET (i:=0) zt zr j zr zr zr pg (RL.nt (RC.cond (b:=(C4 v0)) zr (fun hc=>?_) (fun hc=>?_))))))))
 ·have hx:=j.Gn (i:=0) rfl hc
  rw [hx] at o
  replace o:some ([]: (List aI))=_:=o
  refine RC.sr (aP (.slice none 0 0) (RL.nt (RC.rt ?_)))
  obtain rfl:=oi o
  have j:=j.dP aI 46
  exact cB (j.pk 2 [0])
 refine RC.sx (RL.fy ([]: (List aI)) j [] kN ni (fun M hs g=>zt) fun ae w j=>(mv v0 ?_))
 obtain⟨af,ab,o⟩:=bd o
 refine RL.app 0 1 j AM ab fun ad w j=>?_
 refine aP ad (RL.nt (RC.ret ?_))
 obtain rfl:=oi o
 exact cB (j.pk 2 [0])
theorem sg {p0 p1:aI} (j:Holds E w V) (h0:V[i0]? =some (rd v0 p0)) (h1:V[i1]? =some (rd v1 p1)) (o:gI N p0 p1=some res):
    Calls bC 56 [v0,v1].toArray w (gE (aO E V res)):=by
 unfold gI at o
 refine enter Tryz.func56 zr zr ?_
 have j:=(j.dup (i0+0) h0).dup (i1+1) h1
 refine RC.sr (RL.dC 1 v0 j zr fun aa w j=>?_)
 refine RL.dC 1 v1 j zr fun ab w j=>?_
 refine aP (vi 0) (RL.ns (RL.bA zr jD (RL.aM 1 j zr eW cE (RL.bA zr jD (RL.aM 0 j zr eW cE (RL.jq p0.Y0 p1.Y0 (aP (vi (IntKind.wrap .i64 (p0.Y0 - p1.Y0))) (RL.nt ?_))))))))
 refine RC.ret ?_
 obtain rfl:=oi o
 exact cB ⟨rfl,j.drop 4⟩
def po (E:World) (V:List HP) (r: (List Int)) (U:Nat->Value) (w:World):Prop:=lM bC 61 Tryz.f58 (jF E V r) .ret U w
theorem oQ {p0: (List Int)} {res: (List Int)} (j:Holds E w (own 3 v0 p0::V)) (o:eP N p0=some res):
    Calls bC 58 [v0].toArray w (gE (jF E V res)):=by
 unfold eP at o
 refine enter Tryz.func58 zr zr (RC.sr (aP (.slice none 0 0) (RL.nq (RC.sr (mv v0 (RL.fQ 0 p0 j ln (ic ((p0.length:Int)) 2 (RL.nt ?_))))))))
 refine fE o (fun hc o=>?_) fun hc o=>?_
 ·refine RC.sr (mv v0 (aP v0 (RL.nt (RC.rt ?_))))
  obtain rfl:=oi o
  exact cB (j.pk 1 [0])
 refine RC.ss (RC.sr (aP (vi 1) (RL.nt ?_)))
 obtain⟨a2,hN,o⟩:=bd o
 refine RC.iter (fun(ab:Int)=>SH E V [(0,v0),(3,vi ab)] [own 3 v0 p0]) (fun(ab:Int)=>SH E V [(0,v0)] [own 3 v0 p0]) (po E V) hN ?_ ?_ ?_ ?_
 ·exact j.sp 1 [0]
 ·rintro ab fl _ w ⟨O,rfl,j⟩ o
  refine RC.seq (RC.sr (mv (vi ab) (mv v0 (RL.fQ 0 p0 j ln (ic ab ((p0.length:Int)) (RL.nt (fE o (fun hc o=>?_) fun hc o=>?_)))))))
  rotate_left
  ·refine RC.ex ?_
   obtain rfl:=oi o
   exact⟨rfl,j.sp 1 [0]⟩
  refine RC.ss (RC.block (RC.seq (RC.wg mixed ?_)))
  have j:=j.drew
  refine RO.go (mv v0 (RO.nx (mv (vi ab) (RO.nx ?_))))
  obtain⟨au,al,o⟩:=bd o
  refine RL.bK 0 j zr zr eC al (RO.nx (RL.cV (f:=(fun x=>x)) 0 j (jl 0 j al 0) (aV al).2.1 Fd.self cE (RO.nx (mv v0 (RO.nx (mv (vi ab) (RO.nx (RL.jq ab 1 ?_))))))))
  refine RO.nx ?_
  obtain⟨av,an,o⟩:=bd o
  refine RL.bK 0 j zr zr eC an (RO.nx (RL.cV (f:=(fun x=>x)) 0 j (jl 0 j an 0) (aV an).2.1 Fd.self cE (RO.nx (ic au av (RO.last (aG (fE o (fun hc o=>?_) fun hc o=>?_)))))))
  rotate_left
  ·refine RC.skip (bT (aG (RC.region (mv (vi ab) (RL.jq ab 1 (aP (vi (IntKind.wrap .i64 (ab+1))) (RL.nil ?_)))))))
   obtain rfl:=oi o
   exact⟨rfl,j.sp 1 [0]⟩
  refine RC.sr (mv v0 (mv (vi ab) ?_))
  obtain⟨a3,af,o⟩:=bd o
  refine RL.view 0 ab zr j zr zr eC af (aP (vw v0 (Int.toNat ab) 1) (RL.nq (RC.sr (aP (vi 1) (RL.nt ?_)))))
  obtain⟨a4,hN,o⟩:=bd o
  refine RC.iter (fun(aa: (List Int)×Int×Int)=>SH E V [(0,v0),(3,vi aa.2.1),(4,(vw v0 (Int.toNat ab) 1)),(5,vi aa.2.2)] [own 3 v0 aa.1]) (fun(aa: (List Int)×Int×Int)=>SH E V [(0,v0),(3,vi aa.2.1)] [own 3 v0 aa.1]) (fun(r:Empty) _ _=>r.elim) hN ?_ ?_ ?_ ?_
  ·exact j.sp 1 [0]
  ·rintro aa fl _ w ⟨O,rfl,j⟩ o
   refine RC.seq (RC.sr (mv (vi aa.2.2) (mv (vw v0 (Int.toNat ab) 1) (RL.Ea (i:=0) (l:=aa.1) zt zr j zr zr ln (ic aa.2.2 ((((aa.1.length - Int.toNat ab):Nat):Int)) (RL.nt (fE o (fun hc o=>?_) fun hc o=>?_)))))))
   rotate_left
   ·refine RC.ex ?_
    obtain rfl:=oi o
    exact⟨rfl,j.sp 1 [0]⟩
   refine RC.ss (RC.block (RC.seq (RC.wg mixed ?_)))
   have j:=j.drew
   refine RO.go (mv (vw v0 (Int.toNat ab) 1) (RO.nx (mv (vi aa.2.2) (RO.nx ?_))))
   obtain⟨aw,ag,o⟩:=bd o
   refine RL.BF 0 ab zr j zr zr zr eC (y7 af) (g8 ag).1 (g8 ag).2 (RO.nx (RL.cV (f:=(fun x=>x)) 0 j (jl 0 j (g8 ag).2 0) (aV (g8 ag).2).2.1 Fd.self cE (RO.nx (mv (vw v0 (Int.toNat ab) 1) (RO.nx (mv (vi aa.2.2) (RO.nx (RL.jq aa.2.2 1 ?_))))))))
   refine RO.nx ?_
   obtain⟨ax,ah,o⟩:=bd o
   refine RL.BF 0 ab zr j zr zr zr eC (y7 af) (g8 ah).1 (g8 ah).2 (RO.nx (RL.cV (f:=(fun x=>x)) 0 j (jl 0 j (g8 ah).2 0) (aV (g8 ah).2).2.1 Fd.self cE (RO.nx (ic aw ax (RO.last (aG ?_))))))
   obtain⟨ai,hj,o⟩:=bd o
   refine RC.jn (fun(ai: (List Int)×Int)=>SH E V [(0,v0),(3,vi ai.2),(4,(vw v0 (Int.toNat ab) 1)),(5,vi aa.2.2)] [own 3 v0 ai.1]) ai ?_ ?_
   ·refine fE hj (fun hc hj=>?_) fun hc hj=>?_
    rotate_left
    ·refine RC.skip ?_
     obtain rfl:=oi hj
     exact⟨rfl,j.sp 1 [0]⟩
    refine RC.sr (mv v0 (mv (vi aa.2.1) (mv (vw v0 (Int.toNat ab) 1) (mv (vi aa.2.2) ?_))))
    obtain⟨ay,aj,hj⟩:=bd hj
    refine RL.BF 0 ab zr j zr zr zr eC (y7 af) (g8 aj).1 (g8 aj).2 (RL.cV (f:=(fun x=>x)) 0 j (jl 0 j (g8 aj).2 0) (aV (g8 aj).2).2.1 Fd.self cE ?_)
    obtain⟨a5,ao,hj⟩:=bd hj
    refine RL.bK 0 j zr zr eC ao ?_
    have j:=j.sc Int ay
    refine RL.fJ (f:=(fun _ y=>y)) 1 0 j (jl 1 j ao 0) (aV ao).2.1 zr Fs.self cE fun w j=>?_
    refine RL.nt (RC.region (mv (vi aa.2.1) (RL.jq aa.2.1 1 (aP (vi (IntKind.wrap .i64 (aa.2.1+1))) (RL.nil ?_)))))
    obtain rfl:=oi hj
    exact⟨rfl,j.sp 2 [1]⟩
   rintro _ w ⟨O,rfl,j⟩
   refine bT (aG (RC.region (mv (vi aa.2.2) (RL.jq aa.2.2 1 (aP (vi (IntKind.wrap .i64 (aa.2.2+1))) (RL.nil ?_))))))
   obtain rfl:=oi o
   exact⟨rfl,j.sp 1 [0]⟩
  ·intro r _ _ _ _
   exact r.elim
  rintro aa _ w rfl ⟨O,rfl,j⟩
  rw [Fo.gm] at o
  refine aG (RC.sr (mv v0 (mv (vi aa.2.1) ?_)))
  obtain⟨a6,aq,o⟩:=bd o
  refine RL.view 0 aa.2.1 zr j zr zr eC aq (RL.xV 0 zt j zr zr r7 EJ (BG aq) fun w j=>(RL.ns (mv v0 (mv (vi aa.2.1) ?_))))
  obtain⟨a7,az,o⟩:=bd o
  refine RL.wO 0 zr j zr zr eC (.inr ⟨rfl,zr⟩) az fun a0 j=>(aP a0 (RL.nt (RC.rb (bZ ?_))))
  obtain rfl:=oi o
  exact⟨rfl,cB (j.pk 1 [0])⟩
 ·intro r U w e hK
  subst e
  refine bZ ?_
  obtain rfl:=oi o
  exact hK
 rintro ab _ w rfl ⟨O,rfl,j⟩
 rw [Fo.gm] at o
 refine aG (RC.sr (mv v0 (aP v0 (RL.nt (RC.ret ?_)))))
 obtain rfl:=oi o
 exact cB (j.pk 1 [0])
theorem si {p0:aI} {p1: (List Int)} {res:Bool} (j:Holds E w V) (h0:V[i0]? =some (rd v0 p0)) (h1:V[i1]? =some (pt v1 p1)) (h2:V[i2]? =some (pt v2 p2)) (o:kS N p0 p1 p2=some res):
    Calls bC 60 [v0,v1,v2].toArray w (gE (bB E V res)):=by
 unfold kS at o
 refine enter Tryz.func60 zr zr ?_
 have j:=((j.dup (i0+0) h0).uu (i:=i1+1) h1).uu (i:=i2+2) h2
 refine RC.sr (RL.dC 2 v0 j zr fun ad w j=>?_)
 refine aP (vb false) (RL.nq (RC.wg mixed ?_))
 have j:=j.drew
 refine RO.go (RL.bA zr my (RO.nx (RL.aM 0 j zr iL cE (RO.nx (RL.bY 2 p1 j eJ fun ae j=>(RO.nx (RL.bH p2 2 j cE (RO.nx ?_))))))))
 obtain⟨aa,ab,o⟩:=bd o
 refine RL.cF 0 j eC ab fun af j=>(RO.nx (RL.bH aa 0 j cE (RO.nx (ic p0.Y1 aa (RO.nx (aP (vb (decide (p0.Y1<=aa))) (RO.last (aG ?_))))))))
 refine RC.ret ?_
 obtain rfl:=oi o
 exact cB ⟨rfl,j.drop 6⟩
def nJ (E:World) (V:List HP) (r:Int) (U:Nat->Value) (w:World):Prop:=lM bC 19 Tryz.f72 (aO E V r) .ret U w
theorem nk {p0: (List aI)} {p1:aI->Option Bool} (j:Holds E w V) (h0:V[i0]? =some (rd v0 p0)) (h1:CO bC E V v1 p1 (fun(r:Bool)=>Value.bool r)) (o:jg N p0 p1=some res):
    Calls bC 72 [v0,v1].toArray w (gE (aO E V res)):=by
 unfold jg at o
 refine enter Tryz.func72 zr zr ?_
 have j:=j.dup (i0+0) h0
 refine RC.sr (aP (vi 0) (RL.nq (RC.sr (mv v0 (RL.bF 0 p0 j pg (mv (vi 0) (RL.nt ?_)))))))
 obtain⟨al,hN,o⟩:=bd o
 refine RC.range (fun(aa:Nat) (ab:Unit)=>SH E V [(0,v0),(1,v1),(7,vi p0.length),(8,vi aa)] [rd v0 p0]) (fun(ab:Unit)=>SH E V [] [rd v0 p0]) (nJ E V) hN ?_ ?_ ?_ ?_ ?_
 ·exact j.sp 1 [0]
 ·rintro hm ab _ w ⟨O,rfl,j⟩
  refine RC.sr (ic ((p0.length:Int)) ((p0.length:Int)) (RL.nq (RC.cY nb (RC.ex ?_))))
  exact⟨rfl,j.sp 1 [0]⟩
 ·rintro hm aa ab fl _ w hk ⟨O,rfl,j⟩ o
  refine RC.sr (ic ((aa:Int)) ((p0.length:Int)) (RL.nq (RC.cX (na hk) (RC.ss (RC.bs (mv (vi aa) (aP (vi aa) (RL.ns ?_))))))))
  refine mv v1 (mv v0 (mv (vi aa) ?_))
  obtain⟨ag,ah,o⟩:=bd o
  refine RL.cF 0 j kN ah fun ao j=>(RL.bY 0 ag j gW fun aq j=>?_)
  obtain⟨ar,ai,o⟩:=bd o
  refine RL.wN 0 zr j zr h1 3 zr zr zr ai fun w j=>(RL.nt (fE o (fun hc o=>?_) fun hc o=>?_))
  rotate_left
  ·refine RC.skip (bT (aG (RC.region (RL.inc hk hm (mv (vi ((aa+1:Nat):Int)) (RL.nil ?_))))))
   obtain rfl:=oi o
   exact⟨rfl,j.sp 3 [2]⟩
  refine RC.sr (mv (vi aa) (aP (vi aa) (RL.nt (RC.rb (bZ ?_)))))
  obtain rfl:=oi o
  exact⟨rfl,cB ⟨rfl,j.drop 3⟩⟩
 ·intro r U w e hK
  subst e
  refine bZ ?_
  obtain rfl:=oi o
  exact hK
 rintro ab _ w rfl ⟨O,rfl,j⟩
 rw [Fo.gm] at o
 refine aG (RC.sr (aP (vi (-1)) (RL.nt (RC.ret ?_))))
 obtain rfl:=oi o
 exact cB ⟨rfl,j.drop 1⟩
def jG (E:World) (V:List HP) (v0:Value) (p0: (List aI)) (res:Int) (v:Value) (w:World):Prop:=v= (vi res)/\Holds E w ([own 46 v0 p0]++V)
def mA (E:World) (V:List HP) (v0:Value) (p0: (List aI)) (r:Int) (U:Nat->Value) (w:World):Prop:=lM bC 19 Tryz.f72 (jG E V v0 p0 r) .ret U w
theorem ma {p0: (List aI)} {p1:aI->Option Bool} (o:Holds E w (own 46 v0 p0::V)) (h1:CO bC E V v1 p1 (fun(r:Bool)=>Value.bool r)) (j:iu N p0 p1=some res):
    Calls bC 72 [v0,v1].toArray w (gE (jG E V v0 p0 res)):=by
 unfold iu at j
 refine enter Tryz.func72 zr zr (RC.sr (aP (vi 0) (RL.nq (RC.sr (mv v0 (RL.fQ 0 p0 o pg (mv (vi 0) (RL.nt ?_))))))))
 obtain⟨ak,hN,j⟩:=bd j
 refine RC.range (fun(aa:Nat) (ab:Unit)=>SH E V [(0,v0),(1,v1),(7,vi p0.length),(8,vi aa)] [own 46 v0 p0]) (fun(ab:Unit)=>SH E V [(0,v0)] [own 46 v0 p0]) (mA E V v0 p0) hN ?_ ?_ ?_ ?_ ?_
 ·exact o.sp 1 [0]
 ·rintro hm ab _ w ⟨O,rfl,o⟩
  refine RC.sr (ic ((p0.length:Int)) ((p0.length:Int)) (RL.nq (RC.cY nb (RC.ex ?_))))
  exact⟨rfl,o.sp 1 [0]⟩
 ·rintro hm aa ab fl _ w hk ⟨O,rfl,o⟩ j
  refine RC.sr (ic ((aa:Int)) ((p0.length:Int)) (RL.nq (RC.cX (na hk) (RC.ss (RC.bs (mv (vi aa) (aP (vi aa) (RL.ns ?_))))))))
  refine mv v1 (mv v0 (mv (vi aa) ?_))
  obtain⟨an,ad,j⟩:=bd j
  refine RL.bK 0 o zr zr kN ad (RL.kp (f:=(fun x=>x)) 0 o (jl 0 o ad 0) (aV ad).2.1 Fd.self gW fun ao o=>?_)
  obtain⟨aq,ah,j⟩:=bd j
  refine RL.wN 0 zr o zr h1 2 zr zr zr ah fun w o=>(RL.nt (fE j (fun hc j=>?_) fun hc j=>?_))
  rotate_left
  ·refine RC.skip (bT (aG (RC.region (RL.inc hk hm (mv (vi ((aa+1:Nat):Int)) (RL.nil ?_))))))
   obtain rfl:=oi j
   exact⟨rfl,o.sp 2 [1]⟩
  refine RC.sr (mv (vi aa) (aP (vi aa) (RL.nt (RC.rb (bZ ?_)))))
  obtain rfl:=oi j
  exact⟨rfl,cB ⟨rfl,o.pk 2 [1]⟩⟩
 ·intro r U w e hK
  subst e
  refine bZ ?_
  obtain rfl:=oi j
  exact hK
 rintro ab _ w rfl ⟨O,rfl,o⟩
 rw [Fo.gm] at j
 refine aG (RC.sr (aP (vi (-1)) (RL.nt (RC.ret ?_))))
 obtain rfl:=oi j
 exact cB ⟨rfl,o.pk 1 [0]⟩
theorem mO {p0: (List aI)} {p1:aI->Option Bool} {res: (List aI)} (j:Holds E w (own 46 v0 p0::V)) (h1:CO bC E V v1 p1 (fun(r:Bool)=>Value.bool r)) (o:fz N p0 p1=some res):
    Calls bC 59 [v0,v1].toArray w (gE (j8 E V res)):=by
 unfold fz at o
 refine enter Tryz.func59 zr zr (RC.sr (aP (.slice none 0 0) (RL.ns (mv v0 (mv v1 ?_)))))
 have j:=j.pull 0
 obtain⟨ad,aj,o⟩:=bd o
 refine RL.call zt zr E5 [v0,v1] zr (aF (ma N j (h1.lift 1 zr) aj) ?_)
 rintro _ w ⟨rfl,j⟩
 refine aP (vi ad) (RL.nq (RC.sr (mv (vi ad) (ic ad ((-1)) (RL.nt (fE o (fun hc o=>?_) fun hc o=>?_))))))
 ·refine RC.sr (mv v0 (aP v0 (RL.nt (RC.rt ?_))))
  obtain rfl:=oi o
  exact cB (j.pk 2 [0])
 refine RC.ss (RC.sr (mv (vi ad) (RL.jq ad 1 (aP (vi (IntKind.wrap .i64 (ad+1))) (RL.nt ?_)))))
 obtain⟨ar,hN,o⟩:=bd o
 refine RC.iter (fun(aa: (List aI)×Int×Int)=>SH E V [(0,v0),(1,v1),(5,vi aa.2.1),(6,vi aa.2.2)] [own 46 v0 aa.1]) (fun(aa: (List aI)×Int×Int)=>SH E V [(0,v0),(5,vi aa.2.1)] [own 46 v0 aa.1]) (fun(r:Empty) _ _=>r.elim) hN ?_ ?_ ?_ ?_
 ·exact j.sp 2 [0]
 ·rintro aa fl _ w ⟨O,rfl,j⟩ o
  refine RC.seq (RC.sr (mv (vi aa.2.2) (mv v0 (RL.fQ 0 aa.1 j pg (ic aa.2.2 ((aa.1.length:Int)) (RL.nt (fE o (fun hc o=>?_) fun hc o=>?_)))))))
  rotate_left
  ·refine RC.ex ?_
   obtain rfl:=oi o
   exact⟨rfl,j.sp 1 [0]⟩
  refine RC.ss (RC.bs (mv v0 (mv (vi aa.2.2) ?_)))
  obtain⟨av,ag,o⟩:=bd o
  refine RL.bK 0 j zr zr kN ag (RL.kp (f:=(fun x=>x)) 0 j (jl 0 j ag 0) (aV ag).2.1 Fd.self gW fun aw j=>?_)
  refine RL.alloc j ni.z fun ax w j=>?_
  refine RL.bJ 0 j 1 zr gW fun w j=>?_
  refine RL.ns (mv v1 (RL.aZ (f:=(fun x=>x)) 0 j zr Fd.self gW fun ay j=>?_))
  obtain⟨al,an,o⟩:=bd o
  refine RL.wN 0 zr j zr h1 4 zr zr zr an fun w j=>(RL.not al (RL.nt ?_))
  obtain⟨af,hj,o⟩:=bd o
  refine RC.jn (fun(af: (List aI)×Int)=>SH E V [(0,v0),(1,v1),(5,vi af.2),(6,vi aa.2.2)] [own 46 v0 af.1]) af ?_ ?_
  ·refine fE hj (fun hc hj=>?_) fun hc hj=>?_
   rotate_left
   ·refine RC.skip ?_
    obtain rfl:=oi hj
    exact⟨rfl,j.sp 4 [3]⟩
   refine RC.sr (mv v0 (mv (vi aa.2.1) (RL.aZ (f:=(fun x=>x)) 1 j zr Fd.self gW fun az j=>?_)))
   obtain⟨a0,ah,hj⟩:=bd hj
   refine RL.bK 4 j zr zr kN ah (RL.fJ (f:=(fun _ y=>y)) 4 0 j (jl 4 j ah 0) (aV ah).2.1 zr Fs.self gW fun w j=>?_)
   refine RL.nt (RC.region (mv (vi aa.2.1) (RL.jq aa.2.1 1 (aP (vi (IntKind.wrap .i64 (aa.2.1+1))) (RL.nil ?_)))))
   obtain rfl:=oi hj
   exact⟨rfl,j.sp 5 [4]⟩
  rintro _ w ⟨O,rfl,j⟩
  refine bT (aG (RC.region (mv (vi aa.2.2) (RL.jq aa.2.2 1 (aP (vi (IntKind.wrap .i64 (aa.2.2+1))) (RL.nil ?_))))))
  obtain rfl:=oi o
  exact⟨rfl,j.sp 1 [0]⟩
 ·intro r _ _ _ _
  exact r.elim
 rintro aa _ w rfl ⟨O,rfl,j⟩
 rw [Fo.gm] at o
 refine aG (RC.sr (mv v0 (mv (vi aa.2.1) ?_)))
 obtain⟨a1,ai,o⟩:=bd o
 refine RL.view 0 aa.2.1 zr j zr zr kN ai (RL.xV 0 zt j zr zr AM GA (BG ai) fun w j=>(RL.ns (mv v0 (mv (vi aa.2.1) ?_))))
 obtain⟨a2,ao,o⟩:=bd o
 refine RL.wO 0 zr j zr zr kN (.inr ⟨rfl,zr⟩) ao fun aq j=>(aP aq (RL.nt (RC.ret ?_)))
 obtain rfl:=oi o
 exact cB (j.pk 1 [0])
theorem oR {p0 p1:aI} (j:Holds E w V) (h0:V[i0]? =some (rd v0 p0)) (h1:V[i1]? =some (rd v1 p1)) (o:eQ N p0 p1=some res):
    Calls bC 79 [v0,v1].toArray w (gE (aO E V res)):=by
 unfold eQ at o
 refine enter Tryz.func79 zr zr ?_
 have j:=(j.dup (i0+0) h0).dup (i1+1) h1
 refine RC.sr (RL.dC 1 v0 j zr fun aa w j=>?_)
 refine RL.dC 1 v1 j zr fun ab w j=>?_
 refine aP (vi 0) (RL.ns (RL.bA zr iV (RL.aM 1 j zr eH cE (RL.bA zr iV (RL.aM 0 j zr eH cE (RL.jq p0.X0 p1.X0 (aP (vi (IntKind.wrap .i64 (p0.X0 - p1.X0))) (RL.nt ?_))))))))
 refine RC.ret ?_
 obtain rfl:=oi o
 exact cB ⟨rfl,j.drop 4⟩
def sj (E:World) (V:List HP) (v0:Value) (res: (List Int)×(List aI)) (v:Value) (w:World):Prop:=Holds E w ([own 3 v res.1,own 46 v0 res.2]++V)
theorem rl {p0: (List aI)} {res: (List Int)×(List aI)} (j:Holds E w (own 46 v0 p0::V)) (hb:gj N p0=some res):
    Calls bC 62 [v0].toArray w (gE (sj E V v0 res)):=by
 unfold gj at hb
 refine enter Tryz.func62 zr zr (RC.sr (aP (.slice none 0 0) (RL.ns (mv v0 ?_))))
 obtain⟨af,a1,hb⟩:=bd hb
 have j:=j.pull 0
 refine RL.call zt zr E3 [v0,(.func (.func 79) #[] #[])] zr (aF (zX Tryz.lay55 aI zr gW.CU gW.sz GF (fun j hi o hr=>oR N j hi o hr) j a1) ?_)
 rintro _ w ⟨rfl,j⟩
 refine RL.ns (aP (.slice none 0 0) (RL.nq (RC.sr (mv v0 (RL.fQ 0 af j pg (mv (vi 0) (RL.nt ?_)))))))
 have j:=j.dP Int 3
 obtain⟨aa,hN,hb⟩:=bd hb
 refine RC.fold (fun(ah:Nat) (aa: (List Int)) U w=>∃av:Value,SH E V [(0,v0),(3,av),(9,v0),(10,vi af.length),(11,vi ah)] [own 46 v0 af,own 3 av aa] U w) (fun(aa: (List Int)) U w=>∃ai:Value,SH E V [(0,v0),(3,ai)] [own 46 v0 af,own 3 ai aa] U w) hN ?_ ?_ ?_ ?_
 ·exact⟨(.slice none 0 0),j.sp 3 [1,0]⟩
 ·rintro hm aa _ w ⟨a3,O,rfl,j⟩
  refine RC.sr (ic ((af.length:Int)) ((af.length:Int)) (RL.nq (RC.cY nb (RC.ex ?_))))
  exact⟨rfl,a3,j.sp 2 [0,1]⟩
 ·rintro hm ah aa s' _ w hk ⟨ag,O,rfl,j⟩ hb
  refine RC.sr (ic ((ah:Int)) ((af.length:Int)) (RL.nq (RC.cX (na hk) (RC.ss (RC.bs ?_)))))
  obtain⟨ae,ak,hb⟩:=bd hb
  refine RL.bK 0 j zr zr kN ak (RL.kp (f:=(fun x=>x)) 0 j (jl 0 j ak 0) (aV ak).2.1 Fd.self gW fun a6 j=>?_)
  refine RL.alloc j ni.z fun ay w j=>?_
  refine RL.bJ 0 j 1 zr gW fun w j=>?_
  refine RL.ns (mv ag (RL.fQ 3 aa j ln (RL.jq (aa.length:Int) 1 (aP (vi (IntKind.wrap .i64 ((aa.length:Int) - 1))) (RL.nq ?_)))))
  obtain⟨al,o,hb⟩:=bd hb
  refine RC.jn (fun(al:Bool)=>SH E V [(0,v0),(3,ag),(5,vp ay 0),(6,(vi (IntKind.wrap .i64 ((aa.length:Int) - 1)))),(9,v0),(10,vi af.length),(11,vi ah),(28,vb al)] [own 46 v0 af,own 3 ag aa,bx 46 ay ae]) al ?_ ?_
  ·refine RC.wg mixed ?_
   have j:=j.drew
   refine RO.go (mv (vi (IntKind.wrap .i64 ((aa.length:Int) - 1))) (RO.nx (ic ((IntKind.wrap .i64 ((aa.length:Int) - 1))) 0 (RO.nx (mv (vb (decide ((IntKind.wrap .i64 ((aa.length:Int) - 1))>=0))) (gC o (fun ab o=>?_) fun ab o=>?_))))))
   rotate_left
   ·refine RO.nx (bV ab (RO.nx (bV ab (RO.nx (bV ab (RO.nx (bV ab (RO.nx ?_))))))))
    refine bV ab (RO.nx (bV ab (RO.nx (bV ab (RO.nx (gF ab (vb false) (RO.last ?_)))))))
    obtain rfl:=oi o
    exact⟨rfl,j.sp 4 [2,3,0]⟩
   refine RO.nx (RL.bA (hg:=(cg ab)) zr iV (RO.nx (RL.aM (hg:=(cg ab)) 0 j zr eH cE (RO.nx (RL.move ag (cg ab) (RO.nx (RL.move (vi (IntKind.wrap .i64 ((aa.length:Int) - 1))) (cg ab) (RO.nx ?_))))))))
   obtain⟨az,an,o⟩:=bd o
   refine RL.bK (hg:=(cg ab)) 3 j zr zr eC an (RO.nx (RL.cV (hg:=(cg ab)) (f:=(fun x=>x)) 3 j (jl 3 j an 0) (aV an).2.1 Fd.self cE (RO.nx (RL.kz ae.X0 az (cg ab) (RO.nx (gF ab (vb (decide (ae.X0<=az))) (RO.last ?_)))))))
   obtain rfl:=oi o
   exact⟨rfl,j.sp 4 [2,3,0]⟩
  rintro _ w ⟨O,rfl,j⟩
  refine aG ?_
  obtain⟨ao,o,hb⟩:=bd hb
  refine RC.jn (fun(ao: (List Int)) U w=>∃aj:Value,SH E V [(0,v0),(3,aj),(9,v0),(10,vi af.length),(11,vi ah)] [own 46 v0 af,own 3 aj ao] U w) ao ?_ ?_
  ·refine fE o (fun hc o=>?_) fun hc o=>?_
   rotate_left
   ·refine RC.region (mv ag (RL.bA zr iV (RL.aM 2 j zr eH cE (RL.bA zr jE (RL.aM 2 j zr fD cE ?_)))))
    have j:=(j.sc Int ae.X0).sc Int ae.X1
    refine RL.fy ([ae.X0,ae.X1]: (List Int)) j [(vi ae.X0),(vi ae.X1)] eC BW (fun M hs g=>⟨(g.sat 1 _ zr).1,⟨(g.sat 0 _ zr).1,zt⟩⟩) fun a7 w j=>?_
    have j:=j.freeze 0
    obtain⟨a8,a5,o⟩:=bd o
    refine RL.app 4 0 j r7 a5 fun a0 w j=>?_
    refine aP a0 (RL.nil ?_)
    obtain rfl:=oi o
    exact⟨rfl,a0,j.sp 6 [3,4]⟩
   refine RC.ye mixed [0,0,0,0,0,0,0,0,0,0,2] [0,1,2,3,4,5,6,7,8,9,10] ?_
   have j:=j.drew
   refine DP.e0 zr (mv ag (cJ zr (mv (vi (IntKind.wrap .i64 ((aa.length:Int) - 1))) (cJ zr (mv ag (cJ zr (mv (vi (IntKind.wrap .i64 ((aa.length:Int) - 1))) (cJ zr ?_))))))))
   obtain⟨aq,ar,o⟩:=bd o
   refine RL.bK 1 j zr zr eC ar (cJ zr (RL.cV (f:=(fun x=>x)) 1 j (jl 1 j ar 0) (aV ar).2.1 Fd.self cE (cJ zr (RL.bA zr jE (cJ zr (RL.aM 2 j zr fD cE (cJ zr (RL.max aq ae.X1 ?_))))))))
   refine cJ zr ?_
   obtain⟨a9,au,o⟩:=bd o
   refine RL.bK 1 j zr zr eC au (uF zr ?_)
   have j:=j.sc Int (if aq<ae.X1 then ae.X1 else aq)
   refine RL.fJ (f:=(fun _ y=>y)) 2 0 j (jl 2 j au 0) (aV au).2.1 zr Fs.self cE fun w j=>?_
   refine DP.d2 zt (DP.z ?_)
   obtain rfl:=oi o
   exact⟨rfl,ag,j.sp 4 [1,2]⟩
  rintro _ w ⟨aj,O,rfl,j⟩
  refine bT (aG (RC.region (RL.inc hk hm (mv (vi ((ah+1:Nat):Int)) (RL.nil ?_)))))
  obtain rfl:=oi hb
  exact⟨rfl,aj,j.sp 2 [0,1]⟩
 rintro _ w ⟨ai,O,rfl,j⟩
 refine aG (RC.sr (mv ai (aP ai (RL.nt (RC.ret ?_)))))
 obtain rfl:=oi hb
 exact cB (j.pk 2 [1,0])
def rm (E:World) (V:List HP) (r:Bool) (U:Nat->Value) (w:World):Prop:=lM bC 26 Tryz.f78 (bB E V r) .ret U w
theorem qD {p0: (List Int)} {p1: (List Int)} {res:Bool} (j:Holds E w V) (h0:V[i0]? =some (rd v0 p0)) (h1:V[i1]? =some (rd v1 p1)) (o:jU N p0 p1=some res):
    Calls bC 78 [v0,v1].toArray w (gE (bB E V res)):=by
 unfold jU at o
 refine enter Tryz.func78 zr zr ?_
 have j:=(j.dup (i0+0) h0).dup (i1+1) h1
 refine RC.sr (aP (vb false) (RL.nq (RC.sr (mv v0 (RL.bF 1 p0 j ln (mv v1 (RL.bF 0 p1 j ln (ic ((p0.length:Int)) ((p1.length:Int)) ?_))))))))
 refine RL.nt (fE o (fun hc o=>?_) fun hc o=>?_)
 ·refine RC.sr (aP (vb false) (RL.nt (RC.rt ?_)))
  obtain rfl:=oi o
  exact cB ⟨rfl,j.drop 2⟩
 refine RC.ss (RC.sr (mv v0 (RL.bF 1 p0 j ln (mv (vi 0) (RL.nt ?_)))))
 obtain⟨an,hN,o⟩:=bd o
 refine RC.range (fun(aa:Nat) (ab:Unit)=>SH E V [(0,v0),(1,v1),(12,vi p0.length),(13,vi aa)] [rd v0 p0,rd v1 p1]) (fun(ab:Unit)=>SH E V [] [rd v0 p0,rd v1 p1]) (rm E V) hN ?_ ?_ ?_ ?_ ?_
 ·exact j.sp 2 [1,0]
 ·rintro hm ab _ w ⟨O,rfl,j⟩
  refine RC.sr (ic ((p0.length:Int)) ((p0.length:Int)) (RL.nq (RC.cY nb (RC.ex ?_))))
  exact⟨rfl,j.sp 2 [0,1]⟩
 ·rintro hm aa ab fl _ w hk ⟨O,rfl,j⟩ o
  refine RC.sr (ic ((aa:Int)) ((p0.length:Int)) (RL.nq (RC.cX (na hk) (RC.ss (RC.bs (mv (vi aa) (aP (vi aa) (RL.nq ?_))))))))
  refine RC.wg mixed ?_
  have j:=j.drew
  refine RO.go (mv v0 (RO.nx (mv (vi aa) (RO.nx ?_))))
  obtain⟨ag,aj,o⟩:=bd o
  refine RL.cF 0 j eC aj fun aq j=>(RO.nx (RL.bH ag 0 j cE (RO.nx (mv v1 (RO.nx (mv (vi aa) (RO.nx ?_)))))))
  obtain⟨ah,ak,o⟩:=bd o
  refine RL.cF 2 j eC ak fun ar j=>(RO.nx (RL.bH ah 0 j cE (RO.nx (ic ag ah (RO.last (aG (fE o (fun hc o=>?_) fun hc o=>?_)))))))
  rotate_left
  ·refine RC.skip (bT (aG (RC.region (RL.inc hk hm (mv (vi ((aa+1:Nat):Int)) (RL.nil ?_))))))
   obtain rfl:=oi o
   exact⟨rfl,j.sp 4 [2,3]⟩
  refine RC.sr (aP (vb false) (RL.nt (RC.rb (bZ ?_))))
  obtain rfl:=oi o
  exact⟨rfl,cB ⟨rfl,j.drop 4⟩⟩
 ·intro r U w e hK
  subst e
  refine bZ ?_
  obtain rfl:=oi o
  exact hK
 rintro ab _ w rfl ⟨O,rfl,j⟩
 rw [Fo.gm] at o
 refine aG (RC.sr (aP (vb true) (RL.nt (RC.ret ?_))))
 obtain rfl:=oi o
 exact cB ⟨rfl,j.drop 2⟩
theorem mZ {p0: (List aA)} {p1:aA} {res: (List aA)} (j:Holds E w (own 121 v0 p0::V)) (h1:V[i1]? =some (rd v1 p1)) (hb:fT N p0 p1=some res):
    Calls bC 61 [v0,v1].toArray w (gE (jY E V res)):=by
 unfold fT at hb
 refine enter Tryz.func61 zr zr ?_
 have j:=j.dup (i1+1) h1
 refine RC.sr (RL.dC 0 v1 j zr fun ae w j=>?_)
 refine aP (.slice none 0 0) (RL.nq (RC.sr (RL.bA zr jm (RL.aZ 0 j zr cN eJ fun aw j=>(RL.bF 0 p1.Xs j ln (ic ((p1.Xs.length:Int)) 0 (mv (vb ((p1.Xs.length:Int)==0)) (RL.gs true ((p1.Xs.length:Int)==0) (vp ae 1) zr zr zr (dI kr) ?_))))))))
 refine RL.gs true ((p1.Xs.length:Int)==0) (vi p1.Y1) rfl rfl rfl (bQ 1 rfl j (fun h=>by exact(cI h:cv (true&&(((p1.Xs.length:Int)==0)==false)) (vp ae 1)= (vp ae 1))) rfl dM cE) (RL.gs true ((p1.Xs.length:Int)==0) (vp ae 0) rfl rfl rfl (dI l8) (RL.gs true ((p1.Xs.length:Int)==0) (vi p1.Y0) rfl rfl rfl (bQ 1 rfl j (fun h=>by exact(cI h:cv (true&&(((p1.Xs.length:Int)==0)==false)) (vp ae 0)= (vp ae 0))) rfl eN cE) (RL.gs true ((p1.Xs.length:Int)==0) (vb (decide (p1.Y1<=p1.Y0))) rfl rfl rfl (dT .leq .i64 p1.Y1 p1.Y0 rfl (fun h=>by exact(cI h:cv (true&&(((p1.Xs.length:Int)==0)==false)) (vi p1.Y1)= (vi p1.Y1))) (fun h=>by exact(cI h:cv (true&&(((p1.Xs.length:Int)==0)==false)) (vi p1.Y0)= (vi p1.Y0))) rfl) (RL.pick ((p1.Xs.length:Int)==0) (vb (((p1.Xs.length:Int)==0)||(decide (p1.Y1<=p1.Y0)))) (oF true rfl) (RL.nt (fE hb (fun hc hb=>?_) fun hc hb=>?_))))))
 ·refine RC.sr (mv v0 (aP v0 (RL.nt (RC.rt ?_))))
  obtain rfl:=oi hb
  exact cB (j.pk 4 [3])
 refine RC.ss (RC.sr (mv v0 (RL.fQ 3 p0 j qA (RL.jq (p0.length:Int) 1 (aP (vi (IntKind.wrap .i64 ((p0.length:Int) - 1))) (RL.nq ?_))))))
 obtain⟨aj,hj,hb⟩:=bd hb
 refine RC.jn (fun(aj:Bool)=>SH E V [(0,v0),(3,vp ae 0),(5,(vi (IntKind.wrap .i64 ((p0.length:Int) - 1)))),(42,vb aj)] [own 121 v0 p0,bx 121 ae p1]) aj ?_ ?_
 ·refine RC.ye mixed [0,0,0,0,0,0,0,0,0,0,0,0,0,0,0,0,0,0,0,0,2,0] [0,1,2,3,4,5,6,7,8,9,10,11,12,13,14,15,16,17,18,19,20,21] ?_
  have j:=j.drew
  refine DP.e0 zr (mv (vi (IntKind.wrap .i64 ((p0.length:Int) - 1))) (cJ zr (ic ((IntKind.wrap .i64 ((p0.length:Int) - 1))) 0 (cJ zr (mv (vb (decide ((IntKind.wrap .i64 ((p0.length:Int) - 1))>=0))) (DP.d0 (gC hj (fun o hj=>?_) fun o hj=>?_)))))))
  rotate_left
  ·refine DP.e0 zr (bV o (cJ zr (bV o (cJ zr (bV o (cJ zr (bV o (cJ zr ?_))))))))
   refine bV o (cJ zr (bV o (cJ zr (bV o (cJ zr (bV o (cJ zr (gF o (vb false) ?_))))))))
   refine cJ zr (mv (vb false) (cJ zr (ng (cJ zr (ng (cJ zr (ng (cJ zr ?_))))))))
   refine ng (cJ zr (ng (cJ zr (ng (cJ zr (ng (uF zr (ng ?_))))))))
   refine z5 zr (RL.pick false (vb false) zr (DP.d0 (DP.z ?_)))
   obtain rfl:=oi hj
   exact⟨rfl,j.sp 4 [3,1]⟩
  refine DP.e0 zr (RL.move v0 (cg o) (cJ zr (RL.move (vi (IntKind.wrap .i64 ((p0.length:Int) - 1))) (cg o) (cJ zr ?_))))
  obtain⟨ak,af,hj⟩:=bd hj
  refine RL.bK (hg:=(cg o)) 3 j zr zr lR af (cJ zr (RL.lN (hg:=(cg o)) (α:=aA) (jl 3 j af 0) kr (cJ zr (RL.cV (hg:=(cg o)) 3 j (jl 3 j af 1) (aV af).2.1 dM cE (cJ zr (RL.bA (hg:=(cg o)) zr l8 (cJ zr (RL.aM (hg:=(cg o)) 1 j zr eN cE ?_))))))))
  refine cJ zr (RL.kz ak.Y1 p1.Y0 (cg o) (cJ zr (gF o (vb (ak.Y1==p1.Y0)) (cJ zr (mv (vb (ak.Y1==p1.Y0)) (DP.d0 (gC hj (fun aa hj=>?_) fun aa hj=>?_)))))))
  rotate_left
  ·refine DP.e0 zr (bV aa (cJ zr (bV aa (cJ zr (bV aa (cJ zr (bV aa (cJ zr ?_))))))))
   refine bV aa (cJ zr (bV aa (cJ zr (bV aa (uF zr (bV aa (z5 zr (gF aa (vb false) ?_))))))))
   refine DP.d0 (DP.z ?_)
   obtain rfl:=oi hj
   exact⟨rfl,j.sp 4 [3,1]⟩
  refine DP.e0 zr (RL.move v0 (cg aa) (cJ zr (RL.move (vi (IntKind.wrap .i64 ((p0.length:Int) - 1))) (cg aa) (cJ zr ?_))))
  obtain⟨ax,ag,hj⟩:=bd hj
  refine RL.bK (hg:=(cg aa)) 3 j zr zr lR ag (cJ zr (RL.lN (hg:=(cg aa)) (α:=aA) (jl 3 j ag 0) jm (cJ zr (RL.kp (hg:=(cg aa)) 3 j (jl 3 j ag 2) (aV ag).2.1 cN eJ fun al j=>?_))))
  refine cJ zr (RL.bA (hg:=(cg aa)) zr jm (cJ zr (RL.aZ (hg:=(cg aa)) 2 j zr cN eJ fun an j=>(uF zr ?_))))
  obtain⟨ao,aq,hj⟩:=bd hj
  refine RL.call (cg aa) zr GH [al,an] zr (aF (qD N (i0:=1) (i1:=0) j zr zr aq) ?_)
  rintro _ w ⟨rfl,j⟩
  refine z5 zr (gF aa (vb ao) (DP.d0 (DP.z ?_)))
  obtain rfl:=oi hj
  exact⟨rfl,j.sp 6 [5,3]⟩
 rintro _ w ⟨O,rfl,j⟩
 refine aG (fE hb (fun hc hb=>?_) fun hc hb=>?_)
 rotate_left
 ·refine RC.sx (mv v0 (RL.aZ (f:=(fun x=>x)) 1 j zr Fd.self r8 fun ar j=>(RL.fy ([p1]: (List aA)) j [ar] lR yj (fun M hs g=>⟨(g.sat 0 _ zr).1,zt⟩) fun ay w j=>?_)))
  have j:=j.freeze 0
  obtain⟨az,au,hb⟩:=bd hb
  refine RL.app 2 0 j GI au fun av w j=>?_
  refine aP av (RL.nt (RC.ret ?_))
  obtain rfl:=oi hb
  exact cB (j.pk 4 [2])
 refine RC.sr (mv v0 (mv (vi (IntKind.wrap .i64 ((p0.length:Int) - 1))) (RL.bA zr kr (RL.aM 1 j zr dM cE ?_))))
 obtain⟨a0,ah,hb⟩:=bd hb
 refine RL.bK 0 j zr zr lR ah (RL.lN (α:=aA) (jl 0 j ah 0) kr ?_)
 have j:=j.sc Int p1.Y1
 refine RL.fJ 1 0 j (jl 1 j ah 1) (aV ah).2.1 zr lQ cE fun w j=>?_
 refine RL.ns (mv v0 (aP v0 (RL.nt (RC.rt ?_))))
 obtain rfl:=oi hb
 exact cB (j.pk 3 [1])
theorem jH {p0: (List aI)} {res: (List aA)} (o:Holds E w V) (h0:V[i0]? =some (rd v0 p0)) (hb:eT N p0=some res):
    Calls bC 33 [v0].toArray w (gE (jY E V res)):=by
 unfold eT at hb
 refine enter Tryz.func33 zr zr ?_
 have o:=o.dup (i0+0) h0
 refine RC.sr (aP (.slice none 0 0) (RL.ns (mv v0 ?_)))
 obtain⟨cf,bn,hb⟩:=bd hb
 refine RL.call zt zr Gw [v0] zr (aF (pj N (i0:=0) o zr bn) ?_)
 rintro ae w o
 refine aP ae (RL.ns (mv ae ?_))
 obtain⟨ah,bo,hb⟩:=bd hb
 have o:=o.pull 0
 refine RL.call zt zr E3 [ae,(.func (.func 56) #[] #[])] zr (aF (zX Tryz.lay55 aI zr gW.CU gW.sz Gx (fun o hi hj hr=>sg N o hi hj hr) o bo) ?_)
 rintro _ w ⟨rfl,o⟩
 refine RL.ns (RL.o4 zr o E4 zr fun ag w o=>?_)
 refine RL.nq (RC.sr (mv ae (RL.fQ 1 ah o pg (mv (vi 0) (RL.nt ?_)))))
 obtain⟨ao,hN,hb⟩:=bd hb
 refine RC.fold (fun(aw:Nat) (ao: (List Int)) U w=>∃a6:Value,SH E V [(0,ae),(3,vp ag 0),(14,ae),(15,vi ah.length),(16,vi aw)] [own 46 ae ah,bc 43 ag [a6],own 3 a6 ao] U w) (fun(ao: (List Int)) U w=>∃an:Value,SH E V [(0,ae),(3,vp ag 0)] [own 46 ae ah,bc 43 ag [an],own 3 an ao] U w) hN ?_ ?_ ?_ ?_
 ·have o:=o.dP Int 3
  exact⟨(.slice none 0 0),o.sp 5 [2,1,0]⟩
 ·rintro hm ao _ w ⟨bp,O,rfl,o⟩
  refine RC.sr (ic ((ah.length:Int)) ((ah.length:Int)) (RL.nq (RC.cY nb (RC.ex ?_))))
  exact⟨rfl,bp,o.sp 3 [0,1,2]⟩
 ·rintro hm aw ao s' _ w hk ⟨bq,O,rfl,o⟩ hb
  refine RC.sr (ic ((aw:Int)) ((ah.length:Int)) (RL.nq (RC.cX (na hk) (RC.ss (RC.bs ?_)))))
  obtain⟨aq,a1,hb⟩:=bd hb
  refine RL.bK 0 o zr zr kN a1 (RL.kp (f:=(fun x=>x)) 0 o (jl 0 o a1 0) (aV a1).2.1 Fd.self gW fun ch o=>?_)
  refine RL.alloc o ni.z fun cj w o=>?_
  refine RL.bJ 0 o 1 zr gW fun w o=>?_
  refine RL.nt (RC.region (RL.aX 3 bq o eJ (RL.bA zr jD (RL.aM 0 o zr eW cE (RL.bA zr my (RL.aM 0 o zr iL cE ?_))))))
  have o:=(o.sc Int aq.Y0).sc Int aq.Y1
  refine RL.fy ([aq.Y0,aq.Y1]: (List Int)) o [(vi aq.Y0),(vi aq.Y1)] eC BW (fun M hs g=>⟨(g.sat 1 _ zr).1,⟨(g.sat 0 _ zr).1,zt⟩⟩) fun ck w o=>?_
  have o:=o.freeze 0
  obtain⟨cl,br,hb⟩:=bd hb
  refine RL.app 7 0 o r7 br fun a9 w o=>?_
  refine RL.gH 6 a9 o zr zr (hL 7 o) eJ fun w o=>?_
  refine RL.nil (bT (aG (RC.region (RL.inc hk hm (mv (vi ((aw+1:Nat):Int)) (RL.nil ?_))))))
  obtain rfl:=oi hb
  exact⟨rfl,a9,o.sp 8 [5,6,7]⟩
 rintro _ w ⟨an,O,rfl,o⟩
 refine aG (RC.sr (RL.aX 1 an o eJ ?_))
 obtain⟨cm,bt,hb⟩:=bd hb
 have o:=o.pull 2
 refine RL.call zt zr Gy [an] zr (aF (BN Tryz.lay57 o bt) ?_)
 rintro _ w ⟨rfl,o⟩
 refine RL.ns (RL.aX 2 an o eJ ?_)
 have o:=o.pull 0
 obtain⟨ai,bu,hb⟩:=bd hb
 refine RL.call zt zr Gz [an] zr (aF (oQ N o bu) ?_)
 rintro bw w o
 refine RL.gH 3 bw o zr zr (hL 0 o) eJ fun w o=>?_
 refine RL.ns (aP (.slice none 0 0) (RL.ns (aP (.slice none 0 0) (RL.ns (aP (vi 0) (RL.nq (RC.sr (RL.alloc o BW.z fun bz w o=>?_))))))))
 have o:=o.sc Int 0
 refine RL.bJ 1 o 0 zr cE fun w o=>?_
 refine RL.nt ?_
 have o:=((((o.freeze 2).BC (i:=5) (x:=ai) rfl (fun M hs g=>(o1 (g.sat 2 _ rfl).1))).gx (i:=5) rfl).dP aA 121).dP aI 46
 obtain⟨cn,hN,hb⟩:=bd hb
 refine RC.iter (fun(ab: (List aA)×(List aI)×Int×Int) U w=>∃(ba bb:Value) (bf:Nat),SH E V [(0,ae),(3,vp ag 0),(6,ba),(7,bb),(8,vi ab.2.2.1),(9,vp bf 0)] [own 46 ae ah,pt (vp ag 0) ai,own 121 ba ab.1,own 46 bb ab.2.1,bx 3 bf ab.2.2.2] U w) (fun(ab: (List aA)×(List aI)×Int×Int) U w=>∃av:Value,SH E V [(6,av)] [own 46 ae ah,pt (vp ag 0) ai,own 121 av ab.1] U w) (fun(r:Empty) _ _=>r.elim) hN ?_ ?_ ?_ ?_
 ·exact⟨(.slice none 0 0),(.slice none 0 0),bz,o.sp 9 [6,7,1,0,3]⟩
 ·rintro ab fl _ w ⟨ak,bg,al,O,rfl,o⟩ hb
  refine RC.seq (RC.sr (RL.aM (f:=(fun x=>x)) 4 o zr Fd.self cE (RL.jq ab.2.2.2 1 (RL.bY 1 ai o eJ fun cp o=>(RL.bF 0 ai o ln (ic ((IntKind.wrap .i64 (ab.2.2.2+1))) ((ai.length:Int)) (RL.nt (fE hb (fun hc hb=>?_) fun hc hb=>?_))))))))
  rotate_left
  ·refine RC.ex ?_
   obtain rfl:=oi hb
   exact⟨rfl,ak,o.sp 6 [1,2,3]⟩
  refine RC.ss (RC.bs (mv bg ?_))
  have o:=o.gx (i:=5) rfl
  refine RL.makeFunc [(vp ag 0),(vp al 0)] ?_
  have o:=o.pull 4
  obtain⟨cq,b1,hb⟩:=bd hb
  refine RL.call trivial rfl GD [bg,(.func (.func 60) #[] #[(vp ag 0),(vp al 0)])] rfl (aF (mO N o ⟨60,[(vp ag 0),(vp al 0)],rfl,GC,fun w Γl v y0 r i o hi hr=>by exact aF (si N (i0:=i) (i1:=Γl.length+2) (i2:=Γl.length+5) o hi (wM rfl) (wM rfl) hr) fun _ _ h=>h⟩ b1) ?_)
  rintro bh w o
  refine aP bh (RL.nq ?_)
  obtain⟨cr,hN,hb⟩:=bd hb
  refine RC.iter (fun(af: (List aI)×Int) U w=>∃bj:Value,SH E V [(0,ae),(3,vp ag 0),(6,ak),(7,bj),(8,vi af.2),(9,vp al 0)] [own 46 ae ah,pt (vp ag 0) ai,own 121 ak ab.1,pt (vp al 0) ab.2.2.2,own 46 bj af.1] U w) (fun(af: (List aI)×Int) U w=>∃ar:Value,SH E V [(0,ae),(3,vp ag 0),(6,ak),(7,ar),(8,vi af.2),(9,vp al 0)] [own 46 ae ah,pt (vp ag 0) ai,own 121 ak ab.1,pt (vp al 0) ab.2.2.2,own 46 ar af.1] U w) (fun(r:Empty) _ _=>r.elim) hN ?_ ?_ ?_ ?_
  ·exact⟨bh,o.sp 7 [2,3,4,6,0]⟩
  ·rintro af fl _ w ⟨ax,O,rfl,o⟩ hb
   refine RC.seq (RC.seq ?_)
   obtain⟨a3,hj,hb⟩:=bd hb
   refine RC.jn (fun(a3:Bool)=>SH E V [(0,ae),(3,vp ag 0),(6,ak),(7,ax),(8,vi af.2),(9,vp al 0),(57,vb a3)] [own 46 ae ah,pt (vp ag 0) ai,own 121 ak ab.1,own 46 ax af.1,pt (vp al 0) ab.2.2.2]) a3 ?_ ?_
   ·refine RC.wg mixed ?_
    have o:=o.drew
    refine RO.go (mv (vi af.2) (RO.nx (mv ae (RO.nx (RL.fQ 0 ah o pg (RO.nx (ic af.2 ((ah.length:Int)) (RO.nx ?_))))))))
    refine mv (vb (decide (af.2< (ah.length:Int)))) (gC hj (fun ad hj=>?_) fun ad hj=>?_)
    rotate_left
    ·refine RO.nx (bV ad (RO.nx (bV ad (RO.nx (bV ad (RO.nx (bV ad (RO.nx ?_))))))))
     refine bV ad (RO.nx (bV ad (RO.nx (bV ad (RO.nx (bV ad (RO.nx (bV ad ?_))))))))
     refine RO.nx (bV ad (RO.nx (gF ad (vb false) (RO.last ?_))))
     obtain rfl:=oi hj
     exact⟨rfl,o.sp 5 [0,1,2,4,3]⟩
    refine RO.nx (RL.move ae (cg ad) (RO.nx (RL.move (vi af.2) (cg ad) (RO.nx ?_))))
    obtain⟨bk,ay,hj⟩:=bd hj
    refine RL.bK (hg:=(cg ad)) 0 o zr zr kN ay (RO.nx (RL.lN (hg:=(cg ad)) (α:=aI) (jl 0 o ay 0) jD (RO.nx (RL.cV (hg:=(cg ad)) 0 o (jl 0 o ay 1) (aV ay).2.1 eW cE (RO.nx (RL.bY (hg:=(cg ad)) 1 ai o eJ fun ct o=>?_))))))
    refine RO.nx (RL.bH (hg:=(cg ad)) ab.2.2.2 4 o cE (RO.nx ?_))
    obtain⟨a4,b2,hj⟩:=bd hj
    refine RL.cF (hg:=(cg ad)) 0 o eC b2 fun cu o=>(RO.nx (RL.bH (hg:=(cg ad)) a4 0 o cE (RO.nx (RL.kz bk.Y0 a4 (cg ad) (RO.nx (gF ad (vb (decide (bk.Y0<=a4))) (RO.last ?_)))))))
    obtain rfl:=oi hj
    exact⟨rfl,o.sp 7 [2,3,4,6,5]⟩
   rintro _ w ⟨O,rfl,o⟩
   refine aG (fE hb (fun hc hb=>?_) fun hc hb=>?_)
   rotate_left
   ·refine RC.ex ?_
    obtain rfl:=oi hb
    exact⟨rfl,ax,o.sp 5 [0,1,2,4,3]⟩
   refine RC.sn (RC.block (RC.region (mv ax (mv ae (mv (vi af.2) ?_)))))
   obtain⟨b3,a5,hb⟩:=bd hb
   refine RL.bK 0 o zr zr kN a5 (RL.kp (f:=(fun x=>x)) 0 o (jl 0 o a5 0) (aV a5).2.1 Fd.self gW fun b4 o=>?_)
   refine RL.fy ([b3]: (List aI)) o [b4] kN ni (fun M hs g=>⟨(g.sat 0 _ zr).1,zt⟩) fun cv w o=>?_
   have o:=o.freeze 0
   obtain⟨cw,b5,hb⟩:=bd hb
   refine RL.app 5 0 o AM b5 fun bl w o=>?_
   refine mv (vi af.2) (RL.jq af.2 1 (aP bl (aP (vi (IntKind.wrap .i64 (af.2+1))) (RL.nil (bT ?_)))))
   obtain rfl:=oi hb
   exact⟨rfl,bl,o.sp 7 [2,3,4,6,5]⟩
  ·intro r _ _ _ _
   exact r.elim
  rintro af _ w rfl ⟨ar,O,rfl,o⟩
  rw [Fo.gm] at hb
  refine aG (RC.ye mixed [1,1,1,1,1,1,1,1,1,1,0,2,0,2,0] [0,1,2,3,4,5,6,7,8,9,10,11,12,13,14] ?_)
  have o:=o.drew
  refine DP.e1 ak zr (fun w=>RL.move ak zt DP.d1) (DP.vI ai 1 zr zt o eJ fun cx a305 cy o=>(DP.z6 ab.2.2.2 5 zr zr zr o zr zr cE fun a307 cz o=>?_))
  obtain⟨az,b6,hb⟩:=bd hb
  refine DP.Ei 2 zr zr zt zr o zr zr zr eC b6 fun c0 o=>(DP.z6 az 0 zr zr zr o zr zr cE fun a311 c1 o=>(DP.vI ai 6 zr zt o eJ fun c2 a314 c3 o=>(DP.z6 ab.2.2.2 10 zr zr zr o zr zr cE fun a316 c4 o=>(DP.e1 (vi (IntKind.wrap .i64 (ab.2.2.2+1))) zr (fun w=>RL.jq ab.2.2.2 1 DP.d1) ?_))))
  obtain⟨a0,b7,hb⟩:=bd hb
  refine DP.Ei 2 zr zr zt zr o zr zr zr eC b7 fun c5 o=>(DP.z6 a0 0 zr zr zr o zr zr cE fun a320 c6 o=>(DP.e0 zr (mv ar (uF zr ?_))))
  have o:=o.pull 14
  obtain⟨b8,b9,hb⟩:=bd hb
  refine RL.call zt zr GG [ar] zr (aF (rl N o b9) ?_)
  rintro ca w o
  refine DP.d2 (⟨⟨⟨⟨⟨⟨zt,o.kM 10⟩,o.kM 9⟩,o.kM 7⟩,o.kM 5⟩,o.kM 4⟩,o.kM 2⟩) (DP.e0 zr ?_)
  have o:=((o.sc Int az).sc Int a0).freeze 2
  refine RL.build (⟨az,a0,b8.1⟩:aA) trivial rfl o [(0,vi az),(1,vi a0),(2,ca)] rfl DK rfl (fun M hs g=>by have h:=rZ M;exact dA.cons (f:=fun(x:aA) y=>{x with Y0:=y}) h oH (g.sat 1 _ rfl).1 fun _ h=>dA.cons (f:=fun(x:aA) y=>{x with Y1:=y}) h lQ (g.sat 0 _ rfl).1 fun _ h=>dA.cons (f:=fun(x:aA) y=>{x with Xs:=y}) h oI (g.sat 2 _ rfl).1 fun _ h=>dA.nil h) fun cb o=>?_
  refine uF zr ?_
  have o:=o.pull 17
  obtain⟨c7,cc,hb⟩:=bd hb
  refine RL.call zt zr E6 [ak,cb] zr (aF (mZ N (i1:=0) o zr cc) ?_)
  rintro bm w o
  refine DP.d2 (⟨⟨⟨⟨⟨⟨zt,o.kM 14⟩,o.kM 13⟩,o.kM 11⟩,o.kM 9⟩,o.kM 8⟩,o.kM 6⟩) (DP.e0 zr (aP bm (DP.d0 ?_)))
  have o:=o.pl 21 [0,1,2,3,4,5,7,10,12,15,16,17,18,19,20]
  refine DP.z (bT (aG (RC.seq (RC.sr (RL.bH ab.2.2.2 13 o cE (RL.nt (RC.region (RL.alloc o BW.z fun cd w o=>?_))))))))
  have o:=o.sc Int ab.2.2.2
  refine RL.bJ 1 o 0 zr cE fun w o=>?_
  refine RL.nt (RC.region (RL.aM (f:=(fun x=>x)) 1 o zr Fd.self cE (RL.jq ab.2.2.2 1 ?_)))
  have o:=o.sc Int (IntKind.wrap .i64 (ab.2.2.2+1))
  refine RL.Bv (i:=2) (j:=0) zt o zr zr zr zr cE fun w o=>?_
  refine RL.nil ?_
  obtain rfl:=oi hb
  exact⟨rfl,bm,ar,cd,o.sp 18 [13,14,3,8,2]⟩
 ·intro r _ _ _ _
  exact r.elim
 rintro ab _ w rfl ⟨av,O,rfl,o⟩
 rw [Fo.gm] at hb
 refine aG (RC.sr (mv av (aP av (RL.nt (RC.ret ?_)))))
 obtain rfl:=oi hb
 exact cB (o.pk 3 [2])
theorem kB {p0: (List aA)} {res: (List aI)} (j:Holds E w V) (h0:V[i0]? =some (rd v0 p0)) (o:gk N p0=some res):
    Calls bC 34 [v0].toArray w (gE (j8 E V res)):=by
 unfold gk at o
 refine enter Tryz.func34 zr zr ?_
 have j:=j.dup (i0+0) h0
 refine RC.sr (aP (.slice none 0 0) (RL.ns (aP (.slice none 0 0) (RL.nq (RC.sr (mv v0 (RL.bF 0 p0 j qA (mv (vi 0) ?_))))))))
 refine RL.nt ?_
 obtain⟨ad,hN,o⟩:=bd o
 refine RC.fold (fun(ae:Nat) (ad: (List aI)) U w=>∃an:Value,SH E V [(3,an),(7,v0),(8,vi p0.length),(9,vi ae)] [rd v0 p0,own 46 an ad] U w) (fun(ad: (List aI)) U w=>∃af:Value,SH E V [(3,af)] [rd v0 p0,own 46 af ad] U w) hN ?_ ?_ ?_ ?_
 ·have j:=j.dP aI 46
  exact⟨(.slice none 0 0),j.sp 2 [1,0]⟩
 ·rintro hm ad _ w ⟨av,O,rfl,j⟩
  refine RC.sr (ic ((p0.length:Int)) ((p0.length:Int)) (RL.nq (RC.cY nb (RC.ex ?_))))
  exact⟨rfl,av,j.sp 2 [0,1]⟩
 ·rintro hm ae ad s' _ w hk ⟨aw,O,rfl,j⟩ o
  refine RC.sr (ic ((ae:Int)) ((p0.length:Int)) (RL.nq (RC.cX (na hk) (RC.ss (RC.bs ?_)))))
  obtain⟨ab,ax,o⟩:=bd o
  refine RL.cF 0 j lR ax fun a3 j=>(RL.bY 0 ab j r8 fun a4 j=>(RL.alloc j yj.z fun ak w j=>?_))
  refine RL.bJ 0 j 1 zr r8 fun w j=>?_
  refine RL.ns (aP (vi 0) (RL.nt ?_))
  obtain⟨a5,hN,o⟩:=bd o
  refine RC.iter (fun(aa: (List aI)×Int) U w=>∃ar:Value,SH E V [(3,ar),(5,vp ak 0),(6,vi aa.2),(7,v0),(8,vi p0.length),(9,vi ae)] [bx 121 ak ab,rd v0 p0,own 46 ar aa.1] U w) (fun(aa: (List aI)×Int) U w=>∃ai:Value,SH E V [(3,ai),(7,v0),(8,vi p0.length),(9,vi ae)] [bx 121 ak ab,rd v0 p0,own 46 ai aa.1] U w) (fun(r:Empty) _ _=>r.elim) hN ?_ ?_ ?_ ?_
  ·exact⟨aw,j.sp 5 [0,3,4]⟩
  ·rintro aa fl _ w ⟨al,O,rfl,j⟩ o
   refine RC.seq (RC.sr (mv (vi aa.2) (RL.bA zr jm (RL.aZ 0 j zr cN eJ fun a7 j=>(RL.bF 0 ab.Xs j ln (ic aa.2 ((ab.Xs.length:Int)) (RL.nt (fE o (fun hc o=>?_) fun hc o=>?_))))))))
   rotate_left
   ·refine RC.ex ?_
    obtain rfl:=oi o
    exact⟨rfl,al,j.sp 4 [1,2,3]⟩
   refine RC.ss (RC.block (RC.ye mixed [1,0,0,0,0,0,0,0,0,0,0,0,0,0,0,0,0,2,2,0] [0,1,2,3,4,5,6,7,8,9,10,11,12,13,14,15,16,17,18,19] ?_))
   have j:=j.drew
   refine DP.e1 al zr (fun w=>RL.move al zt DP.d1) (DP.e0 zr (RL.bA zr jm (cJ zr (RL.aZ 1 j zr cN eJ fun a8 j=>(cJ zr (mv (vi aa.2) (cJ zr ?_)))))))
   obtain⟨ag,az,o⟩:=bd o
   refine RL.cF 0 j eC az fun a9 j=>(cJ zr (RL.bH ag 0 j cE (cJ zr (RL.bA zr l8 (cJ zr (RL.aM 3 j zr eN cE (cJ zr (RL.bA zr jm ?_))))))))
   refine cJ zr (RL.aZ 3 j zr cN eJ fun ba j=>(cJ zr (mv (vi aa.2) (cJ zr (RL.jq aa.2 1 (cJ zr ?_))))))
   obtain⟨ah,a0,o⟩:=bd o
   refine RL.cF 0 j eC a0 fun bb j=>(cJ zr (RL.bH ah 0 j cE (cJ zr (RL.bA zr kr (cJ zr (RL.aM 5 j zr dM cE (cJ zr ?_)))))))
   have j:=(((j.sc Int ag).sc Int ab.Y0).sc Int ah).sc Int ab.Y1
   refine RL.build (⟨ag,ab.Y0,ah,ab.Y1⟩:aI) trivial rfl j [(0,vi ag),(1,vi ab.Y0),(2,vi ah),(3,vi ab.Y1)] rfl AO rfl (fun M hs g=>by have h:=q9 M;exact dA.cons (f:=fun(x:aI) y=>{x with X0:=y}) h qc (g.sat 3 _ rfl).1 fun _ h=>dA.cons (f:=fun(x:aI) y=>{x with Y0:=y}) h th (g.sat 2 _ rfl).1 fun _ h=>dA.cons (f:=fun(x:aI) y=>{x with X1:=y}) h nC (g.sat 1 _ rfl).1 fun _ h=>dA.cons (f:=fun(x:aI) y=>{x with Y1:=y}) h qd (g.sat 0 _ rfl).1 fun _ h=>dA.nil h) fun a1 j=>?_
   refine uF zr (RL.fy ([(⟨ag,ab.Y0,ah,ab.Y1⟩:aI)]: (List aI)) j [a1] kN ni (fun M hs g=>⟨(g.sat 0 _ zr).1,zt⟩) fun bc w j=>(Eg zr ?_))
   have j:=j.freeze 0
   obtain⟨bf,a2,o⟩:=bd o
   refine RL.app 13 0 j AM a2 fun au w j=>?_
   refine z5 zr (aP au (DP.d0 (DP.z (bT (aG (RC.region (mv (vi aa.2) (RL.jq aa.2 2 ?_))))))))
   refine aP (vi (IntKind.wrap .i64 (aa.2+2))) (RL.nil ?_)
   obtain rfl:=oi o
   exact⟨rfl,au,j.sp 14 [11,12,13]⟩
  ·intro r _ _ _ _
   exact r.elim
  rintro aa _ w rfl ⟨ai,O,rfl,j⟩
  rw [Fo.gm] at o
  refine bT (aG (RC.region (RL.inc hk hm (mv (vi ((ae+1:Nat):Int)) (RL.nil ?_)))))
  obtain rfl:=oi o
  exact⟨rfl,ai,j.sp 3 [1,2]⟩
 rintro _ w ⟨af,O,rfl,j⟩
 refine aG (RC.sr (mv af (aP af (RL.nt (RC.ret ?_)))))
 obtain rfl:=oi o
 exact cB (j.pk 2 [1])
def qE (E:World) (V:List HP) (r:Bool) (U:Nat->Value) (w:World):Prop:=lM bC 26 Tryz.f32 (bB E V r) .ret U w
theorem pq {p0: (List aI)} {p1: (List aI)} {res:Bool} (j:Holds E w V) (h0:V[i0]? =some (rd v0 p0)) (h1:V[i1]? =some (rd v1 p1)) (o:hQ N p0 p1=some res):
    Calls bC 32 [v0,v1].toArray w (gE (bB E V res)):=by
 unfold hQ at o
 refine enter Tryz.func32 zr zr ?_
 have j:=(j.dup (i0+0) h0).dup (i1+1) h1
 refine RC.sr (aP (vb false) (RL.nq (RC.sr (mv v0 (RL.bF 1 p0 j pg (mv v1 (RL.bF 0 p1 j pg (ic ((p0.length:Int)) ((p1.length:Int)) ?_))))))))
 refine RL.nt (fE o (fun hc o=>?_) fun hc o=>?_)
 ·refine RC.sr (aP (vb false) (RL.nt (RC.rt ?_)))
  obtain rfl:=oi o
  exact cB ⟨rfl,j.drop 2⟩
 refine RC.ss (RC.sr (mv v0 (RL.bF 1 p0 j pg (mv (vi 0) (RL.nt ?_)))))
 obtain⟨an,hN,o⟩:=bd o
 refine RC.range (fun(aa:Nat) (ab:Unit)=>SH E V [(0,v0),(1,v1),(12,vi p0.length),(13,vi aa)] [rd v0 p0,rd v1 p1]) (fun(ab:Unit)=>SH E V [] [rd v0 p0,rd v1 p1]) (qE E V) hN ?_ ?_ ?_ ?_ ?_
 ·exact j.sp 2 [1,0]
 ·rintro hm ab _ w ⟨O,rfl,j⟩
  refine RC.sr (ic ((p0.length:Int)) ((p0.length:Int)) (RL.nq (RC.cY nb (RC.ex ?_))))
  exact⟨rfl,j.sp 2 [0,1]⟩
 ·rintro hm aa ab fl _ w hk ⟨O,rfl,j⟩ o
  refine RC.sr (ic ((aa:Int)) ((p0.length:Int)) (RL.nq (RC.cX (na hk) (RC.ss (RC.bs (mv (vi aa) (aP (vi aa) (RL.nq ?_))))))))
  refine RC.wg mixed ?_
  have j:=j.drew
  refine RO.go (mv v0 (RO.nx (mv (vi aa) (RO.nx ?_))))
  obtain⟨ag,aj,o⟩:=bd o
  refine RL.cF 0 j kN aj fun aq j=>(RO.nx (RL.bY 0 ag j gW fun ar j=>(RO.nx (mv v1 (RO.nx (mv (vi aa) (RO.nx ?_)))))))
  obtain⟨ah,ak,o⟩:=bd o
  refine RL.cF 3 j kN ak fun au j=>(RO.nx (RL.bY 0 ah j gW fun av j=>(RO.nx (RL.HM 2 0 ag ah zt zr j zr zr zr zr E7 zr (RO.last (aG (fE o (fun hc o=>?_) fun hc o=>?_)))))))
  rotate_left
  ·refine RC.skip (bT (aG (RC.region (RL.inc hk hm (mv (vi ((aa+1:Nat):Int)) (RL.nil ?_))))))
   obtain rfl:=oi o
   exact⟨rfl,j.sp 6 [4,5]⟩
  refine RC.sr (aP (vb false) (RL.nt (RC.rb (bZ ?_))))
  obtain rfl:=oi o
  exact⟨rfl,cB ⟨rfl,j.drop 6⟩⟩
 ·intro r U w e hK
  subst e
  refine bZ ?_
  obtain rfl:=oi o
  exact hK
 rintro ab _ w rfl ⟨O,rfl,j⟩
 rw [Fo.gm] at o
 refine aG (RC.sr (aP (vb true) (RL.nt (RC.ret ?_))))
 obtain rfl:=oi o
 exact cB ⟨rfl,j.drop 2⟩
def qF (E:World) (V:List HP) (r:Int) (U:Nat->Value) (w:World):Prop:=lM bC 52 Tryz.f11 (aO E V r) .ret U w
theorem lG {p0: (List aI)} (j:Holds E w V) (h0:V[i0]? =some (rd v0 p0)) (hb:fY N p0=some res):
    Calls bC 11 [v0].toArray w (gE (aO E V res)):=by
 unfold fY at hb
 refine enter Tryz.func11 zr zr ?_
 have j:=j.dup (i0+0) h0
 refine RC.sr (aP (vi 0) (RL.nq (RC.sr (mv v0 ?_))))
 obtain⟨au,ax,hb⟩:=bd hb
 refine RL.call zt zr Gv [v0] zr (aF (qC N (i0:=0) j zr ax) ?_)
 rintro _ w ⟨rfl,j⟩
 refine aP (vi au) (RL.ns (mv (vi au) (ic au 0 (RL.nt (fE hb (fun hc hb=>?_) fun hc hb=>?_)))))
 ·refine RC.sr (mv (vi au) (aP (vi au) (RL.nt (RC.rt ?_))))
  obtain rfl:=oi hb
  exact cB ⟨rfl,j.drop 1⟩
 refine RC.ss (RC.sr (aP (vi 1) (RL.nt ?_)))
 obtain⟨bf,hN,hb⟩:=bd hb
 refine RC.iter (fun(an:Int)=>SH E V [(0,v0),(4,vi an)] [rd v0 p0]) (fun(an:Int)=>SH E V [(0,v0)] [rd v0 p0]) (qF E V) hN ?_ ?_ ?_ ?_
 ·exact j.sp 1 [0]
 ·rintro an fl _ w ⟨O,rfl,j⟩ hb
  refine RC.seq (RC.sr (mv (vi an) (mv v0 (RL.bF 0 p0 j pg (ic an ((p0.length:Int)) (RL.nt (fE hb (fun hc hb=>?_) fun hc hb=>?_)))))))
  rotate_left
  ·refine RC.ex ?_
   obtain rfl:=oi hb
   exact⟨rfl,j.sp 1 [0]⟩
  refine RC.ss (RC.block (RC.seq ?_))
  obtain⟨o,a0,hb⟩:=bd hb
  obtain⟨aa,a1,hb⟩:=bd hb
  refine RC.BO E V mixed [1,1,1,0,0,1,1,0,0,0,0,0,0] [3,4,7,8,9,10,11,12] (fun(x:Value×Value×Value×Value×Nat×Nat)=>(fun ag ah ai aj ad ae=>[(0,18,v0),(1,19,(vi an)),(2,20,(vi (IntKind.wrap .i64 (an - 1)))),(3,21,ag),(4,22,ah),(5,23,v0),(6,24,(vi an)),(7,25,ai),(8,26,aj),(9,5,(vp ad 0)),(10,6,(vp ae 0))]) x.1 x.2.1 x.2.2.1 x.2.2.2.1 x.2.2.2.2.1 x.2.2.2.2.2) [(0,v0),(4,vi an)] [] (fun(D:Nat->Bool) (x:Value×Value×Value×Value×Nat×Nat)=>(fun ag ah ai aj ad ae=>[bif D 0 then (pt ag o) else aT,bif D 1 then (rd ah o) else aT,bif D 2 then (pt ai aa) else aT,bif D 3 then (rd aj aa) else aT,bif D 6 then (bx 46 ad o) else (bif D 4 then (raw 46 ad 4) else aT),bif D 7 then (bx 46 ae aa) else (bif D 5 then (raw 46 ae 4) else aT),rd v0 p0]) x.1 x.2.1 x.2.2.1 x.2.2.2.1 x.2.2.2.2.1 x.2.2.2.2.2) (fun x=>by kernel_rfl) ?_ ⟨fun _=>i7 gn,fun _=>i7 gn,fun _=>Da gn rfl,?_,?_,fun _=>i7 gn,fun _=>i7 gn,?_,?_,?_,?_,?_,?_,trivial⟩ ?_
  ·have j:=((((((j.drew).aT).aT).aT).aT).aT).aT
   exact⟨(undef,undef,undef,undef,0,0),dU.none,(AF zr),zt,j⟩
  ·rintro D U w hD af ao ⟨⟨ag,ah,ai,aj,ad,ae⟩,hv,ha,_,j⟩
   obtain⟨O,rfl⟩:=(ac (hv.at 0 rfl (af.1 rfl)) (ac (hv.at 2 rfl (af.2.1 rfl)) az)).eO
   have j:=j.bN 0 hD
   refine RL.cF 6 j kN a0 fun a2 j=>?_
   have j:=(j.pl 8 [0,2,3,4,5,6,7]).cD 0 true aT
   exact RL.nil ⟨rfl,(a2,ah,ai,aj,ad,ae),hv.pu 3,ha.u,zt,j⟩
  ·rintro D U w hD af ao ⟨⟨ag,ah,ai,aj,ad,ae⟩,hv,ha,_,j⟩
   obtain⟨O,rfl⟩:=(ac (hv.at 3 rfl (af.1 rfl)) az).eO
   have j:=(j.cC 0 (af.1 rfl)).bN 1 hD
   refine RL.bY 0 o j gW fun a3 j=>?_
   have j:=((j.pl 8 [1,0,3,4,5,6,7]).cD (hb:=af.1 rfl) 0 (D 3) aT).cD 1 true aT
   exact RL.nil ⟨rfl,(ag,a3,ai,aj,ad,ae),hv.pu 4,ha.u,zt,j⟩
  ·rintro D U w hD af ao ⟨⟨ag,ah,ai,aj,ad,ae⟩,hv,ha,_,j⟩
   obtain⟨O,rfl⟩:=(ac (hv.at 5 rfl (af.1 rfl)) (ac (hv.at 6 rfl (af.2.1 rfl)) az)).eO
   have j:=j.bN 2 hD
   refine RL.cF 6 j kN a1 fun a4 j=>?_
   have j:=(j.pl 8 [1,2,0,4,5,6,7]).cD 2 true aT
   exact RL.nil ⟨rfl,(ag,ah,a4,aj,ad,ae),hv.pu 7,ha.u,zt,j⟩
  ·rintro D U w hD af ao ⟨⟨ag,ah,ai,aj,ad,ae⟩,hv,ha,_,j⟩
   obtain⟨O,rfl⟩:=(ac (hv.at 7 rfl (af.1 rfl)) az).eO
   have j:=(j.cC 2 (af.1 rfl)).bN 3 hD
   refine RL.bY 2 aa j gW fun a5 j=>?_
   have j:=((j.pl 8 [1,2,3,0,5,6,7]).cD (hb:=af.1 rfl) 2 (D 7) aT).cD 3 true aT
   exact RL.nil ⟨rfl,(ag,ah,ai,a5,ad,ae),hv.pu 8,ha.u,zt,j⟩
  ·rintro D U w hD af ao ⟨⟨ag,ah,ai,aj,ad,ae⟩,hv,ha,_,j⟩
   obtain⟨O,rfl⟩:=(az (U:=U)).eO
   have j:=(j.bN 4 (nh ao hD 11)).bN 4 hD
   refine RL.alloc j ni.z fun av w j=>?_
   have j:=((j.pl 8 [1,2,3,4,0,6,7]).cD 4 true aT).eF 4 (D 11) (nh ao hD 11) (bx 46 av o)
   exact RL.nil ⟨rfl,(ag,ah,ai,aj,av,ae),hv.pu 9,ha.u,zt,j⟩
  ·rintro D U w hD af ao ⟨⟨ag,ah,ai,aj,ad,ae⟩,hv,ha,_,j⟩
   obtain⟨O,rfl⟩:=(az (U:=U)).eO
   have j:=(j.bN 5 (nh ao hD 12)).bN 5 hD
   refine RL.alloc j ni.z fun aw w j=>?_
   have j:=((j.pl 8 [1,2,3,4,5,0,7]).cD 5 true aT).eF 5 (D 12) (nh ao hD 12) (bx 46 aw aa)
   exact RL.nil ⟨rfl,(ag,ah,ai,aj,ad,aw),hv.pu 10,ha.u,zt,j⟩
  ·rintro D U w hD af ao ⟨⟨ag,ah,ai,aj,ad,ae⟩,hv,ha,_,j⟩
   obtain⟨O,rfl⟩:=(ac (hv.at 4 rfl (af.2.1 rfl)) (ac (hv.at 9 rfl (af.1 rfl)) az)).eO
   have j:=((j.cC 1 (af.2.1 rfl)).bN 4 hD).cC 4 (af.1 rfl)
   refine RL.bJ 4 j 1 zr gW fun w j=>?_
   have j:=(j.cD (hb:=af.2.1 rfl) 1 (D 4) aT).cD 4 true (bif D 9 then (raw 46 ad 4) else aT)
   exact RL.nil ⟨rfl,(ag,ah,ai,aj,ad,ae),hv.n1,ha,zt,j⟩
  ·rintro D U w hD af ao ⟨⟨ag,ah,ai,aj,ad,ae⟩,hv,ha,_,j⟩
   obtain⟨O,rfl⟩:=(ac (hv.at 8 rfl (af.2.1 rfl)) (ac (hv.at 10 rfl (af.1 rfl)) az)).eO
   have j:=((j.cC 3 (af.2.1 rfl)).bN 5 hD).cC 5 (af.1 rfl)
   refine RL.bJ 5 j 3 zr gW fun w j=>?_
   have j:=(j.cD (hb:=af.2.1 rfl) 3 (D 8) aT).cD 5 true (bif D 10 then (raw 46 ae 4) else aT)
   exact RL.nil ⟨rfl,(ag,ah,ai,aj,ad,ae),hv.n1,ha,zt,j⟩
  rintro D U w aq ⟨⟨ag,ah,ai,aj,ad,ae⟩,hv,ha,_,j⟩
  have j:=(((((j.cC 0 (jO aq 3)).cC 1 (jO aq 4)).cC 2 (jO aq 7)).cC 3 (jO aq 8)).cC 4 (jO aq 11)).cC 5 (jO aq 12)
  obtain⟨O,rfl⟩:=(ac (hv.at 9 rfl (jO aq 9)) (ac (hv.at 10 rfl (jO aq 10)) (ac (ha.at 0 rfl) (ac (ha.at 1 rfl) az)))).eO
  refine aG (RC.sr (RL.bA zr jD (RL.aM 5 j zr eW cE (RL.bA zr jD (RL.aM 4 j zr eW cE (ic aa.Y0 o.Y0 (mv (vb (decide (aa.Y0<o.Y0))) (RL.gs true (decide (aa.Y0<o.Y0)) (vp ae 1) zr zr zr (dI jD) ?_))))))))
  refine RL.gs true (decide (aa.Y0<o.Y0)) (vi aa.Y0) rfl rfl rfl (bQ 5 rfl j (fun h=>by exact(cI h:cv (true&&((decide (aa.Y0<o.Y0))==false)) (vp ae 1)= (vp ae 1))) rfl eW cE) (RL.gs true (decide (aa.Y0<o.Y0)) (vp ad 1) rfl rfl rfl (dI jD) (RL.gs true (decide (aa.Y0<o.Y0)) (vi o.Y0) rfl rfl rfl (bQ 4 rfl j (fun h=>by exact(cI h:cv (true&&((decide (aa.Y0<o.Y0))==false)) (vp ad 1)= (vp ad 1))) rfl eW cE) (RL.gs true (decide (aa.Y0<o.Y0)) (vb (aa.Y0==o.Y0)) rfl rfl rfl (dT .eql .i64 aa.Y0 o.Y0 rfl (fun h=>by exact(cI h:cv (true&&((decide (aa.Y0<o.Y0))==false)) (vi aa.Y0)= (vi aa.Y0))) (fun h=>by exact(cI h:cv (true&&((decide (aa.Y0<o.Y0))==false)) (vi o.Y0)= (vi o.Y0))) rfl) (RL.gs true (decide (aa.Y0<o.Y0)) (vb (aa.Y0==o.Y0)) rfl rfl rfl (dD (hx:=fun h=>by exact(cI h:cv (true&&((decide (aa.Y0<o.Y0))==false)) (vb (aa.Y0==o.Y0))= (vb (aa.Y0==o.Y0))))) (RL.gs (true&&((decide (aa.Y0<o.Y0))==false)) (aa.Y0==o.Y0) (vp ae 0) rfl rfl rfl (dI iV) (RL.gs (true&&((decide (aa.Y0<o.Y0))==false)) (aa.Y0==o.Y0) (vi aa.X0) rfl rfl rfl (bQ 5 rfl j (fun h=>by exact(cI h:cv ((true&&((decide (aa.Y0<o.Y0))==false))&&((aa.Y0==o.Y0)==true)) (vp ae 0)= (vp ae 0))) rfl eH cE) (RL.gs (true&&((decide (aa.Y0<o.Y0))==false)) (aa.Y0==o.Y0) (vp ad 0) rfl rfl rfl (dI iV) (RL.gs (true&&((decide (aa.Y0<o.Y0))==false)) (aa.Y0==o.Y0) (vi o.X0) rfl rfl rfl (bQ 4 rfl j (fun h=>by exact(cI h:cv ((true&&((decide (aa.Y0<o.Y0))==false))&&((aa.Y0==o.Y0)==true)) (vp ad 0)= (vp ad 0))) rfl eH cE) ?_))))))))
  refine RL.gs (true&&((decide (aa.Y0<o.Y0))==false)) (aa.Y0==o.Y0) (vb (decide (aa.X0<=o.X0))) rfl rfl rfl (dT .leq .i64 aa.X0 o.X0 rfl (fun h=>by exact(cI h:cv ((true&&((decide (aa.Y0<o.Y0))==false))&&((aa.Y0==o.Y0)==true)) (vi aa.X0)= (vi aa.X0))) (fun h=>by exact(cI h:cv ((true&&((decide (aa.Y0<o.Y0))==false))&&((aa.Y0==o.Y0)==true)) (vi o.X0)= (vi o.X0))) rfl) (RL.gs true (decide (aa.Y0<o.Y0)) (vb ((aa.Y0==o.Y0)&&(decide (aa.X0<=o.X0)))) rfl rfl rfl (n0 (aa.Y0==o.Y0) rfl (fun h=>by exact(cI h:cv (true&&((decide (aa.Y0<o.Y0))==false)) (vb (aa.Y0==o.Y0))= (vb (aa.Y0==o.Y0)))) (fun h=>by exact gG (h:=h) (true&&((decide (aa.Y0<o.Y0))==false)))) (RL.pick (decide (aa.Y0<o.Y0)) (vb ((decide (aa.Y0<o.Y0))||((aa.Y0==o.Y0)&&(decide (aa.X0<=o.X0))))) (oF true rfl) (RL.nt (fE hb (fun hc hb=>?_) fun hc hb=>?_))))
  ·refine RC.sr (aP (vi 8) (RL.nt (RC.rb (bZ ?_))))
   obtain rfl:=oi hb
   exact⟨rfl,cB ⟨rfl,j.drop 7⟩⟩
  refine RC.skip (bT (aG (RC.region (mv (vi an) (RL.jq an 1 (aP (vi (IntKind.wrap .i64 (an+1))) (RL.nil ?_)))))))
  obtain rfl:=oi hb
  exact⟨rfl,j.sp 7 [6]⟩
 ·intro r U w e hK
  subst e
  refine bZ ?_
  obtain rfl:=oi hb
  exact hK
 rintro an _ w rfl ⟨O,rfl,j⟩
 rw [Fo.gm] at hb
 refine aG (RC.seq (RC.sr (mv v0 ?_)))
 obtain⟨bh,a7,hb⟩:=bd hb
 refine RL.call zt zr BX [v0] zr (aF (jH N (i0:=0) j zr a7) ?_)
 rintro a8 w j
 have j:=j.freeze 0
 obtain⟨bj,a9,hb⟩:=bd hb
 refine RL.call zt zr Ek [a8] zr (aF (kB N (i0:=0) j zr a9) ?_)
 rintro ba w j
 refine mv v0 ?_
 have j:=j.freeze 0
 obtain⟨bb,bc,hb⟩:=bd hb
 refine RL.call zt zr GJ [ba,v0] zr (aF (pq N (i0:=0) (i1:=2) j zr zr bc) ?_)
 rintro _ w ⟨rfl,j⟩
 refine RL.not bb (RL.nt (fE hb (fun hc hb=>?_) fun hc hb=>?_))
 ·refine RC.sr (aP (vi 3) (RL.nt (RC.rt ?_)))
  obtain rfl:=oi hb
  exact cB ⟨rfl,j.drop 3⟩
 refine RC.sx (aP (vi 0) (RL.nt (RC.ret ?_)))
 obtain rfl:=oi hb
 exact cB ⟨rfl,j.drop 3⟩
theorem j3 {res:Bool} (o:Holds E w V) (j:fu N p0 p1 p2=some res):
    Calls bC 36 [(vi p0),(vi p1),(vi p2)].toArray w (gE (bB E V res)):=by
 unfold fu at j
 refine enter Tryz.func36 zr zr (RC.sr (aP (vb false) (RL.ns (mv (vi p0) (mv (vi p1) (ic p0 p1 (mv (vb (decide (p0>=p1))) (RL.gs true (decide (p0>=p1)) (vi p0) zr zr zr dD ?_))))))))
 refine RL.gs true (decide (p0>=p1)) (vi p2) rfl rfl rfl dD (RL.gs true (decide (p0>=p1)) (vb (decide (p0<=p2))) rfl rfl rfl (dT .leq .i64 p0 p2 rfl (fun h=>by exact(cI h:cv (true&&((decide (p0>=p1))==true)) (vi p0)= (vi p0))) (fun h=>by exact(cI h:cv (true&&((decide (p0>=p1))==true)) (vi p2)= (vi p2))) rfl) (RL.pick (decide (p0>=p1)) (vb ((decide (p0>=p1))&&(decide (p0<=p2)))) (gG true) (aP (vb ((decide (p0>=p1))&&(decide (p0<=p2)))) (RL.nt (RC.ret ?_)))))
 obtain rfl:=oi j
 exact cB ⟨rfl,o.drop 0⟩
theorem nK {p0:iO} {res:Bool} (j:Holds E w V) (h0:V[i0]? =some (rd v0 p0)) (hb:gv N p0=some res):
    Calls bC 39 [v0].toArray w (gE (bB E V res)):=by
 unfold gv at hb
 refine enter Tryz.func39 zr zr ?_
 have j:=j.dup (i0+0) h0
 refine RC.sr (RL.dC 0 v0 j zr fun ai w j=>?_)
 refine aP (vb false) (RL.nq ?_)
 obtain⟨ad,o,hb⟩:=bd hb
 refine RC.jn (fun(ad:Bool)=>SH E V [(2,vb ad)] []) ad ?_ ?_
 ·refine RC.region (RL.bA zr w5 (RL.aM 0 j zr oj cE ?_))
  obtain⟨af,ag,o⟩:=bd o
  refine RL.call zt zr AL [(vi p0.X)] zr (aF (jf N (p0:=p0.X) j ag) ?_)
  rintro _ w ⟨rfl,j⟩
  refine mv (vb af) (gC o (fun aa o=>?_) fun aa o=>?_)
  rotate_left
  ·refine bV aa (bV aa (bV aa (gF aa (vb false) (aP (vb false) (RL.nil ?_)))))
   obtain rfl:=oi o
   exact⟨rfl,j.sp 2 []⟩
  refine RL.bA (hg:=(cg aa)) zr w6 (RL.aM (hg:=(cg aa)) 0 j zr om cE ?_)
  obtain⟨ae,ah,o⟩:=bd o
  refine RL.call (cg aa) zr AL [(vi p0.Y)] zr (aF (jf N (p0:=p0.Y) j ah) ?_)
  rintro _ w ⟨rfl,j⟩
  refine gF aa (vb ae) (aP (vb ae) (RL.nil ?_))
  obtain rfl:=oi o
  exact⟨rfl,j.sp 2 []⟩
 rintro _ w ⟨O,rfl,j⟩
 refine aG (RC.ret ?_)
 obtain rfl:=oi hb
 exact cB ⟨rfl,j.drop 0⟩
end Go.Gk
