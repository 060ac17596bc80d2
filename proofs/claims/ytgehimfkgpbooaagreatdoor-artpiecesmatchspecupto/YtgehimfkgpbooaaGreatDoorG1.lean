/-
  Printed texts: Go functions as plain functions, and that they are. No statement of the seed is proved here.
-/
import Derived.Test.YtgehimfkgpbooaaGreatDoorProg
import Derived.Test.YtgehimfkgpbooaaGreatDoorE1
import Derived.Test.YtgehimfkgpbooaaGreatDoorA1
import Derived.Test.YtgehimfkgpbooaaGreatDoorA2
import Derived.Test.YtgehimfkgpbooaaGreatDoorRows
import Derived.Shelf.SlGeneric
import Derived.Ground.SlsfProg
import Derived.Ground.SlgmProg
set_option linter.unusedVariables false
set_option linter.unusedSimpArgs false
set_option linter.unusedSectionVars false
set_option maxRecDepth 100000
set_option maxHeartbeats 4000000
namespace Go.Gk
open Go Go.Proofs
noncomputable abbrev bM:=Tryz.prog
def m0 (x:aI):=(x.X0,x.Y0,x.X1,x.Y1)
instance instGTRect:GT aI:=GT.via m0
instance instKVRect:KV aI:=instKVvia (fun(x:aI)=>(x.X0,x.Y0,x.X1,x.Y1))
theorem dL:Fd 0 (fun x:aI=>x.X0):= .v m0 (.fst .self)
theorem oA:Fs 0 Int (fun(x:aI) y=>{x with X0:=y}):= .v m0 (.fst .self)
theorem dG:Fd 1 (fun x:aI=>x.Y0):= .v m0 (.snd (.fst .self))
theorem pU:Fs 1 Int (fun(x:aI) y=>{x with Y0:=y}):= .v m0 (.snd (.fst .self))
theorem eC:Fd 2 (fun x:aI=>x.X1):= .v m0 (.snd (.snd (.fst .self)))
theorem oC:Fs 2 Int (fun(x:aI) y=>{x with X1:=y}):= .v m0 (.snd (.snd (.fst .self)))
theorem fo:Fd 3 (fun x:aI=>x.Y1):= .v m0 (.snd (.snd (.snd (.self))))
theorem pV:Fs 3 Int (fun(x:aI) y=>{x with Y1:=y}):= .v m0 (.snd (.snd (.snd (.self))))
def xB (x:jc):=(x.X,x.Y)
instance instGTPoint:GT jc:=GT.via xB
instance instKVPoint:KV jc:=instKVvia (fun(x:jc)=>(x.X,x.Y))
theorem nv:Fd 0 (fun x:jc=>x.X):= .v xB (.fst .self)
theorem ny:Fd 1 (fun x:jc=>x.Y):= .v xB (.snd (.self))
def p9 (x:cD):=(x.At,x.dE,x.cN,x.To,x.fJ)
instance instGTBore:GT cD:=GT.via p9
theorem pW:Fd 0 (fun x:cD=>x.At):= .v p9 (.fst .self)
theorem lI:Fd 2 (fun x:cD=>x.dE):= .v p9 (.snd (.fst .self))
theorem Fk:Fs 2 Int (fun(x:cD) y=>{x with dE:=y}):= .v p9 (.snd (.fst .self))
theorem kf:Fd 3 (fun x:cD=>x.cN):= .v p9 (.snd (.snd (.fst .self)))
theorem lJ:Fd 4 (fun x:cD=>x.To):= .v p9 (.snd (.snd (.snd (.fst .self))))
theorem pX:Fd 5 (fun x:cD=>x.fJ):= .v p9 (.snd (.snd (.snd (.snd (.self)))))
def tY (x:fK):=(x.Part,x.fk,x.cU,x.At)
instance instGTLand:GT fK:=GT.via tY
theorem nF:Fd 0 (fun x:fK=>x.Part):= .v tY (.fst .self)
theorem pY:Fd 1 (fun x:fK=>x.fk):= .v tY (.snd (.fst .self))
theorem pZ:Fd 2 (fun x:fK=>x.cU):= .v tY (.snd (.snd (.fst .self)))
theorem p4:Fd 3 (fun x:fK=>x.At):= .v tY (.snd (.snd (.snd (.self))))
def wB (x:ld):=(x.aJ,x.cE,x.aO,x.bV)
instance instGTArt:GT ld:=GT.via wB
theorem iS:Fd 0 (fun x:ld=>x.aJ):= .v wB (.fst .self)
theorem rG:Fd 1 (fun x:ld=>x.cE):= .v wB (.snd (.fst .self))
theorem gk:Fd 2 (fun x:ld=>x.aO):= .v wB (.snd (.snd (.fst .self)))
theorem n7:Fd 3 (fun x:ld=>x.bV):= .v wB (.snd (.snd (.snd (.self))))
def jW (x:aA):=(x.Y0,x.Y1,x.Xs)
instance instGTshape_Band:GT aA:=GT.via jW
theorem gV:Fd 0 (fun x:aA=>x.Y0):= .v jW (.fst .self)
theorem tm:Fs 0 Int (fun(x:aA) y=>{x with Y0:=y}):= .v jW (.fst .self)
theorem fC:Fd 1 (fun x:aA=>x.Y1):= .v jW (.snd (.fst .self))
theorem o7:Fs 1 Int (fun(x:aA) y=>{x with Y1:=y}):= .v jW (.snd (.fst .self))
theorem dZ:Fd 2 (fun x:aA=>x.Xs):= .v jW (.snd (.snd (.self)))
theorem tn:Fs 2 (List Int) (fun(x:aA) y=>{x with Xs:=y}):= .v jW (.snd (.snd (.self)))
def wC (x:fk):=(x.Part,x.fk)
instance instGTPin:GT fk:=GT.via wC
instance instKVPin:KV fk:=instKVvia (fun(x:fk)=>(x.Part,x.fk))
theorem CS:Fd 0 (fun x:fk=>x.Part):= .v wC (.fst .self)
theorem CT:Fs 0 eG (fun(x:fk) y=>{x with Part:=y}):= .v wC (.fst .self)
theorem CU:Fd 1 (fun x:fk=>x.fk):= .v wC (.snd (.self))
theorem CV:Fs 1 eG (fun(x:fk) y=>{x with fk:=y}):= .v wC (.snd (.self))
def jM (x:aK):=(x.cU,x.Set,x.gM)
instance instGTcopper_Piece:GT aK:=GT.via jM
theorem qS:Fd 0 (fun x:aK=>x.cU):= .v jM (.fst .self)
theorem wD:Fs 0 Int (fun(x:aK) y=>{x with cU:=y}):= .v jM (.fst .self)
theorem wE:Fs 1 (List aA) (fun(x:aK) y=>{x with Set:=y}):= .v jM (.snd (.fst .self))
theorem n8:Fd 2 (fun x:aK=>x.gM):= .v jM (.snd (.snd (.self)))
theorem wF:Fs 2 (List aI) (fun(x:aK) y=>{x with gM:=y}):= .v jM (.snd (.snd (.self)))
def Fm (x:cO):=(x.jP,x.aO,x.fW)
instance instGTGroup:GT cO:=GT.via Fm
def wG (x:j9):=(x.cD,x.Number)
instance instGTHop:GT j9:=GT.via wG
instance instKVHop:KV j9:=instKVvia (fun(x:j9)=>(x.cD,x.Number))
theorem wH:Fd 0 (fun x:j9=>x.cD):= .v wG (.fst .self)
theorem CW:Fs 0 Bool (fun(x:j9) y=>{x with cD:=y}):= .v wG (.fst .self)
theorem tZ:Fd 1 (fun x:j9=>x.Number):= .v wG (.snd (.self))
theorem wI:Fs 1 Int (fun(x:j9) y=>{x with Number:=y}):= .v wG (.snd (.self))
def gv (x:aF):=(x.from_,x.to)
instance instGTetchhouseref1_span:GT aF:=GT.via gv
instance instKVetchhouseref1_span:KV aF:=instKVvia (fun(x:aF)=>(x.from_,x.to))
theorem eD:Fd 0 (fun x:aF=>x.from_):= .v gv (.fst .self)
theorem kT:Fs 0 Int (fun(x:aF) y=>{x with from_:=y}):= .v gv (.fst .self)
theorem eE:Fd 1 (fun x:aF=>x.to):= .v gv (.snd (.self))
theorem kU:Fs 1 Int (fun(x:aF) y=>{x with to:=y}):= .v gv (.snd (.self))
def fz (x:aL):=(x.from_,x.to,x.iN)
instance instGTetchhouseref1_band:GT aL:=GT.via fz
theorem nG:Fd 0 (fun x:aL=>x.from_):= .v fz (.fst .self)
theorem nH:Fs 0 Int (fun(x:aL) y=>{x with from_:=y}):= .v fz (.fst .self)
theorem kV:Fd 1 (fun x:aL=>x.to):= .v fz (.snd (.fst .self))
theorem kW:Fs 1 Int (fun(x:aL) y=>{x with to:=y}):= .v fz (.snd (.fst .self))
theorem fY:Fd 2 (fun x:aL=>x.iN):= .v fz (.snd (.snd (.self)))
theorem nI:Fs 2 (List aF) (fun(x:aL) y=>{x with iN:=y}):= .v fz (.snd (.snd (.self)))
theorem zh (M:eK):GT.ok M (#[(.int .i64 0),(.slice none 0 0),(.slice none 0 0)]:Array Value).toList (⟨0,[],[]⟩:aK):=⟨[(.int .i64 0)],[(.slice none 0 0),(.slice none 0 0)],rfl,(show GT.ok M [(.int .i64 0)] (0:Int) from rfl),⟨[(.slice none 0 0)],[(.slice none 0 0)],rfl,(show GT.ok M [(.slice none 0 0)] ([]: (List aA)) from ⟨_,rfl,none,0,0,rfl,rfl,bT _,by simp [maxLen],fun _ _ h=>by simp at h⟩),(show GT.ok M [(.slice none 0 0)] ([]: (List aI)) from ⟨_,rfl,none,0,0,rfl,rfl,bT _,by simp [maxLen],fun _ _ h=>by simp at h⟩)⟩⟩
theorem sK (M:eK):GT.ok M (#[(.int .i64 0),(.int .i64 0),(.int .i64 0),(.int .i64 0)]:Array Value).toList (⟨0,0,0,0⟩:aI):=⟨[(.int .i64 0)],[(.int .i64 0),(.int .i64 0),(.int .i64 0)],rfl,(show GT.ok M [(.int .i64 0)] (0:Int) from rfl),⟨[(.int .i64 0)],[(.int .i64 0),(.int .i64 0)],rfl,(show GT.ok M [(.int .i64 0)] (0:Int) from rfl),⟨[(.int .i64 0)],[(.int .i64 0)],rfl,(show GT.ok M [(.int .i64 0)] (0:Int) from rfl),(show GT.ok M [(.int .i64 0)] (0:Int) from rfl)⟩⟩⟩
theorem HM (M:eK):GT.ok M (#[(.int .i64 0),(.int .i64 0)]:Array Value).toList (⟨0,0⟩:jc):=⟨[(.int .i64 0)],[(.int .i64 0)],rfl,(show GT.ok M [(.int .i64 0)] (0:Int) from rfl),(show GT.ok M [(.int .i64 0)] (0:Int) from rfl)⟩
theorem I4 (M:eK):GT.ok M (#[(.int .i64 0),(.int .i64 0),(.int .i64 0),(.int .i64 0),(.int .i64 0),(.bool false)]:Array Value).toList (⟨⟨0,0⟩,0,0,0,false⟩:cD):=⟨[(.int .i64 0),(.int .i64 0)],[(.int .i64 0),(.int .i64 0),(.int .i64 0),(.bool false)],rfl,(show GT.ok M [(.int .i64 0),(.int .i64 0)] (⟨0,0⟩:jc) from HM M),⟨[(.int .i64 0)],[(.int .i64 0),(.int .i64 0),(.bool false)],rfl,(show GT.ok M [(.int .i64 0)] (0:Int) from rfl),⟨[(.int .i64 0)],[(.int .i64 0),(.bool false)],rfl,(show GT.ok M [(.int .i64 0)] (0:Int) from rfl),⟨[(.int .i64 0)],[(.bool false)],rfl,(show GT.ok M [(.int .i64 0)] (0:Int) from rfl),(show GT.ok M [(.bool false)] (false:Bool) from rfl)⟩⟩⟩⟩
theorem Ip (M:eK):GT.ok M (#[(.string ⟨#[]⟩),(.string ⟨#[]⟩)]:Array Value).toList (⟨⟨[]⟩,⟨[]⟩⟩:fk):=⟨[(.string ⟨#[]⟩)],[(.string ⟨#[]⟩)],rfl,(show GT.ok M [(.string ⟨#[]⟩)] (⟨[]⟩:eG) from rfl),(show GT.ok M [(.string ⟨#[]⟩)] (⟨[]⟩:eG) from rfl)⟩
theorem A1 (M:eK):GT.ok M (#[(.bool false),(.int .i64 0)]:Array Value).toList (⟨false,0⟩:j9):=⟨[(.bool false)],[(.int .i64 0)],rfl,(show GT.ok M [(.bool false)] (false:Bool) from rfl),(show GT.ok M [(.int .i64 0)] (0:Int) from rfl)⟩
theorem wJ (M:eK):GT.ok M (#[(.int .i64 0),(.int .i64 0),(.slice none 0 0)]:Array Value).toList (⟨0,0,[]⟩:aA):=⟨[(.int .i64 0)],[(.int .i64 0),(.slice none 0 0)],rfl,(show GT.ok M [(.int .i64 0)] (0:Int) from rfl),⟨[(.int .i64 0)],[(.slice none 0 0)],rfl,(show GT.ok M [(.int .i64 0)] (0:Int) from rfl),(show GT.ok M [(.slice none 0 0)] ([]: (List Int)) from ⟨_,rfl,none,0,0,rfl,rfl,bT _,by simp [maxLen],fun _ _ h=>by simp at h⟩)⟩⟩
theorem oN (M:eK):GT.ok M (#[(.int .i64 0),(.int .i64 0),(.slice none 0 0)]:Array Value).toList (⟨0,0,[]⟩:aL):=⟨[(.int .i64 0)],[(.int .i64 0),(.slice none 0 0)],rfl,(show GT.ok M [(.int .i64 0)] (0:Int) from rfl),⟨[(.int .i64 0)],[(.slice none 0 0)],rfl,(show GT.ok M [(.int .i64 0)] (0:Int) from rfl),(show GT.ok M [(.slice none 0 0)] ([]: (List aF)) from ⟨_,rfl,none,0,0,rfl,rfl,bT _,by simp [maxLen],fun _ _ h=>by simp at h⟩)⟩⟩
theorem oO (M:eK):GT.ok M (#[(.int .i64 0),(.int .i64 0)]:Array Value).toList (⟨0,0⟩:aF):=⟨[(.int .i64 0)],[(.int .i64 0)],rfl,(show GT.ok M [(.int .i64 0)] (0:Int) from rfl),(show GT.ok M [(.int .i64 0)] (0:Int) from rfl)⟩
structure aT where
  jP: (List Int)
  aO: (List Int)
  fW:RV
  deriving Inhabited
def n9 (x:aT):=(x.jP,x.aO,x.fW)
instance instGTGroup_r2:GT aT:=GT.via n9
theorem vn:Fd 0 (fun x:aT=>x.jP):= .v n9 (.fst .self)
theorem Aw:Fd 1 (fun x:aT=>x.aO):= .v n9 (.snd (.fst .self))
theorem Ax:Fd 2 (fun x:aT=>x.fW):= .v n9 (.snd (.snd (.self)))
theorem Ay:Fs 2 RV (fun(x:aT) y=>{x with fW:=y}):= .v n9 (.snd (.snd (.self)))
def aU:XT aT cO:=⟨fun u x=>u.jP=x.jP/\u.aO=x.aO,fun M h u x=>(u.jP=x.jP/\u.aO=x.aO)/\vD 83 M h u.fW.v x.fW,fun{M M' h u x} hk hh=>⟨hh.1,(own 83 u.fW.v x.fW).mono hk hh.2⟩,fun h=>h.1⟩
theorem nJ:XO aU 83 2 (fun u=>u.fW) (fun u r=>{u with fW:=r}) (fun x=>x.fW) (fun x y=>{x with fW:=y}):=⟨Ax,Ay,by decide,fun h=>h.2,fun hr ho=>⟨hr,ho⟩⟩
theorem wK (M h:eK) (u:aT) (x:cO) (cs:List Value) (hd: ∀b o,h b=some o->M b=none) (hx:aU.ok M h u x) (hc:GT.ok M cs u):GT.ok (qE M h) cs x:=by
  obtain⟨⟨e0,e1⟩,ho⟩:=hx
  obtain⟨c0,d0,hd0,a0,c1,d1,hd1,a1,a2⟩:=hc
  exact⟨c0,d0,hd0,GT.mono (uI M h) (show GT.ok M c0 x.jP from e0▸(show GT.ok M c0 u.jP from a0)),⟨c1,d1,hd1,GT.mono (uI M h) (show GT.ok M c1 x.aO from e1▸(show GT.ok M c1 u.aO from a1)),⟨u.fW.v,a2,vD.sl hd ho⟩⟩⟩
theorem tx:nR bM 27 true 4:=xu
theorem me:nW bM 27 0 0:=o6
theorem oD:nR bM 22 false 1:=xu
theorem pE:Tryz.prog.underlying 22=some (.slice 23):=by kernel_rfl
theorem BL:nW bM 27 1 1:=o6
theorem rH:nR bM 23 false 1:=xu
theorem mS:Tryz.prog.underlying 23=some (.slice 59):=by kernel_rfl
theorem tz:v8 bM 22 23 1:=DM
theorem iY:v8 bM 23 59 4:=DM
theorem iw:nR bM 59 true 4:=xu
theorem oc:DI bM 59 4:=EN (.agg #[(.int .i64 0),(.int .i64 0),(.int .i64 0),(.int .i64 0)])
theorem g9:nW bM 59 0 0:=o6
theorem cJ:nR bM 3 false 1:=xu
theorem JS:hZ bM 104:=iH Tryz.func104
theorem Fp:hZ bM 66:=iH Tryz.func66
theorem gR:nW bM 59 1 1:=o6
theorem iZ:nW bM 59 2 2:=o6
theorem ka:nW bM 59 3 3:=o6
theorem JT:hZ bM 76:=iH Tryz.func76
theorem Lp:hZ bM 37:=iH Tryz.func37
theorem mixed:Tryz.prog.follows .mixedOrders=true:=by kernel_rfl
theorem zi:tL bM 23 59 4 32:=tL.of (.agg #[(.int .i64 0),(.int .i64 0),(.int .i64 0),(.int .i64 0)])
theorem Lq:hZ bM 67:=iH Tryz.func67
theorem Lr:hZ bM 69:=iH Tryz.func69
theorem JU:hZ bM 68:=iH Tryz.func68
theorem JV:Lj bM 31 [(.slice none 0 0)]:=⟨(.slice none 0 0),fun _=>by kernel_rfl,rfl⟩
theorem fA:nR bM 31 false 1:=xu
theorem eB:v8 bM 31 3 1:=DM
theorem Ch:DI bM 3 1:=EN (.int .i64 0)
theorem qF:tL bM 31 3 1 8:=tL.of (.int .i64 0)
theorem Ls:hZ bM 70:=iH Tryz.func70
theorem l4:Tryz.prog.underlying 31=some (.slice 3):=by kernel_rfl
theorem JW:F5 bM 3 (0:Int):=F5.of (.int .i64 0) (fun M=>rfl)
theorem Lt:hZ bM 71:=iH Tryz.func71
theorem JX:hZ bM 86:=iH Tryz.func86
theorem Lu:F5 bM 59 (⟨0,0,0,0⟩:aI):=F5.of (.agg #[(.int .i64 0),(.int .i64 0),(.int .i64 0),(.int .i64 0)]) (fun M=>(sK M))
theorem Lv:hZ bM 73:=iH Tryz.func73
theorem Lw:hZ bM 72:=iH Tryz.func72
theorem JY:hZ bM 108:=iH Tryz.func108
theorem Lx:hZ bM 75:=iH Tryz.func75
theorem Iq:wk bM 119 [(0,1),(1,1),(2,1)] #[(.int .i64 0),(.int .i64 0),(.slice none 0 0)]:=wk.of (.agg #[(.int .i64 0),(.int .i64 0),(.slice none 0 0)]) Tryz.underlying119
theorem lU:nW bM 119 2 2:=o6
theorem nn:nW bM 119 1 1:=o6
theorem pF:nW bM 119 0 0:=o6
theorem u4:Tryz.prog.underlying 50=some (.slice 119):=by kernel_rfl
theorem o8:v8 bM 50 119 3:=DM
theorem ME:hZ bM 9:=iH Tryz.func9
theorem wL:nR bM 119 true 3:=xu
theorem CX:DI bM 119 3:=EN (.agg #[(.int .i64 0),(.int .i64 0),(.slice none 0 0)])
theorem Ly:tL bM 50 119 3 40:=tL.of (.agg #[(.int .i64 0),(.int .i64 0),(.slice none 0 0)])
theorem JZ:hZ bM 74:=iH Tryz.func74
theorem Gw:hZ bM 35:=iH Tryz.func35
theorem CY:wk bM 59 [(0,1),(1,1),(2,1),(3,1)] #[(.int .i64 0),(.int .i64 0),(.int .i64 0),(.int .i64 0)]:=wk.of (.agg #[(.int .i64 0),(.int .i64 0),(.int .i64 0),(.int .i64 0)]) Tryz.underlying59
theorem I5:hZ bM 39:=iH Tryz.func39
theorem I6:Tryz.prog.underlying 3=some (.int .i64):=by kernel_rfl
theorem Gx:Jw bM 59 aI:=⟨fun M cs ds a b w ha hb=>by
  obtain⟨_,_,rfl,rfl,⟨_,_,rfl,rfl,⟨_,_,rfl,rfl,rfl⟩⟩⟩:=ha
  obtain⟨_,_,rfl,rfl,⟨_,_,rfl,rfl,⟨_,_,rfl,rfl,rfl⟩⟩⟩:=hb
  refine(rB 9999 Tryz.underlying59 (F4.cons (by decide) (kc cJ _) (kc cJ _) (nr I6 _ _ w) (F4.cons (by decide) (kc cJ _) (kc cJ _) (nr I6 _ _ w) (F4.cons (by decide) (kc cJ _) (kc cJ _) (nr I6 _ _ w) (F4.cons (by decide) (kc cJ _) (kc cJ _) (nr I6 _ _ w) F4.nil))))).trans ?_
  congr 1
  cases a;cases b;unfold m0
  rw [fc]
  simp,by kernel_rfl⟩
theorem Lz:hZ bM 38:=iH Tryz.func38
theorem J0:hZ bM 17:=iH Tryz.func17
theorem gC:nW bM 27 2 2:=o6
theorem mT:nR bM 24 false 1:=xu
theorem t3:Tryz.prog.underlying 24=some (.slice 65):=by kernel_rfl
theorem qc:v8 bM 24 65 6:=DM
theorem lP:nR bM 65 true 6:=xu
theorem D6:DI bM 65 6:=EN (.agg #[(.int .i64 0),(.int .i64 0),(.int .i64 0),(.int .i64 0),(.int .i64 0),(.bool false)])
theorem q9:nW bM 65 1 2:=o6
theorem Fq:hZ bM 12:=iH Tryz.func12
theorem xC:nW bM 65 0 0:=o6
theorem CZ:nR bM 63 true 2:=xu
theorem vJ:nW bM 63 0 0:=o6
theorem vK:nW bM 63 1 1:=o6
theorem J3:hZ bM 34:=iH Tryz.func34
theorem Ft:hZ bM 21:=iH Tryz.func21
theorem LA:hZ bM 77:=iH Tryz.func77
theorem LB:hZ bM 36:=iH Tryz.func36
theorem J4:hZ bM 16:=iH Tryz.func16
theorem o9:nW bM 65 2 3:=o6
theorem re:nW bM 65 3 4:=o6
theorem LC:hZ bM 18:=iH Tryz.func18
theorem rf:nW bM 27 3 3:=o6
theorem Az:nR bM 25 false 1:=xu
theorem Fu:Tryz.prog.underlying 25=some (.slice 79):=by kernel_rfl
theorem Fv:v8 bM 25 79 5:=DM
theorem u5:nR bM 79 true 5:=xu
theorem Gy:DI bM 79 5:=EN (.agg #[(.string ⟨#[]⟩),(.string ⟨#[]⟩),(.int .i64 0),(.int .i64 0),(.int .i64 0)])
theorem t4:nW bM 79 0 0:=o6
theorem Aq:nR bM 9 false 1:=xu
theorem AA:Tryz.prog.underlying 9=some (.string):=by kernel_rfl
theorem LD (a:eG) (b:Int) (w:World): (callFunc 158 [(str a),(.int .u8 b)].toArray).run bM w = .ok (.value (vi ((Lib.countByte a.cY (Int.toNat b).toUInt8:Nat):Int))) w:=y9 Extern.BytealgCount.count Tryz.func158 (Lib.run_countString _ _ w)
theorem tv (a:eG) (b:Int) (w:World): (callFunc 144 [(str a),(.int .u8 b)].toArray).run bM w = .ok (.value (vi (Lib.indexByte a.cY (Int.toNat b).toUInt8))) w:=y9 Extern.BytealgIndexByte.indexByte Tryz.func144 (Lib.run_indexByteString _ _ w)
theorem Ir:hZ bM 111:=iH Tryz.func111
theorem J5:hZ bM 159:=iH Tryz.func159
theorem Is:hZ bM 143:=iH Tryz.func143
theorem J6:hZ bM 142:=iH Tryz.func142
theorem J7:tL bM 122 9 1 16:=tL.of (.string ⟨#[]⟩)
theorem MN:F5 bM 9 (⟨[]⟩:eG):=F5.of (.string ⟨#[]⟩) (fun M=>rfl)
theorem C0:v8 bM 122 9 1:=DM
theorem J8:hZ bM 110:=iH Tryz.func110
theorem J9:hZ bM 79:=iH Tryz.func79
theorem It:Tryz.prog.underlying 122=some (.slice 9):=by kernel_rfl
theorem Ka:hZ bM 109:=iH Tryz.func109
theorem Kb:hZ bM 81:=iH Tryz.func81
theorem Kc:hZ bM 41:=iH Tryz.func41
theorem LF:hZ bM 80:=iH Tryz.func80
theorem LG:hZ bM 78:=iH Tryz.func78
theorem LH:hZ bM 40:=iH Tryz.func40
theorem xD:nW bM 79 1 1:=o6
theorem xE:nW bM 79 2 2:=o6
theorem xF:nW bM 79 3 3:=o6
theorem I7:DI bM 83 2:=EN (.agg #[(.string ⟨#[]⟩),(.string ⟨#[]⟩)])
theorem Kd:wk bM 83 [(0,1),(1,1)] #[(.string ⟨#[]⟩),(.string ⟨#[]⟩)]:=wk.of (.agg #[(.string ⟨#[]⟩),(.string ⟨#[]⟩)]) Tryz.underlying83
theorem Ke:nR bM 83 true 2:=xu
theorem I8:hZ bM 43:=iH Tryz.func43
theorem Gz:nW bM 83 0 0:=o6
theorem LI (a b:eG) (w:World): (callFunc 145 [(str a),(str b)].toArray).run bM w = .ok (.value (vi (Lib.compareBytes a.cY b.cY))) w:=y9 Extern.BytealgCompare.compare Tryz.func145 (Lib.run_compareString _ _ w)
theorem Kf:hZ bM 112:=iH Tryz.func112
theorem Kg:hZ bM 82:=iH Tryz.func82
theorem GA:nW bM 83 1 1:=o6
theorem LJ:hZ bM 42:=iH Tryz.func42
theorem LK:hZ bM 19:=iH Tryz.func19
theorem Kh:hZ bM 44:=iH Tryz.func44
theorem LL:hZ bM 20:=iH Tryz.func20
theorem LM:wk bM 48 [(0,4),(4,1),(5,1),(6,1),(7,1),(8,1),(9,1),(10,1),(11,1)] #[(.slice none 0 0),(.slice none 0 0),(.slice none 0 0),(.slice none 0 0),(.slice none 0 0),(.slice none 0 0),(.slice none 0 0),(.slice none 0 0),(.slice none 0 0),(.slice none 0 0),(.slice none 0 0),(.slice none 0 0)]:=wk.of (.agg #[(.slice none 0 0),(.slice none 0 0),(.slice none 0 0),(.slice none 0 0),(.slice none 0 0),(.slice none 0 0),(.slice none 0 0),(.slice none 0 0),(.slice none 0 0),(.slice none 0 0),(.slice none 0 0),(.slice none 0 0)]) Tryz.underlying48
theorem sL:nW bM 48 0 0:=o6
theorem I9:hZ bM 45:=iH Tryz.func45
theorem GC:v8 bM 42 50 1:=DM
theorem Ja:DI bM 50 1:=EN (.slice none 0 0)
theorem Ki:Tryz.prog.underlying 42=some (.slice 50):=by kernel_rfl
theorem Kj:nR bM 50 false 1:=xu
theorem Iu:hZ bM 113:=iH Tryz.func113
theorem MO:Tryz.prog.underlying 4=some (.bool):=by kernel_rfl
theorem Kk:hZ bM 114:=iH Tryz.func114
theorem LN:hZ bM 84:=iH Tryz.func84
theorem LO:hZ bM 83:=iH Tryz.func83
theorem LP:hZ bM 46:=iH Tryz.func46
theorem LQ:hZ bM 47:=iH Tryz.func47
theorem GD:nW bM 48 1 4:=o6
theorem Kl:nR bM 42 false 1:=xu
theorem Km:tL bM 42 50 1 24:=tL.of (.slice none 0 0)
theorem Jb:hZ bM 85:=iH Tryz.func85
theorem C1:Fg bM 129 3 3 Int Int (0:Int):=⟨by kernel_rfl,(Au.int I6),HF (Z:=(.int .i64 0)) (by kernel_rfl) (fun M=>⟨_,rfl,rfl⟩)⟩
theorem Jc:DI bM 23 1:=EN (.slice none 0 0)
theorem GF:tL bM 22 23 1 24:=tL.of (.slice none 0 0)
theorem LR:hZ bM 48:=iH Tryz.func48
theorem t5:nW bM 48 2 5:=o6
theorem C2:nR bM 43 false 1:=xu
theorem LS:wk bM 52 [(0,1),(1,1),(2,1)] #[(.int .i64 0),(.slice none 0 0),(.slice none 0 0)]:=wk.of (.agg #[(.int .i64 0),(.slice none 0 0),(.slice none 0 0)]) Tryz.underlying52
theorem HN:v8 bM 43 52 3:=DM
theorem Jd:DI bM 52 3:=EN (.agg #[(.int .i64 0),(.slice none 0 0),(.slice none 0 0)])
theorem LU:tL bM 43 52 3 56:=tL.of (.agg #[(.int .i64 0),(.slice none 0 0),(.slice none 0 0)])
theorem GG:Tryz.prog.underlying 43=some (.slice 52):=by kernel_rfl
theorem LV:hZ bM 22:=iH Tryz.func22
theorem LW:hZ bM 51:=iH Tryz.func51
theorem HO:nR bM 52 true 3:=xu
theorem xG:nW bM 65 4 5:=o6
theorem A2:nR bM 4 false 1:=xu
theorem GH:nW bM 52 0 0:=o6
theorem D7:nW bM 52 2 2:=o6
theorem LX:hZ bM 50:=iH Tryz.func50
theorem Kn:hZ bM 49:=iH Tryz.func49
theorem BM:nW bM 48 3 6:=o6
theorem wM:nR bM 44 false 1:=xu
theorem xH:v8 bM 44 31 1:=DM
theorem Je:DI bM 31 1:=EN (.slice none 0 0)
theorem Jf:tL bM 44 31 1 24:=tL.of (.slice none 0 0)
theorem LY:hZ bM 23:=iH Tryz.func23
theorem Ko:wk bM 133 [(0,1)] #[(.slice none 0 0)]:=wk.of (.agg #[(.slice none 0 0)]) Tryz.underlying133
theorem pG:nW bM 133 0 0:=o6
theorem LZ:hZ bM 52:=iH Tryz.func52
theorem Fw:Tryz.prog.underlying 44=some (.slice 31):=by kernel_rfl
theorem Jg:hZ bM 87:=iH Tryz.func87
theorem L0:hZ bM 53:=iH Tryz.func53
theorem D8:nW bM 48 5 8:=o6
theorem BN:nW bM 48 6 9:=o6
theorem L1:hZ bM 54:=iH Tryz.func54
theorem Jh:Lj bM 97 [(.slice none 0 0),(.slice none 0 0),(.slice none 0 0)]:=⟨(.agg #[(.slice none 0 0),(.slice none 0 0),(.slice none 0 0)]),fun _=>by kernel_rfl,rfl⟩
theorem xI:nW bM 48 4 7:=o6
theorem u6:nR bM 45 false 1:=xu
theorem Ji:Tryz.prog.underlying 45=some (.slice 97):=by kernel_rfl
theorem vL:nW bM 97 0 0:=o6
theorem xJ:nW bM 97 1 1:=o6
theorem GI:nR bM 97 true 3:=xu
theorem AB:v8 bM 45 97 3:=DM
theorem Jj:DI bM 97 3:=EN (.agg #[(.slice none 0 0),(.slice none 0 0),(.slice none 0 0)])
theorem Jk:tL bM 45 97 3 72:=tL.of (.agg #[(.slice none 0 0),(.slice none 0 0),(.slice none 0 0)])
theorem GJ:DI bM 99 2:=EN (.agg #[(.bool false),(.int .i64 0)])
theorem Kp:hZ bM 115:=iH Tryz.func115
theorem Kq:hZ bM 88:=iH Tryz.func88
theorem Fx:wk bM 99 [(0,1),(1,1)] #[(.bool false),(.int .i64 0)]:=wk.of (.agg #[(.bool false),(.int .i64 0)]) Tryz.underlying99
theorem t6:nR bM 99 true 2:=xu
theorem L2:hZ bM 55:=iH Tryz.func55
theorem BO:nW bM 99 0 0:=o6
theorem zj:nW bM 99 1 1:=o6
theorem L3:hZ bM 56:=iH Tryz.func56
theorem BP:nW bM 97 2 2:=o6
theorem HQ:nR bM 95 false 1:=xu
theorem Kr:v8 bM 95 83 2:=DM
theorem Ks:tL bM 95 83 2 32:=tL.of (.agg #[(.string ⟨#[]⟩),(.string ⟨#[]⟩)])
theorem GK:nW bM 48 7 10:=o6
theorem GL:nW bM 48 8 11:=o6
theorem Kt:nR bM 46 false 1:=xu
theorem L4:v8 bM 46 99 2:=DM
theorem L5:tL bM 46 99 2 16:=tL.of (.agg #[(.bool false),(.int .i64 0)])
theorem L6:hZ bM 24:=iH Tryz.func24
theorem Ku:hZ bM 11:=iH Tryz.func11
theorem MP:hZ bM 4:=iH Tryz.func4
theorem Kv:hZ bM 116:=iH Tryz.func116
theorem AD:hZ bM 92:=iH Tryz.func92
theorem L7:hZ bM 89:=iH Tryz.func89
theorem Kw:hZ bM 90:=iH Tryz.func90
theorem A3:hZ bM 118:=iH Tryz.func118
theorem Kx:hZ bM 96:=iH Tryz.func96
theorem Iv:wk bM 158 [(0,1),(1,1)] #[(.int .i64 0),(.int .i64 0)]:=wk.of (.agg #[(.int .i64 0),(.int .i64 0)]) Tryz.underlying158
theorem vo:Tryz.prog.underlying 138=some (.slice 158):=by kernel_rfl
theorem ou:v8 bM 138 158 2:=DM
theorem pH:nW bM 158 1 1:=o6
theorem pI:nW bM 158 0 0:=o6
theorem EO:nR bM 158 true 2:=xu
theorem Iw:DI bM 158 2:=EN (.agg #[(.int .i64 0),(.int .i64 0)])
theorem GM:tL bM 138 158 2 16:=tL.of (.agg #[(.int .i64 0),(.int .i64 0)])
theorem Ix:hZ bM 120:=iH Tryz.func120
theorem HR:hZ bM 98:=iH Tryz.func98
theorem Iy:wk bM 141 [(0,1),(1,1),(2,1)] #[(.int .i64 0),(.int .i64 0),(.slice none 0 0)]:=wk.of (.agg #[(.int .i64 0),(.int .i64 0),(.slice none 0 0)]) Tryz.underlying141
theorem uK:nW bM 141 2 2:=o6
theorem A4:nR bM 138 false 1:=xu
theorem Iz:Tryz.prog.underlying 136=some (.slice 141):=by kernel_rfl
theorem wN:v8 bM 136 141 3:=DM
theorem yV:nW bM 141 1 1:=o6
theorem EP:nW bM 141 0 0:=o6
theorem Jl:Jw bM 158 aF:=⟨fun M cs ds a b w ha hb=>by
  obtain⟨_,_,rfl,rfl,rfl⟩:=ha
  obtain⟨_,_,rfl,rfl,rfl⟩:=hb
  refine(rB 9999 Tryz.underlying158 (F4.cons (by decide) (kc cJ _) (kc cJ _) (nr I6 _ _ w) (F4.cons (by decide) (kc cJ _) (kc cJ _) (nr I6 _ _ w) F4.nil))).trans ?_
  congr 1
  cases a;cases b;unfold gv
  rw [fc]
  simp,by kernel_rfl⟩
theorem Ky:hZ bM 119:=iH Tryz.func119
theorem Kz:nR bM 141 true 3:=xu
theorem KA:DI bM 141 3:=EN (.agg #[(.int .i64 0),(.int .i64 0),(.slice none 0 0)])
theorem KB:tL bM 136 141 3 40:=tL.of (.agg #[(.int .i64 0),(.int .i64 0),(.slice none 0 0)])
theorem KC:hZ bM 97:=iH Tryz.func97
theorem KD:hZ bM 99:=iH Tryz.func99
theorem Jm:hZ bM 61:=iH Tryz.func61
theorem MF:hZ bM 8:=iH Tryz.func8
theorem KE:hZ bM 57:=iH Tryz.func57
theorem D9:hZ bM 15:=iH Tryz.func15
theorem KF:hZ bM 91:=iH Tryz.func91
theorem Fy:hZ bM 28:=iH Tryz.func28
theorem L8:hZ bM 58:=iH Tryz.func58
theorem KG:hZ bM 94:=iH Tryz.func94
theorem L9:hZ bM 93:=iH Tryz.func93
theorem Ma:hZ bM 59:=iH Tryz.func59
theorem Mb:hZ bM 25:=iH Tryz.func25
theorem Mc:hZ bM 26:=iH Tryz.func26
theorem Md:hZ bM 27:=iH Tryz.func27
theorem HS:hZ bM 31:=iH Tryz.func31
theorem GN:hZ bM 146:=iH Tryz.func146
theorem KH:hZ bM 117:=iH Tryz.func117
theorem Me:hZ bM 95:=iH Tryz.func95
theorem Mf:hZ bM 60:=iH Tryz.func60
theorem KI:hZ bM 29:=iH Tryz.func29
theorem GO:tL bM 107 4 1 1:=tL.of (.bool false)
theorem Mg:F5 bM 4 (false:Bool):=F5.of (.bool false) (fun M=>rfl)
theorem vq:v8 bM 107 4 1:=DM
theorem Mh:hZ bM 62:=iH Tryz.func62
theorem Mi:hZ bM 63:=iH Tryz.func63
theorem KJ:hZ bM 30:=iH Tryz.func30
theorem KK:hZ bM 13:=iH Tryz.func13
theorem Mj:wk bM 57 [(0,4),(4,1),(5,1),(6,1),(7,1)] #[(.slice none 0 0),(.slice none 0 0),(.slice none 0 0),(.slice none 0 0),(.slice none 0 0),(.slice none 0 0),(.slice none 0 0),(.slice none 0 0)]:=wk.of (.agg #[(.slice none 0 0),(.slice none 0 0),(.slice none 0 0),(.slice none 0 0),(.slice none 0 0),(.slice none 0 0),(.slice none 0 0),(.slice none 0 0)]) Tryz.underlying57
theorem zk:nW bM 57 1 4:=o6
theorem rh:nW bM 57 2 5:=o6
theorem Mk:hZ bM 32:=iH Tryz.func32
theorem ri:nW bM 57 4 7:=o6
theorem rj:nW bM 57 3 6:=o6
theorem KL:wk bM 97 [(0,1),(1,1),(2,1)] #[(.slice none 0 0),(.slice none 0 0),(.slice none 0 0)]:=wk.of (.agg #[(.slice none 0 0),(.slice none 0 0),(.slice none 0 0)]) Tryz.underlying97
theorem ER:hZ bM 100:=iH Tryz.func100
theorem IA:hZ bM 101:=iH Tryz.func101
theorem Ml:hZ bM 64:=iH Tryz.func64
theorem vM:nW bM 57 0 0:=o6
theorem IB:hZ bM 121:=iH Tryz.func121
theorem KM:hZ bM 102:=iH Tryz.func102
theorem KN:hZ bM 103:=iH Tryz.func103
theorem Mm:hZ bM 65:=iH Tryz.func65
theorem Mn:hZ bM 33:=iH Tryz.func33
theorem KO:hZ bM 14:=iH Tryz.func14
theorem MQ:hZ bM 5:=iH Tryz.func5
theorem MR:hZ bM 6:=iH Tryz.func6
theorem MS:hZ bM 7:=iH Tryz.func7
theorem Mo:wk bM 65 [(0,2),(2,1),(3,1),(4,1),(5,1)] #[(.int .i64 0),(.int .i64 0),(.int .i64 0),(.int .i64 0),(.int .i64 0),(.bool false)]:=wk.of (.agg #[(.int .i64 0),(.int .i64 0),(.int .i64 0),(.int .i64 0),(.int .i64 0),(.bool false)]) Tryz.underlying65
theorem Mp:hZ bM 10:=iH Tryz.func10
def mU (E:World) (Γ:List HP) (res: (List Int)) (v:Value) (w:World):Prop:=Holds E w ([rd v res]++Γ)
def ln (E:World) (Γ:List HP) (res: (List aF)) (v:Value) (w:World):Prop:=Holds E w ([own 158 v res]++Γ)
def oe (E:World) (Γ:List HP) (res:aI) (v:Value) (w:World):Prop:=Holds E w ([rd v res]++Γ)
def qd (E:World) (Γ:List HP) (res: (List eG)) (v:Value) (w:World):Prop:=Holds E w ([own 9 v res]++Γ)
def og (E:World) (Γ:List HP) (res: (List (List aI))) (v:Value) (w:World):Prop:=Holds E w ([own 23 v res]++Γ)
def aV (E:World) (Γ:List HP) (res:Bool) (v:Value) (w:World):Prop:=v= (vb res)/\Holds E w Γ
def aW (E:World) (Γ:List HP) (res:Int) (v:Value) (w:World):Prop:=v= (vi res)/\Holds E w Γ
def fH (E:World) (Γ:List HP) (res: (List aI)) (v:Value) (w:World):Prop:=Holds E w ([own 59 v res]++Γ)
def mf (E:World) (Γ:List HP) (res: (List Int)) (v:Value) (w:World):Prop:=Holds E w ([own 3 v res]++Γ)
def mK (E:World) (Γ:List HP) (res: (List aA)) (v:Value) (w:World):Prop:=Holds E w ([own 119 v res]++Γ)
def qe (E:World) (Γ:List HP) (res: (List Int)×Int) (v:Value) (w:World):Prop:=∃u0:Value,v = .tuple #[u0,(vi res.2)]/\Holds E w ([rd u0 res.1]++Γ)
def gl (E:World) (Γ:List HP) (b0:Nat) (v0_0 v0_1:Value) (v0_2 v0_3:Value) (v0_4 v0_5 v0_6:Value) (us0_6:List aT) (p0_6: (List cO)) (v0_7:Value) (res:Int) (v:Value) (w:World):Prop:=v= (vi res)/\Holds E w ([bc 57 b0 [v0_0,v0_1,v0_2,v0_3,v0_4,v0_5,v0_6,v0_7],own 97 v0_6 us0_6,hU aU us0_6 p0_6 none]++Γ)
def oQ (E:World) (Γ:List HP) (res: (List aI)×Int) (v:Value) (w:World):Prop:=∃u0:Value,v = .tuple #[u0,(vi res.2)]/\Holds E w ([rd u0 res.1]++Γ)
end Go.Gk
namespace Go.Gk
open Go Go.Proofs
def AE (H:Type) (d:DataW H):Nat:=YtgehimfkgpbooaaGreatDoor.Rows.uptoBulk d
def KT (H:Type) (d:List (DataW H)):Nat:=YtgehimfkgpbooaaGreatDoor.Rows.uptoBulkAll d
theorem jX:UB AE KT where
  str:=fun H b=>by simp [AE,YtgehimfkgpbooaaGreatDoor.Rows.uptoBulk]
  pos:=fun H d=>by
    unfold AE
    cases d with
    | lit l=>cases l <;> simp [YtgehimfkgpbooaaGreatDoor.Rows.uptoBulk]
    | nil=>simp [YtgehimfkgpbooaaGreatDoor.Rows.uptoBulk]
    | ptr d=>simp [YtgehimfkgpbooaaGreatDoor.Rows.uptoBulk]
    | slice elems spare=>simp [YtgehimfkgpbooaaGreatDoor.Rows.uptoBulk]
    | agg parts=>simp [YtgehimfkgpbooaaGreatDoor.Rows.uptoBulk]
    | iface t d=>simp [YtgehimfkgpbooaaGreatDoor.Rows.uptoBulk]
    | map entries=>simp [YtgehimfkgpbooaaGreatDoor.Rows.uptoBulk]
    | held h=>simp [YtgehimfkgpbooaaGreatDoor.Rows.uptoBulk]
  sl:=fun H e s=>by simp [AE,KT,YtgehimfkgpbooaaGreatDoor.Rows.uptoBulk]
  ag:=fun H l=>by simp [AE,KT,YtgehimfkgpbooaaGreatDoor.Rows.uptoBulk]
  nil:=fun H=>by simp [KT,YtgehimfkgpbooaaGreatDoor.Rows.uptoBulkAll]
  cons:=fun H x l=>by simp [AE,KT,YtgehimfkgpbooaaGreatDoor.Rows.uptoBulkAll]
theorem F6:kF AE Tryz.prog 3 Int:=FB jX (by kernel_rfl)
theorem Mq:kF AE Tryz.prog 59 aI:=oh jX (fun(x:aI)=>(x.X0,x.Y0,x.X1,x.Y1)) (fun b=>⟨b.1,b.2.1,b.2.2.1,b.2.2.2⟩) (fun b=>rfl) Tryz.underlying59 (iI jX F6 (iI jX F6 (iI jX F6 (rK jX F6 rfl)))) (fun b=>by simp only [HX];omega)
theorem KU:kF AE Tryz.prog 23 (List aI):=sN (e:=59) jX Mq
theorem Mr:kF AE Tryz.prog 22 (List (List aI)):=sN (e:=23) jX KU
theorem KW:kF AE Tryz.prog 63 jc:=oh jX (fun(x:jc)=>(x.X,x.Y)) (fun b=>⟨b.1,b.2⟩) (fun b=>rfl) Tryz.underlying63 (iI jX F6 (rK jX F6 rfl)) (fun b=>by simp only [GU];omega)
theorem MT:kF AE Tryz.prog 4 Bool:=Ed jX (by kernel_rfl)
theorem Ms:kF AE Tryz.prog 65 cD:=oh jX (fun(x:cD)=>(x.At,x.dE,x.cN,x.To,x.fJ)) (fun b=>⟨b.1,b.2.1,b.2.2.1,b.2.2.2.1,b.2.2.2.2⟩) (fun b=>rfl) Tryz.underlying65 (iI jX KW (iI jX F6 (iI jX F6 (iI jX F6 (rK jX MT rfl))))) (fun b=>by simp only [HY];omega)
theorem Mt:kF AE Tryz.prog 24 (List cD):=sN (e:=65) jX Ms
theorem MG:kF AE Tryz.prog 9 eG:=FC jX (by kernel_rfl)
theorem Mu:kF AE Tryz.prog 79 fK:=oh jX (fun(x:fK)=>(x.Part,x.fk,x.cU,x.At)) (fun b=>⟨b.1,b.2.1,b.2.2.1,b.2.2.2⟩) (fun b=>rfl) Tryz.underlying79 (iI jX MG (iI jX MG (iI jX F6 (rK jX KW rfl)))) (fun b=>by simp only [ET];omega)
theorem Mv:kF AE Tryz.prog 25 (List fK):=sN (e:=79) jX Mu
theorem Mw:kF AE Tryz.prog 27 ld:=oh jX (fun(x:ld)=>(x.aJ,x.cE,x.aO,x.bV)) (fun b=>⟨b.1,b.2.1,b.2.2.1,b.2.2.2⟩) (fun b=>rfl) Tryz.underlying27 (iI jX Mr (iI jX KU (iI jX Mt (rK jX Mv rfl)))) (fun b=>by simp only [GV];omega)
end Go.Gk
namespace Go.Proofs
open Go.Shelf Go.RowKit Go.Lib Go.Sort
def Tryz.lay68_ren : Go.Shelf.Ren := ⟨fun | 6 => 68 | 15 => 106 | 14 => 105 | 28 => 130 | 29 => 131 | 20 => 122 | 21 => 123 | 22 => 124 | 23 => 125 | 24 => 126 | 25 => 127 | 26 => 128 | 27 => 129 | 46 => 147 | 47 => 148 | 48 => 149 | 49 => 150 | 50 => 151 | 57 => 160 | n => n, fun | 22 => 23 | 24 => 59 | 25 => 67 | 3 => 3 | 39 => 147 | 0 => 0 | 53 => 167 | 55 => 169 | 4 => 4 | 46 => 161 | 45 => 160 | 50 => 130 | 5 => 5 | 9 => 9 | 66 => 178 | 70 => 182 | 76 => 189 | 77 => 190 | n => n, fun | n => n⟩
theorem Tryz.lay68 : Go.Proofs.SlLaysF0.n6 Tryz.prog Tryz.lay68_ren := {
  mixed := by kernel_rfl
  f6 := ⟨Tryz.f68.name, by decide, Tryz.func68.trans (congrArg some (by kernel_rfl))⟩
  f14 := ⟨Tryz.f105.name, by decide, Tryz.func105.trans (congrArg some (by kernel_rfl))⟩
  f15 := Tryz.func106.trans (congrArg some (by kernel_rfl))
  f20 := ⟨Tryz.f122.name, by decide, Tryz.func122.trans (congrArg some (by kernel_rfl))⟩
  f21 := ⟨Tryz.f123.name, by decide, Tryz.func123.trans (congrArg some (by kernel_rfl))⟩
  f22 := ⟨Tryz.f124.name, by decide, Tryz.func124.trans (congrArg some (by kernel_rfl))⟩
  f23 := ⟨Tryz.f125.name, by decide, Tryz.func125.trans (congrArg some (by kernel_rfl))⟩
  f24 := ⟨Tryz.f126.name, by decide, Tryz.func126.trans (congrArg some (by kernel_rfl))⟩
  f25 := ⟨Tryz.f127.name, by decide, Tryz.func127.trans (congrArg some (by kernel_rfl))⟩
  f26 := ⟨Tryz.f128.name, by decide, Tryz.func128.trans (congrArg some (by kernel_rfl))⟩
  f27 := ⟨Tryz.f129.name, by decide, Tryz.func129.trans (congrArg some (by kernel_rfl))⟩
  f28 := Tryz.func130.trans (congrArg some (by kernel_rfl))
  f29 := Tryz.func131.trans (congrArg some (by kernel_rfl))
  f46 := ⟨Tryz.f147.name, by decide, Tryz.func147.trans (congrArg some (by kernel_rfl))⟩
  f47 := Tryz.func148.trans (congrArg some (by kernel_rfl))
  f48 := Tryz.func149.trans (congrArg some (by kernel_rfl))
  f49 := ⟨Tryz.f150.name, by decide, Tryz.func150.trans (congrArg some (by kernel_rfl))⟩
  f50 := ⟨Tryz.f151.name, by decide, Tryz.func151.trans (congrArg some (by kernel_rfl))⟩
  f57 := ⟨Tryz.f160.name, by decide, Tryz.func160.trans (congrArg some (by kernel_rfl))⟩
  t0 := Tryz.underlying0
  a0 := Tryz.isAgg0
  z0 := Tryz.sizeOf0
  v0 := Tryz.zeroValue0
  t3 := Tryz.underlying3
  a3 := Tryz.isAgg3
  z3 := Tryz.sizeOf3
  v3 := Tryz.zeroValue3
  t4 := Tryz.underlying4
  a4 := Tryz.isAgg4
  z4 := Tryz.sizeOf4
  v4 := Tryz.zeroValue4
  t5 := Tryz.underlying5
  a5 := Tryz.isAgg5
  z5 := Tryz.sizeOf5
  v5 := Tryz.zeroValue5
  t9 := Tryz.underlying9
  a9 := Tryz.isAgg9
  z9 := Tryz.sizeOf9
  v9 := Tryz.zeroValue9
  t22 := Tryz.underlying23
  a22 := Tryz.isAgg23
  z22 := Tryz.sizeOf23
  v22 := Tryz.zeroValue23
  t25 := Tryz.underlying67
  a25 := Tryz.isAgg67
  z25 := Tryz.sizeOf67
  v25 := Tryz.zeroValue67
  t39 := Tryz.underlying147
  a39 := Tryz.isAgg147
  z39 := Tryz.sizeOf147
  v39 := Tryz.zeroValue147
  t45 := Tryz.underlying160
  a45 := Tryz.isAgg160
  z45 := Tryz.sizeOf160
  v45 := Tryz.zeroValue160
  t46 := Tryz.underlying161
  a46 := Tryz.isAgg161
  z46 := Tryz.sizeOf161
  v46 := Tryz.zeroValue161
  t50 := Tryz.underlying130
  a50 := Tryz.isAgg130
  z50 := Tryz.sizeOf130
  v50 := Tryz.zeroValue130
  t53 := Tryz.underlying167
  a53 := Tryz.isAgg167
  z53 := Tryz.sizeOf167
  v53 := Tryz.zeroValue167
  t55 := Tryz.underlying169
  a55 := Tryz.isAgg169
  z55 := Tryz.sizeOf169
  v55 := Tryz.zeroValue169
  t66 := Tryz.underlying178
  a66 := Tryz.isAgg178
  z66 := Tryz.sizeOf178
  v66 := Tryz.zeroValue178
  t70 := Tryz.underlying182
  a70 := Tryz.isAgg182
  z70 := Tryz.sizeOf182
  v70 := Tryz.zeroValue182
  t76 := Tryz.underlying189
  a76 := Tryz.isAgg189
  z76 := Tryz.sizeOf189
  v76 := Tryz.zeroValue189
  t77 := Tryz.underlying190
  a77 := Tryz.isAgg190
  z77 := Tryz.sizeOf190
  v77 := Tryz.zeroValue190 }
def Tryz.lay70_ren : Go.Shelf.Ren := ⟨fun | 5 => 70 | 8 => 106 | 7 => 107 | 19 => 130 | 20 => 131 | 10 => 132 | 11 => 133 | 12 => 134 | 13 => 135 | 14 => 136 | 15 => 137 | 16 => 138 | 17 => 139 | 18 => 140 | 30 => 152 | 31 => 148 | 32 => 149 | 33 => 153 | 34 => 154 | 35 => 155 | 40 => 161 | n => n, fun | 23 => 31 | 25 => 3 | 3 => 3 | 32 => 147 | 22 => 31 | 0 => 0 | 44 => 167 | 46 => 169 | 4 => 4 | 36 => 161 | 35 => 160 | 41 => 130 | 5 => 5 | 9 => 9 | 53 => 178 | 57 => 182 | 63 => 189 | 64 => 190 | n => n, fun | n => n⟩
theorem Tryz.lay70 : Go.Proofs.SlLaysM.n5 Tryz.prog Tryz.lay70_ren := {
  mixed := by kernel_rfl
  f5 := ⟨Tryz.f70.name, by decide, Tryz.func70.trans (congrArg some (by kernel_rfl))⟩
  f7 := ⟨Tryz.f107.name, by decide, Tryz.func107.trans (congrArg some (by kernel_rfl))⟩
  f8 := Tryz.func106.trans (congrArg some (by kernel_rfl))
  f10 := ⟨Tryz.f132.name, by decide, Tryz.func132.trans (congrArg some (by kernel_rfl))⟩
  f11 := ⟨Tryz.f133.name, by decide, Tryz.func133.trans (congrArg some (by kernel_rfl))⟩
  f12 := ⟨Tryz.f134.name, by decide, Tryz.func134.trans (congrArg some (by kernel_rfl))⟩
  f13 := ⟨Tryz.f135.name, by decide, Tryz.func135.trans (congrArg some (by kernel_rfl))⟩
  f14 := ⟨Tryz.f136.name, by decide, Tryz.func136.trans (congrArg some (by kernel_rfl))⟩
  f15 := ⟨Tryz.f137.name, by decide, Tryz.func137.trans (congrArg some (by kernel_rfl))⟩
  f16 := ⟨Tryz.f138.name, by decide, Tryz.func138.trans (congrArg some (by kernel_rfl))⟩
  f17 := ⟨Tryz.f139.name, by decide, Tryz.func139.trans (congrArg some (by kernel_rfl))⟩
  f18 := ⟨Tryz.f140.name, by decide, Tryz.func140.trans (congrArg some (by kernel_rfl))⟩
  f19 := Tryz.func130.trans (congrArg some (by kernel_rfl))
  f20 := Tryz.func131.trans (congrArg some (by kernel_rfl))
  f30 := ⟨Tryz.f152.name, by decide, Tryz.func152.trans (congrArg some (by kernel_rfl))⟩
  f31 := Tryz.func148.trans (congrArg some (by kernel_rfl))
  f32 := Tryz.func149.trans (congrArg some (by kernel_rfl))
  f33 := ⟨Tryz.f153.name, by decide, Tryz.func153.trans (congrArg some (by kernel_rfl))⟩
  f34 := ⟨Tryz.f154.name, by decide, Tryz.func154.trans (congrArg some (by kernel_rfl))⟩
  f35 := ⟨Tryz.f155.name, by decide, Tryz.func155.trans (congrArg some (by kernel_rfl))⟩
  f40 := ⟨Tryz.f161.name, by decide, Tryz.func161.trans (congrArg some (by kernel_rfl))⟩
  t0 := Tryz.underlying0
  a0 := Tryz.isAgg0
  z0 := Tryz.sizeOf0
  v0 := Tryz.zeroValue0
  t3 := Tryz.underlying3
  a3 := Tryz.isAgg3
  z3 := Tryz.sizeOf3
  v3 := Tryz.zeroValue3
  t4 := Tryz.underlying4
  a4 := Tryz.isAgg4
  z4 := Tryz.sizeOf4
  v4 := Tryz.zeroValue4
  t5 := Tryz.underlying5
  a5 := Tryz.isAgg5
  z5 := Tryz.sizeOf5
  v5 := Tryz.zeroValue5
  t9 := Tryz.underlying9
  a9 := Tryz.isAgg9
  z9 := Tryz.sizeOf9
  v9 := Tryz.zeroValue9
  t22 := Tryz.underlying31
  a22 := Tryz.isAgg31
  z22 := Tryz.sizeOf31
  v22 := Tryz.zeroValue31
  t23 := Tryz.underlying31
  a23 := Tryz.isAgg31
  z23 := Tryz.sizeOf31
  v23 := Tryz.zeroValue31
  t25 := Tryz.underlying3
  a25 := Tryz.isAgg3
  z25 := Tryz.sizeOf3
  v25 := Tryz.zeroValue3
  t32 := Tryz.underlying147
  a32 := Tryz.isAgg147
  z32 := Tryz.sizeOf147
  v32 := Tryz.zeroValue147
  t35 := Tryz.underlying160
  a35 := Tryz.isAgg160
  z35 := Tryz.sizeOf160
  v35 := Tryz.zeroValue160
  t36 := Tryz.underlying161
  a36 := Tryz.isAgg161
  z36 := Tryz.sizeOf161
  v36 := Tryz.zeroValue161
  t41 := Tryz.underlying130
  a41 := Tryz.isAgg130
  z41 := Tryz.sizeOf130
  v41 := Tryz.zeroValue130
  t44 := Tryz.underlying167
  a44 := Tryz.isAgg167
  z44 := Tryz.sizeOf167
  v44 := Tryz.zeroValue167
  t46 := Tryz.underlying169
  a46 := Tryz.isAgg169
  z46 := Tryz.sizeOf169
  v46 := Tryz.zeroValue169
  t53 := Tryz.underlying178
  a53 := Tryz.isAgg178
  z53 := Tryz.sizeOf178
  v53 := Tryz.zeroValue178
  t57 := Tryz.underlying182
  a57 := Tryz.isAgg182
  z57 := Tryz.sizeOf182
  v57 := Tryz.zeroValue182
  t63 := Tryz.underlying189
  a63 := Tryz.isAgg189
  z63 := Tryz.sizeOf189
  v63 := Tryz.zeroValue189
  t64 := Tryz.underlying190
  a64 := Tryz.isAgg190
  z64 := Tryz.sizeOf190
  v64 := Tryz.zeroValue190 }
end Go.Proofs
namespace Go.Gk
open Go Go.Proofs
variable (N:Nat) {E w:World} {i0 i1 i2:Nat} {p0 p1 p2 res:Int} {v0 v1 v2:Value} {Γ:List HP}
theorem yK {res:Bool} (hw:Holds E w Γ) (hb:sG N p0 p1 p2=some res):
    Calls bM 104 [(vi p0),(vi p1),(vi p2)].toArray w (gL (aV E Γ res)):=by
 unfold sG at hb
 refine enter Tryz.func104 zr zr (RC.sr (aQ (vb false) (RL.ns (mv (vi p0) (mv (vi p1) (ic p0 p1 (mv (vb (decide (p0>=p1))) (RL.gs true (decide (p0>=p1)) (vi p0) zr zr zr cF ?_))))))))
 refine RL.gs true (decide (p0>=p1)) (vi p2) rfl rfl rfl cF (RL.gs true (decide (p0>=p1)) (vb (decide (p0<=p2))) rfl rfl rfl (dI .leq .i64 p0 p2 rfl (fun h=>by exact(cI h:cv (true&&((decide (p0>=p1))==true)) (vi p0)= (vi p0))) (fun h=>by exact(cI h:cv (true&&((decide (p0>=p1))==true)) (vi p2)= (vi p2))) rfl) (RL.pick (decide (p0>=p1)) (vb ((decide (p0>=p1))&&(decide (p0<=p2)))) (fZ true rfl) (aQ (vb ((decide (p0>=p1))&&(decide (p0<=p2)))) (RL.nt (RC.ret ?_)))))
 obtain rfl:=oi hb
 exact bX ⟨rfl,hw.drop 0⟩
theorem lK {res:Bool} (hw:Holds E w Γ) (hb:lk N p0=some res):
    Calls bM 66 [(vi p0)].toArray w (gL (aV E Γ res)):=by
 unfold lk at hb
 refine enter Tryz.func66 zr zr (RC.sr (aQ (vb false) (RL.ns (mv (vi p0) ?_))))
 obtain⟨j,o,hb⟩:=bd hb
 refine RL.call zt zr JS [(vi p0),(vi (-1000000)),(vi 1000000)] zr (aD (yK N (p0:=p0) (p1:=(-1000000)) (p2:=1000000) hw o) ?_)
 rintro _ w ⟨rfl,hw⟩
 refine aQ (vb j) (RL.nt (RC.ret ?_))
 obtain rfl:=oi hb
 exact bX ⟨rfl,hw.drop 0⟩
theorem tp {p0:aI} {res:Bool} (hw:Holds E w Γ) (h0:Γ[i0]? =some (rd v0 p0)) (hb:mF N p0=some res):
    Calls bM 76 [v0].toArray w (gL (aV E Γ res)):=by
 unfold mF at hb
 refine enter Tryz.func76 zr zr ?_
 have hw:=hw.dup (i0+0) h0
 refine RC.sr (RL.dJ 0 v0 hw zr fun al w hw=>?_)
 refine aQ (vb false) (RL.nq ?_)
 obtain⟨ab,hj,hb⟩:=bd hb
 refine RC.jn (fun(ab:Bool)=>SH E Γ [(2,vb ab)] []) ab ?_ ?_
 ·refine RC.region (RL.aX zr g9 (RL.aM 0 hw zr dL cJ ?_))
  obtain⟨ag,ah,hj⟩:=bd hj
  refine RL.call zt zr Fp [(vi p0.X0)] zr (aD (lK N (p0:=p0.X0) hw ah) ?_)
  rintro _ w ⟨rfl,hw⟩
  refine mv (vb ag) (fB hj (fun j hj=>?_) fun j hj=>?_)
  rotate_left
  ·refine bJ j (bJ j (bJ j (fG j (vb false) (mv (vb false) (j7 (j7 (j7 (RL.pick false (vb false) zr ?_))))))))
   refine mv (vb false) (j7 (j7 (j7 (RL.pick false (vb false) zr (aQ (vb false) (RL.nil ?_))))))
   obtain rfl:=oi hj
   exact⟨rfl,hw.sp 2 []⟩
  refine RL.aX (hg:=(cg j)) zr gR (RL.aM (hg:=(cg j)) 0 hw zr dG cJ ?_)
  obtain⟨ad,ai,hj⟩:=bd hj
  refine RL.call (cg j) zr Fp [(vi p0.Y0)] zr (aD (lK N (p0:=p0.Y0) hw ai) ?_)
  rintro _ w ⟨rfl,hw⟩
  refine fG j (vb ad) (mv (vb ad) (fB hj (fun o hj=>?_) fun o hj=>?_))
  rotate_left
  ·refine bJ o (bJ o (bJ o (fG o (vb false) (mv (vb false) (j7 (j7 (j7 (RL.pick false (vb false) zr ?_))))))))
   refine aQ (vb false) (RL.nil ?_)
   obtain rfl:=oi hj
   exact⟨rfl,hw.sp 2 []⟩
  refine RL.aX (hg:=(cg o)) zr iZ (RL.aM (hg:=(cg o)) 0 hw zr eC cJ ?_)
  obtain⟨ae,aj,hj⟩:=bd hj
  refine RL.call (cg o) zr Fp [(vi p0.X1)] zr (aD (lK N (p0:=p0.X1) hw aj) ?_)
  rintro _ w ⟨rfl,hw⟩
  refine fG o (vb ae) (mv (vb ae) (fB hj (fun aa hj=>?_) fun aa hj=>?_))
  rotate_left
  ·refine bJ aa (bJ aa (bJ aa (fG aa (vb false) (aQ (vb false) (RL.nil ?_)))))
   obtain rfl:=oi hj
   exact⟨rfl,hw.sp 2 []⟩
  refine RL.aX (hg:=(cg aa)) zr ka (RL.aM (hg:=(cg aa)) 0 hw zr fo cJ ?_)
  obtain⟨af,ak,hj⟩:=bd hj
  refine RL.call (cg aa) zr Fp [(vi p0.Y1)] zr (aD (lK N (p0:=p0.Y1) hw ak) ?_)
  rintro _ w ⟨rfl,hw⟩
  refine fG aa (vb af) (aQ (vb af) (RL.nil ?_))
  obtain rfl:=oi hj
  exact⟨rfl,hw.sp 2 []⟩
 rintro _ w ⟨τ,rfl,hw⟩
 refine aH (RC.ret ?_)
 obtain rfl:=oi hb
 exact bX ⟨rfl,hw.drop 0⟩
def vP (E:World) (Γ:List HP) (r:Int) (σ:Nat->Value) (w:World):Prop:=lZ bM 30 Tryz.f37 (aW E Γ r) .ret σ w
theorem u9 {p0: (List aI)} (hw:Holds E w Γ) (h0:Γ[i0]? =some (rd v0 p0)) (hb:kN N p0=some res):
    Calls bM 37 [v0].toArray w (gL (aW E Γ res)):=by
 unfold kN at hb
 refine enter Tryz.func37 zr zr ?_
 have hw:=hw.dup (i0+0) h0
 refine RC.sr (aQ (vi 0) (RL.nq (RC.sr (mv v0 (RL.bC 0 p0 hw mS (ic ((p0.length:Int)) 2000 (RL.nt (dT hb (fun hc hb=>?_) fun hc hb=>?_))))))))
 ·refine RC.sr (aQ (vi 2) (RL.nt (RC.rt ?_)))
  obtain rfl:=oi hb
  exact bX ⟨rfl,hw.drop 1⟩
 refine RC.ss (RC.sr (mv v0 (RL.bC 0 p0 hw mS (mv (vi 0) (RL.nt ?_)))))
 obtain⟨ah,hN,hb⟩:=bd hb
 refine RC.range (fun(aa:Nat) (ab:Unit)=>SH E Γ [(8,v0),(9,vi p0.length),(10,vi aa)] [rd v0 p0]) (fun(ab:Unit)=>SH E Γ [] [rd v0 p0]) (vP E Γ) hN ?_ ?_ ?_ ?_ ?_
 ·exact hw.sp 1 [0]
 ·rintro hm ab _ w ⟨τ,rfl,hw⟩
  refine RC.sr (ic ((p0.length:Int)) ((p0.length:Int)) (RL.nq (RC.fV tN (RC.ex ?_))))
  exact⟨rfl,hw.sp 1 [0]⟩
 ·rintro hm aa ab fl _ w hk ⟨τ,rfl,hw⟩ hb
  refine RC.sr (ic ((aa:Int)) ((p0.length:Int)) (RL.nq (RC.fU (tM hk) (RC.ss (RC.bs ?_)))))
  obtain⟨j,ad,hb⟩:=bd hb
  refine RL.bN 0 hw iY ad fun ai hw=>(RL.bL 0 j hw iw fun aj hw=>(RL.alloc hw oc.z fun o w hw=>?_))
  refine RL.cB 0 hw 1 zr iw fun w hw=>?_
  refine RL.nq (RC.sr (RL.bE (f:=(fun x=>x)) 0 hw zr Fd.self iw fun ae hw=>?_))
  obtain⟨af,ag,hb⟩:=bd hb
  refine RL.call zt zr JT [ae] zr (aD (tp N (i0:=0) hw zr ag) ?_)
  rintro _ w ⟨rfl,hw⟩
  refine RL.not af (RL.nt (dT hb (fun hc hb=>?_) fun hc hb=>?_))
  ·refine RC.sr (aQ (vi 1) (RL.nt (RC.rt (nX (bS ?_)))))
   obtain rfl:=oi hb
   exact⟨rfl,bX ⟨rfl,hw.drop 5⟩⟩
  refine RC.sx (RL.aX rfl iZ (RL.aM 1 hw rfl eC cJ (RL.aX rfl g9 (RL.aM 1 hw rfl dL cJ (ic j.X1 j.X0 (mv (vb (decide (j.X1<=j.X0))) (RL.gs true (decide (j.X1<=j.X0)) (vp o 3) rfl rfl rfl (dY ka) (RL.gs true (decide (j.X1<=j.X0)) (vi j.Y1) rfl rfl rfl (bZ 1 rfl hw (fun h=>by exact(cI h:cv (true&&((decide (j.X1<=j.X0))==false)) (vp o 3)= (vp o 3))) rfl fo cJ) ?_))))))))
  refine RL.gs true (decide (j.X1<=j.X0)) (vp o 1) rfl rfl rfl (dY gR) (RL.gs true (decide (j.X1<=j.X0)) (vi j.Y0) rfl rfl rfl (bZ 1 rfl hw (fun h=>by exact(cI h:cv (true&&((decide (j.X1<=j.X0))==false)) (vp o 1)= (vp o 1))) rfl dG cJ) (RL.gs true (decide (j.X1<=j.X0)) (vb (decide (j.Y1<=j.Y0))) rfl rfl rfl (dI .leq .i64 j.Y1 j.Y0 rfl (fun h=>by exact(cI h:cv (true&&((decide (j.X1<=j.X0))==false)) (vi j.Y1)= (vi j.Y1))) (fun h=>by exact(cI h:cv (true&&((decide (j.X1<=j.X0))==false)) (vi j.Y0)= (vi j.Y0))) rfl) (RL.pick (decide (j.X1<=j.X0)) (vb ((decide (j.X1<=j.X0))||(decide (j.Y1<=j.Y0)))) (nD true) (RL.nt (dT hb (fun hc hb=>?_) fun hc hb=>?_)))))
  rotate_left
  ·refine RC.skip (bO (aH (RC.region (RL.inc hk hm (mv (vi ((aa+1:Nat):Int)) (RL.nil ?_))))))
   obtain rfl:=oi hb
   exact⟨rfl,hw.sp 5 [4]⟩
  refine RC.sr (aQ (vi 13) (RL.nt (RC.rb (bS ?_))))
  obtain rfl:=oi hb
  exact⟨rfl,bX ⟨rfl,hw.drop 5⟩⟩
 ·intro r σ w e hK
  subst e
  refine bS ?_
  obtain rfl:=oi hb
  exact hK
 rintro ab _ w rfl ⟨τ,rfl,hw⟩
 rw [Fo.dF] at hb
 refine aH (RC.sr (aQ (vi 0) (RL.nt (RC.ret ?_))))
 obtain rfl:=oi hb
 exact bX ⟨rfl,hw.drop 1⟩
theorem t7 {p0: (List aI)} {res: (List aI)} (hw:Holds E w Γ) (h0:Γ[i0]? =some (rd v0 p0)) (hb:jt N p0=some res):
    Calls bM 67 [v0].toArray w (gL (fH E Γ res)):=by
 unfold jt at hb
 refine enter Tryz.func67 zr zr ?_
 have hw:=hw.dup (i0+0) h0
 refine RC.sr (aQ (.slice none 0 0) (RL.nq (RC.sr (mv v0 (RL.JH (i:=0) zt zr hw zr zr zr mS (RL.nt (RC.cond (b:=(HG v0)) zr (fun hc=>?_) (fun hc=>?_))))))))
 ·have hx:=hw.Ll (i:=0) rfl hc
  rw [hx] at hb
  replace hb:some ([]: (List aI))=_:=hb
  refine RC.sr (aQ (.slice none 0 0) (RL.nt (RC.rt ?_)))
  obtain rfl:=oi hb
  have hw:=hw.cX aI 59
  exact bX (hw.pk 2 [0])
 refine RC.sx (RL.dW ([]: (List aI)) hw [] iY oc (fun M hs g=>zt) fun aa w hw=>(mv v0 ?_))
 obtain⟨ab,j,hb⟩:=bd hb
 refine RL.app 0 1 hw zi j fun o w hw=>?_
 refine aQ o (RL.nt (RC.ret ?_))
 obtain rfl:=oi hb
 exact bX (hw.pk 2 [0])
theorem wP {p0 p1:aI} (hw:Holds E w Γ) (h0:Γ[i0]? =some (rd v0 p0)) (h1:Γ[i1]? =some (rd v1 p1)) (hb:jQ N p0 p1=some res):
    Calls bM 69 [v0,v1].toArray w (gL (aW E Γ res)):=by
 unfold jQ at hb
 refine enter Tryz.func69 zr zr ?_
 have hw:=(hw.dup (i0+0) h0).dup (i1+1) h1
 refine RC.sr (RL.dJ 1 v0 hw zr fun j w hw=>?_)
 refine RL.dJ 1 v1 hw zr fun o w hw=>?_
 refine aQ (vi 0) (RL.ns (RL.aX zr gR (RL.aM 1 hw zr dG cJ (RL.aX zr gR (RL.aM 0 hw zr dG cJ (RL.fQ p0.Y0 p1.Y0 (aQ (vi (IntKind.wrap .i64 (p0.Y0 - p1.Y0))) (RL.nt ?_))))))))
 refine RC.ret ?_
 obtain rfl:=oi hb
 exact bX ⟨rfl,hw.drop 4⟩
def t8 (E:World) (Γ:List HP) (r: (List Int)) (σ:Nat->Value) (w:World):Prop:=lZ bM 61 Tryz.f71 (mf E Γ r) .ret σ w
theorem tA {p0: (List Int)} {res: (List Int)} (hw:Holds E w (own 3 v0 p0::Γ)) (hb:gW N p0=some res):
    Calls bM 71 [v0].toArray w (gL (mf E Γ res)):=by
 unfold gW at hb
 refine enter Tryz.func71 zr zr (RC.sr (aQ (.slice none 0 0) (RL.nq (RC.sr (mv v0 (RL.fR 0 p0 hw l4 (ic ((p0.length:Int)) 2 (RL.nt ?_))))))))
 refine dT hb (fun hc hb=>?_) fun hc hb=>?_
 ·refine RC.sr (mv v0 (aQ v0 (RL.nt (RC.rt ?_))))
  obtain rfl:=oi hb
  exact bX (hw.pk 1 [0])
 refine RC.ss (RC.sr (aQ (vi 1) (RL.nt ?_)))
 obtain⟨av,hN,hb⟩:=bd hb
 refine RC.iter (fun(o:Int)=>SH E Γ [(0,v0),(3,vi o)] [own 3 v0 p0]) (fun(o:Int)=>SH E Γ [(0,v0)] [own 3 v0 p0]) (t8 E Γ) hN ?_ ?_ ?_ ?_
 ·exact hw.sp 1 [0]
 ·rintro o fl _ w ⟨τ,rfl,hw⟩ hb
  refine RC.seq (RC.sr (mv (vi o) (mv v0 (RL.fR 0 p0 hw l4 (ic o ((p0.length:Int)) (RL.nt (dT hb (fun hc hb=>?_) fun hc hb=>?_)))))))
  rotate_left
  ·refine RC.ex ?_
   obtain rfl:=oi hb
   exact⟨rfl,hw.sp 1 [0]⟩
  refine RC.ss (RC.block (RC.seq (RC.yI mixed ?_)))
  have hw:=hw.drew
  refine RO.go (mv v0 (RO.nx (mv (vi o) (RO.nx ?_))))
  obtain⟨ak,ag,hb⟩:=bd hb
  refine RL.bU 0 hw zr zr eB ag (RO.nx (RL.dO (f:=(fun x=>x)) 0 hw (jA 0 hw ag 0) (bI ag).2.1 Fd.self cJ (RO.nx (mv v0 (RO.nx (mv (vi o) (RO.nx (RL.fQ o 1 ?_))))))))
  refine RO.nx ?_
  obtain⟨al,ah,hb⟩:=bd hb
  refine RL.bU 0 hw zr zr eB ah (RO.nx (RL.dO (f:=(fun x=>x)) 0 hw (jA 0 hw ah 0) (bI ah).2.1 Fd.self cJ (RO.nx (ic ak al (RO.last (aH (dT hb (fun hc hb=>?_) fun hc hb=>?_)))))))
  rotate_left
  ·refine RC.skip (bO (aH (RC.region (mv (vi o) (RL.fQ o 1 (aQ (vi (IntKind.wrap .i64 (o+1))) (RL.nil ?_)))))))
   obtain rfl:=oi hb
   exact⟨rfl,hw.sp 1 [0]⟩
  refine RC.sr (mv v0 (mv (vi o) ?_))
  obtain⟨aw,aa,hb⟩:=bd hb
  refine RL.view 0 o zr hw zr zr eB aa (aQ (vw v0 (Int.toNat o) 1) (RL.nq (RC.sr (aQ (vi 1) (RL.nt ?_)))))
  obtain⟨ax,hN,hb⟩:=bd hb
  refine RC.iter (fun(j: (List Int)×Int×Int)=>SH E Γ [(0,v0),(3,vi j.2.1),(4,(vw v0 (Int.toNat o) 1)),(5,vi j.2.2)] [own 3 v0 j.1]) (fun(j: (List Int)×Int×Int)=>SH E Γ [(0,v0),(3,vi j.2.1)] [own 3 v0 j.1]) (fun(r:Empty) _ _=>r.elim) hN ?_ ?_ ?_ ?_
  ·exact hw.sp 1 [0]
  ·rintro j fl _ w ⟨τ,rfl,hw⟩ hb
   refine RC.seq (RC.sr (mv (vi j.2.2) (mv (vw v0 (Int.toNat o) 1) (RL.IX (i:=0) (l:=j.1) zt zr hw zr zr l4 (ic j.2.2 ((((j.1.length - Int.toNat o):Nat):Int)) (RL.nt (dT hb (fun hc hb=>?_) fun hc hb=>?_)))))))
   rotate_left
   ·refine RC.ex ?_
    obtain rfl:=oi hb
    exact⟨rfl,hw.sp 1 [0]⟩
   refine RC.ss (RC.block (RC.seq (RC.yI mixed ?_)))
   have hw:=hw.drew
   refine RO.go (mv (vw v0 (Int.toNat o) 1) (RO.nx (mv (vi j.2.2) (RO.nx ?_))))
   obtain⟨an,ab,hb⟩:=bd hb
   refine RL.Gl 0 o zr hw zr zr zr eB (DZ aa) (kd ab).1 (kd ab).2 (RO.nx (RL.dO (f:=(fun x=>x)) 0 hw (jA 0 hw (kd ab).2 0) (bI (kd ab).2).2.1 Fd.self cJ (RO.nx (mv (vw v0 (Int.toNat o) 1) (RO.nx (mv (vi j.2.2) (RO.nx (RL.fQ j.2.2 1 ?_))))))))
   refine RO.nx ?_
   obtain⟨ao,ad,hb⟩:=bd hb
   refine RL.Gl 0 o zr hw zr zr zr eB (DZ aa) (kd ad).1 (kd ad).2 (RO.nx (RL.dO (f:=(fun x=>x)) 0 hw (jA 0 hw (kd ad).2 0) (bI (kd ad).2).2.1 Fd.self cJ (RO.nx (ic an ao (RO.last (aH ?_))))))
   obtain⟨ae,hj,hb⟩:=bd hb
   refine RC.jn (fun(ae: (List Int)×Int)=>SH E Γ [(0,v0),(3,vi ae.2),(4,(vw v0 (Int.toNat o) 1)),(5,vi j.2.2)] [own 3 v0 ae.1]) ae ?_ ?_
   ·refine dT hj (fun hc hj=>?_) fun hc hj=>?_
    rotate_left
    ·refine RC.skip ?_
     obtain rfl:=oi hj
     exact⟨rfl,hw.sp 1 [0]⟩
    refine RC.sr (mv v0 (mv (vi j.2.1) (mv (vw v0 (Int.toNat o) 1) (mv (vi j.2.2) ?_))))
    obtain⟨aq,af,hj⟩:=bd hj
    refine RL.Gl 0 o zr hw zr zr zr eB (DZ aa) (kd af).1 (kd af).2 (RL.dO (f:=(fun x=>x)) 0 hw (jA 0 hw (kd af).2 0) (bI (kd af).2).2.1 Fd.self cJ ?_)
    obtain⟨ay,ai,hj⟩:=bd hj
    refine RL.bU 0 hw zr zr eB ai ?_
    have hw:=hw.sc Int aq
    refine RL.gx (f:=(fun _ y=>y)) 1 0 hw (jA 1 hw ai 0) (bI ai).2.1 zr Fs.self cJ fun w hw=>?_
    refine RL.nt (RC.region (mv (vi j.2.1) (RL.fQ j.2.1 1 (aQ (vi (IntKind.wrap .i64 (j.2.1+1))) (RL.nil ?_)))))
    obtain rfl:=oi hj
    exact⟨rfl,hw.sp 2 [1]⟩
   rintro _ w ⟨τ,rfl,hw⟩
   refine bO (aH (RC.region (mv (vi j.2.2) (RL.fQ j.2.2 1 (aQ (vi (IntKind.wrap .i64 (j.2.2+1))) (RL.nil ?_))))))
   obtain rfl:=oi hb
   exact⟨rfl,hw.sp 1 [0]⟩
  ·intro r _ _ _ _
   exact r.elim
  rintro j _ w rfl ⟨τ,rfl,hw⟩
  rw [Fo.dF] at hb
  refine aH (RC.sr (mv v0 (mv (vi j.2.1) ?_)))
  obtain⟨az,aj,hb⟩:=bd hb
  refine RL.view 0 j.2.1 zr hw zr zr eB aj (RL.CA 0 zt hw zr zr qF JW (Gm aj) fun w hw=>(RL.ns (mv v0 (mv (vi j.2.1) ?_))))
  obtain⟨a0,ar,hb⟩:=bd hb
  refine RL.BA 0 zr hw zr zr eB (.inr ⟨rfl,zr⟩) ar fun au hw=>(aQ au (RL.nt (RC.rb (bS ?_))))
  obtain rfl:=oi hb
  exact⟨rfl,bX (hw.pk 1 [0])⟩
 ·intro r σ w e hK
  subst e
  refine bS ?_
  obtain rfl:=oi hb
  exact hK
 rintro o _ w rfl ⟨τ,rfl,hw⟩
 rw [Fo.dF] at hb
 refine aH (RC.sr (mv v0 (aQ v0 (RL.nt (RC.ret ?_)))))
 obtain rfl:=oi hb
 exact bX (hw.pk 1 [0])
theorem wQ {p0:aI} {p1: (List Int)} {res:Bool} (hw:Holds E w Γ) (h0:Γ[i0]? =some (rd v0 p0)) (h1:Γ[i1]? =some (pt v1 p1)) (h2:Γ[i2]? =some (pt v2 p2)) (hb:nY N p0 p1 p2=some res):
    Calls bM 73 [v0,v1,v2].toArray w (gL (aV E Γ res)):=by
 unfold nY at hb
 refine enter Tryz.func73 zr zr ?_
 have hw:=((hw.dup (i0+0) h0).Bz (i:=i1+1) h1).Bz (i:=i2+2) h2
 refine RC.sr (RL.dJ 2 v0 hw zr fun aa w hw=>?_)
 refine aQ (vb false) (RL.nq (RC.yI mixed ?_))
 have hw:=hw.drew
 refine RO.go (RL.aX zr ka (RO.nx (RL.aM 0 hw zr fo cJ (RO.nx (RL.bL 2 p1 hw fA fun ab hw=>(RO.nx (RL.bF p2 2 hw cJ (RO.nx ?_))))))))
 obtain⟨j,o,hb⟩:=bd hb
 refine RL.bN 0 hw eB o fun ad hw=>(RO.nx (RL.bF j 0 hw cJ (RO.nx (ic p0.Y1 j (RO.nx (aQ (vb (decide (p0.Y1<=j))) (RO.last (aH ?_))))))))
 refine RC.ret ?_
 obtain rfl:=oi hb
 exact bX ⟨rfl,hw.drop 6⟩
def rL (E:World) (Γ:List HP) (r:Int) (σ:Nat->Value) (w:World):Prop:=lZ bM 19 Tryz.f86 (aW E Γ r) .ret σ w
theorem rl {p0: (List aI)} {p1:aI->Option Bool} (hw:Holds E w Γ) (h0:Γ[i0]? =some (rd v0 p0)) (h1:Hs bM E Γ v1 p1 (fun(r:Bool)=>Value.bool r)) (hb:lN N p0 p1=some res):
    Calls bM 86 [v0,v1].toArray w (gL (aW E Γ res)):=by
 unfold lN at hb
 refine enter Tryz.func86 zr zr ?_
 have hw:=hw.dup (i0+0) h0
 refine RC.sr (aQ (vi 0) (RL.nq (RC.sr (mv v0 (RL.bC 0 p0 hw mS (mv (vi 0) (RL.nt ?_)))))))
 obtain⟨ae,hN,hb⟩:=bd hb
 refine RC.range (fun(j:Nat) (o:Unit)=>SH E Γ [(0,v0),(1,v1),(7,vi p0.length),(8,vi j)] [rd v0 p0]) (fun(o:Unit)=>SH E Γ [] [rd v0 p0]) (rL E Γ) hN ?_ ?_ ?_ ?_ ?_
 ·exact hw.sp 1 [0]
 ·rintro hm o _ w ⟨τ,rfl,hw⟩
  refine RC.sr (ic ((p0.length:Int)) ((p0.length:Int)) (RL.nq (RC.fV tN (RC.ex ?_))))
  exact⟨rfl,hw.sp 1 [0]⟩
 ·rintro hm j o fl _ w hk ⟨τ,rfl,hw⟩ hb
  refine RC.sr (ic ((j:Int)) ((p0.length:Int)) (RL.nq (RC.fU (tM hk) (RC.ss (RC.bs (mv (vi j) (aQ (vi j) (RL.ns ?_))))))))
  refine mv v1 (mv v0 (mv (vi j) ?_))
  obtain⟨aa,ab,hb⟩:=bd hb
  refine RL.bN 0 hw iY ab fun af hw=>(RL.bL 0 aa hw iw fun ag hw=>?_)
  obtain⟨ah,ad,hb⟩:=bd hb
  refine RL.Bx 0 zr hw zr h1 3 zr zr zr ad fun w hw=>(RL.nt (dT hb (fun hc hb=>?_) fun hc hb=>?_))
  rotate_left
  ·refine RC.skip (bO (aH (RC.region (RL.inc hk hm (mv (vi ((j+1:Nat):Int)) (RL.nil ?_))))))
   obtain rfl:=oi hb
   exact⟨rfl,hw.sp 3 [2]⟩
  refine RC.sr (mv (vi j) (aQ (vi j) (RL.nt (RC.rb (bS ?_)))))
  obtain rfl:=oi hb
  exact⟨rfl,bX ⟨rfl,hw.drop 3⟩⟩
 ·intro r σ w e hK
  subst e
  refine bS ?_
  obtain rfl:=oi hb
  exact hK
 rintro o _ w rfl ⟨τ,rfl,hw⟩
 rw [Fo.dF] at hb
 refine aH (RC.sr (aQ (vi (-1)) (RL.nt (RC.ret ?_))))
 obtain rfl:=oi hb
 exact bX ⟨rfl,hw.drop 1⟩
def mg (E:World) (Γ:List HP) (v0:Value) (p0: (List aI)) (res:Int) (v:Value) (w:World):Prop:=v= (vi res)/\Holds E w ([own 59 v0 p0]++Γ)
def qg (E:World) (Γ:List HP) (v0:Value) (p0: (List aI)) (r:Int) (σ:Nat->Value) (w:World):Prop:=lZ bM 19 Tryz.f86 (mg E Γ v0 p0 r) .ret σ w
theorem pJ {p0: (List aI)} {p1:aI->Option Bool} (hw:Holds E w (own 59 v0 p0::Γ)) (h1:Hs bM E Γ v1 p1 (fun(r:Bool)=>Value.bool r)) (hb:kB N p0 p1=some res):
    Calls bM 86 [v0,v1].toArray w (gL (mg E Γ v0 p0 res)):=by
 unfold kB at hb
 refine enter Tryz.func86 zr zr (RC.sr (aQ (vi 0) (RL.nq (RC.sr (mv v0 (RL.fR 0 p0 hw mS (mv (vi 0) (RL.nt ?_))))))))
 obtain⟨ad,hN,hb⟩:=bd hb
 refine RC.range (fun(j:Nat) (o:Unit)=>SH E Γ [(0,v0),(1,v1),(7,vi p0.length),(8,vi j)] [own 59 v0 p0]) (fun(o:Unit)=>SH E Γ [(0,v0)] [own 59 v0 p0]) (qg E Γ v0 p0) hN ?_ ?_ ?_ ?_ ?_
 ·exact hw.sp 1 [0]
 ·rintro hm o _ w ⟨τ,rfl,hw⟩
  refine RC.sr (ic ((p0.length:Int)) ((p0.length:Int)) (RL.nq (RC.fV tN (RC.ex ?_))))
  exact⟨rfl,hw.sp 1 [0]⟩
 ·rintro hm j o fl _ w hk ⟨τ,rfl,hw⟩ hb
  refine RC.sr (ic ((j:Int)) ((p0.length:Int)) (RL.nq (RC.fU (tM hk) (RC.ss (RC.bs (mv (vi j) (aQ (vi j) (RL.ns ?_))))))))
  refine mv v1 (mv v0 (mv (vi j) ?_))
  obtain⟨ae,aa,hb⟩:=bd hb
  refine RL.bU 0 hw zr zr iY aa (RL.kl (f:=(fun x=>x)) 0 hw (jA 0 hw aa 0) (bI aa).2.1 Fd.self iw fun af hw=>?_)
  obtain⟨ag,ab,hb⟩:=bd hb
  refine RL.Bx 0 zr hw zr h1 2 zr zr zr ab fun w hw=>(RL.nt (dT hb (fun hc hb=>?_) fun hc hb=>?_))
  rotate_left
  ·refine RC.skip (bO (aH (RC.region (RL.inc hk hm (mv (vi ((j+1:Nat):Int)) (RL.nil ?_))))))
   obtain rfl:=oi hb
   exact⟨rfl,hw.sp 2 [1]⟩
  refine RC.sr (mv (vi j) (aQ (vi j) (RL.nt (RC.rb (bS ?_)))))
  obtain rfl:=oi hb
  exact⟨rfl,bX ⟨rfl,hw.pk 2 [1]⟩⟩
 ·intro r σ w e hK
  subst e
  refine bS ?_
  obtain rfl:=oi hb
  exact hK
 rintro o _ w rfl ⟨τ,rfl,hw⟩
 rw [Fo.dF] at hb
 refine aH (RC.sr (aQ (vi (-1)) (RL.nt (RC.ret ?_))))
 obtain rfl:=oi hb
 exact bX ⟨rfl,hw.pk 1 [0]⟩
theorem qG {p0: (List aI)} {p1:aI->Option Bool} {res: (List aI)} (hw:Holds E w (own 59 v0 p0::Γ)) (h1:Hs bM E Γ v1 p1 (fun(r:Bool)=>Value.bool r)) (hb:iE N p0 p1=some res):
    Calls bM 72 [v0,v1].toArray w (gL (fH E Γ res)):=by
 unfold iE at hb
 refine enter Tryz.func72 zr zr (RC.sr (aQ (.slice none 0 0) (RL.ns (mv v0 (mv v1 ?_)))))
 have hw:=hw.pull 0
 obtain⟨o,af,hb⟩:=bd hb
 refine RL.call zt zr JX [v0,v1] zr (aD (pJ N hw (h1.lift 1 zr) af) ?_)
 rintro _ w ⟨rfl,hw⟩
 refine aQ (vi o) (RL.nq (RC.sr (mv (vi o) (ic o ((-1)) (RL.nt (dT hb (fun hc hb=>?_) fun hc hb=>?_))))))
 ·refine RC.sr (mv v0 (aQ v0 (RL.nt (RC.rt ?_))))
  obtain rfl:=oi hb
  exact bX (hw.pk 2 [0])
 refine RC.ss (RC.sr (mv (vi o) (RL.fQ o 1 (aQ (vi (IntKind.wrap .i64 (o+1))) (RL.nt ?_)))))
 obtain⟨ak,hN,hb⟩:=bd hb
 refine RC.iter (fun(j: (List aI)×Int×Int)=>SH E Γ [(0,v0),(1,v1),(5,vi j.2.1),(6,vi j.2.2)] [own 59 v0 j.1]) (fun(j: (List aI)×Int×Int)=>SH E Γ [(0,v0),(5,vi j.2.1)] [own 59 v0 j.1]) (fun(r:Empty) _ _=>r.elim) hN ?_ ?_ ?_ ?_
 ·exact hw.sp 2 [0]
 ·rintro j fl _ w ⟨τ,rfl,hw⟩ hb
  refine RC.seq (RC.sr (mv (vi j.2.2) (mv v0 (RL.fR 0 j.1 hw mS (ic j.2.2 ((j.1.length:Int)) (RL.nt (dT hb (fun hc hb=>?_) fun hc hb=>?_)))))))
  rotate_left
  ·refine RC.ex ?_
   obtain rfl:=oi hb
   exact⟨rfl,hw.sp 1 [0]⟩
  refine RC.ss (RC.bs (mv v0 (mv (vi j.2.2) ?_)))
  obtain⟨al,ab,hb⟩:=bd hb
  refine RL.bU 0 hw zr zr iY ab (RL.kl (f:=(fun x=>x)) 0 hw (jA 0 hw ab 0) (bI ab).2.1 Fd.self iw fun an hw=>?_)
  refine RL.alloc hw oc.z fun ao w hw=>?_
  refine RL.cB 0 hw 1 zr iw fun w hw=>?_
  refine RL.ns (mv v1 (RL.bE (f:=(fun x=>x)) 0 hw zr Fd.self iw fun aq hw=>?_))
  obtain⟨ag,ah,hb⟩:=bd hb
  refine RL.Bx 0 zr hw zr h1 4 zr zr zr ah fun w hw=>(RL.not ag (RL.nt ?_))
  obtain⟨aa,hj,hb⟩:=bd hb
  refine RC.jn (fun(aa: (List aI)×Int)=>SH E Γ [(0,v0),(1,v1),(5,vi aa.2),(6,vi j.2.2)] [own 59 v0 aa.1]) aa ?_ ?_
  ·refine dT hj (fun hc hj=>?_) fun hc hj=>?_
   rotate_left
   ·refine RC.skip ?_
    obtain rfl:=oi hj
    exact⟨rfl,hw.sp 4 [3]⟩
   refine RC.sr (mv v0 (mv (vi j.2.1) (RL.bE (f:=(fun x=>x)) 1 hw zr Fd.self iw fun ar hw=>?_)))
   obtain⟨au,ad,hj⟩:=bd hj
   refine RL.bU 4 hw zr zr iY ad (RL.gx (f:=(fun _ y=>y)) 4 0 hw (jA 4 hw ad 0) (bI ad).2.1 zr Fs.self iw fun w hw=>?_)
   refine RL.nt (RC.region (mv (vi j.2.1) (RL.fQ j.2.1 1 (aQ (vi (IntKind.wrap .i64 (j.2.1+1))) (RL.nil ?_)))))
   obtain rfl:=oi hj
   exact⟨rfl,hw.sp 5 [4]⟩
  rintro _ w ⟨τ,rfl,hw⟩
  refine bO (aH (RC.region (mv (vi j.2.2) (RL.fQ j.2.2 1 (aQ (vi (IntKind.wrap .i64 (j.2.2+1))) (RL.nil ?_))))))
  obtain rfl:=oi hb
  exact⟨rfl,hw.sp 1 [0]⟩
 ·intro r _ _ _ _
  exact r.elim
 rintro j _ w rfl ⟨τ,rfl,hw⟩
 rw [Fo.dF] at hb
 refine aH (RC.sr (mv v0 (mv (vi j.2.1) ?_)))
 obtain⟨av,ae,hb⟩:=bd hb
 refine RL.view 0 j.2.1 zr hw zr zr iY ae (RL.CA 0 zt hw zr zr zi Lu (Gm ae) fun w hw=>(RL.ns (mv v0 (mv (vi j.2.1) ?_))))
 obtain⟨aw,ai,hb⟩:=bd hb
 refine RL.BA 0 zr hw zr zr iY (.inr ⟨rfl,zr⟩) ai fun aj hw=>(aQ aj (RL.nt (RC.ret ?_)))
 obtain rfl:=oi hb
 exact bX (hw.pk 1 [0])
theorem tB {p0 p1:aI} (hw:Holds E w Γ) (h0:Γ[i0]? =some (rd v0 p0)) (h1:Γ[i1]? =some (rd v1 p1)) (hb:gX N p0 p1=some res):
    Calls bM 108 [v0,v1].toArray w (gL (aW E Γ res)):=by
 unfold gX at hb
 refine enter Tryz.func108 zr zr ?_
 have hw:=(hw.dup (i0+0) h0).dup (i1+1) h1
 refine RC.sr (RL.dJ 1 v0 hw zr fun j w hw=>?_)
 refine RL.dJ 1 v1 hw zr fun o w hw=>?_
 refine aQ (vi 0) (RL.ns (RL.aX zr g9 (RL.aM 1 hw zr dL cJ (RL.aX zr g9 (RL.aM 0 hw zr dL cJ (RL.fQ p0.X0 p1.X0 (aQ (vi (IntKind.wrap .i64 (p0.X0 - p1.X0))) (RL.nt ?_))))))))
 refine RC.ret ?_
 obtain rfl:=oi hb
 exact bX ⟨rfl,hw.drop 4⟩
def wR (E:World) (Γ:List HP) (v0:Value) (res: (List Int)×(List aI)) (v:Value) (w:World):Prop:=Holds E w ([own 3 v res.1,own 59 v0 res.2]++Γ)
theorem vQ {p0: (List aI)} {res: (List Int)×(List aI)} (hw:Holds E w (own 59 v0 p0::Γ)) (hb:jB N p0=some res):
    Calls bM 75 [v0].toArray w (gL (wR E Γ v0 res)):=by
 unfold jB at hb
 refine enter Tryz.func75 zr zr (RC.sr (aQ (.slice none 0 0) (RL.ns (mv v0 ?_))))
 obtain⟨ab,aw,hb⟩:=bd hb
 have hw:=hw.pull 0
 refine RL.call zt zr JU [v0,(.func (.func 108) #[] #[])] zr (aD (EJ Tryz.lay68 aI zr iw.Ii iw.sz JY (fun hw hi hj hr=>tB N hw hi hj hr) hw aw) ?_)
 rintro _ w ⟨rfl,hw⟩
 refine RL.ns (aQ (.slice none 0 0) (RL.nq (RC.sr (mv v0 (RL.fR 0 ab hw mS (mv (vi 0) (RL.nt ?_)))))))
 have hw:=hw.cX Int 3
 obtain⟨j,hN,hb⟩:=bd hb
 refine RC.fold (fun(ae:Nat) (j: (List Int)) σ w=>∃aq:Value,SH E Γ [(0,v0),(3,aq),(9,v0),(10,vi ab.length),(11,vi ae)] [own 59 v0 ab,own 3 aq j] σ w) (fun(j: (List Int)) σ w=>∃af:Value,SH E Γ [(0,v0),(3,af)] [own 59 v0 ab,own 3 af j] σ w) hN ?_ ?_ ?_ ?_
 ·exact⟨(.slice none 0 0),hw.sp 3 [1,0]⟩
 ·rintro hm j _ w ⟨ax,τ,rfl,hw⟩
  refine RC.sr (ic ((ab.length:Int)) ((ab.length:Int)) (RL.nq (RC.fV tN (RC.ex ?_))))
  exact⟨rfl,ax,hw.sp 2 [0,1]⟩
 ·rintro hm ae j s' _ w hk ⟨ad,τ,rfl,hw⟩ hb
  refine RC.sr (ic ((ae:Int)) ((ab.length:Int)) (RL.nq (RC.fU (tM hk) (RC.ss (RC.bs ?_)))))
  obtain⟨aa,ah,hb⟩:=bd hb
  refine RL.bU 0 hw zr zr iY ah (RL.kl (f:=(fun x=>x)) 0 hw (jA 0 hw ah 0) (bI ah).2.1 Fd.self iw fun az hw=>?_)
  refine RL.alloc hw oc.z fun ar w hw=>?_
  refine RL.cB 0 hw 1 zr iw fun w hw=>?_
  refine RL.ns (mv ad (RL.fR 3 j hw l4 (RL.fQ (j.length:Int) 1 (aQ (vi (IntKind.wrap .i64 ((j.length:Int) - 1))) (RL.nq ?_)))))
  obtain⟨ai,hj,hb⟩:=bd hb
  refine RC.jn (fun(ai:Bool)=>SH E Γ [(0,v0),(3,ad),(5,vp ar 0),(6,(vi (IntKind.wrap .i64 ((j.length:Int) - 1)))),(9,v0),(10,vi ab.length),(11,vi ae),(28,vb ai)] [own 59 v0 ab,own 3 ad j,bx 59 ar aa]) ai ?_ ?_
  ·refine RC.yI mixed ?_
   have hw:=hw.drew
   refine RO.go (mv (vi (IntKind.wrap .i64 ((j.length:Int) - 1))) (RO.nx (ic ((IntKind.wrap .i64 ((j.length:Int) - 1))) 0 (RO.nx (mv (vb (decide ((IntKind.wrap .i64 ((j.length:Int) - 1))>=0))) (fB hj (fun o hj=>?_) fun o hj=>?_))))))
   rotate_left
   ·refine RO.nx (bJ o (RO.nx (bJ o (RO.nx (bJ o (RO.nx (bJ o (RO.nx ?_))))))))
    refine bJ o (RO.nx (bJ o (RO.nx (bJ o (RO.nx (fG o (vb false) (RO.last ?_)))))))
    obtain rfl:=oi hj
    exact⟨rfl,hw.sp 4 [2,3,0]⟩
   refine RO.nx (RL.aX (hg:=(cg o)) zr g9 (RO.nx (RL.aM (hg:=(cg o)) 0 hw zr dL cJ (RO.nx (RL.move ad (cg o) (RO.nx (RL.move (vi (IntKind.wrap .i64 ((j.length:Int) - 1))) (cg o) (RO.nx ?_))))))))
   obtain⟨au,aj,hj⟩:=bd hj
   refine RL.bU (hg:=(cg o)) 3 hw zr zr eB aj (RO.nx (RL.dO (hg:=(cg o)) (f:=(fun x=>x)) 3 hw (jA 3 hw aj 0) (bI aj).2.1 Fd.self cJ (RO.nx (RL.kL aa.X0 au (cg o) (RO.nx (fG o (vb (decide (aa.X0<=au))) (RO.last ?_)))))))
   obtain rfl:=oi hj
   exact⟨rfl,hw.sp 4 [2,3,0]⟩
  rintro _ w ⟨τ,rfl,hw⟩
  refine aH ?_
  obtain⟨ak,hj,hb⟩:=bd hb
  refine RC.jn (fun(ak: (List Int)) σ w=>∃ag:Value,SH E Γ [(0,v0),(3,ag),(9,v0),(10,vi ab.length),(11,vi ae)] [own 59 v0 ab,own 3 ag ak] σ w) ak ?_ ?_
  ·refine dT hj (fun hc hj=>?_) fun hc hj=>?_
   rotate_left
   ·refine RC.region (mv ad (RL.aX zr g9 (RL.aM 2 hw zr dL cJ (RL.aX zr iZ (RL.aM 2 hw zr eC cJ ?_)))))
    have hw:=(hw.sc Int aa.X0).sc Int aa.X1
    refine RL.dW ([aa.X0,aa.X1]: (List Int)) hw [(vi aa.X0),(vi aa.X1)] eB Ch (fun M hs g=>⟨(g.sat 1 _ zr).1,⟨(g.sat 0 _ zr).1,zt⟩⟩) fun a0 w hw=>?_
    have hw:=hw.freeze 0
    obtain⟨a1,ay,hj⟩:=bd hj
    refine RL.app 4 0 hw qF ay fun av w hw=>?_
    refine aQ av (RL.nil ?_)
    obtain rfl:=oi hj
    exact⟨rfl,av,hw.sp 6 [3,4]⟩
   refine RC.vH mixed [0,0,0,0,0,0,0,0,0,0,2] [0,1,2,3,4,5,6,7,8,9,10] ?_
   have hw:=hw.drew
   refine DP.e0 zr (mv ad (aZ zr (mv (vi (IntKind.wrap .i64 ((j.length:Int) - 1))) (aZ zr (mv ad (aZ zr (mv (vi (IntKind.wrap .i64 ((j.length:Int) - 1))) (aZ zr ?_))))))))
   obtain⟨al,an,hj⟩:=bd hj
   refine RL.bU 1 hw zr zr eB an (aZ zr (RL.dO (f:=(fun x=>x)) 1 hw (jA 1 hw an 0) (bI an).2.1 Fd.self cJ (aZ zr (RL.aX zr iZ (aZ zr (RL.aM 2 hw zr eC cJ (aZ zr (RL.max al aa.X1 ?_))))))))
   refine aZ zr ?_
   obtain⟨a2,ao,hj⟩:=bd hj
   refine RL.bU 1 hw zr zr eB ao (pz zr ?_)
   have hw:=hw.sc Int (if al<aa.X1 then aa.X1 else al)
   refine RL.gx (f:=(fun _ y=>y)) 2 0 hw (jA 2 hw ao 0) (bI ao).2.1 zr Fs.self cJ fun w hw=>?_
   refine DP.d2 zt (DP.z ?_)
   obtain rfl:=oi hj
   exact⟨rfl,ad,hw.sp 4 [1,2]⟩
  rintro _ w ⟨ag,τ,rfl,hw⟩
  refine bO (aH (RC.region (RL.inc hk hm (mv (vi ((ae+1:Nat):Int)) (RL.nil ?_)))))
  obtain rfl:=oi hb
  exact⟨rfl,ag,hw.sp 2 [0,1]⟩
 rintro _ w ⟨af,τ,rfl,hw⟩
 refine aH (RC.sr (mv af (aQ af (RL.nt (RC.ret ?_)))))
 obtain rfl:=oi hb
 exact bX (hw.pk 2 [1,0])
def vR (E:World) (Γ:List HP) (r:Bool) (σ:Nat->Value) (w:World):Prop:=lZ bM 26 Tryz.f9 (aV E Γ r) .ret σ w
theorem pA {p0: (List Int)} {p1: (List Int)} {res:Bool} (hw:Holds E w Γ) (h0:Γ[i0]? =some (rd v0 p0)) (h1:Γ[i1]? =some (rd v1 p1)) (hb:kO N p0 p1=some res):
    Calls bM 9 [v0,v1].toArray w (gL (aV E Γ res)):=by
 unfold kO at hb
 refine enter Tryz.func9 zr zr ?_
 have hw:=(hw.dup (i0+0) h0).dup (i1+1) h1
 refine RC.sr (aQ (vb false) (RL.nq (RC.sr (mv v0 (RL.bC 1 p0 hw l4 (mv v1 (RL.bC 0 p1 hw l4 (ic ((p0.length:Int)) ((p1.length:Int)) ?_))))))))
 refine RL.nt (dT hb (fun hc hb=>?_) fun hc hb=>?_)
 ·refine RC.sr (aQ (vb false) (RL.nt (RC.rt ?_)))
  obtain rfl:=oi hb
  exact bX ⟨rfl,hw.drop 2⟩
 refine RC.ss (RC.sr (mv v0 (RL.bC 1 p0 hw l4 (mv (vi 0) (RL.nt ?_)))))
 obtain⟨af,hN,hb⟩:=bd hb
 refine RC.range (fun(j:Nat) (o:Unit)=>SH E Γ [(0,v0),(1,v1),(12,vi p0.length),(13,vi j)] [rd v0 p0,rd v1 p1]) (fun(o:Unit)=>SH E Γ [] [rd v0 p0,rd v1 p1]) (vR E Γ) hN ?_ ?_ ?_ ?_ ?_
 ·exact hw.sp 2 [1,0]
 ·rintro hm o _ w ⟨τ,rfl,hw⟩
  refine RC.sr (ic ((p0.length:Int)) ((p0.length:Int)) (RL.nq (RC.fV tN (RC.ex ?_))))
  exact⟨rfl,hw.sp 2 [0,1]⟩
 ·rintro hm j o fl _ w hk ⟨τ,rfl,hw⟩ hb
  refine RC.sr (ic ((j:Int)) ((p0.length:Int)) (RL.nq (RC.fU (tM hk) (RC.ss (RC.bs (mv (vi j) (aQ (vi j) (RL.nq ?_))))))))
  refine RC.yI mixed ?_
  have hw:=hw.drew
  refine RO.go (mv v0 (RO.nx (mv (vi j) (RO.nx ?_))))
  obtain⟨aa,ad,hb⟩:=bd hb
  refine RL.bN 0 hw eB ad fun ag hw=>(RO.nx (RL.bF aa 0 hw cJ (RO.nx (mv v1 (RO.nx (mv (vi j) (RO.nx ?_)))))))
  obtain⟨ab,ae,hb⟩:=bd hb
  refine RL.bN 2 hw eB ae fun ah hw=>(RO.nx (RL.bF ab 0 hw cJ (RO.nx (ic aa ab (RO.last (aH (dT hb (fun hc hb=>?_) fun hc hb=>?_)))))))
  rotate_left
  ·refine RC.skip (bO (aH (RC.region (RL.inc hk hm (mv (vi ((j+1:Nat):Int)) (RL.nil ?_))))))
   obtain rfl:=oi hb
   exact⟨rfl,hw.sp 4 [2,3]⟩
  refine RC.sr (aQ (vb false) (RL.nt (RC.rb (bS ?_))))
  obtain rfl:=oi hb
  exact⟨rfl,bX ⟨rfl,hw.drop 4⟩⟩
 ·intro r σ w e hK
  subst e
  refine bS ?_
  obtain rfl:=oi hb
  exact hK
 rintro o _ w rfl ⟨τ,rfl,hw⟩
 rw [Fo.dF] at hb
 refine aH (RC.sr (aQ (vb true) (RL.nt (RC.ret ?_))))
 obtain rfl:=oi hb
 exact bX ⟨rfl,hw.drop 2⟩
theorem qU {p0: (List aA)} {p1:aA} {res: (List aA)} (hw:Holds E w (own 119 v0 p0::Γ)) (h1:Γ[i1]? =some (rd v1 p1)) (hb:jh N p0 p1=some res):
    Calls bM 74 [v0,v1].toArray w (gL (mK E Γ res)):=by
 unfold jh at hb
 refine enter Tryz.func74 zr zr ?_
 have hw:=hw.dup (i1+1) h1
 refine RC.sr (RL.dJ 0 v1 hw zr fun aa w hw=>?_)
 refine aQ (.slice none 0 0) (RL.nq (RC.sr (RL.aX zr lU (RL.bE 0 hw zr dZ fA fun aq hw=>(RL.bC 0 p1.Xs hw l4 (ic ((p1.Xs.length:Int)) 0 (mv (vb ((p1.Xs.length:Int)==0)) (RL.gs true ((p1.Xs.length:Int)==0) (vp aa 1) zr zr zr (dY nn) ?_))))))))
 refine RL.gs true ((p1.Xs.length:Int)==0) (vi p1.Y1) rfl rfl rfl (bZ 1 rfl hw (fun h=>by exact(cI h:cv (true&&(((p1.Xs.length:Int)==0)==false)) (vp aa 1)= (vp aa 1))) rfl fC cJ) (RL.gs true ((p1.Xs.length:Int)==0) (vp aa 0) rfl rfl rfl (dY pF) (RL.gs true ((p1.Xs.length:Int)==0) (vi p1.Y0) rfl rfl rfl (bZ 1 rfl hw (fun h=>by exact(cI h:cv (true&&(((p1.Xs.length:Int)==0)==false)) (vp aa 0)= (vp aa 0))) rfl gV cJ) (RL.gs true ((p1.Xs.length:Int)==0) (vb (decide (p1.Y1<=p1.Y0))) rfl rfl rfl (dI .leq .i64 p1.Y1 p1.Y0 rfl (fun h=>by exact(cI h:cv (true&&(((p1.Xs.length:Int)==0)==false)) (vi p1.Y1)= (vi p1.Y1))) (fun h=>by exact(cI h:cv (true&&(((p1.Xs.length:Int)==0)==false)) (vi p1.Y0)= (vi p1.Y0))) rfl) (RL.pick ((p1.Xs.length:Int)==0) (vb (((p1.Xs.length:Int)==0)||(decide (p1.Y1<=p1.Y0)))) (nD true) (RL.nt (dT hb (fun hc hb=>?_) fun hc hb=>?_))))))
 ·refine RC.sr (mv v0 (aQ v0 (RL.nt (RC.rt ?_))))
  obtain rfl:=oi hb
  exact bX (hw.pk 4 [3])
 refine RC.ss (RC.sr (mv v0 (RL.fR 3 p0 hw u4 (RL.fQ (p0.length:Int) 1 (aQ (vi (IntKind.wrap .i64 ((p0.length:Int) - 1))) (RL.nq ?_))))))
 obtain⟨af,hj,hb⟩:=bd hb
 refine RC.jn (fun(af:Bool)=>SH E Γ [(0,v0),(3,vp aa 0),(5,(vi (IntKind.wrap .i64 ((p0.length:Int) - 1)))),(42,vb af)] [own 119 v0 p0,bx 119 aa p1]) af ?_ ?_
 ·refine RC.vH mixed [0,0,0,0,0,0,0,0,0,0,0,0,0,0,0,0,0,0,0,0,2,0] [0,1,2,3,4,5,6,7,8,9,10,11,12,13,14,15,16,17,18,19,20,21] ?_
  have hw:=hw.drew
  refine DP.e0 zr (mv (vi (IntKind.wrap .i64 ((p0.length:Int) - 1))) (aZ zr (ic ((IntKind.wrap .i64 ((p0.length:Int) - 1))) 0 (aZ zr (mv (vb (decide ((IntKind.wrap .i64 ((p0.length:Int) - 1))>=0))) (DP.d0 (fB hj (fun j hj=>?_) fun j hj=>?_)))))))
  rotate_left
  ·refine DP.e0 zr (bJ j (aZ zr (bJ j (aZ zr (bJ j (aZ zr (bJ j (aZ zr ?_))))))))
   refine bJ j (aZ zr (bJ j (aZ zr (bJ j (aZ zr (bJ j (aZ zr (fG j (vb false) ?_))))))))
   refine aZ zr (mv (vb false) (aZ zr (j7 (aZ zr (j7 (aZ zr (j7 (aZ zr ?_))))))))
   refine j7 (aZ zr (j7 (aZ zr (j7 (aZ zr (j7 (pz zr (j7 ?_))))))))
   refine tw zr (RL.pick false (vb false) zr (DP.d0 (DP.z ?_)))
   obtain rfl:=oi hj
   exact⟨rfl,hw.sp 4 [3,1]⟩
  refine DP.e0 zr (RL.move v0 (cg j) (aZ zr (RL.move (vi (IntKind.wrap .i64 ((p0.length:Int) - 1))) (cg j) (aZ zr ?_))))
  obtain⟨ag,ab,hj⟩:=bd hj
  refine RL.bU (hg:=(cg j)) 3 hw zr zr o8 ab (aZ zr (RL.kM (α:=aA) (cg j) (jA 3 hw ab 0) nn (aZ zr (RL.dO (hg:=(cg j)) 3 hw (jA 3 hw ab 1) (bI ab).2.1 fC cJ (aZ zr (RL.aX (hg:=(cg j)) zr pF (aZ zr (RL.aM (hg:=(cg j)) 1 hw zr gV cJ ?_))))))))
  refine aZ zr (RL.kL ag.Y1 p1.Y0 (cg j) (aZ zr (fG j (vb (ag.Y1==p1.Y0)) (aZ zr (mv (vb (ag.Y1==p1.Y0)) (DP.d0 (fB hj (fun o hj=>?_) fun o hj=>?_)))))))
  rotate_left
  ·refine DP.e0 zr (bJ o (aZ zr (bJ o (aZ zr (bJ o (aZ zr (bJ o (aZ zr ?_))))))))
   refine bJ o (aZ zr (bJ o (aZ zr (bJ o (pz zr (bJ o (tw zr (fG o (vb false) ?_))))))))
   refine DP.d0 (DP.z ?_)
   obtain rfl:=oi hj
   exact⟨rfl,hw.sp 4 [3,1]⟩
  refine DP.e0 zr (RL.move v0 (cg o) (aZ zr (RL.move (vi (IntKind.wrap .i64 ((p0.length:Int) - 1))) (cg o) (aZ zr ?_))))
  obtain⟨ar,ad,hj⟩:=bd hj
  refine RL.bU (hg:=(cg o)) 3 hw zr zr o8 ad (aZ zr (RL.kM (α:=aA) (cg o) (jA 3 hw ad 0) lU (aZ zr (RL.kl (hg:=(cg o)) 3 hw (jA 3 hw ad 2) (bI ad).2.1 dZ fA fun ah hw=>?_))))
  refine aZ zr (RL.aX (hg:=(cg o)) zr lU (aZ zr (RL.bE (hg:=(cg o)) 2 hw zr dZ fA fun ai hw=>(pz zr ?_))))
  obtain⟨aj,ak,hj⟩:=bd hj
  refine RL.call (cg o) zr ME [ah,ai] zr (aD (pA N (i0:=1) (i1:=0) hw zr zr ak) ?_)
  rintro _ w ⟨rfl,hw⟩
  refine tw zr (fG o (vb aj) (DP.d0 (DP.z ?_)))
  obtain rfl:=oi hj
  exact⟨rfl,hw.sp 6 [5,3]⟩
 rintro _ w ⟨τ,rfl,hw⟩
 refine aH (dT hb (fun hc hb=>?_) fun hc hb=>?_)
 rotate_left
 ·refine RC.sx (mv v0 (RL.bE (f:=(fun x=>x)) 1 hw zr Fd.self wL fun al hw=>(RL.dW ([p1]: (List aA)) hw [al] o8 CX (fun M hs g=>⟨(g.sat 0 _ zr).1,zt⟩) fun au w hw=>?_)))
  have hw:=hw.freeze 0
  obtain⟨av,an,hb⟩:=bd hb
  refine RL.app 2 0 hw Ly an fun ao w hw=>?_
  refine aQ ao (RL.nt (RC.ret ?_))
  obtain rfl:=oi hb
  exact bX (hw.pk 4 [2])
 refine RC.sr (mv v0 (mv (vi (IntKind.wrap .i64 ((p0.length:Int) - 1))) (RL.aX zr nn (RL.aM 1 hw zr fC cJ ?_))))
 obtain⟨aw,ae,hb⟩:=bd hb
 refine RL.bU 0 hw zr zr o8 ae (RL.kM (α:=aA) zt (jA 0 hw ae 0) nn ?_)
 have hw:=hw.sc Int p1.Y1
 refine RL.gx 1 0 hw (jA 1 hw ae 1) (bI ae).2.1 zr o7 cJ fun w hw=>?_
 refine RL.ns (mv v0 (aQ v0 (RL.nt (RC.rt ?_))))
 obtain rfl:=oi hb
 exact bX (hw.pk 3 [1])
theorem mh {p0: (List aI)} {res: (List aA)} (hw:Holds E w Γ) (h0:Γ[i0]? =some (rd v0 p0)) (hb:ij N p0=some res):
    Calls bM 35 [v0].toArray w (gL (mK E Γ res)):=by
 unfold ij at hb
 refine enter Tryz.func35 zr zr ?_
 have hw:=hw.dup (i0+0) h0
 refine RC.sr (aQ (.slice none 0 0) (RL.ns (mv v0 ?_)))
 obtain⟨b6,bf,hb⟩:=bd hb
 refine RL.call zt zr Lq [v0] zr (aD (t7 N (i0:=0) hw zr bf) ?_)
 rintro ab w hw
 refine aQ ab (RL.ns (mv ab ?_))
 obtain⟨af,bg,hb⟩:=bd hb
 have hw:=hw.pull 0
 refine RL.call zt zr JU [ab,(.func (.func 69) #[] #[])] zr (aD (EJ Tryz.lay68 aI zr iw.Ii iw.sz Lr (fun hw hi hj hr=>wP N hw hi hj hr) hw bg) ?_)
 rintro _ w ⟨rfl,hw⟩
 refine RL.ns (RL.tT zr hw JV zr fun ae w hw=>?_)
 refine RL.nq (RC.sr (mv ab (RL.fR 1 af hw mS (mv (vi 0) (RL.nt ?_)))))
 obtain⟨ak,hN,hb⟩:=bd hb
 refine RC.fold (fun(aq:Nat) (ak: (List Int)) σ w=>∃a1:Value,SH E Γ [(0,ab),(3,vp ae 0),(14,ab),(15,vi af.length),(16,vi aq)] [own 59 ab af,bc 31 ae [a1],own 3 a1 ak] σ w) (fun(ak: (List Int)) σ w=>∃aj:Value,SH E Γ [(0,ab),(3,vp ae 0)] [own 59 ab af,bc 31 ae [aj],own 3 aj ak] σ w) hN ?_ ?_ ?_ ?_
 ·have hw:=hw.cX Int 3
  exact⟨(.slice none 0 0),hw.sp 5 [2,1,0]⟩
 ·rintro hm ak _ w ⟨bh,τ,rfl,hw⟩
  refine RC.sr (ic ((af.length:Int)) ((af.length:Int)) (RL.nq (RC.fV tN (RC.ex ?_))))
  exact⟨rfl,bh,hw.sp 3 [0,1,2]⟩
 ·rintro hm aq ak s' _ w hk ⟨bj,τ,rfl,hw⟩ hb
  refine RC.sr (ic ((aq:Int)) ((af.length:Int)) (RL.nq (RC.fU (tM hk) (RC.ss (RC.bs ?_)))))
  obtain⟨al,ax,hb⟩:=bd hb
  refine RL.bU 0 hw zr zr iY ax (RL.kl (f:=(fun x=>x)) 0 hw (jA 0 hw ax 0) (bI ax).2.1 Fd.self iw fun b7 hw=>?_)
  refine RL.alloc hw oc.z fun b8 w hw=>?_
  refine RL.cB 0 hw 1 zr iw fun w hw=>?_
  refine RL.nt (RC.region (RL.bH 3 bj hw fA (RL.aX zr gR (RL.aM 0 hw zr dG cJ (RL.aX zr ka (RL.aM 0 hw zr fo cJ ?_))))))
  have hw:=(hw.sc Int al.Y0).sc Int al.Y1
  refine RL.dW ([al.Y0,al.Y1]: (List Int)) hw [(vi al.Y0),(vi al.Y1)] eB Ch (fun M hs g=>⟨(g.sat 1 _ zr).1,⟨(g.sat 0 _ zr).1,zt⟩⟩) fun b9 w hw=>?_
  have hw:=hw.freeze 0
  obtain⟨ca,bk,hb⟩:=bd hb
  refine RL.app 7 0 hw qF bk fun a2 w hw=>?_
  refine RL.ig 6 a2 hw zr zr (iD 7 hw) fA fun w hw=>?_
  refine RL.nil (bO (aH (RC.region (RL.inc hk hm (mv (vi ((aq+1:Nat):Int)) (RL.nil ?_))))))
  obtain rfl:=oi hb
  exact⟨rfl,a2,hw.sp 8 [5,6,7]⟩
 rintro _ w ⟨aj,τ,rfl,hw⟩
 refine aH (RC.sr (RL.bH 1 aj hw fA ?_))
 obtain⟨cb,bl,hb⟩:=bd hb
 have hw:=hw.pull 2
 refine RL.call zt zr Ls [aj] zr (aD (Gs Tryz.lay70 hw bl) ?_)
 rintro _ w ⟨rfl,hw⟩
 refine RL.ns (RL.bH 2 aj hw fA ?_)
 have hw:=hw.pull 0
 obtain⟨ag,bm,hb⟩:=bd hb
 refine RL.call zt zr Lt [aj] zr (aD (tA N hw bm) ?_)
 rintro bn w hw
 refine RL.ig 3 bn hw zr zr (iD 0 hw) fA fun w hw=>?_
 refine RL.ns (aQ (.slice none 0 0) (RL.ns (aQ (.slice none 0 0) (RL.ns (aQ (vi 0) (RL.nq (RC.sr (RL.alloc hw Ch.z fun bo w hw=>?_))))))))
 have hw:=hw.sc Int 0
 refine RL.cB 1 hw 0 zr cJ fun w hw=>?_
 refine RL.nt ?_
 have hw:=((((hw.freeze 2).Gj (i:=5) (x:=ag) rfl (fun M hs g=>(q7 (g.sat 2 _ rfl).1))).lE (i:=5) rfl).cX aA 119).cX aI 59
 obtain⟨cc,hN,hb⟩:=bd hb
 refine RC.iter (fun(o: (List aA)×(List aI)×Int×Int) σ w=>∃(a3 a4:Value) (a5:Nat),SH E Γ [(0,ab),(3,vp ae 0),(6,a3),(7,a4),(8,vi o.2.2.1),(9,vp a5 0)] [own 59 ab af,pt (vp ae 0) ag,own 119 a3 o.1,own 59 a4 o.2.1,bx 3 a5 o.2.2.2] σ w) (fun(o: (List aA)×(List aI)×Int×Int) σ w=>∃ao:Value,SH E Γ [(6,ao)] [own 59 ab af,pt (vp ae 0) ag,own 119 ao o.1] σ w) (fun(r:Empty) _ _=>r.elim) hN ?_ ?_ ?_ ?_
 ·exact⟨(.slice none 0 0),(.slice none 0 0),bo,hw.sp 9 [6,7,1,0,3]⟩
 ·rintro o fl _ w ⟨ah,a6,ai,τ,rfl,hw⟩ hb
  refine RC.seq (RC.sr (RL.aM (f:=(fun x=>x)) 4 hw zr Fd.self cJ (RL.fQ o.2.2.2 1 (RL.bL 1 ag hw fA fun cd hw=>(RL.bC 0 ag hw l4 (ic ((IntKind.wrap .i64 (o.2.2.2+1))) ((ag.length:Int)) (RL.nt (dT hb (fun hc hb=>?_) fun hc hb=>?_))))))))
  rotate_left
  ·refine RC.ex ?_
   obtain rfl:=oi hb
   exact⟨rfl,ah,hw.sp 6 [1,2,3]⟩
  refine RC.ss (RC.bs (mv a6 ?_))
  have hw:=hw.lE (i:=5) rfl
  refine RL.makeFunc zt zr [(vp ae 0),(vp ai 0)] zr ?_
  have hw:=hw.pull 4
  obtain⟨cf,bp,hb⟩:=bd hb
  refine RL.call trivial rfl Lw [a6,(.func (.func 73) #[] #[(vp ae 0),(vp ai 0)])] rfl (aD (qG N hw ⟨73,[(vp ae 0),(vp ai 0)],rfl,Lv,fun w Γl v y0 r i hw hi hr=>by exact aD (wQ N (i0:=i) (i1:=Γl.length+2) (i2:=Γl.length+5) hw hi (Bw rfl) (Bw rfl) hr) fun _ _ h=>h⟩ bp) ?_)
  rintro a7 w hw
  refine aQ a7 (RL.nq ?_)
  obtain⟨ch,hN,hb⟩:=bd hb
  refine RC.iter (fun(ad: (List aI)×Int) σ w=>∃a8:Value,SH E Γ [(0,ab),(3,vp ae 0),(6,ah),(7,a8),(8,vi ad.2),(9,vp ai 0)] [own 59 ab af,pt (vp ae 0) ag,own 119 ah o.1,pt (vp ai 0) o.2.2.2,own 59 a8 ad.1] σ w) (fun(ad: (List aI)×Int) σ w=>∃an:Value,SH E Γ [(0,ab),(3,vp ae 0),(6,ah),(7,an),(8,vi ad.2),(9,vp ai 0)] [own 59 ab af,pt (vp ae 0) ag,own 119 ah o.1,pt (vp ai 0) o.2.2.2,own 59 an ad.1] σ w) (fun(r:Empty) _ _=>r.elim) hN ?_ ?_ ?_ ?_
  ·exact⟨a7,hw.sp 7 [2,3,4,6,0]⟩
  ·rintro ad fl _ w ⟨ar,τ,rfl,hw⟩ hb
   refine RC.seq (RC.seq ?_)
   obtain⟨ay,hj,hb⟩:=bd hb
   refine RC.jn (fun(ay:Bool)=>SH E Γ [(0,ab),(3,vp ae 0),(6,ah),(7,ar),(8,vi ad.2),(9,vp ai 0),(57,vb ay)] [own 59 ab af,pt (vp ae 0) ag,own 119 ah o.1,own 59 ar ad.1,pt (vp ai 0) o.2.2.2]) ay ?_ ?_
   ·refine RC.yI mixed ?_
    have hw:=hw.drew
    refine RO.go (mv (vi ad.2) (RO.nx (mv ab (RO.nx (RL.fR 0 af hw mS (RO.nx (ic ad.2 ((af.length:Int)) (RO.nx ?_))))))))
    refine mv (vb (decide (ad.2< (af.length:Int)))) (fB hj (fun aa hj=>?_) fun aa hj=>?_)
    rotate_left
    ·refine RO.nx (bJ aa (RO.nx (bJ aa (RO.nx (bJ aa (RO.nx (bJ aa (RO.nx ?_))))))))
     refine bJ aa (RO.nx (bJ aa (RO.nx (bJ aa (RO.nx (bJ aa (RO.nx (bJ aa ?_))))))))
     refine RO.nx (bJ aa (RO.nx (fG aa (vb false) (RO.last ?_))))
     obtain rfl:=oi hj
     exact⟨rfl,hw.sp 5 [0,1,2,4,3]⟩
    refine RO.nx (RL.move ab (cg aa) (RO.nx (RL.move (vi ad.2) (cg aa) (RO.nx ?_))))
    obtain⟨a9,au,hj⟩:=bd hj
    refine RL.bU (hg:=(cg aa)) 0 hw zr zr iY au (RO.nx (RL.kM (α:=aI) (cg aa) (jA 0 hw au 0) gR (RO.nx (RL.dO (hg:=(cg aa)) 0 hw (jA 0 hw au 1) (bI au).2.1 dG cJ (RO.nx (RL.bL (hg:=(cg aa)) 1 ag hw fA fun cj hw=>?_))))))
    refine RO.nx (RL.bF (hg:=(cg aa)) o.2.2.2 4 hw cJ (RO.nx ?_))
    obtain⟨az,bq,hj⟩:=bd hj
    refine RL.bN (hg:=(cg aa)) 0 hw eB bq fun ck hw=>(RO.nx (RL.bF (hg:=(cg aa)) az 0 hw cJ (RO.nx (RL.kL a9.Y0 az (cg aa) (RO.nx (fG aa (vb (decide (a9.Y0<=az))) (RO.last ?_)))))))
    obtain rfl:=oi hj
    exact⟨rfl,hw.sp 7 [2,3,4,6,5]⟩
   rintro _ w ⟨τ,rfl,hw⟩
   refine aH (dT hb (fun hc hb=>?_) fun hc hb=>?_)
   rotate_left
   ·refine RC.ex ?_
    obtain rfl:=oi hb
    exact⟨rfl,ar,hw.sp 5 [0,1,2,4,3]⟩
   refine RC.sn (RC.block (RC.region (mv ar (mv ab (mv (vi ad.2) ?_)))))
   obtain⟨br,a0,hb⟩:=bd hb
   refine RL.bU 0 hw zr zr iY a0 (RL.kl (f:=(fun x=>x)) 0 hw (jA 0 hw a0 0) (bI a0).2.1 Fd.self iw fun bt hw=>?_)
   refine RL.dW ([br]: (List aI)) hw [bt] iY oc (fun M hs g=>⟨(g.sat 0 _ zr).1,zt⟩) fun cl w hw=>?_
   have hw:=hw.freeze 0
   obtain⟨cm,bu,hb⟩:=bd hb
   refine RL.app 5 0 hw zi bu fun ba w hw=>?_
   refine mv (vi ad.2) (RL.fQ ad.2 1 (aQ ba (aQ (vi (IntKind.wrap .i64 (ad.2+1))) (RL.nil (bO ?_)))))
   obtain rfl:=oi hb
   exact⟨rfl,ba,hw.sp 7 [2,3,4,6,5]⟩
  ·intro r _ _ _ _
   exact r.elim
  rintro ad _ w rfl ⟨an,τ,rfl,hw⟩
  rw [Fo.dF] at hb
  refine aH (RC.vH mixed [1,1,1,1,1,1,1,1,1,1,0,2,0,2,0] [0,1,2,3,4,5,6,7,8,9,10,11,12,13,14] ?_)
  have hw:=hw.drew
  refine DP.e1 ah zr (fun w=>RL.move ah zt DP.d1) (DP.yJ ag 1 zr zt hw fA fun cn a305 cp hw=>(DP.qR o.2.2.2 5 zr hw cJ fun a307 cq hw=>?_))
  obtain⟨av,bw,hb⟩:=bd hb
  refine DP.vI 2 zr hw eB bw fun cr hw=>(DP.qR av 0 zr hw cJ fun a311 ct hw=>(DP.yJ ag 6 zr zt hw fA fun cu a314 cv hw=>(DP.qR o.2.2.2 10 zr hw cJ fun a316 cw hw=>(DP.e1 (vi (IntKind.wrap .i64 (o.2.2.2+1))) zr (fun w=>RL.fQ o.2.2.2 1 DP.d1) ?_))))
  obtain⟨aw,bz,hb⟩:=bd hb
  refine DP.vI 2 zr hw eB bz fun cx hw=>(DP.qR aw 0 zr hw cJ fun a320 cy hw=>(DP.e0 zr (mv an (pz zr ?_))))
  have hw:=hw.pull 14
  obtain⟨b0,b1,hb⟩:=bd hb
  refine RL.call zt zr Lx [an] zr (aD (vQ N hw b1) ?_)
  rintro b2 w hw
  refine DP.d2 (⟨⟨⟨⟨⟨⟨zt,hw.g8 10⟩,hw.g8 9⟩,hw.g8 7⟩,hw.g8 5⟩,hw.g8 4⟩,hw.g8 2⟩) (DP.e0 zr ?_)
  have hw:=((hw.sc Int av).sc Int aw).freeze 2
  refine RL.build (⟨av,aw,b0.1⟩:aA) trivial rfl hw [(0,vi av),(1,vi aw),(2,b2)] rfl Iq rfl (fun M hs g=>by have h:=wJ M;exact cT.cons (f:=fun(x:aA) y=>{x with Y0:=y}) h tm (g.sat 1 _ rfl).1 fun _ h=>cT.cons (f:=fun(x:aA) y=>{x with Y1:=y}) h o7 (g.sat 0 _ rfl).1 fun _ h=>cT.cons (f:=fun(x:aA) y=>{x with Xs:=y}) h tn (g.sat 2 _ rfl).1 fun _ h=>cT.nil h) fun b3 hw=>?_
  refine pz zr ?_
  have hw:=hw.pull 17
  obtain⟨cz,b4,hb⟩:=bd hb
  refine RL.call zt zr JZ [ah,b3] zr (aD (qU N (i1:=0) hw zr b4) ?_)
  rintro bb w hw
  refine DP.d2 (⟨⟨⟨⟨⟨⟨zt,hw.g8 14⟩,hw.g8 13⟩,hw.g8 11⟩,hw.g8 9⟩,hw.g8 8⟩,hw.g8 6⟩) (DP.e0 zr (aQ bb (DP.d0 ?_)))
  have hw:=hw.pl 21 [0,1,2,3,4,5,7,10,12,15,16,17,18,19,20]
  refine DP.z (bO (aH (RC.seq (RC.sr (RL.bF o.2.2.2 13 hw cJ (RL.nt (RC.region (RL.alloc hw Ch.z fun b5 w hw=>?_))))))))
  have hw:=hw.sc Int o.2.2.2
  refine RL.cB 1 hw 0 zr cJ fun w hw=>?_
  refine RL.nt (RC.region (RL.aM (f:=(fun x=>x)) 1 hw zr Fd.self cJ (RL.fQ o.2.2.2 1 ?_)))
  have hw:=hw.sc Int (IntKind.wrap .i64 (o.2.2.2+1))
  refine RL.Ga (i:=2) (j:=0) zt hw zr zr zr zr cJ fun w hw=>?_
  refine RL.nil ?_
  obtain rfl:=oi hb
  exact⟨rfl,bb,an,b5,hw.sp 18 [13,14,3,8,2]⟩
 ·intro r _ _ _ _
  exact r.elim
 rintro o _ w rfl ⟨ao,τ,rfl,hw⟩
 rw [Fo.dF] at hb
 refine aH (RC.sr (mv ao (aQ ao (RL.nt (RC.ret ?_)))))
 obtain rfl:=oi hb
 exact bX (hw.pk 3 [2])
theorem nz {p0: (List aA)} {res: (List aI)} (hw:Holds E w Γ) (h0:Γ[i0]? =some (rd v0 p0)) (hb:jC N p0=some res):
    Calls bM 39 [v0].toArray w (gL (fH E Γ res)):=by
 unfold jC at hb
 refine enter Tryz.func39 zr zr ?_
 have hw:=hw.dup (i0+0) h0
 refine RC.sr (aQ (.slice none 0 0) (RL.ns (aQ (.slice none 0 0) (RL.nq (RC.sr (mv v0 (RL.bC 0 p0 hw u4 (mv (vi 0) ?_))))))))
 refine RL.nt ?_
 obtain⟨aa,hN,hb⟩:=bd hb
 refine RC.fold (fun(ab:Nat) (aa: (List aI)) σ w=>∃aj:Value,SH E Γ [(3,aj),(7,v0),(8,vi p0.length),(9,vi ab)] [rd v0 p0,own 59 aj aa] σ w) (fun(aa: (List aI)) σ w=>∃ad:Value,SH E Γ [(3,ad)] [rd v0 p0,own 59 ad aa] σ w) hN ?_ ?_ ?_ ?_
 ·have hw:=hw.cX aI 59
  exact⟨(.slice none 0 0),hw.sp 2 [1,0]⟩
 ·rintro hm aa _ w ⟨an,τ,rfl,hw⟩
  refine RC.sr (ic ((p0.length:Int)) ((p0.length:Int)) (RL.nq (RC.fV tN (RC.ex ?_))))
  exact⟨rfl,an,hw.sp 2 [0,1]⟩
 ·rintro hm ab aa s' _ w hk ⟨ao,τ,rfl,hw⟩ hb
  refine RC.sr (ic ((ab:Int)) ((p0.length:Int)) (RL.nq (RC.fU (tM hk) (RC.ss (RC.bs ?_)))))
  obtain⟨o,aq,hb⟩:=bd hb
  refine RL.bN 0 hw o8 aq fun ax hw=>(RL.bL 0 o hw wL fun ay hw=>(RL.alloc hw CX.z fun ah w hw=>?_))
  refine RL.cB 0 hw 1 zr wL fun w hw=>?_
  refine RL.ns (aQ (vi 0) (RL.nt ?_))
  obtain⟨az,hN,hb⟩:=bd hb
  refine RC.iter (fun(j: (List aI)×Int) σ w=>∃ak:Value,SH E Γ [(3,ak),(5,vp ah 0),(6,vi j.2),(7,v0),(8,vi p0.length),(9,vi ab)] [bx 119 ah o,rd v0 p0,own 59 ak j.1] σ w) (fun(j: (List aI)×Int) σ w=>∃ag:Value,SH E Γ [(3,ag),(7,v0),(8,vi p0.length),(9,vi ab)] [bx 119 ah o,rd v0 p0,own 59 ag j.1] σ w) (fun(r:Empty) _ _=>r.elim) hN ?_ ?_ ?_ ?_
  ·exact⟨ao,hw.sp 5 [0,3,4]⟩
  ·rintro j fl _ w ⟨ai,τ,rfl,hw⟩ hb
   refine RC.seq (RC.sr (mv (vi j.2) (RL.aX zr lU (RL.bE 0 hw zr dZ fA fun a0 hw=>(RL.bC 0 o.Xs hw l4 (ic j.2 ((o.Xs.length:Int)) (RL.nt (dT hb (fun hc hb=>?_) fun hc hb=>?_))))))))
   rotate_left
   ·refine RC.ex ?_
    obtain rfl:=oi hb
    exact⟨rfl,ai,hw.sp 4 [1,2,3]⟩
   refine RC.ss (RC.block (RC.vH mixed [1,0,0,0,0,0,0,0,0,0,0,0,0,0,0,0,0,2,2,0] [0,1,2,3,4,5,6,7,8,9,10,11,12,13,14,15,16,17,18,19] ?_))
   have hw:=hw.drew
   refine DP.e1 ai zr (fun w=>RL.move ai zt DP.d1) (DP.e0 zr (RL.aX zr lU (aZ zr (RL.bE 1 hw zr dZ fA fun a1 hw=>(aZ zr (mv (vi j.2) (aZ zr ?_)))))))
   obtain⟨ae,ar,hb⟩:=bd hb
   refine RL.bN 0 hw eB ar fun a2 hw=>(aZ zr (RL.bF ae 0 hw cJ (aZ zr (RL.aX zr pF (aZ zr (RL.aM 3 hw zr gV cJ (aZ zr (RL.aX zr lU ?_))))))))
   refine aZ zr (RL.bE 3 hw zr dZ fA fun a3 hw=>(aZ zr (mv (vi j.2) (aZ zr (RL.fQ j.2 1 (aZ zr ?_))))))
   obtain⟨af,au,hb⟩:=bd hb
   refine RL.bN 0 hw eB au fun a4 hw=>(aZ zr (RL.bF af 0 hw cJ (aZ zr (RL.aX zr nn (aZ zr (RL.aM 5 hw zr fC cJ (aZ zr ?_)))))))
   have hw:=(((hw.sc Int ae).sc Int o.Y0).sc Int af).sc Int o.Y1
   refine RL.build (⟨ae,o.Y0,af,o.Y1⟩:aI) trivial rfl hw [(0,vi ae),(1,vi o.Y0),(2,vi af),(3,vi o.Y1)] rfl CY rfl (fun M hs g=>by have h:=sK M;exact cT.cons (f:=fun(x:aI) y=>{x with X0:=y}) h oA (g.sat 3 _ rfl).1 fun _ h=>cT.cons (f:=fun(x:aI) y=>{x with Y0:=y}) h pU (g.sat 2 _ rfl).1 fun _ h=>cT.cons (f:=fun(x:aI) y=>{x with X1:=y}) h oC (g.sat 1 _ rfl).1 fun _ h=>cT.cons (f:=fun(x:aI) y=>{x with Y1:=y}) h pV (g.sat 0 _ rfl).1 fun _ h=>cT.nil h) fun av hw=>?_
   refine pz zr (RL.dW ([(⟨ae,o.Y0,af,o.Y1⟩:aI)]: (List aI)) hw [av] iY oc (fun M hs g=>⟨(g.sat 0 _ zr).1,zt⟩) fun a5 w hw=>(EM zr ?_))
   have hw:=hw.freeze 0
   obtain⟨a6,aw,hb⟩:=bd hb
   refine RL.app 13 0 hw zi aw fun al w hw=>?_
   refine tw zr (aQ al (DP.d0 (DP.z (bO (aH (RC.region (mv (vi j.2) (RL.fQ j.2 2 ?_))))))))
   refine aQ (vi (IntKind.wrap .i64 (j.2+2))) (RL.nil ?_)
   obtain rfl:=oi hb
   exact⟨rfl,al,hw.sp 14 [11,12,13]⟩
  ·intro r _ _ _ _
   exact r.elim
  rintro j _ w rfl ⟨ag,τ,rfl,hw⟩
  rw [Fo.dF] at hb
  refine bO (aH (RC.region (RL.inc hk hm (mv (vi ((ab+1:Nat):Int)) (RL.nil ?_)))))
  obtain rfl:=oi hb
  exact⟨rfl,ag,hw.sp 3 [1,2]⟩
 rintro _ w ⟨ad,τ,rfl,hw⟩
 refine aH (RC.sr (mv ad (aQ ad (RL.nt (RC.ret ?_)))))
 obtain rfl:=oi hb
 exact bX (hw.pk 2 [1])
def va (E:World) (Γ:List HP) (r:Bool) (σ:Nat->Value) (w:World):Prop:=lZ bM 26 Tryz.f38 (aV E Γ r) .ret σ w
theorem t9 {p0: (List aI)} {p1: (List aI)} {res:Bool} (hw:Holds E w Γ) (h0:Γ[i0]? =some (rd v0 p0)) (h1:Γ[i1]? =some (rd v1 p1)) (hb:km N p0 p1=some res):
    Calls bM 38 [v0,v1].toArray w (gL (aV E Γ res)):=by
 unfold km at hb
 refine enter Tryz.func38 zr zr ?_
 have hw:=(hw.dup (i0+0) h0).dup (i1+1) h1
 refine RC.sr (aQ (vb false) (RL.nq (RC.sr (mv v0 (RL.bC 1 p0 hw mS (mv v1 (RL.bC 0 p1 hw mS (ic ((p0.length:Int)) ((p1.length:Int)) ?_))))))))
 refine RL.nt (dT hb (fun hc hb=>?_) fun hc hb=>?_)
 ·refine RC.sr (aQ (vb false) (RL.nt (RC.rt ?_)))
  obtain rfl:=oi hb
  exact bX ⟨rfl,hw.drop 2⟩
 refine RC.ss (RC.sr (mv v0 (RL.bC 1 p0 hw mS (mv (vi 0) (RL.nt ?_)))))
 obtain⟨af,hN,hb⟩:=bd hb
 refine RC.range (fun(j:Nat) (o:Unit)=>SH E Γ [(0,v0),(1,v1),(12,vi p0.length),(13,vi j)] [rd v0 p0,rd v1 p1]) (fun(o:Unit)=>SH E Γ [] [rd v0 p0,rd v1 p1]) (va E Γ) hN ?_ ?_ ?_ ?_ ?_
 ·exact hw.sp 2 [1,0]
 ·rintro hm o _ w ⟨τ,rfl,hw⟩
  refine RC.sr (ic ((p0.length:Int)) ((p0.length:Int)) (RL.nq (RC.fV tN (RC.ex ?_))))
  exact⟨rfl,hw.sp 2 [0,1]⟩
 ·rintro hm j o fl _ w hk ⟨τ,rfl,hw⟩ hb
  refine RC.sr (ic ((j:Int)) ((p0.length:Int)) (RL.nq (RC.fU (tM hk) (RC.ss (RC.bs (mv (vi j) (aQ (vi j) (RL.nq ?_))))))))
  refine RC.yI mixed ?_
  have hw:=hw.drew
  refine RO.go (mv v0 (RO.nx (mv (vi j) (RO.nx ?_))))
  obtain⟨aa,ad,hb⟩:=bd hb
  refine RL.bN 0 hw iY ad fun ag hw=>(RO.nx (RL.bL 0 aa hw iw fun ah hw=>(RO.nx (mv v1 (RO.nx (mv (vi j) (RO.nx ?_)))))))
  obtain⟨ab,ae,hb⟩:=bd hb
  refine RL.bN 3 hw iY ae fun ai hw=>(RO.nx (RL.bL 0 ab hw iw fun aj hw=>(RO.nx (RL.Li 2 0 aa ab zr hw zr zr zr zr Gx zr (RO.last (aH (dT hb (fun hc hb=>?_) fun hc hb=>?_)))))))
  rotate_left
  ·refine RC.skip (bO (aH (RC.region (RL.inc hk hm (mv (vi ((j+1:Nat):Int)) (RL.nil ?_))))))
   obtain rfl:=oi hb
   exact⟨rfl,hw.sp 6 [4,5]⟩
  refine RC.sr (aQ (vb false) (RL.nt (RC.rb (bS ?_))))
  obtain rfl:=oi hb
  exact⟨rfl,bX ⟨rfl,hw.drop 6⟩⟩
 ·intro r σ w e hK
  subst e
  refine bS ?_
  obtain rfl:=oi hb
  exact hK
 rintro o _ w rfl ⟨τ,rfl,hw⟩
 rw [Fo.dF] at hb
 refine aH (RC.sr (aQ (vb true) (RL.nt (RC.ret ?_))))
 obtain rfl:=oi hb
 exact bX ⟨rfl,hw.drop 2⟩
def vc (E:World) (Γ:List HP) (r:Int) (σ:Nat->Value) (w:World):Prop:=lZ bM 52 Tryz.f17 (aW E Γ r) .ret σ w
theorem oS {p0: (List aI)} (hw:Holds E w Γ) (h0:Γ[i0]? =some (rd v0 p0)) (hb:ju N p0=some res):
    Calls bM 17 [v0].toArray w (gL (aW E Γ res)):=by
 unfold ju at hb
 refine enter Tryz.func17 zr zr ?_
 have hw:=hw.dup (i0+0) h0
 refine RC.sr (aQ (vi 0) (RL.nq (RC.sr (mv v0 ?_))))
 obtain⟨ai,al,hb⟩:=bd hb
 refine RL.call zt zr Lp [v0] zr (aD (u9 N (i0:=0) hw zr al) ?_)
 rintro _ w ⟨rfl,hw⟩
 refine aQ (vi ai) (RL.ns (mv (vi ai) (ic ai 0 (RL.nt (dT hb (fun hc hb=>?_) fun hc hb=>?_)))))
 ·refine RC.sr (mv (vi ai) (aQ (vi ai) (RL.nt (RC.rt ?_))))
  obtain rfl:=oi hb
  exact bX ⟨rfl,hw.drop 1⟩
 refine RC.ss (RC.sr (aQ (vi 1) (RL.nt ?_)))
 obtain⟨a3,hN,hb⟩:=bd hb
 refine RC.iter (fun(ah:Int)=>SH E Γ [(0,v0),(4,vi ah)] [rd v0 p0]) (fun(ah:Int)=>SH E Γ [(0,v0)] [rd v0 p0]) (vc E Γ) hN ?_ ?_ ?_ ?_
 ·exact hw.sp 1 [0]
 ·rintro ah fl _ w ⟨τ,rfl,hw⟩ hb
  refine RC.seq (RC.sr (mv (vi ah) (mv v0 (RL.bC 0 p0 hw mS (ic ah ((p0.length:Int)) (RL.nt (dT hb (fun hc hb=>?_) fun hc hb=>?_)))))))
  rotate_left
  ·refine RC.ex ?_
   obtain rfl:=oi hb
   exact⟨rfl,hw.sp 1 [0]⟩
  refine RC.ss (RC.block (RC.seq ?_))
  obtain⟨j,an,hb⟩:=bd hb
  obtain⟨o,ao,hb⟩:=bd hb
  refine RC.Fi E Γ mixed [1,1,1,0,0,1,1,0,0,0,0,0,0] [3,4,7,8,9,10,11,12] (fun(x:Value×Value×Value×Value×Nat×Nat)=>(fun ad ae af ag aa ab=>[(0,18,v0),(1,19,(vi ah)),(2,20,(vi (IntKind.wrap .i64 (ah - 1)))),(3,21,ad),(4,22,ae),(5,23,v0),(6,24,(vi ah)),(7,25,af),(8,26,ag),(9,5,(vp aa 0)),(10,6,(vp ab 0))]) x.1 x.2.1 x.2.2.1 x.2.2.2.1 x.2.2.2.2.1 x.2.2.2.2.2) [(0,v0),(4,vi ah)] [] (fun(D:Nat->Bool) (x:Value×Value×Value×Value×Nat×Nat)=>(fun ad ae af ag aa ab=>[bif D 0 then (pt ad j) else bB,bif D 1 then (rd ae j) else bB,bif D 2 then (pt af o) else bB,bif D 3 then (rd ag o) else bB,bif D 6 then (bx 59 aa j) else (bif D 4 then (raw 59 aa 4) else bB),bif D 7 then (bx 59 ab o) else (bif D 5 then (raw 59 ab 4) else bB),rd v0 p0]) x.1 x.2.1 x.2.2.1 x.2.2.2.1 x.2.2.2.2.1 x.2.2.2.2.2) (fun x=>by kernel_rfl) ?_ ⟨fun _=>jq gn,fun _=>jq gn,fun _=>I2 gn rfl,?_,?_,fun _=>jq gn,fun _=>jq gn,?_,?_,?_,?_,?_,?_,trivial⟩ ?_
  ·have hw:=((((((hw.drew).bB).bB).bB).bB).bB).bB
   exact⟨(undef,undef,undef,undef,0,0),gw.none,(D5 zr),zt,hw⟩
  ·rintro D σ w hD hdep hcl ⟨⟨ad,ae,af,ag,aa,ab⟩,hv,ha,_,hw⟩
   obtain⟨τ,rfl⟩:=(ac (hv.at 0 rfl (hdep.1 rfl)) (ac (hv.at 2 rfl (hdep.2.1 rfl)) az)).fq
   have hw:=hw.cA 0 hD
   refine RL.bN 6 hw iY an fun aq hw=>?_
   have hw:=(hw.pl 8 [0,2,3,4,5,6,7]).cQ 0 true rfl bB
   exact RL.nil ⟨rfl,(aq,ae,af,ag,aa,ab),hv.put 3 zr zr,ha.up zr,zt,hw⟩
  ·rintro D σ w hD hdep hcl ⟨⟨ad,ae,af,ag,aa,ab⟩,hv,ha,_,hw⟩
   obtain⟨τ,rfl⟩:=(ac (hv.at 3 rfl (hdep.1 rfl)) az).fq
   have hw:=(hw.cP 0 (hdep.1 rfl)).cA 1 hD
   refine RL.bL 0 j hw iw fun ar hw=>?_
   have hw:=((hw.pl 8 [1,0,3,4,5,6,7]).cQ 0 (D 3) (hdep.1 rfl) bB).cQ 1 true rfl bB
   exact RL.nil ⟨rfl,(ad,ar,af,ag,aa,ab),hv.put 4 zr zr,ha.up zr,zt,hw⟩
  ·rintro D σ w hD hdep hcl ⟨⟨ad,ae,af,ag,aa,ab⟩,hv,ha,_,hw⟩
   obtain⟨τ,rfl⟩:=(ac (hv.at 5 rfl (hdep.1 rfl)) (ac (hv.at 6 rfl (hdep.2.1 rfl)) az)).fq
   have hw:=hw.cA 2 hD
   refine RL.bN 6 hw iY ao fun au hw=>?_
   have hw:=(hw.pl 8 [1,2,0,4,5,6,7]).cQ 2 true rfl bB
   exact RL.nil ⟨rfl,(ad,ae,au,ag,aa,ab),hv.put 7 zr zr,ha.up zr,zt,hw⟩
  ·rintro D σ w hD hdep hcl ⟨⟨ad,ae,af,ag,aa,ab⟩,hv,ha,_,hw⟩
   obtain⟨τ,rfl⟩:=(ac (hv.at 7 rfl (hdep.1 rfl)) az).fq
   have hw:=(hw.cP 2 (hdep.1 rfl)).cA 3 hD
   refine RL.bL 2 o hw iw fun av hw=>?_
   have hw:=((hw.pl 8 [1,2,3,0,5,6,7]).cQ 2 (D 7) (hdep.1 rfl) bB).cQ 3 true rfl bB
   exact RL.nil ⟨rfl,(ad,ae,af,av,aa,ab),hv.put 8 zr zr,ha.up zr,zt,hw⟩
  ·rintro D σ w hD hdep hcl ⟨⟨ad,ae,af,ag,aa,ab⟩,hv,ha,_,hw⟩
   obtain⟨τ,rfl⟩:=(az (σ:=σ)).fq
   have hw:=(hw.cA 4 (nf (fun h=>ft hD ((hcl 11 _ rfl h).1 rfl)))).cA 4 hD
   refine RL.alloc hw oc.z fun aj w hw=>?_
   have hw:=((hw.pl 8 [1,2,3,4,0,6,7]).cQ 4 true rfl bB).eV 4 (D 11) (nf (fun h=>ft hD ((hcl 11 _ rfl h).1 rfl))) (bx 59 aj j)
   exact RL.nil ⟨rfl,(ad,ae,af,ag,aj,ab),hv.put 9 zr zr,ha.up zr,zt,hw⟩
  ·rintro D σ w hD hdep hcl ⟨⟨ad,ae,af,ag,aa,ab⟩,hv,ha,_,hw⟩
   obtain⟨τ,rfl⟩:=(az (σ:=σ)).fq
   have hw:=(hw.cA 5 (nf (fun h=>ft hD ((hcl 12 _ rfl h).1 rfl)))).cA 5 hD
   refine RL.alloc hw oc.z fun ak w hw=>?_
   have hw:=((hw.pl 8 [1,2,3,4,5,0,7]).cQ 5 true rfl bB).eV 5 (D 12) (nf (fun h=>ft hD ((hcl 12 _ rfl h).1 rfl))) (bx 59 ak o)
   exact RL.nil ⟨rfl,(ad,ae,af,ag,aa,ak),hv.put 10 zr zr,ha.up zr,zt,hw⟩
  ·rintro D σ w hD hdep hcl ⟨⟨ad,ae,af,ag,aa,ab⟩,hv,ha,_,hw⟩
   obtain⟨τ,rfl⟩:=(ac (hv.at 4 rfl (hdep.2.1 rfl)) (ac (hv.at 9 rfl (hdep.1 rfl)) az)).fq
   have hw:=((hw.cP 1 (hdep.2.1 rfl)).cA 4 hD).cP 4 (hdep.1 rfl)
   refine RL.cB 4 hw 1 zr iw fun w hw=>?_
   have hw:=(hw.cQ 1 (D 4) (hdep.2.1 rfl) bB).cQ 4 true rfl (bif D 9 then (raw 59 aa 4) else bB)
   exact RL.nil ⟨rfl,(ad,ae,af,ag,aa,ab),hv.no zr,ha,zt,hw⟩
  ·rintro D σ w hD hdep hcl ⟨⟨ad,ae,af,ag,aa,ab⟩,hv,ha,_,hw⟩
   obtain⟨τ,rfl⟩:=(ac (hv.at 8 rfl (hdep.2.1 rfl)) (ac (hv.at 10 rfl (hdep.1 rfl)) az)).fq
   have hw:=((hw.cP 3 (hdep.2.1 rfl)).cA 5 hD).cP 5 (hdep.1 rfl)
   refine RL.cB 5 hw 3 zr iw fun w hw=>?_
   have hw:=(hw.cQ 3 (D 8) (hdep.2.1 rfl) bB).cQ 5 true rfl (bif D 10 then (raw 59 ab 4) else bB)
   exact RL.nil ⟨rfl,(ad,ae,af,ag,aa,ab),hv.no zr,ha,zt,hw⟩
  rintro D σ w hall ⟨⟨ad,ae,af,ag,aa,ab⟩,hv,ha,_,hw⟩
  have hw:=hw.cP 0 (hall 3 (by decide))
  have hw:=hw.cP 1 (hall 4 (by decide))
  have hw:=hw.cP 2 (hall 7 (by decide))
  have hw:=hw.cP 3 (hall 8 (by decide))
  have hw:=hw.cP 4 (hall 11 (by decide))
  have hw:=hw.cP 5 (hall 12 (by decide))
  obtain⟨τ,rfl⟩:=(ac (hv.at 9 rfl (hall 9 (by decide))) (ac (hv.at 10 rfl (hall 10 (by decide))) (ac (ha.at 0 rfl) (ac (ha.at 1 rfl) az)))).fq
  refine aH (RC.sr (RL.aX zr gR (RL.aM 5 hw zr dG cJ (RL.aX zr gR (RL.aM 4 hw zr dG cJ (ic o.Y0 j.Y0 (mv (vb (decide (o.Y0<j.Y0))) (RL.gs true (decide (o.Y0<j.Y0)) (vp ab 1) zr zr zr (dY gR) ?_))))))))
  refine RL.gs true (decide (o.Y0<j.Y0)) (vi o.Y0) rfl rfl rfl (bZ 5 rfl hw (fun h=>by exact(cI h:cv (true&&((decide (o.Y0<j.Y0))==false)) (vp ab 1)= (vp ab 1))) rfl dG cJ) (RL.gs true (decide (o.Y0<j.Y0)) (vp aa 1) rfl rfl rfl (dY gR) (RL.gs true (decide (o.Y0<j.Y0)) (vi j.Y0) rfl rfl rfl (bZ 4 rfl hw (fun h=>by exact(cI h:cv (true&&((decide (o.Y0<j.Y0))==false)) (vp aa 1)= (vp aa 1))) rfl dG cJ) (RL.gs true (decide (o.Y0<j.Y0)) (vb (o.Y0==j.Y0)) rfl rfl rfl (dI .eql .i64 o.Y0 j.Y0 rfl (fun h=>by exact(cI h:cv (true&&((decide (o.Y0<j.Y0))==false)) (vi o.Y0)= (vi o.Y0))) (fun h=>by exact(cI h:cv (true&&((decide (o.Y0<j.Y0))==false)) (vi j.Y0)= (vi j.Y0))) rfl) (RL.gs true (decide (o.Y0<j.Y0)) (vb (o.Y0==j.Y0)) rfl rfl rfl (cF (hx:=fun h=>by exact(cI h:cv (true&&((decide (o.Y0<j.Y0))==false)) (vb (o.Y0==j.Y0))= (vb (o.Y0==j.Y0))))) (RL.gs (true&&((decide (o.Y0<j.Y0))==false)) (o.Y0==j.Y0) (vp ab 0) rfl rfl rfl (dY g9) (RL.gs (true&&((decide (o.Y0<j.Y0))==false)) (o.Y0==j.Y0) (vi o.X0) rfl rfl rfl (bZ 5 rfl hw (fun h=>by exact(cI h:cv ((true&&((decide (o.Y0<j.Y0))==false))&&((o.Y0==j.Y0)==true)) (vp ab 0)= (vp ab 0))) rfl dL cJ) (RL.gs (true&&((decide (o.Y0<j.Y0))==false)) (o.Y0==j.Y0) (vp aa 0) rfl rfl rfl (dY g9) (RL.gs (true&&((decide (o.Y0<j.Y0))==false)) (o.Y0==j.Y0) (vi j.X0) rfl rfl rfl (bZ 4 rfl hw (fun h=>by exact(cI h:cv ((true&&((decide (o.Y0<j.Y0))==false))&&((o.Y0==j.Y0)==true)) (vp aa 0)= (vp aa 0))) rfl dL cJ) ?_))))))))
  refine RL.gs (true&&((decide (o.Y0<j.Y0))==false)) (o.Y0==j.Y0) (vb (decide (o.X0<=j.X0))) rfl rfl rfl (dI .leq .i64 o.X0 j.X0 rfl (fun h=>by exact(cI h:cv ((true&&((decide (o.Y0<j.Y0))==false))&&((o.Y0==j.Y0)==true)) (vi o.X0)= (vi o.X0))) (fun h=>by exact(cI h:cv ((true&&((decide (o.Y0<j.Y0))==false))&&((o.Y0==j.Y0)==true)) (vi j.X0)= (vi j.X0))) rfl) (RL.gs true (decide (o.Y0<j.Y0)) (vb ((o.Y0==j.Y0)&&(decide (o.X0<=j.X0)))) rfl rfl rfl (kj (o.Y0==j.Y0) rfl (fun h=>by exact(cI h:cv (true&&((decide (o.Y0<j.Y0))==false)) (vb (o.Y0==j.Y0))= (vb (o.Y0==j.Y0)))) (fun h=>by exact fZ (true&&((decide (o.Y0<j.Y0))==false)) h)) (RL.pick (decide (o.Y0<j.Y0)) (vb ((decide (o.Y0<j.Y0))||((o.Y0==j.Y0)&&(decide (o.X0<=j.X0))))) (nD true) (RL.nt (dT hb (fun hc hb=>?_) fun hc hb=>?_))))
  ·refine RC.sr (aQ (vi 8) (RL.nt (RC.rb (bS ?_))))
   obtain rfl:=oi hb
   exact⟨rfl,bX ⟨rfl,hw.drop 7⟩⟩
  refine RC.skip (bO (aH (RC.region (mv (vi ah) (RL.fQ ah 1 (aQ (vi (IntKind.wrap .i64 (ah+1))) (RL.nil ?_)))))))
  obtain rfl:=oi hb
  exact⟨rfl,hw.sp 7 [6]⟩
 ·intro r σ w e hK
  subst e
  refine bS ?_
  obtain rfl:=oi hb
  exact hK
 rintro ah _ w rfl ⟨τ,rfl,hw⟩
 rw [Fo.dF] at hb
 refine aH (RC.seq (RC.sr (mv v0 ?_)))
 obtain⟨a4,aw,hb⟩:=bd hb
 refine RL.call zt zr Gw [v0] zr (aD (mh N (i0:=0) hw zr aw) ?_)
 rintro ax w hw
 have hw:=hw.freeze 0
 obtain⟨a5,ay,hb⟩:=bd hb
 refine RL.call zt zr I5 [ax] zr (aD (nz N (i0:=0) hw zr ay) ?_)
 rintro a0 w hw
 refine mv v0 ?_
 have hw:=hw.freeze 0
 obtain⟨a1,a2,hb⟩:=bd hb
 refine RL.call zt zr Lz [a0,v0] zr (aD (t9 N (i0:=0) (i1:=2) hw zr zr a2) ?_)
 rintro _ w ⟨rfl,hw⟩
 refine RL.not a1 (RL.nt (dT hb (fun hc hb=>?_) fun hc hb=>?_))
 ·refine RC.sr (aQ (vi 3) (RL.nt (RC.rt ?_)))
  obtain rfl:=oi hb
  exact bX ⟨rfl,hw.drop 3⟩
 refine RC.sx (aQ (vi 0) (RL.nt (RC.ret ?_)))
 obtain rfl:=oi hb
 exact bX ⟨rfl,hw.drop 3⟩
theorem jN {res:Bool} (hw:Holds E w Γ) (hb:fg N p0 p1 p2=some res):
    Calls bM 12 [(vi p0),(vi p1),(vi p2)].toArray w (gL (aV E Γ res)):=by
 unfold fg at hb
 refine enter Tryz.func12 zr zr (RC.sr (aQ (vb false) (RL.ns (mv (vi p0) (mv (vi p1) (ic p0 p1 (mv (vb (decide (p0>=p1))) (RL.gs true (decide (p0>=p1)) (vi p0) zr zr zr cF ?_))))))))
 refine RL.gs true (decide (p0>=p1)) (vi p2) rfl rfl rfl cF (RL.gs true (decide (p0>=p1)) (vb (decide (p0<=p2))) rfl rfl rfl (dI .leq .i64 p0 p2 rfl (fun h=>by exact(cI h:cv (true&&((decide (p0>=p1))==true)) (vi p0)= (vi p0))) (fun h=>by exact(cI h:cv (true&&((decide (p0>=p1))==true)) (vi p2)= (vi p2))) rfl) (RL.pick (decide (p0>=p1)) (vb ((decide (p0>=p1))&&(decide (p0<=p2)))) (fZ true rfl) (aQ (vb ((decide (p0>=p1))&&(decide (p0<=p2)))) (RL.nt (RC.ret ?_)))))
 obtain rfl:=oi hb
 exact bX ⟨rfl,hw.drop 0⟩
theorem rM {p0:jc} {res:Bool} (hw:Holds E w Γ) (h0:Γ[i0]? =some (rd v0 p0)) (hb:jK N p0=some res):
    Calls bM 34 [v0].toArray w (gL (aV E Γ res)):=by
 unfold jK at hb
 refine enter Tryz.func34 zr zr ?_
 have hw:=hw.dup (i0+0) h0
 refine RC.sr (RL.dJ 0 v0 hw zr fun af w hw=>?_)
 refine aQ (vb false) (RL.nq ?_)
 obtain⟨o,hj,hb⟩:=bd hb
 refine RC.jn (fun(o:Bool)=>SH E Γ [(2,vb o)] []) o ?_ ?_
 ·refine RC.region (RL.aX zr vJ (RL.aM 0 hw zr nv cJ ?_))
  obtain⟨ab,ad,hj⟩:=bd hj
  refine RL.call zt zr Fp [(vi p0.X)] zr (aD (lK N (p0:=p0.X) hw ad) ?_)
  rintro _ w ⟨rfl,hw⟩
  refine mv (vb ab) (fB hj (fun j hj=>?_) fun j hj=>?_)
  rotate_left
  ·refine bJ j (bJ j (bJ j (fG j (vb false) (aQ (vb false) (RL.nil ?_)))))
   obtain rfl:=oi hj
   exact⟨rfl,hw.sp 2 []⟩
  refine RL.aX (hg:=(cg j)) zr vK (RL.aM (hg:=(cg j)) 0 hw zr ny cJ ?_)
  obtain⟨aa,ae,hj⟩:=bd hj
  refine RL.call (cg j) zr Fp [(vi p0.Y)] zr (aD (lK N (p0:=p0.Y) hw ae) ?_)
  rintro _ w ⟨rfl,hw⟩
  refine fG j (vb aa) (aQ (vb aa) (RL.nil ?_))
  obtain rfl:=oi hj
  exact⟨rfl,hw.sp 2 []⟩
 rintro _ w ⟨τ,rfl,hw⟩
 refine aH (RC.ret ?_)
 obtain rfl:=oi hb
 exact bX ⟨rfl,hw.drop 0⟩
end Go.Gk
