/-
  Printed texts: Go functions as plain functions, and that they are. No statement of the seed is proved here.
-/
import Derived.Test.YtllecmpemokbfaaGreatDoorProg
import Derived.Test.YtllecmpemokbfaaGreatDoorE1
import Derived.Test.YtllecmpemokbfaaGreatDoorA1
import Derived.Test.YtllecmpemokbfaaGreatDoorA2
import Derived.Test.YtllecmpemokbfaaGreatDoorRows
import Derived.Shelf.SlGeneric
import Derived.Ground.SlsfProg
import Derived.Ground.SlgmProg
set_option linter.unusedVariables false
set_option linter.unusedSimpArgs false
set_option linter.unusedSectionVars false
set_option maxRecDepth 100000
set_option maxHeartbeats 4000000
namespace Go.Gk
open Go Go.Proofs
noncomputable abbrev bD:=Tryz.prog
def mX (x:aG):=(x.X0,x.Y0,x.X1,x.Y1)
instance instGTRect:GT aG:=GT.via mX
instance instKVRect:KV aG:=instKVvia (fun(x:aG)=>(x.X0,x.Y0,x.X1,x.Y1))
theorem dM:Fd 0 (fun x:aG=>x.X0):= .v mX (.fst .self)
theorem ot:Fs 0 Int (fun(x:aG) y=>{x with X0:=y}):= .v mX (.fst .self)
theorem dG:Fd 1 (fun x:aG=>x.Y0):= .v mX (.snd (.fst .self))
theorem pK:Fs 1 Int (fun(x:aG) y=>{x with Y0:=y}):= .v mX (.snd (.fst .self))
theorem eG:Fd 2 (fun x:aG=>x.X1):= .v mX (.snd (.snd (.fst .self)))
theorem ou:Fs 2 Int (fun(x:aG) y=>{x with X1:=y}):= .v mX (.snd (.snd (.fst .self)))
theorem fV:Fd 3 (fun x:aG=>x.Y1):= .v mX (.snd (.snd (.snd (.self))))
theorem pL:Fs 3 Int (fun(x:aG) y=>{x with Y1:=y}):= .v mX (.snd (.snd (.snd (.self))))
def rh (x:jy):=(x.X,x.Y)
instance instGTPoint:GT jy:=GT.via rh
instance instKVPoint:KV jy:=instKVvia (fun(x:jy)=>(x.X,x.Y))
theorem ov:Fd 0 (fun x:jy=>x.X):= .v rh (.fst .self)
theorem ox:Fd 1 (fun x:jy=>x.Y):= .v rh (.snd (.self))
def oK (x:bJ):=(x.At,x.cZ,x.cH,x.To,x.kx)
instance instGTBore:GT bJ:=GT.via oK
theorem pM:Fd 0 (fun x:bJ=>x.At):= .v oK (.fst .self)
theorem lJ:Fd 2 (fun x:bJ=>x.cZ):= .v oK (.snd (.fst .self))
theorem E5:Fs 2 Int (fun(x:bJ) y=>{x with cZ:=y}):= .v oK (.snd (.fst .self))
theorem j8:Fd 3 (fun x:bJ=>x.cH):= .v oK (.snd (.snd (.fst .self)))
theorem lK:Fd 4 (fun x:bJ=>x.To):= .v oK (.snd (.snd (.snd (.fst .self))))
theorem xt:Fd 5 (fun x:bJ=>x.kx):= .v oK (.snd (.snd (.snd (.snd (.self)))))
def ri (x:cU):=(x.Part,x.ik,x.eU,x.At)
instance instGTLand:GT cU:=GT.via ri
theorem oy:Fd 0 (fun x:cU=>x.Part):= .v ri (.fst .self)
theorem rj:Fd 1 (fun x:cU=>x.ik):= .v ri (.snd (.fst .self))
theorem uk:Fd 2 (fun x:cU=>x.eU):= .v ri (.snd (.snd (.fst .self)))
theorem um:Fd 3 (fun x:cU=>x.At):= .v ri (.snd (.snd (.snd (.self))))
def wi (x:fu):=(x.aI,x.bZ,x.aR,x.bI)
instance instGTArt:GT fu:=GT.via wi
theorem dX:Fd 0 (fun x:fu=>x.aI):= .v wi (.fst .self)
theorem nV:Fd 1 (fun x:fu=>x.bZ):= .v wi (.snd (.fst .self))
theorem hU:Fd 2 (fun x:fu=>x.aR):= .v wi (.snd (.snd (.fst .self)))
theorem lC:Fd 3 (fun x:fu=>x.bI):= .v wi (.snd (.snd (.snd (.self))))
def jM (x:aA):=(x.Y0,x.Y1,x.Xs)
instance instGTshape_Band:GT aA:=GT.via jM
theorem gO:Fd 0 (fun x:aA=>x.Y0):= .v jM (.fst .self)
theorem sY:Fs 0 Int (fun(x:aA) y=>{x with Y0:=y}):= .v jM (.fst .self)
theorem fF:Fd 1 (fun x:aA=>x.Y1):= .v jM (.snd (.fst .self))
theorem oY:Fs 1 Int (fun(x:aA) y=>{x with Y1:=y}):= .v jM (.snd (.fst .self))
theorem dR:Fd 2 (fun x:aA=>x.Xs):= .v jM (.snd (.snd (.self)))
theorem sZ:Fs 2 (List Int) (fun(x:aA) y=>{x with Xs:=y}):= .v jM (.snd (.snd (.self)))
def wj (x:ik):=(x.Part,x.ik)
instance instGTPin:GT ik:=GT.via wj
instance instKVPin:KV ik:=instKVvia (fun(x:ik)=>(x.Part,x.ik))
theorem Cs:Fd 0 (fun x:ik=>x.Part):= .v wj (.fst .self)
theorem Gc:Fs 0 dY (fun(x:ik) y=>{x with Part:=y}):= .v wj (.fst .self)
theorem Ct:Fd 1 (fun x:ik=>x.ik):= .v wj (.snd (.self))
theorem Gd:Fs 1 dY (fun(x:ik) y=>{x with ik:=y}):= .v wj (.snd (.self))
def jB (x:aN):=(x.eU,x.Set,x.pj)
instance instGTcopper_Piece:GT aN:=GT.via jB
theorem qA:Fd 0 (fun x:aN=>x.eU):= .v jB (.fst .self)
theorem wk:Fs 0 Int (fun(x:aN) y=>{x with eU:=y}):= .v jB (.fst .self)
theorem wm:Fs 1 (List aA) (fun(x:aN) y=>{x with Set:=y}):= .v jB (.snd (.fst .self))
theorem qB:Fd 2 (fun x:aN=>x.pj):= .v jB (.snd (.snd (.self)))
theorem wo:Fs 2 (List aG) (fun(x:aN) y=>{x with pj:=y}):= .v jB (.snd (.snd (.self)))
def E6 (x:eB):=(x.oW,x.aR,x.j4)
instance instGTGroup:GT eB:=GT.via E6
def wq (x:lT):=(x.bJ,x.Number)
instance instGTHop:GT lT:=GT.via wq
instance instKVHop:KV lT:=instKVvia (fun(x:lT)=>(x.bJ,x.Number))
theorem Ge:Fd 0 (fun x:lT=>x.bJ):= .v wq (.fst .self)
theorem Gf:Fs 0 Bool (fun(x:lT) y=>{x with bJ:=y}):= .v wq (.fst .self)
theorem Cu:Fd 1 (fun x:lT=>x.Number):= .v wq (.snd (.self))
theorem Cv:Fs 1 Int (fun(x:lT) y=>{x with Number:=y}):= .v wq (.snd (.self))
def gl (x:aF):=(x.from_,x.to)
instance instGTetchhouseref1_span:GT aF:=GT.via gl
instance instKVetchhouseref1_span:KV aF:=instKVvia (fun(x:aF)=>(x.from_,x.to))
theorem dT:Fd 0 (fun x:aF=>x.from_):= .v gl (.fst .self)
theorem kP:Fs 0 Int (fun(x:aF) y=>{x with from_:=y}):= .v gl (.fst .self)
theorem dU:Fd 1 (fun x:aF=>x.to):= .v gl (.snd (.self))
theorem kQ:Fs 1 Int (fun(x:aF) y=>{x with to:=y}):= .v gl (.snd (.self))
def fA (x:aK):=(x.from_,x.to,x.iK)
instance instGTetchhouseref1_band:GT aK:=GT.via fA
theorem nB:Fd 0 (fun x:aK=>x.from_):= .v fA (.fst .self)
theorem nC:Fs 0 Int (fun(x:aK) y=>{x with from_:=y}):= .v fA (.fst .self)
theorem kR:Fd 1 (fun x:aK=>x.to):= .v fA (.snd (.fst .self))
theorem kS:Fs 1 Int (fun(x:aK) y=>{x with to:=y}):= .v fA (.snd (.fst .self))
theorem fW:Fd 2 (fun x:aK=>x.iK):= .v fA (.snd (.snd (.self)))
theorem nD:Fs 2 (List aF) (fun(x:aK) y=>{x with iK:=y}):= .v fA (.snd (.snd (.self)))
theorem Hz (M:dZ):GT.ok M (#[(.int .i64 0),(.int .i64 0)]:Array Value).toList (⟨0,0⟩:jy):=⟨[(.int .i64 0)],[(.int .i64 0)],rfl,(show GT.ok M [(.int .i64 0)] (0:Int) from rfl),(show GT.ok M [(.int .i64 0)] (0:Int) from rfl)⟩
theorem IP (M:dZ):GT.ok M (#[(.int .i64 0),(.int .i64 0),(.int .i64 0),(.int .i64 0),(.int .i64 0),(.bool false)]:Array Value).toList (⟨⟨0,0⟩,0,0,0,false⟩:bJ):=⟨[(.int .i64 0),(.int .i64 0)],[(.int .i64 0),(.int .i64 0),(.int .i64 0),(.bool false)],rfl,(show GT.ok M [(.int .i64 0),(.int .i64 0)] (⟨0,0⟩:jy) from Hz M),⟨[(.int .i64 0)],[(.int .i64 0),(.int .i64 0),(.bool false)],rfl,(show GT.ok M [(.int .i64 0)] (0:Int) from rfl),⟨[(.int .i64 0)],[(.int .i64 0),(.bool false)],rfl,(show GT.ok M [(.int .i64 0)] (0:Int) from rfl),⟨[(.int .i64 0)],[(.bool false)],rfl,(show GT.ok M [(.int .i64 0)] (0:Int) from rfl),(show GT.ok M [(.bool false)] (false:Bool) from rfl)⟩⟩⟩⟩
theorem sm (M:dZ):GT.ok M (#[(.int .i64 0),(.int .i64 0),(.int .i64 0),(.int .i64 0)]:Array Value).toList (⟨0,0,0,0⟩:aG):=⟨[(.int .i64 0)],[(.int .i64 0),(.int .i64 0),(.int .i64 0)],rfl,(show GT.ok M [(.int .i64 0)] (0:Int) from rfl),⟨[(.int .i64 0)],[(.int .i64 0),(.int .i64 0)],rfl,(show GT.ok M [(.int .i64 0)] (0:Int) from rfl),⟨[(.int .i64 0)],[(.int .i64 0)],rfl,(show GT.ok M [(.int .i64 0)] (0:Int) from rfl),(show GT.ok M [(.int .i64 0)] (0:Int) from rfl)⟩⟩⟩
theorem wu (M:dZ):GT.ok M (#[(.int .i64 0),(.int .i64 0),(.slice none 0 0)]:Array Value).toList (⟨0,0,[]⟩:aA):=⟨[(.int .i64 0)],[(.int .i64 0),(.slice none 0 0)],rfl,(show GT.ok M [(.int .i64 0)] (0:Int) from rfl),⟨[(.int .i64 0)],[(.slice none 0 0)],rfl,(show GT.ok M [(.int .i64 0)] (0:Int) from rfl),(show GT.ok M [(.slice none 0 0)] ([]: (List Int)) from ⟨_,rfl,none,0,0,rfl,rfl,bK _,by simp [maxLen],fun _ _ h=>by simp at h⟩)⟩⟩
theorem oL (M:dZ):GT.ok M (#[(.int .i64 0),(.int .i64 0),(.slice none 0 0)]:Array Value).toList (⟨0,0,[]⟩:aK):=⟨[(.int .i64 0)],[(.int .i64 0),(.slice none 0 0)],rfl,(show GT.ok M [(.int .i64 0)] (0:Int) from rfl),⟨[(.int .i64 0)],[(.slice none 0 0)],rfl,(show GT.ok M [(.int .i64 0)] (0:Int) from rfl),(show GT.ok M [(.slice none 0 0)] ([]: (List aF)) from ⟨_,rfl,none,0,0,rfl,rfl,bK _,by simp [maxLen],fun _ _ h=>by simp at h⟩)⟩⟩
theorem Jy (M:dZ):GT.ok M (#[(.string ⟨#[]⟩),(.string ⟨#[]⟩)]:Array Value).toList (⟨⟨[]⟩,⟨[]⟩⟩:ik):=⟨[(.string ⟨#[]⟩)],[(.string ⟨#[]⟩)],rfl,(show GT.ok M [(.string ⟨#[]⟩)] (⟨[]⟩:dY) from rfl),(show GT.ok M [(.string ⟨#[]⟩)] (⟨[]⟩:dY) from rfl)⟩
theorem yO (M:dZ):GT.ok M (#[(.int .i64 0),(.slice none 0 0),(.slice none 0 0)]:Array Value).toList (⟨0,[],[]⟩:aN):=⟨[(.int .i64 0)],[(.slice none 0 0),(.slice none 0 0)],rfl,(show GT.ok M [(.int .i64 0)] (0:Int) from rfl),⟨[(.slice none 0 0)],[(.slice none 0 0)],rfl,(show GT.ok M [(.slice none 0 0)] ([]: (List aA)) from ⟨_,rfl,none,0,0,rfl,rfl,bK _,by simp [maxLen],fun _ _ h=>by simp at h⟩),(show GT.ok M [(.slice none 0 0)] ([]: (List aG)) from ⟨_,rfl,none,0,0,rfl,rfl,bK _,by simp [maxLen],fun _ _ h=>by simp at h⟩)⟩⟩
theorem Gg (M:dZ):GT.ok M (#[(.bool false),(.int .i64 0)]:Array Value).toList (⟨false,0⟩:lT):=⟨[(.bool false)],[(.int .i64 0)],rfl,(show GT.ok M [(.bool false)] (false:Bool) from rfl),(show GT.ok M [(.int .i64 0)] (0:Int) from rfl)⟩
theorem oM (M:dZ):GT.ok M (#[(.int .i64 0),(.int .i64 0)]:Array Value).toList (⟨0,0⟩:aF):=⟨[(.int .i64 0)],[(.int .i64 0)],rfl,(show GT.ok M [(.int .i64 0)] (0:Int) from rfl),(show GT.ok M [(.int .i64 0)] (0:Int) from rfl)⟩
structure cI where
  oW: (List Int)
  aR: (List Int)
  j4:RV
  deriving Inhabited
def sq (x:cI):=(x.oW,x.aR,x.j4)
instance instGTGroup_r2:GT cI:=GT.via sq
theorem zX:Fd 2 (fun x:cI=>x.j4):= .v sq (.snd (.snd (.self)))
theorem zY:Fs 2 RV (fun(x:cI) y=>{x with j4:=y}):= .v sq (.snd (.snd (.self)))
def cC:XT cI eB:=⟨fun u x=>u.oW=x.oW/\u.aR=x.aR,fun M h u x=>(u.oW=x.oW/\u.aR=x.aR)/\vn 125 M h u.j4.v x.j4,fun{M M' h u x} hk hh=>⟨hh.1,(own 125 u.j4.v x.j4).mono hk hh.2⟩,fun h=>h.1⟩
theorem tD:XO cC 125 2 (fun u=>u.j4) (fun u r=>{u with j4:=r}) (fun x=>x.j4) (fun x y=>{x with j4:=y}):=⟨zX,zY,by decide,fun h=>h.2,fun hr ho=>⟨hr,ho⟩⟩
theorem Ba (M h:dZ) (u:cI) (x:eB) (cs:List Value) (hd: ∀b o,h b=some o->M b=none) (hx:cC.ok M h u x) (hc:GT.ok M cs u):GT.ok (qm M h) cs x:=by
  obtain⟨⟨e0,e1⟩,ho⟩:=hx
  obtain⟨c0,d0,hd0,a0,c1,d1,hd1,a1,a2⟩:=hc
  exact⟨c0,d0,hd0,GT.mono (ui M h) (show GT.ok M c0 x.oW from e0▸(show GT.ok M c0 u.oW from a0)),⟨c1,d1,hd1,GT.mono (ui M h) (show GT.ok M c1 x.aR from e1▸(show GT.ok M c1 u.aR from a1)),⟨u.j4.v,a2,vn.sl hd ho⟩⟩⟩
theorem eJ:nK bD 27 true 4:=xg
theorem yP:B2 bD 27 4:=Dx (.agg #[(.slice none 0 0),(.slice none 0 0),(.slice none 0 0),(.slice none 0 0)])
theorem fB:oE bD 27 0 0:=ql
theorem lk:nK bD 22 false 1:=xg
theorem oN:Tryz.prog.underlying 22=some (.slice 23):=by kernel_rfl
theorem tE:oE bD 27 1 1:=ql
theorem nL:nK bD 23 false 1:=xg
theorem mS:Tryz.prog.underlying 23=some (.slice 51):=by kernel_rfl
theorem oz:vS bD 22 23 1:=Df
theorem jt:vS bD 23 51 4:=Df
theorem hZ:nK bD 51 true 4:=xg
theorem oe:B2 bD 51 4:=Dx (.agg #[(.int .i64 0),(.int .i64 0),(.int .i64 0),(.int .i64 0)])
theorem iD:oE bD 51 0 0:=ql
theorem cF:nK bD 3 false 1:=xg
theorem Lr:gL bD 91:=ij Tryz.func91
theorem E7:gL bD 65:=ij Tryz.func65
theorem il:oE bD 51 1 1:=ql
theorem jl:oE bD 51 2 2:=ql
theorem kT:oE bD 51 3 3:=ql
theorem Jz:gL bD 66:=ij Tryz.func66
theorem Ls:gL bD 37:=ij Tryz.func37
theorem mixed:Tryz.prog.follows .mixedOrders=true:=by kernel_rfl
theorem yQ:rY bD 23 51 4 32:=rY.of (.agg #[(.int .i64 0),(.int .i64 0),(.int .i64 0),(.int .i64 0)])
theorem IQ:gL bD 40:=ij Tryz.func40
theorem Lt:gL bD 42:=ij Tryz.func42
theorem JA:gL bD 41:=ij Tryz.func41
theorem JB:K7 bD 73 [(.slice none 0 0)]:=⟨(.slice none 0 0),fun _=>by kernel_rfl,rfl⟩
theorem iq:nK bD 73 false 1:=xg
theorem fG:vS bD 73 3 1:=Df
theorem Gh:B2 bD 3 1:=Dx (.int .i64 0)
theorem uM:rY bD 73 3 1 8:=rY.of (.int .i64 0)
theorem Lu:gL bD 43:=ij Tryz.func43
theorem nr:Tryz.prog.underlying 73=some (.slice 3):=by kernel_rfl
theorem JC:FP bD 3 (0:Int):=FP.of (.int .i64 0) (fun M=>rfl)
theorem Lv:gL bD 44:=ij Tryz.func44
theorem JD:gL bD 77:=ij Tryz.func77
theorem Lw:FP bD 51 (⟨0,0,0,0⟩:aG):=FP.of (.agg #[(.int .i64 0),(.int .i64 0),(.int .i64 0),(.int .i64 0)]) (fun M=>(sm M))
theorem Lx:gL bD 46:=ij Tryz.func46
theorem Ly:gL bD 45:=ij Tryz.func45
theorem Lz:gL bD 79:=ij Tryz.func79
theorem LA:gL bD 48:=ij Tryz.func48
theorem JE:xm bD 81 [(0,1),(1,1),(2,1)] #[(.int .i64 0),(.int .i64 0),(.slice none 0 0)]:=xm.of (.agg #[(.int .i64 0),(.int .i64 0),(.slice none 0 0)]) Tryz.underlying81
theorem nW:oE bD 81 2 2:=ql
theorem oZ:oE bD 81 1 1:=ql
theorem su:oE bD 81 0 0:=ql
theorem uN:Tryz.prog.underlying 38=some (.slice 81):=by kernel_rfl
theorem o0:vS bD 38 81 3:=Df
theorem LB:gL bD 78:=ij Tryz.func78
theorem Bb:nK bD 81 true 3:=xg
theorem Gi:B2 bD 81 3:=Dx (.agg #[(.int .i64 0),(.int .i64 0),(.slice none 0 0)])
theorem LC:rY bD 38 81 3 40:=rY.of (.agg #[(.int .i64 0),(.int .i64 0),(.slice none 0 0)])
theorem JF:gL bD 47:=ij Tryz.func47
theorem Bc:gL bD 22:=ij Tryz.func22
theorem Cw:xm bD 51 [(0,1),(1,1),(2,1),(3,1)] #[(.int .i64 0),(.int .i64 0),(.int .i64 0),(.int .i64 0)]:=xm.of (.agg #[(.int .i64 0),(.int .i64 0),(.int .i64 0),(.int .i64 0)]) Tryz.underlying51
theorem HA:gL bD 39:=ij Tryz.func39
theorem Dy:Tryz.prog.underlying 3=some (.int .i64):=by kernel_rfl
theorem Gj:HY bD 51 aG:=⟨fun M cs ds a b w ha hb=>by
  obtain⟨_,_,rfl,rfl,⟨_,_,rfl,rfl,⟨_,_,rfl,rfl,rfl⟩⟩⟩:=ha
  obtain⟨_,_,rfl,rfl,⟨_,_,rfl,rfl,⟨_,_,rfl,rfl,rfl⟩⟩⟩:=hb
  refine(jA 9999 Tryz.underlying51 (vY.cons (by decide) (cS cF _) (cS cF _) (gR Dy _ _ w) (vY.cons (by decide) (cS cF _) (cS cF _) (gR Dy _ _ w) (vY.cons (by decide) (cS cF _) (cS cF _) (gR Dy _ _ w) (vY.cons (by decide) (cS cF _) (cS cF _) (gR Dy _ _ w) vY.nil))))).trans ?_
  congr 1
  cases a;cases b;unfold mX
  rw [fK]
  simp,by kernel_rfl⟩
theorem LD:gL bD 38:=ij Tryz.func38
theorem HB:gL bD 21:=ij Tryz.func21
theorem jm:oE bD 27 2 2:=ql
theorem o4:nK bD 24 false 1:=xg
theorem tF:Tryz.prog.underlying 24=some (.slice 46):=by kernel_rfl
theorem tg:vS bD 24 46 6:=Df
theorem mJ:nK bD 46 true 6:=xg
theorem Cx:B2 bD 46 6:=Dx (.agg #[(.int .i64 0),(.int .i64 0),(.int .i64 0),(.int .i64 0),(.int .i64 0),(.bool false)])
theorem qP:oE bD 46 1 2:=ql
theorem E8:gL bD 20:=ij Tryz.func20
theorem xu:oE bD 46 0 0:=ql
theorem zZ:nK bD 44 true 2:=xg
theorem xv:oE bD 44 0 0:=ql
theorem xw:oE bD 44 1 1:=ql
theorem JG:gL bD 33:=ij Tryz.func33
theorem E9:gL bD 34:=ij Tryz.func34
theorem LF:gL bD 67:=ij Tryz.func67
theorem LG:gL bD 35:=ij Tryz.func35
theorem JH:gL bD 18:=ij Tryz.func18
theorem o5:oE bD 46 2 3:=ql
theorem qQ:oE bD 46 3 4:=ql
theorem LH:gL bD 68:=ij Tryz.func68
theorem o6:oE bD 27 3 3:=ql
theorem yl:nK bD 25 false 1:=xg
theorem Be:Tryz.prog.underlying 25=some (.slice 49):=by kernel_rfl
theorem Cy:vS bD 25 49 5:=Df
theorem wv:nK bD 49 true 5:=xg
theorem Gl:B2 bD 49 5:=Dx (.agg #[(.string ⟨#[]⟩),(.string ⟨#[]⟩),(.int .i64 0),(.int .i64 0),(.int .i64 0)])
theorem vx:oE bD 49 0 0:=ql
theorem yw:nK bD 9 false 1:=xg
theorem yR:Tryz.prog.underlying 9=some (.string):=by kernel_rfl
theorem LI (a:dY) (b:Int) (w:World): (callFunc 165 [(str a),(.int .u8 b)].toArray).run bD w = .ok (.value (vi ((Lib.countByte a.cQ (Int.toNat b).toUInt8:Nat):Int))) w:=yG Extern.BytealgCount.count Tryz.func165 (Lib.run_countString _ _ w)
theorem LJ (a:dY) (b:Int) (w:World): (callFunc 161 [(str a),(.int .u8 b)].toArray).run bD w = .ok (.value (vi (Lib.indexByte a.cQ (Int.toNat b).toUInt8))) w:=yG Extern.BytealgIndexByte.indexByte Tryz.func161 (Lib.run_indexByteString _ _ w)
theorem H2:gL bD 153:=ij Tryz.func153
theorem JI:gL bD 166:=ij Tryz.func166
theorem H3:gL bD 160:=ij Tryz.func160
theorem JJ:gL bD 159:=ij Tryz.func159
theorem JK:rY bD 169 9 1 16:=rY.of (.string ⟨#[]⟩)
theorem MM:FP bD 9 (⟨[]⟩:dY):=FP.of (.string ⟨#[]⟩) (fun M=>rfl)
theorem Cz:vS bD 169 9 1:=Df
theorem JL:gL bD 152:=ij Tryz.func152
theorem H4:gL bD 135:=ij Tryz.func135
theorem H5:Tryz.prog.underlying 169=some (.slice 9):=by kernel_rfl
theorem JM:gL bD 151:=ij Tryz.func151
theorem H6:gL bD 137:=ij Tryz.func137
theorem JN:gL bD 93:=ij Tryz.func93
theorem JO:gL bD 136:=ij Tryz.func136
theorem JP:gL bD 134:=ij Tryz.func134
theorem LK:gL bD 92:=ij Tryz.func92
theorem yS:oE bD 49 1 1:=ql
theorem Bf:oE bD 49 2 2:=ql
theorem Bg:oE bD 49 3 3:=ql
theorem H7:B2 bD 125 2:=Dx (.agg #[(.string ⟨#[]⟩),(.string ⟨#[]⟩)])
theorem JQ:xm bD 125 [(0,1),(1,1)] #[(.string ⟨#[]⟩),(.string ⟨#[]⟩)]:=xm.of (.agg #[(.string ⟨#[]⟩),(.string ⟨#[]⟩)]) Tryz.underlying125
theorem H8:nK bD 125 true 2:=xg
theorem IU:gL bD 95:=ij Tryz.func95
theorem El:oE bD 125 0 0:=ql
theorem LL (a b:dY) (w:World): (callFunc 162 [(str a),(str b)].toArray).run bD w = .ok (.value (vi (Lib.compareBytes a.cQ b.cQ))) w:=yG Extern.BytealgCompare.compare Tryz.func162 (Lib.run_compareString _ _ w)
theorem JR:gL bD 154:=ij Tryz.func154
theorem H9:gL bD 138:=ij Tryz.func138
theorem Em:oE bD 125 1 1:=ql
theorem LM:gL bD 94:=ij Tryz.func94
theorem LN:gL bD 69:=ij Tryz.func69
theorem JS:gL bD 96:=ij Tryz.func96
theorem LO:gL bD 70:=ij Tryz.func70
theorem JT:xm bD 102 [(0,4),(4,1),(5,1),(6,1),(7,1),(8,1),(9,1),(10,1),(11,1)] #[(.slice none 0 0),(.slice none 0 0),(.slice none 0 0),(.slice none 0 0),(.slice none 0 0),(.slice none 0 0),(.slice none 0 0),(.slice none 0 0),(.slice none 0 0),(.slice none 0 0),(.slice none 0 0),(.slice none 0 0)]:=xm.of (.agg #[(.slice none 0 0),(.slice none 0 0),(.slice none 0 0),(.slice none 0 0),(.slice none 0 0),(.slice none 0 0),(.slice none 0 0),(.slice none 0 0),(.slice none 0 0),(.slice none 0 0),(.slice none 0 0),(.slice none 0 0)]) Tryz.underlying102
theorem qC:oE bD 102 0 0:=ql
theorem IV:gL bD 97:=ij Tryz.func97
theorem Gm:vS bD 86 38 1:=Df
theorem IW:B2 bD 38 1:=Dx (.slice none 0 0)
theorem JU:Tryz.prog.underlying 86=some (.slice 38):=by kernel_rfl
theorem JV:nK bD 38 false 1:=xg
theorem JW:gL bD 53:=ij Tryz.func53
theorem MA:Tryz.prog.underlying 4=some (.bool):=by kernel_rfl
theorem LP:gL bD 54:=ij Tryz.func54
theorem LQ:gL bD 32:=ij Tryz.func32
theorem JX:gL bD 25:=ij Tryz.func25
theorem JY:gL bD 13:=ij Tryz.func13
theorem JZ:gL bD 49:=ij Tryz.func49
theorem En:oE bD 102 1 4:=ql
theorem J0:nK bD 86 false 1:=xg
theorem J3:rY bD 86 38 1 24:=rY.of (.slice none 0 0)
theorem Gn:gL bD 139:=ij Tryz.func139
theorem CA:EZ bD 174 3 3 Int Int (0:Int):=⟨by kernel_rfl,(zV.int Dy),Hr (Z:=(.int .i64 0)) (by kernel_rfl) (fun M=>⟨_,rfl,rfl⟩)⟩
theorem Gp:B2 bD 23 1:=Dx (.slice none 0 0)
theorem Dz:rY bD 22 23 1 24:=rY.of (.slice none 0 0)
theorem LR:gL bD 98:=ij Tryz.func98
theorem uo:oE bD 102 2 5:=ql
theorem Fa:nK bD 97 false 1:=xg
theorem J4:xm bD 130 [(0,1),(1,1),(2,1)] #[(.int .i64 0),(.slice none 0 0),(.slice none 0 0)]:=xm.of (.agg #[(.int .i64 0),(.slice none 0 0),(.slice none 0 0)]) Tryz.underlying130
theorem IX:vS bD 97 130 3:=Df
theorem Gq:B2 bD 130 3:=Dx (.agg #[(.int .i64 0),(.slice none 0 0),(.slice none 0 0)])
theorem LS:rY bD 97 130 3 56:=rY.of (.agg #[(.int .i64 0),(.slice none 0 0),(.slice none 0 0)])
theorem HC:Tryz.prog.underlying 97=some (.slice 130):=by kernel_rfl
theorem LU:gL bD 71:=ij Tryz.func71
theorem J5:gL bD 101:=ij Tryz.func101
theorem Eo:nK bD 130 true 3:=xg
theorem DA:oE bD 46 4 5:=ql
theorem Hg:nK bD 4 false 1:=xg
theorem Ep:oE bD 130 0 0:=ql
theorem Er:oE bD 130 2 2:=ql
theorem J6:gL bD 100:=ij Tryz.func100
theorem J7:gL bD 99:=ij Tryz.func99
theorem Bh:oE bD 102 3 6:=ql
theorem IY:nK bD 98 false 1:=xg
theorem Fb:vS bD 98 73 1:=Df
theorem J8:B2 bD 73 1:=Dx (.slice none 0 0)
theorem J9:rY bD 98 73 1 24:=rY.of (.slice none 0 0)
theorem LV:gL bD 72:=ij Tryz.func72
theorem Ka:xm bD 176 [(0,1)] #[(.slice none 0 0)]:=xm.of (.agg #[(.slice none 0 0)]) Tryz.underlying176
theorem pA:oE bD 176 0 0:=ql
theorem Kb:gL bD 102:=ij Tryz.func102
theorem IZ:Tryz.prog.underlying 98=some (.slice 73):=by kernel_rfl
theorem Gr:gL bD 140:=ij Tryz.func140
theorem Kc:gL bD 103:=ij Tryz.func103
theorem Bi:oE bD 102 5 8:=ql
theorem yx:oE bD 102 6 9:=ql
theorem Kd:gL bD 104:=ij Tryz.func104
theorem Ke:K7 bD 138 [(.slice none 0 0),(.slice none 0 0),(.slice none 0 0)]:=⟨(.agg #[(.slice none 0 0),(.slice none 0 0),(.slice none 0 0)]),fun _=>by kernel_rfl,rfl⟩
theorem uq:oE bD 102 4 7:=ql
theorem Fc:nK bD 99 false 1:=xg
theorem Kf:Tryz.prog.underlying 99=some (.slice 138):=by kernel_rfl
theorem Bj:oE bD 138 0 0:=ql
theorem Bl:oE bD 138 1 1:=ql
theorem Kg:nK bD 138 true 3:=xg
theorem I0:vS bD 99 138 3:=Df
theorem Kh:B2 bD 138 3:=Dx (.agg #[(.slice none 0 0),(.slice none 0 0),(.slice none 0 0)])
theorem LW:rY bD 99 138 3 72:=rY.of (.agg #[(.slice none 0 0),(.slice none 0 0),(.slice none 0 0)])
theorem Gs:B2 bD 140 2:=Dx (.agg #[(.bool false),(.int .i64 0)])
theorem Ki:gL bD 155:=ij Tryz.func155
theorem Ia:gL bD 141:=ij Tryz.func141
theorem Gt:xm bD 140 [(0,1),(1,1)] #[(.bool false),(.int .i64 0)]:=xm.of (.agg #[(.bool false),(.int .i64 0)]) Tryz.underlying140
theorem wx:nK bD 140 true 2:=xg
theorem Kj:gL bD 105:=ij Tryz.func105
theorem HD:oE bD 140 0 0:=ql
theorem Es:oE bD 140 1 1:=ql
theorem Kk:gL bD 106:=ij Tryz.func106
theorem Et:oE bD 138 2 2:=ql
theorem Ib:nK bD 136 false 1:=xg
theorem Kl:vS bD 136 125 2:=Df
theorem Km:rY bD 136 125 2 32:=rY.of (.agg #[(.string ⟨#[]⟩),(.string ⟨#[]⟩)])
theorem Eu:oE bD 102 7 10:=ql
theorem Ev:oE bD 102 8 11:=ql
theorem Ic:nK bD 100 false 1:=xg
theorem Kn:vS bD 100 140 2:=Df
theorem Ko:rY bD 100 140 2 16:=rY.of (.agg #[(.bool false),(.int .i64 0)])
theorem LX:gL bD 73:=ij Tryz.func73
theorem LY:gL bD 36:=ij Tryz.func36
theorem HE:gL bD 19:=ij Tryz.func19
theorem vz:xm bD 27 [(0,1),(1,1),(2,1),(3,1)] #[(.slice none 0 0),(.slice none 0 0),(.slice none 0 0),(.slice none 0 0)]:=xm.of (.agg #[(.slice none 0 0),(.slice none 0 0),(.slice none 0 0),(.slice none 0 0)]) Tryz.underlying27
theorem LZ:gL bD 26:=ij Tryz.func26
theorem L0:gL bD 11:=ij Tryz.func11
theorem Kp:gL bD 23:=ij Tryz.func23
theorem HF:K7 bD 27 [(.slice none 0 0),(.slice none 0 0),(.slice none 0 0),(.slice none 0 0)]:=⟨(.agg #[(.slice none 0 0),(.slice none 0 0),(.slice none 0 0),(.slice none 0 0)]),fun _=>by kernel_rfl,rfl⟩
theorem L1:gL bD 50:=ij Tryz.func50
theorem L2:rY bD 24 46 6 48:=rY.of (.agg #[(.int .i64 0),(.int .i64 0),(.int .i64 0),(.int .i64 0),(.int .i64 0),(.bool false)])
theorem L3:gL bD 51:=ij Tryz.func51
theorem L4:rY bD 25 49 5 56:=rY.of (.agg #[(.string ⟨#[]⟩),(.string ⟨#[]⟩),(.int .i64 0),(.int .i64 0),(.int .i64 0)])
theorem L5:gL bD 52:=ij Tryz.func52
theorem Kq:gL bD 24:=ij Tryz.func24
theorem Kr:gL bD 10:=ij Tryz.func10
theorem MN:gL bD 4:=ij Tryz.func4
theorem Ks:gL bD 129:=ij Tryz.func129
theorem z5:gL bD 85:=ij Tryz.func85
theorem L6:gL bD 61:=ij Tryz.func61
theorem Kt:gL bD 62:=ij Tryz.func62
theorem Ao:gL bD 130:=ij Tryz.func130
theorem Ku:gL bD 86:=ij Tryz.func86
theorem Ie:xm bD 166 [(0,1),(1,1)] #[(.int .i64 0),(.int .i64 0)]:=xm.of (.agg #[(.int .i64 0),(.int .i64 0)]) Tryz.underlying166
theorem va:Tryz.prog.underlying 116=some (.slice 166):=by kernel_rfl
theorem oj:vS bD 116 166 2:=Df
theorem pB:oE bD 166 1 1:=ql
theorem pC:oE bD 166 0 0:=ql
theorem Ew:nK bD 166 true 2:=xg
theorem Ig:B2 bD 166 2:=Dx (.agg #[(.int .i64 0),(.int .i64 0)])
theorem Gu:rY bD 116 166 2 16:=rY.of (.agg #[(.int .i64 0),(.int .i64 0)])
theorem Ih:gL bD 132:=ij Tryz.func132
theorem I1:gL bD 88:=ij Tryz.func88
theorem Ii:xm bD 119 [(0,1),(1,1),(2,1)] #[(.int .i64 0),(.int .i64 0),(.slice none 0 0)]:=xm.of (.agg #[(.int .i64 0),(.int .i64 0),(.slice none 0 0)]) Tryz.underlying119
theorem uu:oE bD 119 2 2:=ql
theorem Ap:nK bD 116 false 1:=xg
theorem Ij:Tryz.prog.underlying 114=some (.slice 119):=by kernel_rfl
theorem wy:vS bD 114 119 3:=Df
theorem yy:oE bD 119 1 1:=ql
theorem Ex:oE bD 119 0 0:=ql
theorem I2:HY bD 166 aF:=⟨fun M cs ds a b w ha hb=>by
  obtain⟨_,_,rfl,rfl,rfl⟩:=ha
  obtain⟨_,_,rfl,rfl,rfl⟩:=hb
  refine(jA 9999 Tryz.underlying166 (vY.cons (by decide) (cS cF _) (cS cF _) (gR Dy _ _ w) (vY.cons (by decide) (cS cF _) (cS cF _) (gR Dy _ _ w) vY.nil))).trans ?_
  congr 1
  cases a;cases b;unfold gl
  rw [fK]
  simp,by kernel_rfl⟩
theorem Kv:gL bD 131:=ij Tryz.func131
theorem Kw:nK bD 119 true 3:=xg
theorem Kx:B2 bD 119 3:=Dx (.agg #[(.int .i64 0),(.int .i64 0),(.slice none 0 0)])
theorem Ky:rY bD 114 119 3 40:=rY.of (.agg #[(.int .i64 0),(.int .i64 0),(.slice none 0 0)])
theorem Kz:gL bD 87:=ij Tryz.func87
theorem KA:gL bD 89:=ij Tryz.func89
theorem I3:gL bD 63:=ij Tryz.func63
theorem I4:gL bD 15:=ij Tryz.func15
theorem I5:gL bD 29:=ij Tryz.func29
theorem Fe:gL bD 28:=ij Tryz.func28
theorem Ik:gL bD 126:=ij Tryz.func126
theorem HG:gL bD 58:=ij Tryz.func58
theorem L7:gL bD 80:=ij Tryz.func80
theorem Il:gL bD 128:=ij Tryz.func128
theorem KB:gL bD 127:=ij Tryz.func127
theorem L8:gL bD 81:=ij Tryz.func81
theorem L9:gL bD 55:=ij Tryz.func55
theorem Ma:gL bD 56:=ij Tryz.func56
theorem Mb:gL bD 57:=ij Tryz.func57
theorem Mc:gL bD 82:=ij Tryz.func82
theorem Im:gL bD 133:=ij Tryz.func133
theorem Md:gL bD 90:=ij Tryz.func90
theorem KC:gL bD 64:=ij Tryz.func64
theorem KD:gL bD 30:=ij Tryz.func30
theorem Me:gL bD 59:=ij Tryz.func59
theorem KE:rY bD 112 4 1 1:=rY.of (.bool false)
theorem MO:FP bD 4 (false:Bool):=FP.of (.bool false) (fun M=>rfl)
theorem Ey:vS bD 112 4 1:=Df
theorem Mf:gL bD 83:=ij Tryz.func83
theorem Mg:gL bD 84:=ij Tryz.func84
theorem Mh:gL bD 60:=ij Tryz.func60
theorem KF:gL bD 27:=ij Tryz.func27
theorem Mi:gL bD 31:=ij Tryz.func31
theorem KG:gL bD 12:=ij Tryz.func12
theorem MP:gL bD 5:=ij Tryz.func5
theorem MQ:gL bD 6:=ij Tryz.func6
theorem MR:gL bD 7:=ij Tryz.func7
theorem Mj:gL bD 14:=ij Tryz.func14
theorem KH:HY bD 46 bJ:=⟨fun M cs ds a b w ha hb=>by
  obtain⟨_,_,rfl,⟨_,_,rfl,rfl,rfl⟩,⟨_,_,rfl,rfl,⟨_,_,rfl,rfl,⟨_,_,rfl,rfl,rfl⟩⟩⟩⟩:=ha
  obtain⟨_,_,rfl,⟨_,_,rfl,rfl,rfl⟩,⟨_,_,rfl,rfl,⟨_,_,rfl,rfl,⟨_,_,rfl,rfl,rfl⟩⟩⟩⟩:=hb
  refine(jA 9999 Tryz.underlying46 (vY.cons (by decide) (uj zZ rfl _) (uj zZ rfl _) (jA 9998 Tryz.underlying43 (vY.cons (by decide) (cS cF _) (cS cF _) (gR Dy _ _ w) (vY.cons (by decide) (cS cF _) (cS cF _) (gR Dy _ _ w) vY.nil))) (vY.cons (by decide) (cS cF _) (cS cF _) (gR Dy _ _ w) (vY.cons (by decide) (cS cF _) (cS cF _) (gR Dy _ _ w) (vY.cons (by decide) (cS cF _) (cS cF _) (gR Dy _ _ w) (vY.cons (by decide) (cS Hg _) (cS Hg _) (xP MA _ _ w) vY.nil)))))).trans ?_
  congr 1
  obtain⟨⟨_,_⟩,_,_,_,_⟩:=a;obtain⟨⟨_,_⟩,_,_,_,_⟩:=b;unfold oK rh
  rw [fK]
  simp,by kernel_rfl⟩
theorem Mk:gL bD 16:=ij Tryz.func16
theorem KI:HY bD 49 cU:=⟨fun M cs ds a b w ha hb=>by
  obtain⟨_,_,rfl,rfl,⟨_,_,rfl,rfl,⟨_,_,rfl,rfl,⟨_,_,rfl,rfl,rfl⟩⟩⟩⟩:=ha
  obtain⟨_,_,rfl,rfl,⟨_,_,rfl,rfl,⟨_,_,rfl,rfl,⟨_,_,rfl,rfl,rfl⟩⟩⟩⟩:=hb
  refine(jA 9999 Tryz.underlying49 (vY.cons (by decide) (cS yw _) (cS yw _) (vq yR _ _ w) (vY.cons (by decide) (cS yw _) (cS yw _) (vq yR _ _ w) (vY.cons (by decide) (cS cF _) (cS cF _) (gR Dy _ _ w) (vY.cons (by decide) (uj zZ rfl _) (uj zZ rfl _) (jA 9998 Tryz.underlying43 (vY.cons (by decide) (cS cF _) (cS cF _) (gR Dy _ _ w) (vY.cons (by decide) (cS cF _) (cS cF _) (gR Dy _ _ w) vY.nil))) vY.nil))))).trans ?_
  congr 1
  obtain⟨_,_,_,⟨_,_⟩⟩:=a;obtain⟨_,_,_,⟨_,_⟩⟩:=b;unfold ri rh
  rw [fK]
  simp,by kernel_rfl⟩
theorem Ml:gL bD 17:=ij Tryz.func17
theorem MB:gL bD 8:=ij Tryz.func8
theorem Mm:xm bD 46 [(0,2),(2,1),(3,1),(4,1),(5,1)] #[(.int .i64 0),(.int .i64 0),(.int .i64 0),(.int .i64 0),(.int .i64 0),(.bool false)]:=xm.of (.agg #[(.int .i64 0),(.int .i64 0),(.int .i64 0),(.int .i64 0),(.int .i64 0),(.bool false)]) Tryz.underlying46
theorem MS:gL bD 9:=ij Tryz.func9
def ll (E:World) (V:List HP) (res: (List (List aG))) (v:Value) (w:World):Prop:=Holds E w ([own 23 v res]++V)
def nX (E:World) (V:List HP) (res:aG) (v:Value) (w:World):Prop:=Holds E w ([rd v res]++V)
def pS (E:World) (V:List HP) (res: (List dY)) (v:Value) (w:World):Prop:=Holds E w ([own 9 v res]++V)
def aS (E:World) (V:List HP) (res:Bool) (v:Value) (w:World):Prop:=v= (vb res)/\Holds E w V
def aU (E:World) (V:List HP) (res:Int) (v:Value) (w:World):Prop:=v= (vi res)/\Holds E w V
def eN (E:World) (V:List HP) (res: (List aG)) (v:Value) (w:World):Prop:=Holds E w ([own 51 v res]++V)
def me (E:World) (V:List HP) (res: (List Int)) (v:Value) (w:World):Prop:=Holds E w ([own 3 v res]++V)
def kU (E:World) (V:List HP) (res: (List aA)) (v:Value) (w:World):Prop:=Holds E w ([own 81 v res]++V)
def fC (E:World) (V:List HP) (res:fu×Int) (v:Value) (w:World):Prop:=∃u0:Value,v = .tuple #[u0,(vi res.2)]/\Holds E w ([rd u0 res.1]++V)
def po (E:World) (V:List HP) (res: (List Int)) (v:Value) (w:World):Prop:=Holds E w ([rd v res]++V)
def ln (E:World) (V:List HP) (res: (List aF)) (v:Value) (w:World):Prop:=Holds E w ([own 166 v res]++V)
end Go.Gk
namespace Go.Gk
open Go Go.Proofs
def z6 (H:Type) (d:DataW H):Nat:=YtllecmpemokbfaaGreatDoor.Rows.uptoBulk d
def KL (H:Type) (d:List (DataW H)):Nat:=YtllecmpemokbfaaGreatDoor.Rows.uptoBulkAll d
theorem jN:UB z6 KL where
  str:=fun H b=>by simp [z6,YtllecmpemokbfaaGreatDoor.Rows.uptoBulk]
  pos:=fun H d=>by
    unfold z6
    cases d with
    | lit l=>cases l <;> simp [YtllecmpemokbfaaGreatDoor.Rows.uptoBulk]
    | nil=>simp [YtllecmpemokbfaaGreatDoor.Rows.uptoBulk]
    | ptr d=>simp [YtllecmpemokbfaaGreatDoor.Rows.uptoBulk]
    | slice elems spare=>simp [YtllecmpemokbfaaGreatDoor.Rows.uptoBulk]
    | agg parts=>simp [YtllecmpemokbfaaGreatDoor.Rows.uptoBulk]
    | iface t d=>simp [YtllecmpemokbfaaGreatDoor.Rows.uptoBulk]
    | map entries=>simp [YtllecmpemokbfaaGreatDoor.Rows.uptoBulk]
    | held h=>simp [YtllecmpemokbfaaGreatDoor.Rows.uptoBulk]
  sl:=fun H e s=>by simp [z6,KL,YtllecmpemokbfaaGreatDoor.Rows.uptoBulk]
  ag:=fun H l=>by simp [z6,KL,YtllecmpemokbfaaGreatDoor.Rows.uptoBulk]
  nil:=fun H=>by simp [KL,YtllecmpemokbfaaGreatDoor.Rows.uptoBulkAll]
  cons:=fun H x l=>by simp [z6,KL,YtllecmpemokbfaaGreatDoor.Rows.uptoBulkAll]
theorem GC:kC z6 Tryz.prog 3 Int:=Fh jN (by kernel_rfl)
theorem Mo:kC z6 Tryz.prog 51 aG:=nY jN (fun(x:aG)=>(x.X0,x.Y0,x.X1,x.Y1)) (fun b=>⟨b.1,b.2.1,b.2.2.1,b.2.2.2⟩) (fun b=>rfl) Tryz.underlying51 (iE jN GC (iE jN GC (iE jN GC (rn jN GC rfl)))) (fun b=>by simp only [HL];omega)
theorem I7:kC z6 Tryz.prog 23 (List aG):=sA (e:=51) jN Mo
theorem Mp:kC z6 Tryz.prog 22 (List (List aG)):=sA (e:=23) jN I7
theorem KM:kC z6 Tryz.prog 44 jy:=nY jN (fun(x:jy)=>(x.X,x.Y)) (fun b=>⟨b.1,b.2⟩) (fun b=>rfl) Tryz.underlying44 (iE jN GC (rn jN GC rfl)) (fun b=>by simp only [Gz];omega)
theorem MT:kC z6 Tryz.prog 4 Bool:=DE jN (by kernel_rfl)
theorem Mq:kC z6 Tryz.prog 46 bJ:=nY jN (fun(x:bJ)=>(x.At,x.cZ,x.cH,x.To,x.kx)) (fun b=>⟨b.1,b.2.1,b.2.2.1,b.2.2.2.1,b.2.2.2.2⟩) (fun b=>rfl) Tryz.underlying46 (iE jN KM (iE jN GC (iE jN GC (iE jN GC (rn jN MT rfl))))) (fun b=>by simp only [HM];omega)
theorem Mr:kC z6 Tryz.prog 24 (List bJ):=sA (e:=46) jN Mq
theorem MC:kC z6 Tryz.prog 9 dY:=Fi jN (by kernel_rfl)
theorem Ms:kC z6 Tryz.prog 49 cU:=nY jN (fun(x:cU)=>(x.Part,x.ik,x.eU,x.At)) (fun b=>⟨b.1,b.2.1,b.2.2.1,b.2.2.2⟩) (fun b=>rfl) Tryz.underlying49 (iE jN MC (iE jN MC (iE jN GC (rn jN KM rfl)))) (fun b=>by simp only [EA];omega)
theorem Mt:kC z6 Tryz.prog 25 (List cU):=sA (e:=49) jN Ms
theorem Mu:kC z6 Tryz.prog 27 fu:=nY jN (fun(x:fu)=>(x.aI,x.bZ,x.aR,x.bI)) (fun b=>⟨b.1,b.2.1,b.2.2.1,b.2.2.2⟩) (fun b=>rfl) Tryz.underlying27 (iE jN Mp (iE jN I7 (iE jN Mr (rn jN Mt rfl)))) (fun b=>by simp only [GA];omega)
end Go.Gk
namespace Go.Proofs
open Go.Shelf Go.RowKit Go.Lib Go.Sort
def Tryz.lay41_ren : Go.Shelf.Ren := ⟨fun | 6 => 41 | 15 => 75 | 14 => 74 | 28 => 115 | 29 => 116 | 20 => 107 | 21 => 108 | 22 => 109 | 23 => 110 | 24 => 111 | 25 => 112 | 26 => 113 | 27 => 114 | 46 => 142 | 47 => 143 | 48 => 144 | 49 => 145 | 50 => 146 | 57 => 156 | n => n, fun | 22 => 23 | 24 => 51 | 25 => 72 | 3 => 3 | 39 => 105 | 0 => 0 | 53 => 153 | 55 => 155 | 4 => 4 | 46 => 146 | 45 => 145 | 50 => 150 | 5 => 5 | 9 => 9 | 66 => 178 | 70 => 182 | 76 => 188 | 77 => 189 | n => n, fun | n => n⟩
theorem Tryz.lay41 : Go.Proofs.SlLaysF0.n6 Tryz.prog Tryz.lay41_ren := {
  mixed := by kernel_rfl
  f6 := ⟨Tryz.f41.name, by decide, Tryz.func41.trans (congrArg some (by kernel_rfl))⟩
  f14 := ⟨Tryz.f74.name, by decide, Tryz.func74.trans (congrArg some (by kernel_rfl))⟩
  f15 := Tryz.func75.trans (congrArg some (by kernel_rfl))
  f20 := ⟨Tryz.f107.name, by decide, Tryz.func107.trans (congrArg some (by kernel_rfl))⟩
  f21 := ⟨Tryz.f108.name, by decide, Tryz.func108.trans (congrArg some (by kernel_rfl))⟩
  f22 := ⟨Tryz.f109.name, by decide, Tryz.func109.trans (congrArg some (by kernel_rfl))⟩
  f23 := ⟨Tryz.f110.name, by decide, Tryz.func110.trans (congrArg some (by kernel_rfl))⟩
  f24 := ⟨Tryz.f111.name, by decide, Tryz.func111.trans (congrArg some (by kernel_rfl))⟩
  f25 := ⟨Tryz.f112.name, by decide, Tryz.func112.trans (congrArg some (by kernel_rfl))⟩
  f26 := ⟨Tryz.f113.name, by decide, Tryz.func113.trans (congrArg some (by kernel_rfl))⟩
  f27 := ⟨Tryz.f114.name, by decide, Tryz.func114.trans (congrArg some (by kernel_rfl))⟩
  f28 := Tryz.func115.trans (congrArg some (by kernel_rfl))
  f29 := Tryz.func116.trans (congrArg some (by kernel_rfl))
  f46 := ⟨Tryz.f142.name, by decide, Tryz.func142.trans (congrArg some (by kernel_rfl))⟩
  f47 := Tryz.func143.trans (congrArg some (by kernel_rfl))
  f48 := Tryz.func144.trans (congrArg some (by kernel_rfl))
  f49 := ⟨Tryz.f145.name, by decide, Tryz.func145.trans (congrArg some (by kernel_rfl))⟩
  f50 := ⟨Tryz.f146.name, by decide, Tryz.func146.trans (congrArg some (by kernel_rfl))⟩
  f57 := ⟨Tryz.f156.name, by decide, Tryz.func156.trans (congrArg some (by kernel_rfl))⟩
  t0 := Tryz.underlying0
  a0 := Tryz.isAgg0
  z0 := Tryz.sizeOf0
  v0 := Tryz.zeroValue0
  t3 := Tryz.underlying3
  a3 := Tryz.isAgg3
  z3 := Tryz.sizeOf3
  v3 := Tryz.zeroValue3
  t4 := Tryz.underlying4
  a4 := Tryz.isAgg4
  z4 := Tryz.sizeOf4
  v4 := Tryz.zeroValue4
  t5 := Tryz.underlying5
  a5 := Tryz.isAgg5
  z5 := Tryz.sizeOf5
  v5 := Tryz.zeroValue5
  t9 := Tryz.underlying9
  a9 := Tryz.isAgg9
  z9 := Tryz.sizeOf9
  v9 := Tryz.zeroValue9
  t22 := Tryz.underlying23
  a22 := Tryz.isAgg23
  z22 := Tryz.sizeOf23
  v22 := Tryz.zeroValue23
  t25 := Tryz.underlying72
  a25 := Tryz.isAgg72
  z25 := Tryz.sizeOf72
  v25 := Tryz.zeroValue72
  t39 := Tryz.underlying105
  a39 := Tryz.isAgg105
  z39 := Tryz.sizeOf105
  v39 := Tryz.zeroValue105
  t45 := Tryz.underlying145
  a45 := Tryz.isAgg145
  z45 := Tryz.sizeOf145
  v45 := Tryz.zeroValue145
  t46 := Tryz.underlying146
  a46 := Tryz.isAgg146
  z46 := Tryz.sizeOf146
  v46 := Tryz.zeroValue146
  t50 := Tryz.underlying150
  a50 := Tryz.isAgg150
  z50 := Tryz.sizeOf150
  v50 := Tryz.zeroValue150
  t53 := Tryz.underlying153
  a53 := Tryz.isAgg153
  z53 := Tryz.sizeOf153
  v53 := Tryz.zeroValue153
  t55 := Tryz.underlying155
  a55 := Tryz.isAgg155
  z55 := Tryz.sizeOf155
  v55 := Tryz.zeroValue155
  t66 := Tryz.underlying178
  a66 := Tryz.isAgg178
  z66 := Tryz.sizeOf178
  v66 := Tryz.zeroValue178
  t70 := Tryz.underlying182
  a70 := Tryz.isAgg182
  z70 := Tryz.sizeOf182
  v70 := Tryz.zeroValue182
  t76 := Tryz.underlying188
  a76 := Tryz.isAgg188
  z76 := Tryz.sizeOf188
  v76 := Tryz.zeroValue188
  t77 := Tryz.underlying189
  a77 := Tryz.isAgg189
  z77 := Tryz.sizeOf189
  v77 := Tryz.zeroValue189 }
def Tryz.lay43_ren : Go.Shelf.Ren := ⟨fun | 5 => 43 | 8 => 75 | 7 => 76 | 19 => 115 | 20 => 116 | 10 => 117 | 11 => 118 | 12 => 119 | 13 => 120 | 14 => 121 | 15 => 122 | 16 => 123 | 17 => 124 | 18 => 125 | 30 => 147 | 31 => 143 | 32 => 144 | 33 => 148 | 34 => 149 | 35 => 150 | 40 => 157 | n => n, fun | 23 => 73 | 25 => 3 | 3 => 3 | 32 => 105 | 22 => 73 | 0 => 0 | 44 => 153 | 46 => 155 | 4 => 4 | 36 => 146 | 35 => 145 | 41 => 150 | 5 => 5 | 9 => 9 | 53 => 178 | 57 => 182 | 63 => 188 | 64 => 189 | n => n, fun | n => n⟩
theorem Tryz.lay43 : Go.Proofs.SlLaysM.n5 Tryz.prog Tryz.lay43_ren := {
  mixed := by kernel_rfl
  f5 := ⟨Tryz.f43.name, by decide, Tryz.func43.trans (congrArg some (by kernel_rfl))⟩
  f7 := ⟨Tryz.f76.name, by decide, Tryz.func76.trans (congrArg some (by kernel_rfl))⟩
  f8 := Tryz.func75.trans (congrArg some (by kernel_rfl))
  f10 := ⟨Tryz.f117.name, by decide, Tryz.func117.trans (congrArg some (by kernel_rfl))⟩
  f11 := ⟨Tryz.f118.name, by decide, Tryz.func118.trans (congrArg some (by kernel_rfl))⟩
  f12 := ⟨Tryz.f119.name, by decide, Tryz.func119.trans (congrArg some (by kernel_rfl))⟩
  f13 := ⟨Tryz.f120.name, by decide, Tryz.func120.trans (congrArg some (by kernel_rfl))⟩
  f14 := ⟨Tryz.f121.name, by decide, Tryz.func121.trans (congrArg some (by kernel_rfl))⟩
  f15 := ⟨Tryz.f122.name, by decide, Tryz.func122.trans (congrArg some (by kernel_rfl))⟩
  f16 := ⟨Tryz.f123.name, by decide, Tryz.func123.trans (congrArg some (by kernel_rfl))⟩
  f17 := ⟨Tryz.f124.name, by decide, Tryz.func124.trans (congrArg some (by kernel_rfl))⟩
  f18 := ⟨Tryz.f125.name, by decide, Tryz.func125.trans (congrArg some (by kernel_rfl))⟩
  f19 := Tryz.func115.trans (congrArg some (by kernel_rfl))
  f20 := Tryz.func116.trans (congrArg some (by kernel_rfl))
  f30 := ⟨Tryz.f147.name, by decide, Tryz.func147.trans (congrArg some (by kernel_rfl))⟩
  f31 := Tryz.func143.trans (congrArg some (by kernel_rfl))
  f32 := Tryz.func144.trans (congrArg some (by kernel_rfl))
  f33 := ⟨Tryz.f148.name, by decide, Tryz.func148.trans (congrArg some (by kernel_rfl))⟩
  f34 := ⟨Tryz.f149.name, by decide, Tryz.func149.trans (congrArg some (by kernel_rfl))⟩
  f35 := ⟨Tryz.f150.name, by decide, Tryz.func150.trans (congrArg some (by kernel_rfl))⟩
  f40 := ⟨Tryz.f157.name, by decide, Tryz.func157.trans (congrArg some (by kernel_rfl))⟩
  t0 := Tryz.underlying0
  a0 := Tryz.isAgg0
  z0 := Tryz.sizeOf0
  v0 := Tryz.zeroValue0
  t3 := Tryz.underlying3
  a3 := Tryz.isAgg3
  z3 := Tryz.sizeOf3
  v3 := Tryz.zeroValue3
  t4 := Tryz.underlying4
  a4 := Tryz.isAgg4
  z4 := Tryz.sizeOf4
  v4 := Tryz.zeroValue4
  t5 := Tryz.underlying5
  a5 := Tryz.isAgg5
  z5 := Tryz.sizeOf5
  v5 := Tryz.zeroValue5
  t9 := Tryz.underlying9
  a9 := Tryz.isAgg9
  z9 := Tryz.sizeOf9
  v9 := Tryz.zeroValue9
  t22 := Tryz.underlying73
  a22 := Tryz.isAgg73
  z22 := Tryz.sizeOf73
  v22 := Tryz.zeroValue73
  t23 := Tryz.underlying73
  a23 := Tryz.isAgg73
  z23 := Tryz.sizeOf73
  v23 := Tryz.zeroValue73
  t25 := Tryz.underlying3
  a25 := Tryz.isAgg3
  z25 := Tryz.sizeOf3
  v25 := Tryz.zeroValue3
  t32 := Tryz.underlying105
  a32 := Tryz.isAgg105
  z32 := Tryz.sizeOf105
  v32 := Tryz.zeroValue105
  t35 := Tryz.underlying145
  a35 := Tryz.isAgg145
  z35 := Tryz.sizeOf145
  v35 := Tryz.zeroValue145
  t36 := Tryz.underlying146
  a36 := Tryz.isAgg146
  z36 := Tryz.sizeOf146
  v36 := Tryz.zeroValue146
  t41 := Tryz.underlying150
  a41 := Tryz.isAgg150
  z41 := Tryz.sizeOf150
  v41 := Tryz.zeroValue150
  t44 := Tryz.underlying153
  a44 := Tryz.isAgg153
  z44 := Tryz.sizeOf153
  v44 := Tryz.zeroValue153
  t46 := Tryz.underlying155
  a46 := Tryz.isAgg155
  z46 := Tryz.sizeOf155
  v46 := Tryz.zeroValue155
  t53 := Tryz.underlying178
  a53 := Tryz.isAgg178
  z53 := Tryz.sizeOf178
  v53 := Tryz.zeroValue178
  t57 := Tryz.underlying182
  a57 := Tryz.isAgg182
  z57 := Tryz.sizeOf182
  v57 := Tryz.zeroValue182
  t63 := Tryz.underlying188
  a63 := Tryz.isAgg188
  z63 := Tryz.sizeOf188
  v63 := Tryz.zeroValue188
  t64 := Tryz.underlying189
  a64 := Tryz.isAgg189
  z64 := Tryz.sizeOf189
  v64 := Tryz.zeroValue189 }
end Go.Proofs
namespace Go.Gk
open Go Go.Proofs
variable (N:Nat) {E w:World} {i0 i1 i2:Nat} {p0 p1 p2 res:Int} {v0 v1 v2:Value} {V:List HP}
theorem ym {res:Bool} (o:Holds E w V) (j:sf N p0 p1 p2=some res):
    Calls bD 91 [(vi p0),(vi p1),(vi p2)].toArray w (gm (aS E V res)):=by
 unfold sf at j
 refine enter Tryz.func91 zr zr (RC.sr (aP (vb false) (RL.ns (mv (vi p0) (mv (vi p1) (ic p0 p1 (mv (vb (decide (p0>=p1))) (RL.gs true (decide (p0>=p1)) (vi p0) zr zr zr cE ?_))))))))
 refine RL.gs true (decide (p0>=p1)) (vi p2) rfl rfl rfl cE (RL.gs true (decide (p0>=p1)) (vb (decide (p0<=p2))) rfl rfl rfl (dK .leq .i64 p0 p2 rfl (fun h=>by exact(cG h:cv (true&&((decide (p0>=p1))==true)) (vi p0)= (vi p0))) (fun h=>by exact(cG h:cv (true&&((decide (p0>=p1))==true)) (vi p2)= (vi p2))) rfl) (RL.pick (decide (p0>=p1)) (vb ((decide (p0>=p1))&&(decide (p0<=p2)))) (gr true) (aP (vb ((decide (p0>=p1))&&(decide (p0<=p2)))) (RL.nt (RC.ret ?_)))))
 obtain rfl:=oi j
 exact bM ⟨rfl,o.drop 0⟩
theorem lL {res:Bool} (o:Holds E w V) (j:lh N p0=some res):
    Calls bD 65 [(vi p0)].toArray w (gm (aS E V res)):=by
 unfold lh at j
 refine enter Tryz.func65 zr zr (RC.sr (aP (vb false) (RL.ns (mv (vi p0) ?_))))
 obtain⟨aa,ab,j⟩:=bd j
 refine RL.call zt zr Lr [(vi p0),(vi (-1000000)),(vi 1000000)] zr (aC (ym N (p0:=p0) (p1:=(-1000000)) (p2:=1000000) o ab) ?_)
 rintro _ w ⟨rfl,o⟩
 refine aP (vb aa) (RL.nt (RC.ret ?_))
 obtain rfl:=oi j
 exact bM ⟨rfl,o.drop 0⟩
theorem s8 {p0:aG} {res:Bool} (j:Holds E w V) (h0:V[i0]? =some (rd v0 p0)) (hb:mD N p0=some res):
    Calls bD 66 [v0].toArray w (gm (aS E V res)):=by
 unfold mD at hb
 refine enter Tryz.func66 zr zr ?_
 have j:=j.dup (i0+0) h0
 refine RC.sr (RL.dA 0 v0 j zr fun aq w j=>?_)
 refine aP (vb false) (RL.nq ?_)
 obtain⟨af,o,hb⟩:=bd hb
 refine RC.jn (fun(af:Bool)=>SH E V [(2,vb af)] []) af ?_ ?_
 ·refine RC.region (RL.aX zr iD (RL.aL 0 j zr dM cF ?_))
  obtain⟨aj,ak,o⟩:=bd o
  refine RL.call zt zr E7 [(vi p0.X0)] zr (aC (lL N (p0:=p0.X0) j ak) ?_)
  rintro _ w ⟨rfl,j⟩
  refine mv (vb aj) (gu o (fun aa o=>?_) fun aa o=>?_)
  rotate_left
  ·refine bN aa (bN aa (bN aa (gD aa (vb false) (mv (vb false) (jX (jX (jX (RL.pick false (vb false) zr ?_))))))))
   refine mv (vb false) (jX (jX (jX (RL.pick false (vb false) zr (aP (vb false) (RL.nil ?_))))))
   obtain rfl:=oi o
   exact⟨rfl,j.sp 2 []⟩
  refine RL.aX (hg:=(cg aa)) zr il (RL.aL (hg:=(cg aa)) 0 j zr dG cF ?_)
  obtain⟨ag,al,o⟩:=bd o
  refine RL.call (cg aa) zr E7 [(vi p0.Y0)] zr (aC (lL N (p0:=p0.Y0) j al) ?_)
  rintro _ w ⟨rfl,j⟩
  refine gD aa (vb ag) (mv (vb ag) (gu o (fun ab o=>?_) fun ab o=>?_))
  rotate_left
  ·refine bN ab (bN ab (bN ab (gD ab (vb false) (mv (vb false) (jX (jX (jX (RL.pick false (vb false) zr ?_))))))))
   refine aP (vb false) (RL.nil ?_)
   obtain rfl:=oi o
   exact⟨rfl,j.sp 2 []⟩
  refine RL.aX (hg:=(cg ab)) zr jl (RL.aL (hg:=(cg ab)) 0 j zr eG cF ?_)
  obtain⟨ah,an,o⟩:=bd o
  refine RL.call (cg ab) zr E7 [(vi p0.X1)] zr (aC (lL N (p0:=p0.X1) j an) ?_)
  rintro _ w ⟨rfl,j⟩
  refine gD ab (vb ah) (mv (vb ah) (gu o (fun ad o=>?_) fun ad o=>?_))
  rotate_left
  ·refine bN ad (bN ad (bN ad (gD ad (vb false) (aP (vb false) (RL.nil ?_)))))
   obtain rfl:=oi o
   exact⟨rfl,j.sp 2 []⟩
  refine RL.aX (hg:=(cg ad)) zr kT (RL.aL (hg:=(cg ad)) 0 j zr fV cF ?_)
  obtain⟨ai,ao,o⟩:=bd o
  refine RL.call (cg ad) zr E7 [(vi p0.Y1)] zr (aC (lL N (p0:=p0.Y1) j ao) ?_)
  rintro _ w ⟨rfl,j⟩
  refine gD ad (vb ai) (aP (vb ai) (RL.nil ?_))
  obtain rfl:=oi o
  exact⟨rfl,j.sp 2 []⟩
 rintro _ w ⟨O,rfl,j⟩
 refine aJ (RC.ret ?_)
 obtain rfl:=oi hb
 exact bM ⟨rfl,j.drop 0⟩
def vD (E:World) (V:List HP) (r:Int) (U:Nat->Value) (w:World):Prop:=l6 bD 30 Tryz.f37 (aU E V r) .ret U w
theorem uP {p0: (List aG)} (o:Holds E w V) (h0:V[i0]? =some (rd v0 p0)) (hb:kK N p0=some res):
    Calls bD 37 [v0].toArray w (gm (aU E V res)):=by
 unfold kK at hb
 refine enter Tryz.func37 zr zr ?_
 have o:=o.dup (i0+0) h0
 refine RC.sr (aP (vi 0) (RL.nq (RC.sr (mv v0 (RL.bA 0 p0 o mS (ic ((p0.length:Int)) 2000 (RL.nt (dW hb (fun hc hb=>?_) fun hc hb=>?_))))))))
 ·refine RC.sr (aP (vi 2) (RL.nt (RC.rt ?_)))
  obtain rfl:=oi hb
  exact bM ⟨rfl,o.drop 1⟩
 refine RC.ss (RC.sr (mv v0 (RL.bA 0 p0 o mS (mv (vi 0) (RL.nt ?_)))))
 obtain⟨aq,hN,hb⟩:=bd hb
 refine RC.range (fun(ae:Nat) (af:Unit)=>SH E V [(8,v0),(9,vi p0.length),(10,vi ae)] [rd v0 p0]) (fun(af:Unit)=>SH E V [] [rd v0 p0]) (vD E V) hN ?_ ?_ ?_ ?_ ?_
 ·exact o.sp 1 [0]
 ·rintro hm af _ w ⟨O,rfl,o⟩
  refine RC.sr (ic ((p0.length:Int)) ((p0.length:Int)) (RL.nq (RC.eZ r5 (RC.ex ?_))))
  exact⟨rfl,o.sp 1 [0]⟩
 ·rintro hm ae af fl _ w hk ⟨O,rfl,o⟩ hb
  refine RC.sr (ic ((ae:Int)) ((p0.length:Int)) (RL.nq (RC.eY (rZ hk) (RC.ss (RC.bs ?_)))))
  obtain⟨j,aj,hb⟩:=bd hb
  refine RL.bP 0 o jt aj fun au o=>(RL.bF 0 j o hZ fun av o=>(RL.alloc o oe.z fun ab w o=>?_))
  refine RL.aY 0 o 1 zr hZ fun w o=>?_
  refine RL.nq (RC.sr (RL.aV (f:=(fun x=>x)) 0 o zr Fd.self hZ fun ak o=>?_))
  obtain⟨al,an,hb⟩:=bd hb
  refine RL.call zt zr Jz [ak] zr (aC (s8 N (i0:=0) o zr an) ?_)
  rintro _ w ⟨rfl,o⟩
  refine RL.not al (RL.nt (dW hb (fun hc hb=>?_) fun hc hb=>?_))
  ·refine RC.sr (aP (vi 1) (RL.nt (RC.rt (nS (bL ?_)))))
   obtain rfl:=oi hb
   exact⟨rfl,bM ⟨rfl,o.drop 5⟩⟩
  refine RC.sx (RL.aX rfl jl (RL.aL 1 o rfl eG cF (RL.aX rfl iD (RL.aL 1 o rfl dM cF (ic j.X1 j.X0 (mv (vb (decide (j.X1<=j.X0))) (RL.gs true (decide (j.X1<=j.X0)) (vp ab 3) rfl rfl rfl (dP kT) (RL.gs true (decide (j.X1<=j.X0)) (vi j.Y1) rfl rfl rfl (bT 1 rfl o (fun h=>by exact(cG h:cv (true&&((decide (j.X1<=j.X0))==false)) (vp ab 3)= (vp ab 3))) rfl fV cF) ?_))))))))
  refine RL.gs true (decide (j.X1<=j.X0)) (vp ab 1) rfl rfl rfl (dP il) (RL.gs true (decide (j.X1<=j.X0)) (vi j.Y0) rfl rfl rfl (bT 1 rfl o (fun h=>by exact(cG h:cv (true&&((decide (j.X1<=j.X0))==false)) (vp ab 1)= (vp ab 1))) rfl dG cF) (RL.gs true (decide (j.X1<=j.X0)) (vb (decide (j.Y1<=j.Y0))) rfl rfl rfl (dK .leq .i64 j.Y1 j.Y0 rfl (fun h=>by exact(cG h:cv (true&&((decide (j.X1<=j.X0))==false)) (vi j.Y1)= (vi j.Y1))) (fun h=>by exact(cG h:cv (true&&((decide (j.X1<=j.X0))==false)) (vi j.Y0)= (vi j.Y0))) rfl) (RL.pick (decide (j.X1<=j.X0)) (vb ((decide (j.X1<=j.X0))||(decide (j.Y1<=j.Y0)))) (nz true) (RL.nt (dW hb (fun hc hb=>?_) fun hc hb=>?_)))))
  rotate_left
  ·refine RC.skip (bQ (aJ (RC.region (RL.inc hk hm (mv (vi ((ae+1:Nat):Int)) (RL.nil ?_))))))
   obtain rfl:=oi hb
   exact⟨rfl,o.sp 5 [4]⟩
  refine RC.sr (aP (vi 13) (RL.nt (RC.rb (bL ?_))))
  obtain rfl:=oi hb
  exact⟨rfl,bM ⟨rfl,o.drop 5⟩⟩
 ·intro r U w e hK
  subst e
  refine bL ?_
  obtain rfl:=oi hb
  exact hK
 rintro af _ w rfl ⟨O,rfl,o⟩
 rw [Fo.dQ] at hb
 refine aJ (RC.sr (aP (vi 0) (RL.nt (RC.ret ?_))))
 obtain rfl:=oi hb
 exact bM ⟨rfl,o.drop 1⟩
theorem mf {p0: (List aG)} {res: (List aG)} (j:Holds E w V) (h0:V[i0]? =some (rd v0 p0)) (o:gx N p0=some res):
    Calls bD 40 [v0].toArray w (gm (eN E V res)):=by
 unfold gx at o
 refine enter Tryz.func40 zr zr ?_
 have j:=j.dup (i0+0) h0
 refine RC.sr (aP (.slice none 0 0) (RL.nq (RC.sr (mv v0 (RL.Ec 0 zr j zr zr zr mS (RL.nt (RC.cond (Dn v0) zr (fun hc=>?_) (fun hc=>?_))))))))
 ·have hx:=j.Hs (i:=0) rfl hc
  rw [hx] at o
  replace o:some ([]: (List aG))=_:=o
  refine RC.sr (aP (.slice none 0 0) (RL.nt (RC.rt ?_)))
  obtain rfl:=oi o
  have j:=j.cX aG 51
  exact bM (j.pk 2 [0])
 refine RC.sx (RL.eX ([]: (List aG)) j [] jt oe (fun M hs g=>zt) fun ae w j=>(mv v0 ?_))
 obtain⟨af,ab,o⟩:=bd o
 refine RL.app 0 1 j yQ ab fun ad w j=>?_
 refine aP ad (RL.nt (RC.ret ?_))
 obtain rfl:=oi o
 exact bM (j.pk 2 [0])
theorem wA {p0 p1:aG} (j:Holds E w V) (h0:V[i0]? =some (rd v0 p0)) (h1:V[i1]? =some (rd v1 p1)) (o:jF N p0 p1=some res):
    Calls bD 42 [v0,v1].toArray w (gm (aU E V res)):=by
 unfold jF at o
 refine enter Tryz.func42 zr zr ?_
 have j:=(j.dup (i0+0) h0).dup (i1+1) h1
 refine RC.sr (RL.dA 1 v0 j zr fun aa w j=>?_)
 refine RL.dA 1 v1 j zr fun ab w j=>?_
 refine aP (vi 0) (RL.ns (RL.aX zr il (RL.aL 1 j zr dG cF (RL.aX zr il (RL.aL 0 j zr dG cF (RL.gQ p0.Y0 p1.Y0 (aP (vi (IntKind.wrap .i64 (p0.Y0 - p1.Y0))) (RL.nt ?_))))))))
 refine RC.ret ?_
 obtain rfl:=oi o
 exact bM ⟨rfl,j.drop 4⟩
def tG (E:World) (V:List HP) (r: (List Int)) (U:Nat->Value) (w:World):Prop:=l6 bD 61 Tryz.f44 (me E V r) .ret U w
theorem th {p0: (List Int)} {res: (List Int)} (j:Holds E w (own 3 v0 p0::V)) (o:gS N p0=some res):
    Calls bD 44 [v0].toArray w (gm (me E V res)):=by
 unfold gS at o
 refine enter Tryz.func44 zr zr (RC.sr (aP (.slice none 0 0) (RL.nq (RC.sr (mv v0 (RL.fY 0 p0 j nr (ic ((p0.length:Int)) 2 (RL.nt ?_))))))))
 refine dW o (fun hc o=>?_) fun hc o=>?_
 ·refine RC.sr (mv v0 (aP v0 (RL.nt (RC.rt ?_))))
  obtain rfl:=oi o
  exact bM (j.pk 1 [0])
 refine RC.ss (RC.sr (aP (vi 1) (RL.nt ?_)))
 obtain⟨a2,hN,o⟩:=bd o
 refine RC.iter (fun(ab:Int)=>SH E V [(0,v0),(3,vi ab)] [own 3 v0 p0]) (fun(ab:Int)=>SH E V [(0,v0)] [own 3 v0 p0]) (tG E V) hN ?_ ?_ ?_ ?_
 ·exact j.sp 1 [0]
 ·rintro ab fl _ w ⟨O,rfl,j⟩ o
  refine RC.seq (RC.sr (mv (vi ab) (mv v0 (RL.fY 0 p0 j nr (ic ab ((p0.length:Int)) (RL.nt (dW o (fun hc o=>?_) fun hc o=>?_)))))))
  rotate_left
  ·refine RC.ex ?_
   obtain rfl:=oi o
   exact⟨rfl,j.sp 1 [0]⟩
  refine RC.ss (RC.block (RC.seq (RC.yk mixed ?_)))
  have j:=j.drew
  refine RO.go (mv v0 (RO.nx (mv (vi ab) (RO.nx ?_))))
  obtain⟨au,al,o⟩:=bd o
  refine RL.bX 0 j zr zr fG al (RO.nx (RL.eH (f:=(fun x=>x)) 0 j (kJ 0 j al 0) (bE al).2.1 Fd.self cF (RO.nx (mv v0 (RO.nx (mv (vi ab) (RO.nx (RL.gQ ab 1 ?_))))))))
  refine RO.nx ?_
  obtain⟨av,an,o⟩:=bd o
  refine RL.bX 0 j zr zr fG an (RO.nx (RL.eH (f:=(fun x=>x)) 0 j (kJ 0 j an 0) (bE an).2.1 Fd.self cF (RO.nx (ic au av (RO.last (aJ (dW o (fun hc o=>?_) fun hc o=>?_)))))))
  rotate_left
  ·refine RC.skip (bQ (aJ (RC.region (mv (vi ab) (RL.gQ ab 1 (aP (vi (IntKind.wrap .i64 (ab+1))) (RL.nil ?_)))))))
   obtain rfl:=oi o
   exact⟨rfl,j.sp 1 [0]⟩
  refine RC.sr (mv v0 (mv (vi ab) ?_))
  obtain⟨a3,af,o⟩:=bd o
  refine RL.view 0 ab zr j zr zr fG af (aP (vw v0 (Int.toNat ab) 1) (RL.nq (RC.sr (aP (vi 1) (RL.nt ?_)))))
  obtain⟨a4,hN,o⟩:=bd o
  refine RC.iter (fun(aa: (List Int)×Int×Int)=>SH E V [(0,v0),(3,vi aa.2.1),(4,(vw v0 (Int.toNat ab) 1)),(5,vi aa.2.2)] [own 3 v0 aa.1]) (fun(aa: (List Int)×Int×Int)=>SH E V [(0,v0),(3,vi aa.2.1)] [own 3 v0 aa.1]) (fun(r:Empty) _ _=>r.elim) hN ?_ ?_ ?_ ?_
  ·exact j.sp 1 [0]
  ·rintro aa fl _ w ⟨O,rfl,j⟩ o
   refine RC.seq (RC.sr (mv (vi aa.2.2) (mv (vw v0 (Int.toNat ab) 1) (RL.IF (i:=0) (l:=aa.1) zt zr j zr zr nr (ic aa.2.2 ((((aa.1.length - Int.toNat ab):Nat):Int)) (RL.nt (dW o (fun hc o=>?_) fun hc o=>?_)))))))
   rotate_left
   ·refine RC.ex ?_
    obtain rfl:=oi o
    exact⟨rfl,j.sp 1 [0]⟩
   refine RC.ss (RC.block (RC.seq (RC.yk mixed ?_)))
   have j:=j.drew
   refine RO.go (mv (vw v0 (Int.toNat ab) 1) (RO.nx (mv (vi aa.2.2) (RO.nx ?_))))
   obtain⟨aw,ag,o⟩:=bd o
   refine RL.F3 0 ab zr j zr zr zr fG (Dr af) (j6 ag).1 (j6 ag).2 (RO.nx (RL.eH (f:=(fun x=>x)) 0 j (kJ 0 j (j6 ag).2 0) (bE (j6 ag).2).2.1 Fd.self cF (RO.nx (mv (vw v0 (Int.toNat ab) 1) (RO.nx (mv (vi aa.2.2) (RO.nx (RL.gQ aa.2.2 1 ?_))))))))
   refine RO.nx ?_
   obtain⟨ax,ah,o⟩:=bd o
   refine RL.F3 0 ab zr j zr zr zr fG (Dr af) (j6 ah).1 (j6 ah).2 (RO.nx (RL.eH (f:=(fun x=>x)) 0 j (kJ 0 j (j6 ah).2 0) (bE (j6 ah).2).2.1 Fd.self cF (RO.nx (ic aw ax (RO.last (aJ ?_))))))
   obtain⟨ai,hj,o⟩:=bd o
   refine RC.jn (fun(ai: (List Int)×Int)=>SH E V [(0,v0),(3,vi ai.2),(4,(vw v0 (Int.toNat ab) 1)),(5,vi aa.2.2)] [own 3 v0 ai.1]) ai ?_ ?_
   ·refine dW hj (fun hc hj=>?_) fun hc hj=>?_
    rotate_left
    ·refine RC.skip ?_
     obtain rfl:=oi hj
     exact⟨rfl,j.sp 1 [0]⟩
    refine RC.sr (mv v0 (mv (vi aa.2.1) (mv (vw v0 (Int.toNat ab) 1) (mv (vi aa.2.2) ?_))))
    obtain⟨ay,aj,hj⟩:=bd hj
    refine RL.F3 0 ab zr j zr zr zr fG (Dr af) (j6 aj).1 (j6 aj).2 (RL.eH (f:=(fun x=>x)) 0 j (kJ 0 j (j6 aj).2 0) (bE (j6 aj).2).2.1 Fd.self cF ?_)
    obtain⟨a5,ao,hj⟩:=bd hj
    refine RL.bX 0 j zr zr fG ao ?_
    have j:=j.sc Int ay
    refine RL.gp (f:=(fun _ y=>y)) 1 0 j (kJ 1 j ao 0) (bE ao).2.1 zr Fs.self cF fun w j=>?_
    refine RL.nt (RC.region (mv (vi aa.2.1) (RL.gQ aa.2.1 1 (aP (vi (IntKind.wrap .i64 (aa.2.1+1))) (RL.nil ?_)))))
    obtain rfl:=oi hj
    exact⟨rfl,j.sp 2 [1]⟩
   rintro _ w ⟨O,rfl,j⟩
   refine bQ (aJ (RC.region (mv (vi aa.2.2) (RL.gQ aa.2.2 1 (aP (vi (IntKind.wrap .i64 (aa.2.2+1))) (RL.nil ?_))))))
   obtain rfl:=oi o
   exact⟨rfl,j.sp 1 [0]⟩
  ·intro r _ _ _ _
   exact r.elim
  rintro aa _ w rfl ⟨O,rfl,j⟩
  rw [Fo.dQ] at o
  refine aJ (RC.sr (mv v0 (mv (vi aa.2.1) ?_)))
  obtain⟨a6,aq,o⟩:=bd o
  refine RL.view 0 aa.2.1 zr j zr zr fG aq (RL.Ca 0 zt j zr zr uM JC (F4 aq) fun w j=>(RL.ns (mv v0 (mv (vi aa.2.1) ?_))))
  obtain⟨a7,az,o⟩:=bd o
  refine RL.AY 0 zr j zr zr fG (.inr ⟨rfl,zr⟩) az fun a0 j=>(aP a0 (RL.nt (RC.rb (bL ?_))))
  obtain rfl:=oi o
  exact⟨rfl,bM (j.pk 1 [0])⟩
 ·intro r U w e hK
  subst e
  refine bL ?_
  obtain rfl:=oi o
  exact hK
 rintro ab _ w rfl ⟨O,rfl,j⟩
 rw [Fo.dQ] at o
 refine aJ (RC.sr (mv v0 (aP v0 (RL.nt (RC.ret ?_)))))
 obtain rfl:=oi o
 exact bM (j.pk 1 [0])
theorem wB {p0:aG} {p1: (List Int)} {res:Bool} (j:Holds E w V) (h0:V[i0]? =some (rd v0 p0)) (h1:V[i1]? =some (pt v1 p1)) (h2:V[i2]? =some (pt v2 p2)) (o:nT N p0 p1 p2=some res):
    Calls bD 46 [v0,v1,v2].toArray w (gm (aS E V res)):=by
 unfold nT at o
 refine enter Tryz.func46 zr zr ?_
 have j:=((j.dup (i0+0) h0).AX (i:=i1+1) h1).AX (i:=i2+2) h2
 refine RC.sr (RL.dA 2 v0 j zr fun ad w j=>?_)
 refine aP (vb false) (RL.nq (RC.yk mixed ?_))
 have j:=j.drew
 refine RO.go (RL.aX zr kT (RO.nx (RL.aL 0 j zr fV cF (RO.nx (RL.bF 2 p1 j iq fun ae j=>(RO.nx (RL.bG p2 2 j cF (RO.nx ?_))))))))
 obtain⟨aa,ab,o⟩:=bd o
 refine RL.bP 0 j fG ab fun af j=>(RO.nx (RL.bG aa 0 j cF (RO.nx (ic p0.Y1 aa (RO.nx (aP (vb (decide (p0.Y1<=aa))) (RO.last (aJ ?_))))))))
 refine RC.ret ?_
 obtain rfl:=oi o
 exact bM ⟨rfl,j.drop 6⟩
def rp (E:World) (V:List HP) (r:Int) (U:Nat->Value) (w:World):Prop:=l6 bD 19 Tryz.f77 (aU E V r) .ret U w
theorem qS {p0: (List aG)} {p1:aG->Option Bool} (j:Holds E w V) (h0:V[i0]? =some (rd v0 p0)) (h1:Ha bD E V v1 p1 (fun(r:Bool)=>Value.bool r)) (o:lN N p0 p1=some res):
    Calls bD 77 [v0,v1].toArray w (gm (aU E V res)):=by
 unfold lN at o
 refine enter Tryz.func77 zr zr ?_
 have j:=j.dup (i0+0) h0
 refine RC.sr (aP (vi 0) (RL.nq (RC.sr (mv v0 (RL.bA 0 p0 j mS (mv (vi 0) (RL.nt ?_)))))))
 obtain⟨al,hN,o⟩:=bd o
 refine RC.range (fun(aa:Nat) (ab:Unit)=>SH E V [(0,v0),(1,v1),(7,vi p0.length),(8,vi aa)] [rd v0 p0]) (fun(ab:Unit)=>SH E V [] [rd v0 p0]) (rp E V) hN ?_ ?_ ?_ ?_ ?_
 ·exact j.sp 1 [0]
 ·rintro hm ab _ w ⟨O,rfl,j⟩
  refine RC.sr (ic ((p0.length:Int)) ((p0.length:Int)) (RL.nq (RC.eZ r5 (RC.ex ?_))))
  exact⟨rfl,j.sp 1 [0]⟩
 ·rintro hm aa ab fl _ w hk ⟨O,rfl,j⟩ o
  refine RC.sr (ic ((aa:Int)) ((p0.length:Int)) (RL.nq (RC.eY (rZ hk) (RC.ss (RC.bs (mv (vi aa) (aP (vi aa) (RL.ns ?_))))))))
  refine mv v1 (mv v0 (mv (vi aa) ?_))
  obtain⟨ag,ah,o⟩:=bd o
  refine RL.bP 0 j jt ah fun ao j=>(RL.bF 0 ag j hZ fun aq j=>?_)
  obtain⟨ar,ai,o⟩:=bd o
  refine RL.AW 0 zr j zr h1 3 zr zr zr ai fun w j=>(RL.nt (dW o (fun hc o=>?_) fun hc o=>?_))
  rotate_left
  ·refine RC.skip (bQ (aJ (RC.region (RL.inc hk hm (mv (vi ((aa+1:Nat):Int)) (RL.nil ?_))))))
   obtain rfl:=oi o
   exact⟨rfl,j.sp 3 [2]⟩
  refine RC.sr (mv (vi aa) (aP (vi aa) (RL.nt (RC.rb (bL ?_)))))
  obtain rfl:=oi o
  exact⟨rfl,bM ⟨rfl,j.drop 3⟩⟩
 ·intro r U w e hK
  subst e
  refine bL ?_
  obtain rfl:=oi o
  exact hK
 rintro ab _ w rfl ⟨O,rfl,j⟩
 rw [Fo.dQ] at o
 refine aJ (RC.sr (aP (vi (-1)) (RL.nt (RC.ret ?_))))
 obtain rfl:=oi o
 exact bM ⟨rfl,j.drop 1⟩
def mg (E:World) (V:List HP) (v0:Value) (p0: (List aG)) (res:Int) (v:Value) (w:World):Prop:=v= (vi res)/\Holds E w ([own 51 v0 p0]++V)
def pU (E:World) (V:List HP) (v0:Value) (p0: (List aG)) (r:Int) (U:Nat->Value) (w:World):Prop:=l6 bD 19 Tryz.f77 (mg E V v0 p0 r) .ret U w
theorem pD {p0: (List aG)} {p1:aG->Option Bool} (o:Holds E w (own 51 v0 p0::V)) (h1:Ha bD E V v1 p1 (fun(r:Bool)=>Value.bool r)) (j:ky N p0 p1=some res):
    Calls bD 77 [v0,v1].toArray w (gm (mg E V v0 p0 res)):=by
 unfold ky at j
 refine enter Tryz.func77 zr zr (RC.sr (aP (vi 0) (RL.nq (RC.sr (mv v0 (RL.fY 0 p0 o mS (mv (vi 0) (RL.nt ?_))))))))
 obtain⟨ak,hN,j⟩:=bd j
 refine RC.range (fun(aa:Nat) (ab:Unit)=>SH E V [(0,v0),(1,v1),(7,vi p0.length),(8,vi aa)] [own 51 v0 p0]) (fun(ab:Unit)=>SH E V [(0,v0)] [own 51 v0 p0]) (pU E V v0 p0) hN ?_ ?_ ?_ ?_ ?_
 ·exact o.sp 1 [0]
 ·rintro hm ab _ w ⟨O,rfl,o⟩
  refine RC.sr (ic ((p0.length:Int)) ((p0.length:Int)) (RL.nq (RC.eZ r5 (RC.ex ?_))))
  exact⟨rfl,o.sp 1 [0]⟩
 ·rintro hm aa ab fl _ w hk ⟨O,rfl,o⟩ j
  refine RC.sr (ic ((aa:Int)) ((p0.length:Int)) (RL.nq (RC.eY (rZ hk) (RC.ss (RC.bs (mv (vi aa) (aP (vi aa) (RL.ns ?_))))))))
  refine mv v1 (mv v0 (mv (vi aa) ?_))
  obtain⟨an,ad,j⟩:=bd j
  refine RL.bX 0 o zr zr jt ad (RL.ld (f:=(fun x=>x)) 0 o (kJ 0 o ad 0) (bE ad).2.1 Fd.self hZ fun ao o=>?_)
  obtain⟨aq,ah,j⟩:=bd j
  refine RL.AW 0 zr o zr h1 2 zr zr zr ah fun w o=>(RL.nt (dW j (fun hc j=>?_) fun hc j=>?_))
  rotate_left
  ·refine RC.skip (bQ (aJ (RC.region (RL.inc hk hm (mv (vi ((aa+1:Nat):Int)) (RL.nil ?_))))))
   obtain rfl:=oi j
   exact⟨rfl,o.sp 2 [1]⟩
  refine RC.sr (mv (vi aa) (aP (vi aa) (RL.nt (RC.rb (bL ?_)))))
  obtain rfl:=oi j
  exact⟨rfl,bM ⟨rfl,o.pk 2 [1]⟩⟩
 ·intro r U w e hK
  subst e
  refine bL ?_
  obtain rfl:=oi j
  exact hK
 rintro ab _ w rfl ⟨O,rfl,o⟩
 rw [Fo.dQ] at j
 refine aJ (RC.sr (aP (vi (-1)) (RL.nt (RC.ret ?_))))
 obtain rfl:=oi j
 exact bM ⟨rfl,o.pk 1 [0]⟩
theorem qo {p0: (List aG)} {p1:aG->Option Bool} {res: (List aG)} (j:Holds E w (own 51 v0 p0::V)) (h1:Ha bD E V v1 p1 (fun(r:Bool)=>Value.bool r)) (o:iz N p0 p1=some res):
    Calls bD 45 [v0,v1].toArray w (gm (eN E V res)):=by
 unfold iz at o
 refine enter Tryz.func45 zr zr (RC.sr (aP (.slice none 0 0) (RL.ns (mv v0 (mv v1 ?_)))))
 have j:=j.pull 0
 obtain⟨ad,aj,o⟩:=bd o
 refine RL.call zt zr JD [v0,v1] zr (aC (pD N j (h1.lift 1 zr) aj) ?_)
 rintro _ w ⟨rfl,j⟩
 refine aP (vi ad) (RL.nq (RC.sr (mv (vi ad) (ic ad ((-1)) (RL.nt (dW o (fun hc o=>?_) fun hc o=>?_))))))
 ·refine RC.sr (mv v0 (aP v0 (RL.nt (RC.rt ?_))))
  obtain rfl:=oi o
  exact bM (j.pk 2 [0])
 refine RC.ss (RC.sr (mv (vi ad) (RL.gQ ad 1 (aP (vi (IntKind.wrap .i64 (ad+1))) (RL.nt ?_)))))
 obtain⟨ar,hN,o⟩:=bd o
 refine RC.iter (fun(aa: (List aG)×Int×Int)=>SH E V [(0,v0),(1,v1),(5,vi aa.2.1),(6,vi aa.2.2)] [own 51 v0 aa.1]) (fun(aa: (List aG)×Int×Int)=>SH E V [(0,v0),(5,vi aa.2.1)] [own 51 v0 aa.1]) (fun(r:Empty) _ _=>r.elim) hN ?_ ?_ ?_ ?_
 ·exact j.sp 2 [0]
 ·rintro aa fl _ w ⟨O,rfl,j⟩ o
  refine RC.seq (RC.sr (mv (vi aa.2.2) (mv v0 (RL.fY 0 aa.1 j mS (ic aa.2.2 ((aa.1.length:Int)) (RL.nt (dW o (fun hc o=>?_) fun hc o=>?_)))))))
  rotate_left
  ·refine RC.ex ?_
   obtain rfl:=oi o
   exact⟨rfl,j.sp 1 [0]⟩
  refine RC.ss (RC.bs (mv v0 (mv (vi aa.2.2) ?_)))
  obtain⟨av,ag,o⟩:=bd o
  refine RL.bX 0 j zr zr jt ag (RL.ld (f:=(fun x=>x)) 0 j (kJ 0 j ag 0) (bE ag).2.1 Fd.self hZ fun aw j=>?_)
  refine RL.alloc j oe.z fun ax w j=>?_
  refine RL.aY 0 j 1 zr hZ fun w j=>?_
  refine RL.ns (mv v1 (RL.aV (f:=(fun x=>x)) 0 j zr Fd.self hZ fun ay j=>?_))
  obtain⟨al,an,o⟩:=bd o
  refine RL.AW 0 zr j zr h1 4 zr zr zr an fun w j=>(RL.not al (RL.nt ?_))
  obtain⟨af,hj,o⟩:=bd o
  refine RC.jn (fun(af: (List aG)×Int)=>SH E V [(0,v0),(1,v1),(5,vi af.2),(6,vi aa.2.2)] [own 51 v0 af.1]) af ?_ ?_
  ·refine dW hj (fun hc hj=>?_) fun hc hj=>?_
   rotate_left
   ·refine RC.skip ?_
    obtain rfl:=oi hj
    exact⟨rfl,j.sp 4 [3]⟩
   refine RC.sr (mv v0 (mv (vi aa.2.1) (RL.aV (f:=(fun x=>x)) 1 j zr Fd.self hZ fun az j=>?_)))
   obtain⟨a0,ah,hj⟩:=bd hj
   refine RL.bX 4 j zr zr jt ah (RL.gp (f:=(fun _ y=>y)) 4 0 j (kJ 4 j ah 0) (bE ah).2.1 zr Fs.self hZ fun w j=>?_)
   refine RL.nt (RC.region (mv (vi aa.2.1) (RL.gQ aa.2.1 1 (aP (vi (IntKind.wrap .i64 (aa.2.1+1))) (RL.nil ?_)))))
   obtain rfl:=oi hj
   exact⟨rfl,j.sp 5 [4]⟩
  rintro _ w ⟨O,rfl,j⟩
  refine bQ (aJ (RC.region (mv (vi aa.2.2) (RL.gQ aa.2.2 1 (aP (vi (IntKind.wrap .i64 (aa.2.2+1))) (RL.nil ?_))))))
  obtain rfl:=oi o
  exact⟨rfl,j.sp 1 [0]⟩
 ·intro r _ _ _ _
  exact r.elim
 rintro aa _ w rfl ⟨O,rfl,j⟩
 rw [Fo.dQ] at o
 refine aJ (RC.sr (mv v0 (mv (vi aa.2.1) ?_)))
 obtain⟨a1,ai,o⟩:=bd o
 refine RL.view 0 aa.2.1 zr j zr zr jt ai (RL.Ca 0 zt j zr zr yQ Lw (F4 ai) fun w j=>(RL.ns (mv v0 (mv (vi aa.2.1) ?_))))
 obtain⟨a2,ao,o⟩:=bd o
 refine RL.AY 0 zr j zr zr jt (.inr ⟨rfl,zr⟩) ao fun aq j=>(aP aq (RL.nt (RC.ret ?_)))
 obtain rfl:=oi o
 exact bM (j.pk 1 [0])
theorem ti {p0 p1:aG} (j:Holds E w V) (h0:V[i0]? =some (rd v0 p0)) (h1:V[i1]? =some (rd v1 p1)) (o:gT N p0 p1=some res):
    Calls bD 79 [v0,v1].toArray w (gm (aU E V res)):=by
 unfold gT at o
 refine enter Tryz.func79 zr zr ?_
 have j:=(j.dup (i0+0) h0).dup (i1+1) h1
 refine RC.sr (RL.dA 1 v0 j zr fun aa w j=>?_)
 refine RL.dA 1 v1 j zr fun ab w j=>?_
 refine aP (vi 0) (RL.ns (RL.aX zr iD (RL.aL 1 j zr dM cF (RL.aX zr iD (RL.aL 0 j zr dM cF (RL.gQ p0.X0 p1.X0 (aP (vi (IntKind.wrap .i64 (p0.X0 - p1.X0))) (RL.nt ?_))))))))
 refine RC.ret ?_
 obtain rfl:=oi o
 exact bM ⟨rfl,j.drop 4⟩
def wC (E:World) (V:List HP) (v0:Value) (res: (List Int)×(List aG)) (v:Value) (w:World):Prop:=Holds E w ([own 3 v res.1,own 51 v0 res.2]++V)
theorem vE {p0: (List aG)} {res: (List Int)×(List aG)} (j:Holds E w (own 51 v0 p0::V)) (hb:jk N p0=some res):
    Calls bD 48 [v0].toArray w (gm (wC E V v0 res)):=by
 unfold jk at hb
 refine enter Tryz.func48 zr zr (RC.sr (aP (.slice none 0 0) (RL.ns (mv v0 ?_))))
 obtain⟨af,a1,hb⟩:=bd hb
 have j:=j.pull 0
 refine RL.call zt zr JA [v0,(.func (.func 79) #[] #[])] zr (aC (Ei Tryz.lay41 aG zr hZ.Hi hZ.sz Lz (fun j hi o hr=>ti N j hi o hr) j a1) ?_)
 rintro _ w ⟨rfl,j⟩
 refine RL.ns (aP (.slice none 0 0) (RL.nq (RC.sr (mv v0 (RL.fY 0 af j mS (mv (vi 0) (RL.nt ?_)))))))
 have j:=j.cX Int 3
 obtain⟨aa,hN,hb⟩:=bd hb
 refine RC.fold (fun(ah:Nat) (aa: (List Int)) U w=>∃av:Value,SH E V [(0,v0),(3,av),(9,v0),(10,vi af.length),(11,vi ah)] [own 51 v0 af,own 3 av aa] U w) (fun(aa: (List Int)) U w=>∃ai:Value,SH E V [(0,v0),(3,ai)] [own 51 v0 af,own 3 ai aa] U w) hN ?_ ?_ ?_ ?_
 ·exact⟨(.slice none 0 0),j.sp 3 [1,0]⟩
 ·rintro hm aa _ w ⟨a3,O,rfl,j⟩
  refine RC.sr (ic ((af.length:Int)) ((af.length:Int)) (RL.nq (RC.eZ r5 (RC.ex ?_))))
  exact⟨rfl,a3,j.sp 2 [0,1]⟩
 ·rintro hm ah aa s' _ w hk ⟨ag,O,rfl,j⟩ hb
  refine RC.sr (ic ((ah:Int)) ((af.length:Int)) (RL.nq (RC.eY (rZ hk) (RC.ss (RC.bs ?_)))))
  obtain⟨ae,ak,hb⟩:=bd hb
  refine RL.bX 0 j zr zr jt ak (RL.ld (f:=(fun x=>x)) 0 j (kJ 0 j ak 0) (bE ak).2.1 Fd.self hZ fun a6 j=>?_)
  refine RL.alloc j oe.z fun ay w j=>?_
  refine RL.aY 0 j 1 zr hZ fun w j=>?_
  refine RL.ns (mv ag (RL.fY 3 aa j nr (RL.gQ (aa.length:Int) 1 (aP (vi (IntKind.wrap .i64 ((aa.length:Int) - 1))) (RL.nq ?_)))))
  obtain⟨al,o,hb⟩:=bd hb
  refine RC.jn (fun(al:Bool)=>SH E V [(0,v0),(3,ag),(5,vp ay 0),(6,(vi (IntKind.wrap .i64 ((aa.length:Int) - 1)))),(9,v0),(10,vi af.length),(11,vi ah),(28,vb al)] [own 51 v0 af,own 3 ag aa,bx 51 ay ae]) al ?_ ?_
  ·refine RC.yk mixed ?_
   have j:=j.drew
   refine RO.go (mv (vi (IntKind.wrap .i64 ((aa.length:Int) - 1))) (RO.nx (ic ((IntKind.wrap .i64 ((aa.length:Int) - 1))) 0 (RO.nx (mv (vb (decide ((IntKind.wrap .i64 ((aa.length:Int) - 1))>=0))) (gu o (fun ab o=>?_) fun ab o=>?_))))))
   rotate_left
   ·refine RO.nx (bN ab (RO.nx (bN ab (RO.nx (bN ab (RO.nx (bN ab (RO.nx ?_))))))))
    refine bN ab (RO.nx (bN ab (RO.nx (bN ab (RO.nx (gD ab (vb false) (RO.last ?_)))))))
    obtain rfl:=oi o
    exact⟨rfl,j.sp 4 [2,3,0]⟩
   refine RO.nx (RL.aX (hg:=(cg ab)) zr iD (RO.nx (RL.aL (hg:=(cg ab)) 0 j zr dM cF (RO.nx (RL.move ag (cg ab) (RO.nx (RL.move (vi (IntKind.wrap .i64 ((aa.length:Int) - 1))) (cg ab) (RO.nx ?_))))))))
   obtain⟨az,an,o⟩:=bd o
   refine RL.bX (hg:=(cg ab)) 3 j zr zr fG an (RO.nx (RL.eH (hg:=(cg ab)) (f:=(fun x=>x)) 3 j (kJ 3 j an 0) (bE an).2.1 Fd.self cF (RO.nx (RL.lA ae.X0 az (cg ab) (RO.nx (gD ab (vb (decide (ae.X0<=az))) (RO.last ?_)))))))
   obtain rfl:=oi o
   exact⟨rfl,j.sp 4 [2,3,0]⟩
  rintro _ w ⟨O,rfl,j⟩
  refine aJ ?_
  obtain⟨ao,o,hb⟩:=bd hb
  refine RC.jn (fun(ao: (List Int)) U w=>∃aj:Value,SH E V [(0,v0),(3,aj),(9,v0),(10,vi af.length),(11,vi ah)] [own 51 v0 af,own 3 aj ao] U w) ao ?_ ?_
  ·refine dW o (fun hc o=>?_) fun hc o=>?_
   rotate_left
   ·refine RC.region (mv ag (RL.aX zr iD (RL.aL 2 j zr dM cF (RL.aX zr jl (RL.aL 2 j zr eG cF ?_)))))
    have j:=(j.sc Int ae.X0).sc Int ae.X1
    refine RL.eX ([ae.X0,ae.X1]: (List Int)) j [(vi ae.X0),(vi ae.X1)] fG Gh (fun M hs g=>⟨(g.sat 1 _ zr).1,⟨(g.sat 0 _ zr).1,zt⟩⟩) fun a7 w j=>?_
    have j:=j.freeze 0
    obtain⟨a8,a5,o⟩:=bd o
    refine RL.app 4 0 j uM a5 fun a0 w j=>?_
    refine aP a0 (RL.nil ?_)
    obtain rfl:=oi o
    exact⟨rfl,a0,j.sp 6 [3,4]⟩
   refine RC.xq mixed [0,0,0,0,0,0,0,0,0,0,2] [0,1,2,3,4,5,6,7,8,9,10] ?_
   have j:=j.drew
   refine DP.e0 zr (mv ag (bW zr (mv (vi (IntKind.wrap .i64 ((aa.length:Int) - 1))) (bW zr (mv ag (bW zr (mv (vi (IntKind.wrap .i64 ((aa.length:Int) - 1))) (bW zr ?_))))))))
   obtain⟨aq,ar,o⟩:=bd o
   refine RL.bX 1 j zr zr fG ar (bW zr (RL.eH (f:=(fun x=>x)) 1 j (kJ 1 j ar 0) (bE ar).2.1 Fd.self cF (bW zr (RL.aX zr jl (bW zr (RL.aL 2 j zr eG cF (bW zr (RL.max aq ae.X1 ?_))))))))
   refine bW zr ?_
   obtain⟨a9,au,o⟩:=bd o
   refine RL.bX 1 j zr zr fG au (r6 zr ?_)
   have j:=j.sc Int (if aq<ae.X1 then ae.X1 else aq)
   refine RL.gp (f:=(fun _ y=>y)) 2 0 j (kJ 2 j au 0) (bE au).2.1 zr Fs.self cF fun w j=>?_
   refine DP.d2 zt (DP.z ?_)
   obtain rfl:=oi o
   exact⟨rfl,ag,j.sp 4 [1,2]⟩
  rintro _ w ⟨aj,O,rfl,j⟩
  refine bQ (aJ (RC.region (RL.inc hk hm (mv (vi ((ah+1:Nat):Int)) (RL.nil ?_)))))
  obtain rfl:=oi hb
  exact⟨rfl,aj,j.sp 2 [0,1]⟩
 rintro _ w ⟨ai,O,rfl,j⟩
 refine aJ (RC.sr (mv ai (aP ai (RL.nt (RC.ret ?_)))))
 obtain rfl:=oi hb
 exact bM (j.pk 2 [1,0])
def vF (E:World) (V:List HP) (r:Bool) (U:Nat->Value) (w:World):Prop:=l6 bD 26 Tryz.f78 (aS E V r) .ret U w
theorem uQ {p0: (List Int)} {p1: (List Int)} {res:Bool} (j:Holds E w V) (h0:V[i0]? =some (rd v0 p0)) (h1:V[i1]? =some (rd v1 p1)) (o:mE N p0 p1=some res):
    Calls bD 78 [v0,v1].toArray w (gm (aS E V res)):=by
 unfold mE at o
 refine enter Tryz.func78 zr zr ?_
 have j:=(j.dup (i0+0) h0).dup (i1+1) h1
 refine RC.sr (aP (vb false) (RL.nq (RC.sr (mv v0 (RL.bA 1 p0 j nr (mv v1 (RL.bA 0 p1 j nr (ic ((p0.length:Int)) ((p1.length:Int)) ?_))))))))
 refine RL.nt (dW o (fun hc o=>?_) fun hc o=>?_)
 ·refine RC.sr (aP (vb false) (RL.nt (RC.rt ?_)))
  obtain rfl:=oi o
  exact bM ⟨rfl,j.drop 2⟩
 refine RC.ss (RC.sr (mv v0 (RL.bA 1 p0 j nr (mv (vi 0) (RL.nt ?_)))))
 obtain⟨an,hN,o⟩:=bd o
 refine RC.range (fun(aa:Nat) (ab:Unit)=>SH E V [(0,v0),(1,v1),(12,vi p0.length),(13,vi aa)] [rd v0 p0,rd v1 p1]) (fun(ab:Unit)=>SH E V [] [rd v0 p0,rd v1 p1]) (vF E V) hN ?_ ?_ ?_ ?_ ?_
 ·exact j.sp 2 [1,0]
 ·rintro hm ab _ w ⟨O,rfl,j⟩
  refine RC.sr (ic ((p0.length:Int)) ((p0.length:Int)) (RL.nq (RC.eZ r5 (RC.ex ?_))))
  exact⟨rfl,j.sp 2 [0,1]⟩
 ·rintro hm aa ab fl _ w hk ⟨O,rfl,j⟩ o
  refine RC.sr (ic ((aa:Int)) ((p0.length:Int)) (RL.nq (RC.eY (rZ hk) (RC.ss (RC.bs (mv (vi aa) (aP (vi aa) (RL.nq ?_))))))))
  refine RC.yk mixed ?_
  have j:=j.drew
  refine RO.go (mv v0 (RO.nx (mv (vi aa) (RO.nx ?_))))
  obtain⟨ag,aj,o⟩:=bd o
  refine RL.bP 0 j fG aj fun aq j=>(RO.nx (RL.bG ag 0 j cF (RO.nx (mv v1 (RO.nx (mv (vi aa) (RO.nx ?_)))))))
  obtain⟨ah,ak,o⟩:=bd o
  refine RL.bP 2 j fG ak fun ar j=>(RO.nx (RL.bG ah 0 j cF (RO.nx (ic ag ah (RO.last (aJ (dW o (fun hc o=>?_) fun hc o=>?_)))))))
  rotate_left
  ·refine RC.skip (bQ (aJ (RC.region (RL.inc hk hm (mv (vi ((aa+1:Nat):Int)) (RL.nil ?_))))))
   obtain rfl:=oi o
   exact⟨rfl,j.sp 4 [2,3]⟩
  refine RC.sr (aP (vb false) (RL.nt (RC.rb (bL ?_))))
  obtain rfl:=oi o
  exact⟨rfl,bM ⟨rfl,j.drop 4⟩⟩
 ·intro r U w e hK
  subst e
  refine bL ?_
  obtain rfl:=oi o
  exact hK
 rintro ab _ w rfl ⟨O,rfl,j⟩
 rw [Fo.dQ] at o
 refine aJ (RC.sr (aP (vb true) (RL.nt (RC.ret ?_))))
 obtain rfl:=oi o
 exact bM ⟨rfl,j.drop 2⟩
theorem qD {p0: (List aA)} {p1:aA} {res: (List aA)} (j:Holds E w (own 81 v0 p0::V)) (h1:V[i1]? =some (rd v1 p1)) (hb:i6 N p0 p1=some res):
    Calls bD 47 [v0,v1].toArray w (gm (kU E V res)):=by
 unfold i6 at hb
 refine enter Tryz.func47 zr zr ?_
 have j:=j.dup (i1+1) h1
 refine RC.sr (RL.dA 0 v1 j zr fun ae w j=>?_)
 refine aP (.slice none 0 0) (RL.nq (RC.sr (RL.aX zr nW (RL.aV 0 j zr dR iq fun aw j=>(RL.bA 0 p1.Xs j nr (ic ((p1.Xs.length:Int)) 0 (mv (vb ((p1.Xs.length:Int)==0)) (RL.gs true ((p1.Xs.length:Int)==0) (vp ae 1) zr zr zr (dP oZ) ?_))))))))
 refine RL.gs true ((p1.Xs.length:Int)==0) (vi p1.Y1) rfl rfl rfl (bT 1 rfl j (fun h=>by exact(cG h:cv (true&&(((p1.Xs.length:Int)==0)==false)) (vp ae 1)= (vp ae 1))) rfl fF cF) (RL.gs true ((p1.Xs.length:Int)==0) (vp ae 0) rfl rfl rfl (dP su) (RL.gs true ((p1.Xs.length:Int)==0) (vi p1.Y0) rfl rfl rfl (bT 1 rfl j (fun h=>by exact(cG h:cv (true&&(((p1.Xs.length:Int)==0)==false)) (vp ae 0)= (vp ae 0))) rfl gO cF) (RL.gs true ((p1.Xs.length:Int)==0) (vb (decide (p1.Y1<=p1.Y0))) rfl rfl rfl (dK .leq .i64 p1.Y1 p1.Y0 rfl (fun h=>by exact(cG h:cv (true&&(((p1.Xs.length:Int)==0)==false)) (vi p1.Y1)= (vi p1.Y1))) (fun h=>by exact(cG h:cv (true&&(((p1.Xs.length:Int)==0)==false)) (vi p1.Y0)= (vi p1.Y0))) rfl) (RL.pick ((p1.Xs.length:Int)==0) (vb (((p1.Xs.length:Int)==0)||(decide (p1.Y1<=p1.Y0)))) (nz true) (RL.nt (dW hb (fun hc hb=>?_) fun hc hb=>?_))))))
 ·refine RC.sr (mv v0 (aP v0 (RL.nt (RC.rt ?_))))
  obtain rfl:=oi hb
  exact bM (j.pk 4 [3])
 refine RC.ss (RC.sr (mv v0 (RL.fY 3 p0 j uN (RL.gQ (p0.length:Int) 1 (aP (vi (IntKind.wrap .i64 ((p0.length:Int) - 1))) (RL.nq ?_))))))
 obtain⟨aj,hj,hb⟩:=bd hb
 refine RC.jn (fun(aj:Bool)=>SH E V [(0,v0),(3,vp ae 0),(5,(vi (IntKind.wrap .i64 ((p0.length:Int) - 1)))),(42,vb aj)] [own 81 v0 p0,bx 81 ae p1]) aj ?_ ?_
 ·refine RC.xq mixed [0,0,0,0,0,0,0,0,0,0,0,0,0,0,0,0,0,0,0,0,2,0] [0,1,2,3,4,5,6,7,8,9,10,11,12,13,14,15,16,17,18,19,20,21] ?_
  have j:=j.drew
  refine DP.e0 zr (mv (vi (IntKind.wrap .i64 ((p0.length:Int) - 1))) (bW zr (ic ((IntKind.wrap .i64 ((p0.length:Int) - 1))) 0 (bW zr (mv (vb (decide ((IntKind.wrap .i64 ((p0.length:Int) - 1))>=0))) (DP.d0 (gu hj (fun o hj=>?_) fun o hj=>?_)))))))
  rotate_left
  ·refine DP.e0 zr (bN o (bW zr (bN o (bW zr (bN o (bW zr (bN o (bW zr ?_))))))))
   refine bN o (bW zr (bN o (bW zr (bN o (bW zr (bN o (bW zr (gD o (vb false) ?_))))))))
   refine bW zr (mv (vb false) (bW zr (jX (bW zr (jX (bW zr (jX (bW zr ?_))))))))
   refine jX (bW zr (jX (bW zr (jX (bW zr (jX (r6 zr (jX ?_))))))))
   refine yv zr (RL.pick false (vb false) zr (DP.d0 (DP.z ?_)))
   obtain rfl:=oi hj
   exact⟨rfl,j.sp 4 [3,1]⟩
  refine DP.e0 zr (RL.move v0 (cg o) (bW zr (RL.move (vi (IntKind.wrap .i64 ((p0.length:Int) - 1))) (cg o) (bW zr ?_))))
  obtain⟨ak,af,hj⟩:=bd hj
  refine RL.bX (hg:=(cg o)) 3 j zr zr o0 af (bW zr (RL.nk (α:=aA) (cg o) (kJ 3 j af 0) oZ (bW zr (RL.eH (hg:=(cg o)) 3 j (kJ 3 j af 1) (bE af).2.1 fF cF (bW zr (RL.aX (hg:=(cg o)) zr su (bW zr (RL.aL (hg:=(cg o)) 1 j zr gO cF ?_))))))))
  refine bW zr (RL.lA ak.Y1 p1.Y0 (cg o) (bW zr (gD o (vb (ak.Y1==p1.Y0)) (bW zr (mv (vb (ak.Y1==p1.Y0)) (DP.d0 (gu hj (fun aa hj=>?_) fun aa hj=>?_)))))))
  rotate_left
  ·refine DP.e0 zr (bN aa (bW zr (bN aa (bW zr (bN aa (bW zr (bN aa (bW zr ?_))))))))
   refine bN aa (bW zr (bN aa (bW zr (bN aa (r6 zr (bN aa (yv zr (gD aa (vb false) ?_))))))))
   refine DP.d0 (DP.z ?_)
   obtain rfl:=oi hj
   exact⟨rfl,j.sp 4 [3,1]⟩
  refine DP.e0 zr (RL.move v0 (cg aa) (bW zr (RL.move (vi (IntKind.wrap .i64 ((p0.length:Int) - 1))) (cg aa) (bW zr ?_))))
  obtain⟨ax,ag,hj⟩:=bd hj
  refine RL.bX (hg:=(cg aa)) 3 j zr zr o0 ag (bW zr (RL.nk (α:=aA) (cg aa) (kJ 3 j ag 0) nW (bW zr (RL.ld (hg:=(cg aa)) 3 j (kJ 3 j ag 2) (bE ag).2.1 dR iq fun al j=>?_))))
  refine bW zr (RL.aX (hg:=(cg aa)) zr nW (bW zr (RL.aV (hg:=(cg aa)) 2 j zr dR iq fun an j=>(r6 zr ?_))))
  obtain⟨ao,aq,hj⟩:=bd hj
  refine RL.call (cg aa) zr LB [al,an] zr (aC (uQ N (i0:=1) (i1:=0) j zr zr aq) ?_)
  rintro _ w ⟨rfl,j⟩
  refine yv zr (gD aa (vb ao) (DP.d0 (DP.z ?_)))
  obtain rfl:=oi hj
  exact⟨rfl,j.sp 6 [5,3]⟩
 rintro _ w ⟨O,rfl,j⟩
 refine aJ (dW hb (fun hc hb=>?_) fun hc hb=>?_)
 rotate_left
 ·refine RC.sx (mv v0 (RL.aV (f:=(fun x=>x)) 1 j zr Fd.self Bb fun ar j=>(RL.eX ([p1]: (List aA)) j [ar] o0 Gi (fun M hs g=>⟨(g.sat 0 _ zr).1,zt⟩) fun ay w j=>?_)))
  have j:=j.freeze 0
  obtain⟨az,au,hb⟩:=bd hb
  refine RL.app 2 0 j LC au fun av w j=>?_
  refine aP av (RL.nt (RC.ret ?_))
  obtain rfl:=oi hb
  exact bM (j.pk 4 [2])
 refine RC.sr (mv v0 (mv (vi (IntKind.wrap .i64 ((p0.length:Int) - 1))) (RL.aX zr oZ (RL.aL 1 j zr fF cF ?_))))
 obtain⟨a0,ah,hb⟩:=bd hb
 refine RL.bX 0 j zr zr o0 ah (RL.nk (α:=aA) zt (kJ 0 j ah 0) oZ ?_)
 have j:=j.sc Int p1.Y1
 refine RL.gp 1 0 j (kJ 1 j ah 1) (bE ah).2.1 zr oY cF fun w j=>?_
 refine RL.ns (mv v0 (aP v0 (RL.nt (RC.rt ?_))))
 obtain rfl:=oi hb
 exact bM (j.pk 3 [1])
theorem iF {p0: (List aG)} {res: (List aA)} (o:Holds E w V) (h0:V[i0]? =some (rd v0 p0)) (hb:dN N p0=some res):
    Calls bD 22 [v0].toArray w (gm (kU E V res)):=by
 unfold dN at hb
 refine enter Tryz.func22 zr zr ?_
 have o:=o.dup (i0+0) h0
 refine RC.sr (aP (.slice none 0 0) (RL.ns (mv v0 ?_)))
 obtain⟨cf,bn,hb⟩:=bd hb
 refine RL.call zt zr IQ [v0] zr (aC (mf N (i0:=0) o zr bn) ?_)
 rintro ae w o
 refine aP ae (RL.ns (mv ae ?_))
 obtain⟨ah,bo,hb⟩:=bd hb
 have o:=o.pull 0
 refine RL.call zt zr JA [ae,(.func (.func 42) #[] #[])] zr (aC (Ei Tryz.lay41 aG zr hZ.Hi hZ.sz Lt (fun o hi hj hr=>wA N o hi hj hr) o bo) ?_)
 rintro _ w ⟨rfl,o⟩
 refine RL.ns (RL.pP o JB fun ag w o=>?_)
 refine RL.nq (RC.sr (mv ae (RL.fY 1 ah o mS (mv (vi 0) (RL.nt ?_)))))
 obtain⟨ao,hN,hb⟩:=bd hb
 refine RC.fold (fun(aw:Nat) (ao: (List Int)) U w=>∃a6:Value,SH E V [(0,ae),(3,vp ag 0),(14,ae),(15,vi ah.length),(16,vi aw)] [own 51 ae ah,bc 73 ag [a6],own 3 a6 ao] U w) (fun(ao: (List Int)) U w=>∃an:Value,SH E V [(0,ae),(3,vp ag 0)] [own 51 ae ah,bc 73 ag [an],own 3 an ao] U w) hN ?_ ?_ ?_ ?_
 ·have o:=o.cX Int 3
  exact⟨(.slice none 0 0),o.sp 5 [2,1,0]⟩
 ·rintro hm ao _ w ⟨bp,O,rfl,o⟩
  refine RC.sr (ic ((ah.length:Int)) ((ah.length:Int)) (RL.nq (RC.eZ r5 (RC.ex ?_))))
  exact⟨rfl,bp,o.sp 3 [0,1,2]⟩
 ·rintro hm aw ao s' _ w hk ⟨bq,O,rfl,o⟩ hb
  refine RC.sr (ic ((aw:Int)) ((ah.length:Int)) (RL.nq (RC.eY (rZ hk) (RC.ss (RC.bs ?_)))))
  obtain⟨aq,a1,hb⟩:=bd hb
  refine RL.bX 0 o zr zr jt a1 (RL.ld (f:=(fun x=>x)) 0 o (kJ 0 o a1 0) (bE a1).2.1 Fd.self hZ fun ch o=>?_)
  refine RL.alloc o oe.z fun cj w o=>?_
  refine RL.aY 0 o 1 zr hZ fun w o=>?_
  refine RL.nt (RC.region (RL.cA 3 bq o iq (RL.aX zr il (RL.aL 0 o zr dG cF (RL.aX zr kT (RL.aL 0 o zr fV cF ?_))))))
  have o:=(o.sc Int aq.Y0).sc Int aq.Y1
  refine RL.eX ([aq.Y0,aq.Y1]: (List Int)) o [(vi aq.Y0),(vi aq.Y1)] fG Gh (fun M hs g=>⟨(g.sat 1 _ zr).1,⟨(g.sat 0 _ zr).1,zt⟩⟩) fun ck w o=>?_
  have o:=o.freeze 0
  obtain⟨cl,br,hb⟩:=bd hb
  refine RL.app 7 0 o uM br fun a9 w o=>?_
  refine RL.gW 6 a9 o zr zr (eM 7 o) iq fun w o=>?_
  refine RL.nil (bQ (aJ (RC.region (RL.inc hk hm (mv (vi ((aw+1:Nat):Int)) (RL.nil ?_))))))
  obtain rfl:=oi hb
  exact⟨rfl,a9,o.sp 8 [5,6,7]⟩
 rintro _ w ⟨an,O,rfl,o⟩
 refine aJ (RC.sr (RL.cA 1 an o iq ?_))
 obtain⟨cm,bt,hb⟩:=bd hb
 have o:=o.pull 2
 refine RL.call zt zr Lu [an] zr (aC (F8 Tryz.lay43 o bt) ?_)
 rintro _ w ⟨rfl,o⟩
 refine RL.ns (RL.cA 2 an o iq ?_)
 have o:=o.pull 0
 obtain⟨ai,bu,hb⟩:=bd hb
 refine RL.call zt zr Lv [an] zr (aC (th N o bu) ?_)
 rintro bw w o
 refine RL.gW 3 bw o zr zr (eM 0 o) iq fun w o=>?_
 refine RL.ns (aP (.slice none 0 0) (RL.ns (aP (.slice none 0 0) (RL.ns (aP (vi 0) (RL.nq (RC.sr (RL.alloc o Gh.z fun bz w o=>?_))))))))
 have o:=o.sc Int 0
 refine RL.aY 1 o 0 zr cF fun w o=>?_
 refine RL.nt ?_
 have o:=((((o.freeze 2).v7 (i:=5) (x:=ai) rfl (fun M hs g=>(cB (g.sat 2 _ rfl).1))).mC (i:=5) rfl).cX aA 81).cX aG 51
 obtain⟨cn,hN,hb⟩:=bd hb
 refine RC.iter (fun(ab: (List aA)×(List aG)×Int×Int) U w=>∃(ba bb:Value) (bf:Nat),SH E V [(0,ae),(3,vp ag 0),(6,ba),(7,bb),(8,vi ab.2.2.1),(9,vp bf 0)] [own 51 ae ah,pt (vp ag 0) ai,own 81 ba ab.1,own 51 bb ab.2.1,bx 3 bf ab.2.2.2] U w) (fun(ab: (List aA)×(List aG)×Int×Int) U w=>∃av:Value,SH E V [(6,av)] [own 51 ae ah,pt (vp ag 0) ai,own 81 av ab.1] U w) (fun(r:Empty) _ _=>r.elim) hN ?_ ?_ ?_ ?_
 ·exact⟨(.slice none 0 0),(.slice none 0 0),bz,o.sp 9 [6,7,1,0,3]⟩
 ·rintro ab fl _ w ⟨ak,bg,al,O,rfl,o⟩ hb
  refine RC.seq (RC.sr (RL.aL (f:=(fun x=>x)) 4 o zr Fd.self cF (RL.gQ ab.2.2.2 1 (RL.bF 1 ai o iq fun cp o=>(RL.bA 0 ai o nr (ic ((IntKind.wrap .i64 (ab.2.2.2+1))) ((ai.length:Int)) (RL.nt (dW hb (fun hc hb=>?_) fun hc hb=>?_))))))))
  rotate_left
  ·refine RC.ex ?_
   obtain rfl:=oi hb
   exact⟨rfl,ak,o.sp 6 [1,2,3]⟩
  refine RC.ss (RC.bs (mv bg ?_))
  have o:=o.mC (i:=5) rfl
  refine RL.makeFunc zt zr [(vp ag 0),(vp al 0)] zr ?_
  have o:=o.pull 4
  obtain⟨cq,b1,hb⟩:=bd hb
  refine RL.call trivial rfl Ly [bg,(.func (.func 46) #[] #[(vp ag 0),(vp al 0)])] rfl (aC (qo N o ⟨46,[(vp ag 0),(vp al 0)],rfl,Lx,fun w Γl v y0 r i o hi hr=>by exact aC (wB N (i0:=i) (i1:=Γl.length+2) (i2:=Γl.length+5) o hi (AV rfl) (AV rfl) hr) fun _ _ h=>h⟩ b1) ?_)
  rintro bh w o
  refine aP bh (RL.nq ?_)
  obtain⟨cr,hN,hb⟩:=bd hb
  refine RC.iter (fun(af: (List aG)×Int) U w=>∃bj:Value,SH E V [(0,ae),(3,vp ag 0),(6,ak),(7,bj),(8,vi af.2),(9,vp al 0)] [own 51 ae ah,pt (vp ag 0) ai,own 81 ak ab.1,pt (vp al 0) ab.2.2.2,own 51 bj af.1] U w) (fun(af: (List aG)×Int) U w=>∃ar:Value,SH E V [(0,ae),(3,vp ag 0),(6,ak),(7,ar),(8,vi af.2),(9,vp al 0)] [own 51 ae ah,pt (vp ag 0) ai,own 81 ak ab.1,pt (vp al 0) ab.2.2.2,own 51 ar af.1] U w) (fun(r:Empty) _ _=>r.elim) hN ?_ ?_ ?_ ?_
  ·exact⟨bh,o.sp 7 [2,3,4,6,0]⟩
  ·rintro af fl _ w ⟨ax,O,rfl,o⟩ hb
   refine RC.seq (RC.seq ?_)
   obtain⟨a3,hj,hb⟩:=bd hb
   refine RC.jn (fun(a3:Bool)=>SH E V [(0,ae),(3,vp ag 0),(6,ak),(7,ax),(8,vi af.2),(9,vp al 0),(57,vb a3)] [own 51 ae ah,pt (vp ag 0) ai,own 81 ak ab.1,own 51 ax af.1,pt (vp al 0) ab.2.2.2]) a3 ?_ ?_
   ·refine RC.yk mixed ?_
    have o:=o.drew
    refine RO.go (mv (vi af.2) (RO.nx (mv ae (RO.nx (RL.fY 0 ah o mS (RO.nx (ic af.2 ((ah.length:Int)) (RO.nx ?_))))))))
    refine mv (vb (decide (af.2< (ah.length:Int)))) (gu hj (fun ad hj=>?_) fun ad hj=>?_)
    rotate_left
    ·refine RO.nx (bN ad (RO.nx (bN ad (RO.nx (bN ad (RO.nx (bN ad (RO.nx ?_))))))))
     refine bN ad (RO.nx (bN ad (RO.nx (bN ad (RO.nx (bN ad (RO.nx (bN ad ?_))))))))
     refine RO.nx (bN ad (RO.nx (gD ad (vb false) (RO.last ?_))))
     obtain rfl:=oi hj
     exact⟨rfl,o.sp 5 [0,1,2,4,3]⟩
    refine RO.nx (RL.move ae (cg ad) (RO.nx (RL.move (vi af.2) (cg ad) (RO.nx ?_))))
    obtain⟨bk,ay,hj⟩:=bd hj
    refine RL.bX (hg:=(cg ad)) 0 o zr zr jt ay (RO.nx (RL.nk (α:=aG) (cg ad) (kJ 0 o ay 0) il (RO.nx (RL.eH (hg:=(cg ad)) 0 o (kJ 0 o ay 1) (bE ay).2.1 dG cF (RO.nx (RL.bF (hg:=(cg ad)) 1 ai o iq fun ct o=>?_))))))
    refine RO.nx (RL.bG (hg:=(cg ad)) ab.2.2.2 4 o cF (RO.nx ?_))
    obtain⟨a4,b2,hj⟩:=bd hj
    refine RL.bP (hg:=(cg ad)) 0 o fG b2 fun cu o=>(RO.nx (RL.bG (hg:=(cg ad)) a4 0 o cF (RO.nx (RL.lA bk.Y0 a4 (cg ad) (RO.nx (gD ad (vb (decide (bk.Y0<=a4))) (RO.last ?_)))))))
    obtain rfl:=oi hj
    exact⟨rfl,o.sp 7 [2,3,4,6,5]⟩
   rintro _ w ⟨O,rfl,o⟩
   refine aJ (dW hb (fun hc hb=>?_) fun hc hb=>?_)
   rotate_left
   ·refine RC.ex ?_
    obtain rfl:=oi hb
    exact⟨rfl,ax,o.sp 5 [0,1,2,4,3]⟩
   refine RC.sn (RC.block (RC.region (mv ax (mv ae (mv (vi af.2) ?_)))))
   obtain⟨b3,a5,hb⟩:=bd hb
   refine RL.bX 0 o zr zr jt a5 (RL.ld (f:=(fun x=>x)) 0 o (kJ 0 o a5 0) (bE a5).2.1 Fd.self hZ fun b4 o=>?_)
   refine RL.eX ([b3]: (List aG)) o [b4] jt oe (fun M hs g=>⟨(g.sat 0 _ zr).1,zt⟩) fun cv w o=>?_
   have o:=o.freeze 0
   obtain⟨cw,b5,hb⟩:=bd hb
   refine RL.app 5 0 o yQ b5 fun bl w o=>?_
   refine mv (vi af.2) (RL.gQ af.2 1 (aP bl (aP (vi (IntKind.wrap .i64 (af.2+1))) (RL.nil (bQ ?_)))))
   obtain rfl:=oi hb
   exact⟨rfl,bl,o.sp 7 [2,3,4,6,5]⟩
  ·intro r _ _ _ _
   exact r.elim
  rintro af _ w rfl ⟨ar,O,rfl,o⟩
  rw [Fo.dQ] at hb
  refine aJ (RC.xq mixed [1,1,1,1,1,1,1,1,1,1,0,2,0,2,0] [0,1,2,3,4,5,6,7,8,9,10,11,12,13,14] ?_)
  have o:=o.drew
  refine DP.e1 ak zr (fun w=>RL.move ak zt DP.d1) (DP.yN ai 1 zr zt o iq fun cx a305 cy o=>(DP.qz ab.2.2.2 5 zr o cF fun a307 cz o=>?_))
  obtain⟨az,b6,hb⟩:=bd hb
  refine DP.vv 2 zr o fG b6 fun c0 o=>(DP.qz az 0 zr o cF fun a311 c1 o=>(DP.yN ai 6 zr zt o iq fun c2 a314 c3 o=>(DP.qz ab.2.2.2 10 zr o cF fun a316 c4 o=>(DP.e1 (vi (IntKind.wrap .i64 (ab.2.2.2+1))) zr (fun w=>RL.gQ ab.2.2.2 1 DP.d1) ?_))))
  obtain⟨a0,b7,hb⟩:=bd hb
  refine DP.vv 2 zr o fG b7 fun c5 o=>(DP.qz a0 0 zr o cF fun a320 c6 o=>(DP.e0 zr (mv ar (r6 zr ?_))))
  have o:=o.pull 14
  obtain⟨b8,b9,hb⟩:=bd hb
  refine RL.call zt zr LA [ar] zr (aC (vE N o b9) ?_)
  rintro ca w o
  refine DP.d2 (⟨⟨⟨⟨⟨⟨zt,o.iu 10⟩,o.iu 9⟩,o.iu 7⟩,o.iu 5⟩,o.iu 4⟩,o.iu 2⟩) (DP.e0 zr ?_)
  have o:=((o.sc Int az).sc Int a0).freeze 2
  refine RL.build (⟨az,a0,b8.1⟩:aA) trivial rfl o [(0,vi az),(1,vi a0),(2,ca)] rfl JE rfl (fun M hs g=>by have h:=wu M;exact dB.cons (f:=fun(x:aA) y=>{x with Y0:=y}) h sY (g.sat 1 _ rfl).1 fun _ h=>dB.cons (f:=fun(x:aA) y=>{x with Y1:=y}) h oY (g.sat 0 _ rfl).1 fun _ h=>dB.cons (f:=fun(x:aA) y=>{x with Xs:=y}) h sZ (g.sat 2 _ rfl).1 fun _ h=>dB.nil h) fun cb o=>?_
  refine r6 zr ?_
  have o:=o.pull 17
  obtain⟨c7,cc,hb⟩:=bd hb
  refine RL.call zt zr JF [ak,cb] zr (aC (qD N (i1:=0) o zr cc) ?_)
  rintro bm w o
  refine DP.d2 (⟨⟨⟨⟨⟨⟨zt,o.iu 14⟩,o.iu 13⟩,o.iu 11⟩,o.iu 9⟩,o.iu 8⟩,o.iu 6⟩) (DP.e0 zr (aP bm (DP.d0 ?_)))
  have o:=o.pl 21 [0,1,2,3,4,5,7,10,12,15,16,17,18,19,20]
  refine DP.z (bQ (aJ (RC.seq (RC.sr (RL.bG ab.2.2.2 13 o cF (RL.nt (RC.region (RL.alloc o Gh.z fun cd w o=>?_))))))))
  have o:=o.sc Int ab.2.2.2
  refine RL.aY 1 o 0 zr cF fun w o=>?_
  refine RL.nt (RC.region (RL.aL (f:=(fun x=>x)) 1 o zr Fd.self cF (RL.gQ ab.2.2.2 1 ?_)))
  have o:=o.sc Int (IntKind.wrap .i64 (ab.2.2.2+1))
  refine RL.FV (i:=2) (j:=0) zt o zr zr zr zr cF fun w o=>?_
  refine RL.nil ?_
  obtain rfl:=oi hb
  exact⟨rfl,bm,ar,cd,o.sp 18 [13,14,3,8,2]⟩
 ·intro r _ _ _ _
  exact r.elim
 rintro ab _ w rfl ⟨av,O,rfl,o⟩
 rw [Fo.dQ] at hb
 refine aJ (RC.sr (mv av (aP av (RL.nt (RC.ret ?_)))))
 obtain rfl:=oi hb
 exact bM (o.pk 3 [2])
theorem lq {p0: (List aA)} {res: (List aG)} (j:Holds E w V) (h0:V[i0]? =some (rd v0 p0)) (o:iL N p0=some res):
    Calls bD 39 [v0].toArray w (gm (eN E V res)):=by
 unfold iL at o
 refine enter Tryz.func39 zr zr ?_
 have j:=j.dup (i0+0) h0
 refine RC.sr (aP (.slice none 0 0) (RL.ns (aP (.slice none 0 0) (RL.nq (RC.sr (mv v0 (RL.bA 0 p0 j uN (mv (vi 0) ?_))))))))
 refine RL.nt ?_
 obtain⟨ad,hN,o⟩:=bd o
 refine RC.fold (fun(ae:Nat) (ad: (List aG)) U w=>∃an:Value,SH E V [(3,an),(7,v0),(8,vi p0.length),(9,vi ae)] [rd v0 p0,own 51 an ad] U w) (fun(ad: (List aG)) U w=>∃af:Value,SH E V [(3,af)] [rd v0 p0,own 51 af ad] U w) hN ?_ ?_ ?_ ?_
 ·have j:=j.cX aG 51
  exact⟨(.slice none 0 0),j.sp 2 [1,0]⟩
 ·rintro hm ad _ w ⟨av,O,rfl,j⟩
  refine RC.sr (ic ((p0.length:Int)) ((p0.length:Int)) (RL.nq (RC.eZ r5 (RC.ex ?_))))
  exact⟨rfl,av,j.sp 2 [0,1]⟩
 ·rintro hm ae ad s' _ w hk ⟨aw,O,rfl,j⟩ o
  refine RC.sr (ic ((ae:Int)) ((p0.length:Int)) (RL.nq (RC.eY (rZ hk) (RC.ss (RC.bs ?_)))))
  obtain⟨ab,ax,o⟩:=bd o
  refine RL.bP 0 j o0 ax fun a3 j=>(RL.bF 0 ab j Bb fun a4 j=>(RL.alloc j Gi.z fun ak w j=>?_))
  refine RL.aY 0 j 1 zr Bb fun w j=>?_
  refine RL.ns (aP (vi 0) (RL.nt ?_))
  obtain⟨a5,hN,o⟩:=bd o
  refine RC.iter (fun(aa: (List aG)×Int) U w=>∃ar:Value,SH E V [(3,ar),(5,vp ak 0),(6,vi aa.2),(7,v0),(8,vi p0.length),(9,vi ae)] [bx 81 ak ab,rd v0 p0,own 51 ar aa.1] U w) (fun(aa: (List aG)×Int) U w=>∃ai:Value,SH E V [(3,ai),(7,v0),(8,vi p0.length),(9,vi ae)] [bx 81 ak ab,rd v0 p0,own 51 ai aa.1] U w) (fun(r:Empty) _ _=>r.elim) hN ?_ ?_ ?_ ?_
  ·exact⟨aw,j.sp 5 [0,3,4]⟩
  ·rintro aa fl _ w ⟨al,O,rfl,j⟩ o
   refine RC.seq (RC.sr (mv (vi aa.2) (RL.aX zr nW (RL.aV 0 j zr dR iq fun a7 j=>(RL.bA 0 ab.Xs j nr (ic aa.2 ((ab.Xs.length:Int)) (RL.nt (dW o (fun hc o=>?_) fun hc o=>?_))))))))
   rotate_left
   ·refine RC.ex ?_
    obtain rfl:=oi o
    exact⟨rfl,al,j.sp 4 [1,2,3]⟩
   refine RC.ss (RC.block (RC.xq mixed [1,0,0,0,0,0,0,0,0,0,0,0,0,0,0,0,0,2,2,0] [0,1,2,3,4,5,6,7,8,9,10,11,12,13,14,15,16,17,18,19] ?_))
   have j:=j.drew
   refine DP.e1 al zr (fun w=>RL.move al zt DP.d1) (DP.e0 zr (RL.aX zr nW (bW zr (RL.aV 1 j zr dR iq fun a8 j=>(bW zr (mv (vi aa.2) (bW zr ?_)))))))
   obtain⟨ag,az,o⟩:=bd o
   refine RL.bP 0 j fG az fun a9 j=>(bW zr (RL.bG ag 0 j cF (bW zr (RL.aX zr su (bW zr (RL.aL 3 j zr gO cF (bW zr (RL.aX zr nW ?_))))))))
   refine bW zr (RL.aV 3 j zr dR iq fun ba j=>(bW zr (mv (vi aa.2) (bW zr (RL.gQ aa.2 1 (bW zr ?_))))))
   obtain⟨ah,a0,o⟩:=bd o
   refine RL.bP 0 j fG a0 fun bb j=>(bW zr (RL.bG ah 0 j cF (bW zr (RL.aX zr oZ (bW zr (RL.aL 5 j zr fF cF (bW zr ?_)))))))
   have j:=(((j.sc Int ag).sc Int ab.Y0).sc Int ah).sc Int ab.Y1
   refine RL.build (⟨ag,ab.Y0,ah,ab.Y1⟩:aG) trivial rfl j [(0,vi ag),(1,vi ab.Y0),(2,vi ah),(3,vi ab.Y1)] rfl Cw rfl (fun M hs g=>by have h:=sm M;exact dB.cons (f:=fun(x:aG) y=>{x with X0:=y}) h ot (g.sat 3 _ rfl).1 fun _ h=>dB.cons (f:=fun(x:aG) y=>{x with Y0:=y}) h pK (g.sat 2 _ rfl).1 fun _ h=>dB.cons (f:=fun(x:aG) y=>{x with X1:=y}) h ou (g.sat 1 _ rfl).1 fun _ h=>dB.cons (f:=fun(x:aG) y=>{x with Y1:=y}) h pL (g.sat 0 _ rfl).1 fun _ h=>dB.nil h) fun a1 j=>?_
   refine r6 zr (RL.eX ([(⟨ag,ab.Y0,ah,ab.Y1⟩:aG)]: (List aG)) j [a1] jt oe (fun M hs g=>⟨(g.sat 0 _ zr).1,zt⟩) fun bc w j=>(Hf zr ?_))
   have j:=j.freeze 0
   obtain⟨bf,a2,o⟩:=bd o
   refine RL.app 13 0 j yQ a2 fun au w j=>?_
   refine yv zr (aP au (DP.d0 (DP.z (bQ (aJ (RC.region (mv (vi aa.2) (RL.gQ aa.2 2 ?_))))))))
   refine aP (vi (IntKind.wrap .i64 (aa.2+2))) (RL.nil ?_)
   obtain rfl:=oi o
   exact⟨rfl,au,j.sp 14 [11,12,13]⟩
  ·intro r _ _ _ _
   exact r.elim
  rintro aa _ w rfl ⟨ai,O,rfl,j⟩
  rw [Fo.dQ] at o
  refine bQ (aJ (RC.region (RL.inc hk hm (mv (vi ((ae+1:Nat):Int)) (RL.nil ?_)))))
  obtain rfl:=oi o
  exact⟨rfl,ai,j.sp 3 [1,2]⟩
 rintro _ w ⟨af,O,rfl,j⟩
 refine aJ (RC.sr (mv af (aP af (RL.nt (RC.ret ?_)))))
 obtain rfl:=oi o
 exact bM (j.pk 2 [1])
def uR (E:World) (V:List HP) (r:Bool) (U:Nat->Value) (w:World):Prop:=l6 bD 26 Tryz.f38 (aS E V r) .ret U w
theorem tH {p0: (List aG)} {p1: (List aG)} {res:Bool} (j:Holds E w V) (h0:V[i0]? =some (rd v0 p0)) (h1:V[i1]? =some (rd v1 p1)) (o:kb N p0 p1=some res):
    Calls bD 38 [v0,v1].toArray w (gm (aS E V res)):=by
 unfold kb at o
 refine enter Tryz.func38 zr zr ?_
 have j:=(j.dup (i0+0) h0).dup (i1+1) h1
 refine RC.sr (aP (vb false) (RL.nq (RC.sr (mv v0 (RL.bA 1 p0 j mS (mv v1 (RL.bA 0 p1 j mS (ic ((p0.length:Int)) ((p1.length:Int)) ?_))))))))
 refine RL.nt (dW o (fun hc o=>?_) fun hc o=>?_)
 ·refine RC.sr (aP (vb false) (RL.nt (RC.rt ?_)))
  obtain rfl:=oi o
  exact bM ⟨rfl,j.drop 2⟩
 refine RC.ss (RC.sr (mv v0 (RL.bA 1 p0 j mS (mv (vi 0) (RL.nt ?_)))))
 obtain⟨an,hN,o⟩:=bd o
 refine RC.range (fun(aa:Nat) (ab:Unit)=>SH E V [(0,v0),(1,v1),(12,vi p0.length),(13,vi aa)] [rd v0 p0,rd v1 p1]) (fun(ab:Unit)=>SH E V [] [rd v0 p0,rd v1 p1]) (uR E V) hN ?_ ?_ ?_ ?_ ?_
 ·exact j.sp 2 [1,0]
 ·rintro hm ab _ w ⟨O,rfl,j⟩
  refine RC.sr (ic ((p0.length:Int)) ((p0.length:Int)) (RL.nq (RC.eZ r5 (RC.ex ?_))))
  exact⟨rfl,j.sp 2 [0,1]⟩
 ·rintro hm aa ab fl _ w hk ⟨O,rfl,j⟩ o
  refine RC.sr (ic ((aa:Int)) ((p0.length:Int)) (RL.nq (RC.eY (rZ hk) (RC.ss (RC.bs (mv (vi aa) (aP (vi aa) (RL.nq ?_))))))))
  refine RC.yk mixed ?_
  have j:=j.drew
  refine RO.go (mv v0 (RO.nx (mv (vi aa) (RO.nx ?_))))
  obtain⟨ag,aj,o⟩:=bd o
  refine RL.bP 0 j jt aj fun aq j=>(RO.nx (RL.bF 0 ag j hZ fun ar j=>(RO.nx (mv v1 (RO.nx (mv (vi aa) (RO.nx ?_)))))))
  obtain⟨ah,ak,o⟩:=bd o
  refine RL.bP 3 j jt ak fun au j=>(RO.nx (RL.bF 0 ah j hZ fun av j=>(RO.nx (RL.Jl 2 0 ag ah zr j zr zr zr zr Gj zr (RO.last (aJ (dW o (fun hc o=>?_) fun hc o=>?_)))))))
  rotate_left
  ·refine RC.skip (bQ (aJ (RC.region (RL.inc hk hm (mv (vi ((aa+1:Nat):Int)) (RL.nil ?_))))))
   obtain rfl:=oi o
   exact⟨rfl,j.sp 6 [4,5]⟩
  refine RC.sr (aP (vb false) (RL.nt (RC.rb (bL ?_))))
  obtain rfl:=oi o
  exact⟨rfl,bM ⟨rfl,j.drop 6⟩⟩
 ·intro r U w e hK
  subst e
  refine bL ?_
  obtain rfl:=oi o
  exact hK
 rintro ab _ w rfl ⟨O,rfl,j⟩
 rw [Fo.dQ] at o
 refine aJ (RC.sr (aP (vb true) (RL.nt (RC.ret ?_))))
 obtain rfl:=oi o
 exact bM ⟨rfl,j.drop 2⟩
def uS (E:World) (V:List HP) (r:Int) (U:Nat->Value) (w:World):Prop:=l6 bD 52 Tryz.f21 (aU E V r) .ret U w
theorem kj {p0: (List aG)} (j:Holds E w V) (h0:V[i0]? =some (rd v0 p0)) (hb:fT N p0=some res):
    Calls bD 21 [v0].toArray w (gm (aU E V res)):=by
 unfold fT at hb
 refine enter Tryz.func21 zr zr ?_
 have j:=j.dup (i0+0) h0
 refine RC.sr (aP (vi 0) (RL.nq (RC.sr (mv v0 ?_))))
 obtain⟨av,ay,hb⟩:=bd hb
 refine RL.call zt zr Ls [v0] zr (aC (uP N (i0:=0) j zr ay) ?_)
 rintro _ w ⟨rfl,j⟩
 refine aP (vi av) (RL.ns (mv (vi av) (ic av 0 (RL.nt (dW hb (fun hc hb=>?_) fun hc hb=>?_)))))
 ·refine RC.sr (mv (vi av) (aP (vi av) (RL.nt (RC.rt ?_))))
  obtain rfl:=oi hb
  exact bM ⟨rfl,j.drop 1⟩
 refine RC.ss (RC.sr (aP (vi 1) (RL.nt ?_)))
 obtain⟨bg,hN,hb⟩:=bd hb
 refine RC.iter (fun(ao:Int)=>SH E V [(0,v0),(4,vi ao)] [rd v0 p0]) (fun(ao:Int)=>SH E V [(0,v0)] [rd v0 p0]) (uS E V) hN ?_ ?_ ?_ ?_
 ·exact j.sp 1 [0]
 ·rintro ao fl _ w ⟨O,rfl,j⟩ hb
  refine RC.seq (RC.sr (mv (vi ao) (mv v0 (RL.bA 0 p0 j mS (ic ao ((p0.length:Int)) (RL.nt (dW hb (fun hc hb=>?_) fun hc hb=>?_)))))))
  rotate_left
  ·refine RC.ex ?_
   obtain rfl:=oi hb
   exact⟨rfl,j.sp 1 [0]⟩
  refine RC.ss (RC.block (RC.seq ?_))
  obtain⟨o,a1,hb⟩:=bd hb
  obtain⟨aa,a2,hb⟩:=bd hb
  refine RC.Hd E V mixed [1,1,1,0,0,1,1,0,0,0,0,0,0] [3,4,7,8,9,10,11,12] (fun(x:Value×Value×Value×Value×Nat×Nat)=>(fun ah ai aj ak ae af=>[(0,18,v0),(1,19,(vi ao)),(2,20,(vi (IntKind.wrap .i64 (ao - 1)))),(3,21,ah),(4,22,ai),(5,23,v0),(6,24,(vi ao)),(7,25,aj),(8,26,ak),(9,5,(vp ae 0)),(10,6,(vp af 0))]) x.1 x.2.1 x.2.2.1 x.2.2.2.1 x.2.2.2.2.1 x.2.2.2.2.2) [(0,v0),(4,vi ao)] [] (fun(D:Nat->Bool) (x:Value×Value×Value×Value×Nat×Nat)=>(fun ah ai aj ak ae af=>[bif D 0 then (pt ah o) else bH,bif D 1 then (rd ai o) else bH,bif D 2 then (pt aj aa) else bH,bif D 3 then (rd ak aa) else bH,bif D 6 then (bx 51 ae o) else (bif D 4 then (raw 51 ae 4) else bH),bif D 7 then (bx 51 af aa) else (bif D 5 then (raw 51 af 4) else bH),rd v0 p0]) x.1 x.2.1 x.2.2.1 x.2.2.2.1 x.2.2.2.2.1 x.2.2.2.2.2) (fun x=>by kernel_rfl) ?_ ⟨fun _=>lP gn,fun _=>lP gn,fun _=>IK gn rfl,?_,?_,fun _=>lP gn,fun _=>lP gn,?_,?_,?_,?_,?_,?_,trivial⟩ ?_
  ·have j:=((((((j.drew).bH).bH).bH).bH).bH).bH
   exact⟨(undef,undef,undef,undef,0,0),fU.none,(FQ zr),zt,j⟩
  ·rintro D U w hD ag aq ⟨⟨ah,ai,aj,ak,ae,af⟩,hv,ha,_,j⟩
   obtain⟨O,rfl⟩:=(ac (hv.at 0 rfl (ag.1 rfl)) (ac (hv.at 2 rfl (ag.2.1 rfl)) az)).ir
   have j:=j.cL 0 hD
   refine RL.bP 6 j jt a1 fun a3 j=>?_
   have j:=(j.pl 8 [0,2,3,4,5,6,7]).dF 0 true rfl bH
   exact RL.nil ⟨rfl,(a3,ai,aj,ak,ae,af),hv.pu 3,ha.u,zt,j⟩
  ·rintro D U w hD ag aq ⟨⟨ah,ai,aj,ak,ae,af⟩,hv,ha,_,j⟩
   obtain⟨O,rfl⟩:=(ac (hv.at 3 rfl (ag.1 rfl)) az).ir
   have j:=(j.dE 0 (ag.1 rfl)).cL 1 hD
   refine RL.bF 0 o j hZ fun a4 j=>?_
   have j:=((j.pl 8 [1,0,3,4,5,6,7]).dF 0 (D 3) (ag.1 rfl) bH).dF 1 true rfl bH
   exact RL.nil ⟨rfl,(ah,a4,aj,ak,ae,af),hv.pu 4,ha.u,zt,j⟩
  ·rintro D U w hD ag aq ⟨⟨ah,ai,aj,ak,ae,af⟩,hv,ha,_,j⟩
   obtain⟨O,rfl⟩:=(ac (hv.at 5 rfl (ag.1 rfl)) (ac (hv.at 6 rfl (ag.2.1 rfl)) az)).ir
   have j:=j.cL 2 hD
   refine RL.bP 6 j jt a2 fun a5 j=>?_
   have j:=(j.pl 8 [1,2,0,4,5,6,7]).dF 2 true rfl bH
   exact RL.nil ⟨rfl,(ah,ai,a5,ak,ae,af),hv.pu 7,ha.u,zt,j⟩
  ·rintro D U w hD ag aq ⟨⟨ah,ai,aj,ak,ae,af⟩,hv,ha,_,j⟩
   obtain⟨O,rfl⟩:=(ac (hv.at 7 rfl (ag.1 rfl)) az).ir
   have j:=(j.dE 2 (ag.1 rfl)).cL 3 hD
   refine RL.bF 2 aa j hZ fun a6 j=>?_
   have j:=((j.pl 8 [1,2,3,0,5,6,7]).dF 2 (D 7) (ag.1 rfl) bH).dF 3 true rfl bH
   exact RL.nil ⟨rfl,(ah,ai,aj,a6,ae,af),hv.pu 8,ha.u,zt,j⟩
  ·rintro D U w hD ag aq ⟨⟨ah,ai,aj,ak,ae,af⟩,hv,ha,_,j⟩
   obtain⟨O,rfl⟩:=(az (U:=U)).ir
   have j:=(j.cL 4 (nh aq hD 11)).cL 4 hD
   refine RL.alloc j oe.z fun aw w j=>?_
   have j:=((j.pl 8 [1,2,3,4,0,6,7]).dF 4 true rfl bH).gC 4 (D 11) (nh aq hD 11) (bx 51 aw o)
   exact RL.nil ⟨rfl,(ah,ai,aj,ak,aw,af),hv.pu 9,ha.u,zt,j⟩
  ·rintro D U w hD ag aq ⟨⟨ah,ai,aj,ak,ae,af⟩,hv,ha,_,j⟩
   obtain⟨O,rfl⟩:=(az (U:=U)).ir
   have j:=(j.cL 5 (nh aq hD 12)).cL 5 hD
   refine RL.alloc j oe.z fun ax w j=>?_
   have j:=((j.pl 8 [1,2,3,4,5,0,7]).dF 5 true rfl bH).gC 5 (D 12) (nh aq hD 12) (bx 51 ax aa)
   exact RL.nil ⟨rfl,(ah,ai,aj,ak,ae,ax),hv.pu 10,ha.u,zt,j⟩
  ·rintro D U w hD ag aq ⟨⟨ah,ai,aj,ak,ae,af⟩,hv,ha,_,j⟩
   obtain⟨O,rfl⟩:=(ac (hv.at 4 rfl (ag.2.1 rfl)) (ac (hv.at 9 rfl (ag.1 rfl)) az)).ir
   have j:=((j.dE 1 (ag.2.1 rfl)).cL 4 hD).dE 4 (ag.1 rfl)
   refine RL.aY 4 j 1 zr hZ fun w j=>?_
   have j:=(j.dF 1 (D 4) (ag.2.1 rfl) bH).dF 4 true rfl (bif D 9 then (raw 51 ae 4) else bH)
   exact RL.nil ⟨rfl,(ah,ai,aj,ak,ae,af),hv.n1,ha,zt,j⟩
  ·rintro D U w hD ag aq ⟨⟨ah,ai,aj,ak,ae,af⟩,hv,ha,_,j⟩
   obtain⟨O,rfl⟩:=(ac (hv.at 8 rfl (ag.2.1 rfl)) (ac (hv.at 10 rfl (ag.1 rfl)) az)).ir
   have j:=((j.dE 3 (ag.2.1 rfl)).cL 5 hD).dE 5 (ag.1 rfl)
   refine RL.aY 5 j 3 zr hZ fun w j=>?_
   have j:=(j.dF 3 (D 8) (ag.2.1 rfl) bH).dF 5 true rfl (bif D 10 then (raw 51 af 4) else bH)
   exact RL.nil ⟨rfl,(ah,ai,aj,ak,ae,af),hv.n1,ha,zt,j⟩
  rintro D U w ar ⟨⟨ah,ai,aj,ak,ae,af⟩,hv,ha,_,j⟩
  have j:=(((((j.dE 0 (nn ar 3)).dE 1 (nn ar 4)).dE 2 (nn ar 7)).dE 3 (nn ar 8)).dE 4 (nn ar 11)).dE 5 (nn ar 12)
  obtain⟨O,rfl⟩:=(ac (hv.at 9 rfl (nn ar 9)) (ac (hv.at 10 rfl (nn ar 10)) (ac (ha.at 0 rfl) (ac (ha.at 1 rfl) az)))).ir
  refine aJ (RC.sr (RL.aX zr il (RL.aL 5 j zr dG cF (RL.aX zr il (RL.aL 4 j zr dG cF (ic aa.Y0 o.Y0 (mv (vb (decide (aa.Y0<o.Y0))) (RL.gs true (decide (aa.Y0<o.Y0)) (vp af 1) zr zr zr (dP il) ?_))))))))
  refine RL.gs true (decide (aa.Y0<o.Y0)) (vi aa.Y0) rfl rfl rfl (bT 5 rfl j (fun h=>by exact(cG h:cv (true&&((decide (aa.Y0<o.Y0))==false)) (vp af 1)= (vp af 1))) rfl dG cF) (RL.gs true (decide (aa.Y0<o.Y0)) (vp ae 1) rfl rfl rfl (dP il) (RL.gs true (decide (aa.Y0<o.Y0)) (vi o.Y0) rfl rfl rfl (bT 4 rfl j (fun h=>by exact(cG h:cv (true&&((decide (aa.Y0<o.Y0))==false)) (vp ae 1)= (vp ae 1))) rfl dG cF) (RL.gs true (decide (aa.Y0<o.Y0)) (vb (aa.Y0==o.Y0)) rfl rfl rfl (dK .eql .i64 aa.Y0 o.Y0 rfl (fun h=>by exact(cG h:cv (true&&((decide (aa.Y0<o.Y0))==false)) (vi aa.Y0)= (vi aa.Y0))) (fun h=>by exact(cG h:cv (true&&((decide (aa.Y0<o.Y0))==false)) (vi o.Y0)= (vi o.Y0))) rfl) (RL.gs true (decide (aa.Y0<o.Y0)) (vb (aa.Y0==o.Y0)) rfl rfl rfl (cE (hx:=fun h=>by exact(cG h:cv (true&&((decide (aa.Y0<o.Y0))==false)) (vb (aa.Y0==o.Y0))= (vb (aa.Y0==o.Y0))))) (RL.gs (true&&((decide (aa.Y0<o.Y0))==false)) (aa.Y0==o.Y0) (vp af 0) rfl rfl rfl (dP iD) (RL.gs (true&&((decide (aa.Y0<o.Y0))==false)) (aa.Y0==o.Y0) (vi aa.X0) rfl rfl rfl (bT 5 rfl j (fun h=>by exact(cG h:cv ((true&&((decide (aa.Y0<o.Y0))==false))&&((aa.Y0==o.Y0)==true)) (vp af 0)= (vp af 0))) rfl dM cF) (RL.gs (true&&((decide (aa.Y0<o.Y0))==false)) (aa.Y0==o.Y0) (vp ae 0) rfl rfl rfl (dP iD) (RL.gs (true&&((decide (aa.Y0<o.Y0))==false)) (aa.Y0==o.Y0) (vi o.X0) rfl rfl rfl (bT 4 rfl j (fun h=>by exact(cG h:cv ((true&&((decide (aa.Y0<o.Y0))==false))&&((aa.Y0==o.Y0)==true)) (vp ae 0)= (vp ae 0))) rfl dM cF) ?_))))))))
  refine RL.gs (true&&((decide (aa.Y0<o.Y0))==false)) (aa.Y0==o.Y0) (vb (decide (aa.X0<=o.X0))) rfl rfl rfl (dK .leq .i64 aa.X0 o.X0 rfl (fun h=>by exact(cG h:cv ((true&&((decide (aa.Y0<o.Y0))==false))&&((aa.Y0==o.Y0)==true)) (vi aa.X0)= (vi aa.X0))) (fun h=>by exact(cG h:cv ((true&&((decide (aa.Y0<o.Y0))==false))&&((aa.Y0==o.Y0)==true)) (vi o.X0)= (vi o.X0))) rfl) (RL.gs true (decide (aa.Y0<o.Y0)) (vb ((aa.Y0==o.Y0)&&(decide (aa.X0<=o.X0)))) rfl rfl rfl (kF (aa.Y0==o.Y0) rfl (fun h=>by exact(cG h:cv (true&&((decide (aa.Y0<o.Y0))==false)) (vb (aa.Y0==o.Y0))= (vb (aa.Y0==o.Y0)))) (fun h=>by exact gr (h:=h) (true&&((decide (aa.Y0<o.Y0))==false)))) (RL.pick (decide (aa.Y0<o.Y0)) (vb ((decide (aa.Y0<o.Y0))||((aa.Y0==o.Y0)&&(decide (aa.X0<=o.X0))))) (nz true) (RL.nt (dW hb (fun hc hb=>?_) fun hc hb=>?_))))
  ·refine RC.sr (aP (vi 8) (RL.nt (RC.rb (bL ?_))))
   obtain rfl:=oi hb
   exact⟨rfl,bM ⟨rfl,j.drop 7⟩⟩
  refine RC.skip (bQ (aJ (RC.region (mv (vi ao) (RL.gQ ao 1 (aP (vi (IntKind.wrap .i64 (ao+1))) (RL.nil ?_)))))))
  obtain rfl:=oi hb
  exact⟨rfl,j.sp 7 [6]⟩
 ·intro r U w e hK
  subst e
  refine bL ?_
  obtain rfl:=oi hb
  exact hK
 rintro ao _ w rfl ⟨O,rfl,j⟩
 rw [Fo.dQ] at hb
 refine aJ (RC.seq (RC.sr (mv v0 ?_)))
 obtain⟨bj,a8,hb⟩:=bd hb
 refine RL.call zt zr Bc [v0] zr (aC (iF N (i0:=0) j zr a8) ?_)
 rintro a9 w j
 have j:=j.freeze 0
 obtain⟨bk,ba,hb⟩:=bd hb
 refine RL.call zt zr HA [a9] zr (aC (lq N (i0:=0) j zr ba) ?_)
 rintro bb w j
 refine mv v0 ?_
 have j:=j.freeze 0
 obtain⟨bc,bf,hb⟩:=bd hb
 refine RL.call zt zr LD [bb,v0] zr (aC (tH N (i0:=0) (i1:=2) j zr zr bf) ?_)
 rintro _ w ⟨rfl,j⟩
 refine RL.not bc (RL.nt (dW hb (fun hc hb=>?_) fun hc hb=>?_))
 ·refine RC.sr (aP (vi 3) (RL.nt (RC.rt ?_)))
  obtain rfl:=oi hb
  exact bM ⟨rfl,j.drop 3⟩
 refine RC.sx (aP (vi 0) (RL.nt (RC.ret ?_)))
 obtain rfl:=oi hb
 exact bM ⟨rfl,j.drop 3⟩
theorem jD {res:Bool} (o:Holds E w V) (j:eV N p0 p1 p2=some res):
    Calls bD 20 [(vi p0),(vi p1),(vi p2)].toArray w (gm (aS E V res)):=by
 unfold eV at j
 refine enter Tryz.func20 zr zr (RC.sr (aP (vb false) (RL.ns (mv (vi p0) (mv (vi p1) (ic p0 p1 (mv (vb (decide (p0>=p1))) (RL.gs true (decide (p0>=p1)) (vi p0) zr zr zr cE ?_))))))))
 refine RL.gs true (decide (p0>=p1)) (vi p2) rfl rfl rfl cE (RL.gs true (decide (p0>=p1)) (vb (decide (p0<=p2))) rfl rfl rfl (dK .leq .i64 p0 p2 rfl (fun h=>by exact(cG h:cv (true&&((decide (p0>=p1))==true)) (vi p0)= (vi p0))) (fun h=>by exact(cG h:cv (true&&((decide (p0>=p1))==true)) (vi p2)= (vi p2))) rfl) (RL.pick (decide (p0>=p1)) (vb ((decide (p0>=p1))&&(decide (p0<=p2)))) (gr true) (aP (vb ((decide (p0>=p1))&&(decide (p0<=p2)))) (RL.nt (RC.ret ?_)))))
 obtain rfl:=oi j
 exact bM ⟨rfl,o.drop 0⟩
theorem rq {p0:jy} {res:Bool} (j:Holds E w V) (h0:V[i0]? =some (rd v0 p0)) (hb:jz N p0=some res):
    Calls bD 33 [v0].toArray w (gm (aS E V res)):=by
 unfold jz at hb
 refine enter Tryz.func33 zr zr ?_
 have j:=j.dup (i0+0) h0
 refine RC.sr (RL.dA 0 v0 j zr fun ai w j=>?_)
 refine aP (vb false) (RL.nq ?_)
 obtain⟨ad,o,hb⟩:=bd hb
 refine RC.jn (fun(ad:Bool)=>SH E V [(2,vb ad)] []) ad ?_ ?_
 ·refine RC.region (RL.aX zr xv (RL.aL 0 j zr ov cF ?_))
  obtain⟨af,ag,o⟩:=bd o
  refine RL.call zt zr E7 [(vi p0.X)] zr (aC (lL N (p0:=p0.X) j ag) ?_)
  rintro _ w ⟨rfl,j⟩
  refine mv (vb af) (gu o (fun aa o=>?_) fun aa o=>?_)
  rotate_left
  ·refine bN aa (bN aa (bN aa (gD aa (vb false) (aP (vb false) (RL.nil ?_)))))
   obtain rfl:=oi o
   exact⟨rfl,j.sp 2 []⟩
  refine RL.aX (hg:=(cg aa)) zr xw (RL.aL (hg:=(cg aa)) 0 j zr ox cF ?_)
  obtain⟨ae,ah,o⟩:=bd o
  refine RL.call (cg aa) zr E7 [(vi p0.Y)] zr (aC (lL N (p0:=p0.Y) j ah) ?_)
  rintro _ w ⟨rfl,j⟩
  refine gD aa (vb ae) (aP (vb ae) (RL.nil ?_))
  obtain rfl:=oi o
  exact⟨rfl,j.sp 2 []⟩
 rintro _ w ⟨O,rfl,j⟩
 refine aJ (RC.ret ?_)
 obtain rfl:=oi hb
 exact bM ⟨rfl,j.drop 0⟩
end Go.Gk
