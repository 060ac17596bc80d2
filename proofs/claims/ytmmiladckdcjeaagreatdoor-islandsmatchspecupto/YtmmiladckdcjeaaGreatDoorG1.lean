/-
  Printed texts: Go functions as plain functions, and that they are. No statement of the seed is proved here.
-/
import Derived.Test.YtmmiladckdcjeaaGreatDoorProg
import Derived.Test.YtmmiladckdcjeaaGreatDoorE1
import Derived.Test.YtmmiladckdcjeaaGreatDoorA1
import Derived.Test.YtmmiladckdcjeaaGreatDoorA2
import Derived.Test.YtmmiladckdcjeaaGreatDoorRows
import Derived.Shelf.SlGeneric
import Derived.Ground.SlsfProg
import Derived.Ground.SlgmProg
set_option linter.unusedVariables false
set_option linter.unusedSimpArgs false
set_option linter.unusedSectionVars false
set_option maxRecDepth 100000
set_option maxHeartbeats 4000000
namespace Go.Gk
open Go Go.Proofs
noncomputable abbrev bO:=Tryz.prog
def nr (x:aI):=(x.X0,x.Y0,x.X1,x.Y1)
instance instGTRect:GT aI:=GT.via nr
instance instKVRect:KV aI:=instKVvia (fun(x:aI)=>(x.X0,x.Y0,x.X1,x.Y1))
theorem dL:Fd 0 (fun x:aI=>x.X0):= .v nr (.fst .self)
theorem oO:Fs 0 Int (fun(x:aI) y=>{x with X0:=y}):= .v nr (.fst .self)
theorem dF:Fd 1 (fun x:aI=>x.Y0):= .v nr (.snd (.fst .self))
theorem qf:Fs 1 Int (fun(x:aI) y=>{x with Y0:=y}):= .v nr (.snd (.fst .self))
theorem eE:Fd 2 (fun x:aI=>x.X1):= .v nr (.snd (.snd (.fst .self)))
theorem oQ:Fs 2 Int (fun(x:aI) y=>{x with X1:=y}):= .v nr (.snd (.snd (.fst .self)))
theorem fF:Fd 3 (fun x:aI=>x.Y1):= .v nr (.snd (.snd (.snd (.self))))
theorem qg:Fs 3 Int (fun(x:aI) y=>{x with Y1:=y}):= .v nr (.snd (.snd (.snd (.self))))
def xZ (x:jt):=(x.X,x.Y)
instance instGTPoint:GT jt:=GT.via xZ
instance instKVPoint:KV jt:=instKVvia (fun(x:jt)=>(x.X,x.Y))
theorem nL:Fd 0 (fun x:jt=>x.X):= .v xZ (.fst .self)
theorem nM:Fd 1 (fun x:jt=>x.Y):= .v xZ (.snd (.self))
def qu (x:cE):=(x.At,x.dE,x.cM,x.To,x.eH)
instance instGTBore:GT cE:=GT.via qu
theorem qh:Fd 0 (fun x:cE=>x.At):= .v qu (.fst .self)
theorem lV:Fd 2 (fun x:cE=>x.dE):= .v qu (.snd (.fst .self))
theorem FL:Fs 2 Int (fun(x:cE) y=>{x with dE:=y}):= .v qu (.snd (.fst .self))
theorem kz:Fd 3 (fun x:cE=>x.cM):= .v qu (.snd (.snd (.fst .self)))
theorem lW:Fd 4 (fun x:cE=>x.To):= .v qu (.snd (.snd (.snd (.fst .self))))
theorem nT:Fd 5 (fun x:cE=>x.eH):= .v qu (.snd (.snd (.snd (.snd (.self)))))
def ui (x:fW):=(x.Part,x.fD,x.cU,x.At)
instance instGTLand:GT fW:=GT.via ui
theorem nU:Fd 0 (fun x:fW=>x.Part):= .v ui (.fst .self)
theorem qj:Fd 1 (fun x:fW=>x.fD):= .v ui (.snd (.fst .self))
theorem ql:Fd 2 (fun x:fW=>x.cU):= .v ui (.snd (.snd (.fst .self)))
theorem qm:Fd 3 (fun x:fW=>x.At):= .v ui (.snd (.snd (.snd (.self))))
def wV (x:k7):=(x.aJ,x.cG,x.aM,x.bV)
instance instGTArt:GT k7:=GT.via wV
theorem jc:Fd 0 (fun x:k7=>x.aJ):= .v wV (.fst .self)
theorem rT:Fd 1 (fun x:k7=>x.cG):= .v wV (.snd (.fst .self))
theorem gj:Fd 2 (fun x:k7=>x.aM):= .v wV (.snd (.snd (.fst .self)))
theorem oy:Fd 3 (fun x:k7=>x.bV):= .v wV (.snd (.snd (.snd (.self))))
def kc (x:aA):=(x.Y0,x.Y1,x.Xs)
instance instGTshape_Band:GT aA:=GT.via kc
theorem ig:Fd 0 (fun x:aA=>x.Y0):= .v kc (.fst .self)
theorem tH:Fs 0 Int (fun(x:aA) y=>{x with Y0:=y}):= .v kc (.fst .self)
theorem fQ:Fd 1 (fun x:aA=>x.Y1):= .v kc (.snd (.fst .self))
theorem pA:Fs 1 Int (fun(x:aA) y=>{x with Y1:=y}):= .v kc (.snd (.fst .self))
theorem eB:Fd 2 (fun x:aA=>x.Xs):= .v kc (.snd (.snd (.self)))
theorem tI:Fs 2 (List Int) (fun(x:aA) y=>{x with Xs:=y}):= .v kc (.snd (.snd (.self)))
def wW (x:fD):=(x.Part,x.fD)
instance instGTPin:GT fD:=GT.via wW
instance instKVPin:KV fD:=instKVvia (fun(x:fD)=>(x.Part,x.fD))
theorem Dc:Fd 0 (fun x:fD=>x.Part):= .v wW (.fst .self)
theorem Dd:Fs 0 eJ (fun(x:fD) y=>{x with Part:=y}):= .v wW (.fst .self)
theorem De:Fd 1 (fun x:fD=>x.fD):= .v wW (.snd (.self))
theorem Df:Fs 1 eJ (fun(x:fD) y=>{x with fD:=y}):= .v wW (.snd (.self))
def j3 (x:aK):=(x.cU,x.Set,x.iN)
instance instGTcopper_Piece:GT aK:=GT.via j3
theorem rf:Fd 0 (fun x:aK=>x.cU):= .v j3 (.fst .self)
theorem wX:Fs 0 Int (fun(x:aK) y=>{x with cU:=y}):= .v j3 (.fst .self)
theorem wY:Fs 1 (List aA) (fun(x:aK) y=>{x with Set:=y}):= .v j3 (.snd (.fst .self))
theorem rh:Fd 2 (fun x:aK=>x.iN):= .v j3 (.snd (.snd (.self)))
theorem wZ:Fs 2 (List aI) (fun(x:aK) y=>{x with iN:=y}):= .v j3 (.snd (.snd (.self)))
def x6 (x:cC):=(x.eI,x.aM,x.eL)
instance instGTGroup:GT cC:=GT.via x6
theorem zL:Fd 0 (fun x:cC=>x.eI):= .v x6 (.fst .self)
theorem zM:Fd 2 (fun x:cC=>x.eL):= .v x6 (.snd (.snd (.self)))
def w3 (x:km):=(x.cE,x.Number)
instance instGTHop:GT km:=GT.via w3
instance instKVHop:KV km:=instKVvia (fun(x:km)=>(x.cE,x.Number))
theorem w4:Fd 0 (fun x:km=>x.cE):= .v w3 (.fst .self)
theorem Dg:Fs 0 Bool (fun(x:km) y=>{x with cE:=y}):= .v w3 (.fst .self)
theorem uj:Fd 1 (fun x:km=>x.Number):= .v w3 (.snd (.self))
theorem w5:Fs 1 Int (fun(x:km) y=>{x with Number:=y}):= .v w3 (.snd (.self))
def gJ (x:aF):=(x.from_,x.to)
instance instGTetchhouseref1_span:GT aF:=GT.via gJ
instance instKVetchhouseref1_span:KV aF:=instKVvia (fun(x:aF)=>(x.from_,x.to))
theorem eF:Fd 0 (fun x:aF=>x.from_):= .v gJ (.fst .self)
theorem lj:Fs 0 Int (fun(x:aF) y=>{x with from_:=y}):= .v gJ (.fst .self)
theorem eG:Fd 1 (fun x:aF=>x.to):= .v gJ (.snd (.self))
theorem lk:Fs 1 Int (fun(x:aF) y=>{x with to:=y}):= .v gJ (.snd (.self))
def fK (x:aL):=(x.from_,x.to,x.iZ)
instance instGTetchhouseref1_band:GT aL:=GT.via fK
theorem nV:Fd 0 (fun x:aL=>x.from_):= .v fK (.fst .self)
theorem nW:Fs 0 Int (fun(x:aL) y=>{x with from_:=y}):= .v fK (.fst .self)
theorem ll:Fd 1 (fun x:aL=>x.to):= .v fK (.snd (.fst .self))
theorem ln:Fs 1 Int (fun(x:aL) y=>{x with to:=y}):= .v fK (.snd (.fst .self))
theorem gp:Fd 2 (fun x:aL=>x.iZ):= .v fK (.snd (.snd (.self)))
theorem nX:Fs 2 (List aF) (fun(x:aL) y=>{x with iZ:=y}):= .v fK (.snd (.snd (.self)))
theorem Ie (M:eN):GT.ok M (#[(.int .i64 0),(.int .i64 0)]:Array Value).toList (⟨0,0⟩:jt):=⟨[(.int .i64 0)],[(.int .i64 0)],rfl,(show GT.ok M [(.int .i64 0)] (0:Int) from rfl),(show GT.ok M [(.int .i64 0)] (0:Int) from rfl)⟩
theorem Jw (M:eN):GT.ok M (#[(.int .i64 0),(.int .i64 0),(.int .i64 0),(.int .i64 0),(.int .i64 0),(.bool false)]:Array Value).toList (⟨⟨0,0⟩,0,0,0,false⟩:cE):=⟨[(.int .i64 0),(.int .i64 0)],[(.int .i64 0),(.int .i64 0),(.int .i64 0),(.bool false)],rfl,(show GT.ok M [(.int .i64 0),(.int .i64 0)] (⟨0,0⟩:jt) from Ie M),⟨[(.int .i64 0)],[(.int .i64 0),(.int .i64 0),(.bool false)],rfl,(show GT.ok M [(.int .i64 0)] (0:Int) from rfl),⟨[(.int .i64 0)],[(.int .i64 0),(.bool false)],rfl,(show GT.ok M [(.int .i64 0)] (0:Int) from rfl),⟨[(.int .i64 0)],[(.bool false)],rfl,(show GT.ok M [(.int .i64 0)] (0:Int) from rfl),(show GT.ok M [(.bool false)] (false:Bool) from rfl)⟩⟩⟩⟩
theorem sX (M:eN):GT.ok M (#[(.int .i64 0),(.int .i64 0),(.int .i64 0),(.int .i64 0)]:Array Value).toList (⟨0,0,0,0⟩:aI):=⟨[(.int .i64 0)],[(.int .i64 0),(.int .i64 0),(.int .i64 0)],rfl,(show GT.ok M [(.int .i64 0)] (0:Int) from rfl),⟨[(.int .i64 0)],[(.int .i64 0),(.int .i64 0)],rfl,(show GT.ok M [(.int .i64 0)] (0:Int) from rfl),⟨[(.int .i64 0)],[(.int .i64 0)],rfl,(show GT.ok M [(.int .i64 0)] (0:Int) from rfl),(show GT.ok M [(.int .i64 0)] (0:Int) from rfl)⟩⟩⟩
theorem IX (M:eN):GT.ok M (#[(.string ⟨#[]⟩),(.string ⟨#[]⟩)]:Array Value).toList (⟨⟨[]⟩,⟨[]⟩⟩:fD):=⟨[(.string ⟨#[]⟩)],[(.string ⟨#[]⟩)],rfl,(show GT.ok M [(.string ⟨#[]⟩)] (⟨[]⟩:eJ) from rfl),(show GT.ok M [(.string ⟨#[]⟩)] (⟨[]⟩:eJ) from rfl)⟩
theorem zN (M:eN):GT.ok M (#[(.int .i64 0),(.slice none 0 0),(.slice none 0 0)]:Array Value).toList (⟨0,[],[]⟩:aK):=⟨[(.int .i64 0)],[(.slice none 0 0),(.slice none 0 0)],rfl,(show GT.ok M [(.int .i64 0)] (0:Int) from rfl),⟨[(.slice none 0 0)],[(.slice none 0 0)],rfl,(show GT.ok M [(.slice none 0 0)] ([]: (List aA)) from ⟨_,rfl,none,0,0,rfl,rfl,bU _,by simp [maxLen],fun _ _ h=>by simp at h⟩),(show GT.ok M [(.slice none 0 0)] ([]: (List aI)) from ⟨_,rfl,none,0,0,rfl,rfl,bU _,by simp [maxLen],fun _ _ h=>by simp at h⟩)⟩⟩
theorem Bq (M:eN):GT.ok M (#[(.bool false),(.int .i64 0)]:Array Value).toList (⟨false,0⟩:km):=⟨[(.bool false)],[(.int .i64 0)],rfl,(show GT.ok M [(.bool false)] (false:Bool) from rfl),(show GT.ok M [(.int .i64 0)] (0:Int) from rfl)⟩
theorem w6 (M:eN):GT.ok M (#[(.int .i64 0),(.int .i64 0),(.slice none 0 0)]:Array Value).toList (⟨0,0,[]⟩:aA):=⟨[(.int .i64 0)],[(.int .i64 0),(.slice none 0 0)],rfl,(show GT.ok M [(.int .i64 0)] (0:Int) from rfl),⟨[(.int .i64 0)],[(.slice none 0 0)],rfl,(show GT.ok M [(.int .i64 0)] (0:Int) from rfl),(show GT.ok M [(.slice none 0 0)] ([]: (List Int)) from ⟨_,rfl,none,0,0,rfl,rfl,bU _,by simp [maxLen],fun _ _ h=>by simp at h⟩)⟩⟩
theorem o7 (M:eN):GT.ok M (#[(.int .i64 0),(.int .i64 0),(.slice none 0 0)]:Array Value).toList (⟨0,0,[]⟩:aL):=⟨[(.int .i64 0)],[(.int .i64 0),(.slice none 0 0)],rfl,(show GT.ok M [(.int .i64 0)] (0:Int) from rfl),⟨[(.int .i64 0)],[(.slice none 0 0)],rfl,(show GT.ok M [(.int .i64 0)] (0:Int) from rfl),(show GT.ok M [(.slice none 0 0)] ([]: (List aF)) from ⟨_,rfl,none,0,0,rfl,rfl,bU _,by simp [maxLen],fun _ _ h=>by simp at h⟩)⟩⟩
theorem o8 (M:eN):GT.ok M (#[(.int .i64 0),(.int .i64 0)]:Array Value).toList (⟨0,0⟩:aF):=⟨[(.int .i64 0)],[(.int .i64 0)],rfl,(show GT.ok M [(.int .i64 0)] (0:Int) from rfl),(show GT.ok M [(.int .i64 0)] (0:Int) from rfl)⟩
structure aT where
  eI: (List Int)
  aM: (List Int)
  eL:RV
  deriving Inhabited
def oz (x:aT):=(x.eI,x.aM,x.eL)
instance instGTGroup_r2:GT aT:=GT.via oz
theorem vK:Fd 0 (fun x:aT=>x.eI):= .v oz (.fst .self)
theorem AY:Fd 1 (fun x:aT=>x.aM):= .v oz (.snd (.fst .self))
theorem AZ:Fd 2 (fun x:aT=>x.eL):= .v oz (.snd (.snd (.self)))
theorem A0:Fs 2 RV (fun(x:aT) y=>{x with eL:=y}):= .v oz (.snd (.snd (.self)))
def aU:XT aT cC:=⟨fun u x=>u.eI=x.eI/\u.aM=x.aM,fun M h u x=>(u.eI=x.eI/\u.aM=x.aM)/\vW 83 M h u.eL.v x.eL,fun{M M' h u x} hk hh=>⟨hh.1,(own 83 u.eL.v x.eL).mono hk hh.2⟩,fun h=>h.1⟩
theorem nY:XO aU 83 2 (fun u=>u.eL) (fun u r=>{u with eL:=r}) (fun x=>x.eL) (fun x y=>{x with eL:=y}):=⟨AZ,A0,by decide,fun h=>h.2,fun hr ho=>⟨hr,ho⟩⟩
theorem w7 (M h:eN) (u:aT) (x:cC) (cs:List Value) (hd: ∀b o,h b=some o->M b=none) (hx:aU.ok M h u x) (hc:GT.ok M cs u):GT.ok (qV M h) cs x:=by
  obtain⟨⟨e0,e1⟩,ho⟩:=hx
  obtain⟨c0,d0,hd0,a0,c1,d1,hd1,a1,a2⟩:=hc
  exact⟨c0,d0,hd0,GT.mono (u3 M h) (show GT.ok M c0 x.eI from e0▸(show GT.ok M c0 u.eI from a0)),⟨c1,d1,hd1,GT.mono (u3 M h) (show GT.ok M c1 x.aM from e1▸(show GT.ok M c1 u.aM from a1)),⟨u.eL.v,a2,vW.sl hd ho⟩⟩⟩
theorem tQ:oh bO 27 true 4:=xT
theorem mx:oq bO 27 0 0:=pz
theorem pB:oh bO 22 false 1:=xT
theorem qw:Tryz.prog.underlying 22=some (.slice 23):=by kernel_rfl
theorem B6:oq bO 27 1 1:=pz
theorem tR:oh bO 23 false 1:=xT
theorem nc:Tryz.prog.underlying 23=some (.slice 59):=by kernel_rfl
theorem uk:wE bO 22 23 1:=Ea
theorem jk:wE bO 23 59 4:=Ea
theorem iF:oh bO 59 true 4:=xT
theorem oA:D6 bO 59 4:=E8 (.agg #[(.int .i64 0),(.int .i64 0),(.int .i64 0),(.int .i64 0)])
theorem ir:oq bO 59 0 0:=pz
theorem cJ:oh bO 3 false 1:=xT
theorem Kn:iv bO 104:=iR Tryz.func104
theorem FM:iv bO 66:=iR Tryz.func66
theorem g8:oq bO 59 1 1:=pz
theorem jl:oq bO 59 2 2:=pz
theorem kq:oq bO 59 3 3:=pz
theorem Ko:iv bO 76:=iR Tryz.func76
theorem LS:iv bO 36:=iR Tryz.func36
theorem mixed:Tryz.prog.follows .mixedOrders=true:=by kernel_rfl
theorem zO:t4 bO 23 59 4 32:=t4.of (.agg #[(.int .i64 0),(.int .i64 0),(.int .i64 0),(.int .i64 0)])
theorem LU:iv bO 67:=iR Tryz.func67
theorem LV:iv bO 69:=iR Tryz.func69
theorem Kp:iv bO 68:=iR Tryz.func68
theorem Kq:LN bO 28 [(.slice none 0 0)]:=⟨(.slice none 0 0),fun _=>by kernel_rfl,rfl⟩
theorem eY:oh bO 28 false 1:=xT
theorem dW:wE bO 28 3 1:=Ea
theorem A1:D6 bO 3 1:=E8 (.int .i64 0)
theorem pC:t4 bO 28 3 1 8:=t4.of (.int .i64 0)
theorem LW:iv bO 70:=iR Tryz.func70
theorem ly:Tryz.prog.underlying 28=some (.slice 3):=by kernel_rfl
theorem Kr:Gu bO 3 (0:Int):=Gu.of (.int .i64 0) (fun M=>rfl)
theorem LX:iv bO 71:=iR Tryz.func71
theorem Ks:iv bO 86:=iR Tryz.func86
theorem LY:Gu bO 59 (⟨0,0,0,0⟩:aI):=Gu.of (.agg #[(.int .i64 0),(.int .i64 0),(.int .i64 0),(.int .i64 0)]) (fun M=>(sX M))
theorem LZ:iv bO 73:=iR Tryz.func73
theorem L0:iv bO 72:=iR Tryz.func72
theorem Kt:iv bO 108:=iR Tryz.func108
theorem L1:iv bO 75:=iR Tryz.func75
theorem IY:wK bO 118 [(0,1),(1,1),(2,1)] #[(.int .i64 0),(.int .i64 0),(.slice none 0 0)]:=wK.of (.agg #[(.int .i64 0),(.int .i64 0),(.slice none 0 0)]) Tryz.underlying118
theorem ma:oq bO 118 2 2:=pz
theorem nH:oq bO 118 1 1:=pz
theorem pV:oq bO 118 0 0:=pz
theorem vr:Tryz.prog.underlying 74=some (.slice 118):=by kernel_rfl
theorem pD:wE bO 74 118 3:=Ea
theorem L2:iv bO 8:=iR Tryz.func8
theorem w8:oh bO 118 true 3:=xT
theorem Dh:D6 bO 118 3:=E8 (.agg #[(.int .i64 0),(.int .i64 0),(.slice none 0 0)])
theorem L3:t4 bO 74 118 3 40:=t4.of (.agg #[(.int .i64 0),(.int .i64 0),(.slice none 0 0)])
theorem Ku:iv bO 74:=iR Tryz.func74
theorem GU:iv bO 34:=iR Tryz.func34
theorem Di:wK bO 59 [(0,1),(1,1),(2,1),(3,1)] #[(.int .i64 0),(.int .i64 0),(.int .i64 0),(.int .i64 0)]:=wK.of (.agg #[(.int .i64 0),(.int .i64 0),(.int .i64 0),(.int .i64 0)]) Tryz.underlying59
theorem Jx:iv bO 38:=iR Tryz.func38
theorem Jy:Tryz.prog.underlying 3=some (.int .i64):=by kernel_rfl
theorem GV:JZ bO 59 aI:=⟨fun M cs ds a b w ha hb=>by
  obtain⟨_,_,rfl,rfl,⟨_,_,rfl,rfl,⟨_,_,rfl,rfl,rfl⟩⟩⟩:=ha
  obtain⟨_,_,rfl,rfl,⟨_,_,rfl,rfl,⟨_,_,rfl,rfl,rfl⟩⟩⟩:=hb
  refine(rO 9999 Tryz.underlying59 (Gt.cons (by decide) (ku cJ _) (ku cJ _) (nJ Jy _ _ w) (Gt.cons (by decide) (ku cJ _) (ku cJ _) (nJ Jy _ _ w) (Gt.cons (by decide) (ku cJ _) (ku cJ _) (nJ Jy _ _ w) (Gt.cons (by decide) (ku cJ _) (ku cJ _) (nJ Jy _ _ w) Gt.nil))))).trans ?_
  congr 1
  cases a;cases b;unfold nr
  rw [fu]
  simp,by kernel_rfl⟩
theorem L4:iv bO 37:=iR Tryz.func37
theorem Kv:iv bO 15:=iR Tryz.func15
theorem gK:oq bO 27 2 2:=pz
theorem mZ:oh bO 24 false 1:=xT
theorem um:Tryz.prog.underlying 24=some (.slice 57):=by kernel_rfl
theorem pE:wE bO 24 57 6:=Ea
theorem lE:oh bO 57 true 6:=xT
theorem Dj:D6 bO 57 6:=E8 (.agg #[(.int .i64 0),(.int .i64 0),(.int .i64 0),(.int .i64 0),(.int .i64 0),(.bool false)])
theorem rz:oq bO 57 1 2:=pz
theorem Ig:iv bO 32:=iR Tryz.func32
theorem x8:oq bO 57 0 0:=pz
theorem Dk:oh bO 55 true 2:=xT
theorem v8:oq bO 55 0 0:=pz
theorem v9:oq bO 55 1 1:=pz
theorem Kw:iv bO 33:=iR Tryz.func33
theorem FN:iv bO 19:=iR Tryz.func19
theorem L5:iv bO 77:=iR Tryz.func77
theorem L6:iv bO 35:=iR Tryz.func35
theorem Kx:iv bO 14:=iR Tryz.func14
theorem pF:oq bO 57 2 3:=pz
theorem rA:oq bO 57 3 4:=pz
theorem L7:iv bO 16:=iR Tryz.func16
theorem rB:oq bO 27 3 3:=pz
theorem A2:oh bO 25 false 1:=xT
theorem FO:Tryz.prog.underlying 25=some (.slice 79):=by kernel_rfl
theorem FP:wE bO 25 79 5:=Ea
theorem vt:oh bO 79 true 5:=xT
theorem GW:D6 bO 79 5:=E8 (.agg #[(.string ⟨#[]⟩),(.string ⟨#[]⟩),(.int .i64 0),(.int .i64 0),(.int .i64 0)])
theorem uo:oq bO 79 0 0:=pz
theorem AQ:oh bO 9 false 1:=xT
theorem A3:Tryz.prog.underlying 9=some (.string):=by kernel_rfl
theorem L8 (a:eJ) (b:Int) (w:World): (callFunc 158 [(str a),(.int .u8 b)].toArray).run bO w = .ok (.value (vi ((Lib.countByte a.cX (Int.toNat b).toUInt8:Nat):Int))) w:=zC Extern.BytealgCount.count Tryz.func158 (Lib.run_countString _ _ w)
theorem tO (a:eJ) (b:Int) (w:World): (callFunc 144 [(str a),(.int .u8 b)].toArray).run bO w = .ok (.value (vi (Lib.indexByte a.cX (Int.toNat b).toUInt8))) w:=zC Extern.BytealgIndexByte.indexByte Tryz.func144 (Lib.run_indexByteString _ _ w)
theorem IZ:iv bO 111:=iR Tryz.func111
theorem Ky:iv bO 159:=iR Tryz.func159
theorem I0:iv bO 143:=iR Tryz.func143
theorem Kz:iv bO 142:=iR Tryz.func142
theorem KA:t4 bO 121 9 1 16:=t4.of (.string ⟨#[]⟩)
theorem Nh:Gu bO 9 (⟨[]⟩:eJ):=Gu.of (.string ⟨#[]⟩) (fun M=>rfl)
theorem Dl:wE bO 121 9 1:=Ea
theorem KB:iv bO 110:=iR Tryz.func110
theorem KC:iv bO 79:=iR Tryz.func79
theorem I1:Tryz.prog.underlying 121=some (.slice 9):=by kernel_rfl
theorem KD:iv bO 109:=iR Tryz.func109
theorem KE:iv bO 81:=iR Tryz.func81
theorem KF:iv bO 40:=iR Tryz.func40
theorem L9:iv bO 80:=iR Tryz.func80
theorem Ma:iv bO 78:=iR Tryz.func78
theorem Mb:iv bO 39:=iR Tryz.func39
theorem x9:oq bO 79 1 1:=pz
theorem ya:oq bO 79 2 2:=pz
theorem yb:oq bO 79 3 3:=pz
theorem Jz:D6 bO 83 2:=E8 (.agg #[(.string ⟨#[]⟩),(.string ⟨#[]⟩)])
theorem KG:wK bO 83 [(0,1),(1,1)] #[(.string ⟨#[]⟩),(.string ⟨#[]⟩)]:=wK.of (.agg #[(.string ⟨#[]⟩),(.string ⟨#[]⟩)]) Tryz.underlying83
theorem KH:oh bO 83 true 2:=xT
theorem JA:iv bO 42:=iR Tryz.func42
theorem GX:oq bO 83 0 0:=pz
theorem Mc (a b:eJ) (w:World): (callFunc 145 [(str a),(str b)].toArray).run bO w = .ok (.value (vi (Lib.compareBytes a.cX b.cX))) w:=zC Extern.BytealgCompare.compare Tryz.func145 (Lib.run_compareString _ _ w)
theorem KI:iv bO 112:=iR Tryz.func112
theorem KJ:iv bO 82:=iR Tryz.func82
theorem GY:oq bO 83 1 1:=pz
theorem Md:iv bO 41:=iR Tryz.func41
theorem Me:iv bO 17:=iR Tryz.func17
theorem KK:iv bO 43:=iR Tryz.func43
theorem Mf:iv bO 18:=iR Tryz.func18
theorem Mg:wK bO 44 [(0,4),(4,1),(5,1),(6,1),(7,1),(8,1),(9,1),(10,1),(11,1)] #[(.slice none 0 0),(.slice none 0 0),(.slice none 0 0),(.slice none 0 0),(.slice none 0 0),(.slice none 0 0),(.slice none 0 0),(.slice none 0 0),(.slice none 0 0),(.slice none 0 0),(.slice none 0 0),(.slice none 0 0)]:=wK.of (.agg #[(.slice none 0 0),(.slice none 0 0),(.slice none 0 0),(.slice none 0 0),(.slice none 0 0),(.slice none 0 0),(.slice none 0 0),(.slice none 0 0),(.slice none 0 0),(.slice none 0 0),(.slice none 0 0),(.slice none 0 0)]) Tryz.underlying44
theorem sY:oq bO 44 0 0:=pz
theorem JB:iv bO 44:=iR Tryz.func44
theorem GZ:wE bO 38 74 1:=Ea
theorem JC:D6 bO 74 1:=E8 (.slice none 0 0)
theorem KL:Tryz.prog.underlying 38=some (.slice 74):=by kernel_rfl
theorem KM:oh bO 74 false 1:=xT
theorem I2:iv bO 113:=iR Tryz.func113
theorem Ni:Tryz.prog.underlying 4=some (.bool):=by kernel_rfl
theorem KN:iv bO 114:=iR Tryz.func114
theorem Mh:iv bO 84:=iR Tryz.func84
theorem Mi:iv bO 83:=iR Tryz.func83
theorem Mj:iv bO 45:=iR Tryz.func45
theorem Mk:iv bO 46:=iR Tryz.func46
theorem G0:oq bO 44 1 4:=pz
theorem KO:oh bO 38 false 1:=xT
theorem KP:t4 bO 38 74 1 24:=t4.of (.slice none 0 0)
theorem JD:iv bO 85:=iR Tryz.func85
theorem Dm:FH bO 128 3 3 Int Int (0:Int):=⟨by kernel_rfl,(AW.int Jy),H6 (Z:=(.int .i64 0)) (by kernel_rfl) (fun M=>⟨_,rfl,rfl⟩)⟩
theorem JE:D6 bO 23 1:=E8 (.slice none 0 0)
theorem G1:t4 bO 22 23 1 24:=t4.of (.slice none 0 0)
theorem Ml:iv bO 47:=iR Tryz.func47
theorem yc:oq bO 44 2 5:=pz
theorem FQ:oh bO 39 false 1:=xT
theorem Mm:wK bO 90 [(0,1),(1,1),(2,1)] #[(.int .i64 0),(.slice none 0 0),(.slice none 0 0)]:=wK.of (.agg #[(.int .i64 0),(.slice none 0 0),(.slice none 0 0)]) Tryz.underlying90
theorem JF:wE bO 39 90 3:=Ea
theorem JG:D6 bO 90 3:=E8 (.agg #[(.int .i64 0),(.slice none 0 0),(.slice none 0 0)])
theorem Mn:t4 bO 39 90 3 56:=t4.of (.agg #[(.int .i64 0),(.slice none 0 0),(.slice none 0 0)])
theorem Ih:Tryz.prog.underlying 39=some (.slice 90):=by kernel_rfl
theorem Mo:iv bO 20:=iR Tryz.func20
theorem Mp:iv bO 50:=iR Tryz.func50
theorem Ii:oh bO 90 true 3:=xT
theorem uq:oq bO 57 4 5:=pz
theorem AR:oh bO 4 false 1:=xT
theorem G2:oq bO 90 0 0:=pz
theorem G3:oq bO 90 2 2:=pz
theorem Mq:iv bO 49:=iR Tryz.func49
theorem KQ:iv bO 48:=iR Tryz.func48
theorem B7:oq bO 44 3 6:=pz
theorem w9:oh bO 40 false 1:=xT
theorem yd:wE bO 40 28 1:=Ea
theorem JH:D6 bO 28 1:=E8 (.slice none 0 0)
theorem JI:t4 bO 40 28 1 24:=t4.of (.slice none 0 0)
theorem Mr:iv bO 21:=iR Tryz.func21
theorem KR:wK bO 132 [(0,1)] #[(.slice none 0 0)]:=wK.of (.agg #[(.slice none 0 0)]) Tryz.underlying132
theorem pW:oq bO 132 0 0:=pz
theorem Ms:iv bO 51:=iR Tryz.func51
theorem FR:Tryz.prog.underlying 40=some (.slice 28):=by kernel_rfl
theorem JJ:iv bO 87:=iR Tryz.func87
theorem Mt:iv bO 52:=iR Tryz.func52
theorem B8:oq bO 44 5 8:=pz
theorem B9:oq bO 44 6 9:=pz
theorem Mu:iv bO 53:=iR Tryz.func53
theorem JK:LN bO 47 [(.slice none 0 0),(.slice none 0 0),(.slice none 0 0)]:=⟨(.agg #[(.slice none 0 0),(.slice none 0 0),(.slice none 0 0)]),fun _=>by kernel_rfl,rfl⟩
theorem wc:oq bO 44 4 7:=pz
theorem rC:oh bO 41 false 1:=xT
theorem Ij:Tryz.prog.underlying 41=some (.slice 47):=by kernel_rfl
theorem sZ:oq bO 47 0 0:=pz
theorem ye:oq bO 47 1 1:=pz
theorem G4:oh bO 47 true 3:=xT
theorem xc:wE bO 41 47 3:=Ea
theorem JL:D6 bO 47 3:=E8 (.agg #[(.slice none 0 0),(.slice none 0 0),(.slice none 0 0)])
theorem JM:t4 bO 41 47 3 72:=t4.of (.agg #[(.slice none 0 0),(.slice none 0 0),(.slice none 0 0)])
theorem G5:D6 bO 98 2:=E8 (.agg #[(.bool false),(.int .i64 0)])
theorem KS:iv bO 115:=iR Tryz.func115
theorem KT:iv bO 88:=iR Tryz.func88
theorem FT:wK bO 98 [(0,1),(1,1)] #[(.bool false),(.int .i64 0)]:=wK.of (.agg #[(.bool false),(.int .i64 0)]) Tryz.underlying98
theorem uu:oh bO 98 true 2:=xT
theorem Mv:iv bO 54:=iR Tryz.func54
theorem Ca:oq bO 98 0 0:=pz
theorem zP:oq bO 98 1 1:=pz
theorem Mw:iv bO 55:=iR Tryz.func55
theorem yf:oq bO 47 2 2:=pz
theorem FU:oh bO 45 false 1:=xT
theorem KU:wE bO 45 83 2:=Ea
theorem KW:t4 bO 45 83 2 32:=t4.of (.agg #[(.string ⟨#[]⟩),(.string ⟨#[]⟩)])
theorem G6:oq bO 44 7 10:=pz
theorem G7:oq bO 44 8 11:=pz
theorem KX:oh bO 42 false 1:=xT
theorem Mx:wE bO 42 98 2:=Ea
theorem My:t4 bO 42 98 2 16:=t4.of (.agg #[(.bool false),(.int .i64 0)])
theorem Mz:iv bO 22:=iR Tryz.func22
theorem KY:iv bO 10:=iR Tryz.func10
theorem KZ:Tryz.prog.underlying 45=some (.slice 83):=by kernel_rfl
theorem Nj:iv bO 4:=iR Tryz.func4
theorem K0:iv bO 116:=iR Tryz.func116
theorem A4:iv bO 93:=iR Tryz.func93
theorem MA:iv bO 89:=iR Tryz.func89
theorem K1:iv bO 90:=iR Tryz.func90
theorem Bs:iv bO 118:=iR Tryz.func118
theorem K2:iv bO 97:=iR Tryz.func97
theorem I3:wK bO 156 [(0,1),(1,1)] #[(.int .i64 0),(.int .i64 0)]:=wK.of (.agg #[(.int .i64 0),(.int .i64 0)]) Tryz.underlying156
theorem vL:Tryz.prog.underlying 137=some (.slice 156):=by kernel_rfl
theorem oL:wE bO 137 156 2:=Ea
theorem pX:oq bO 156 1 1:=pz
theorem pY:oq bO 156 0 0:=pz
theorem E9:oh bO 156 true 2:=xT
theorem I4:D6 bO 156 2:=E8 (.agg #[(.int .i64 0),(.int .i64 0)])
theorem G8:t4 bO 137 156 2 16:=t4.of (.agg #[(.int .i64 0),(.int .i64 0)])
theorem I5:iv bO 120:=iR Tryz.func120
theorem Ik:iv bO 99:=iR Tryz.func99
theorem I6:wK bO 140 [(0,1),(1,1),(2,1)] #[(.int .i64 0),(.int .i64 0),(.slice none 0 0)]:=wK.of (.agg #[(.int .i64 0),(.int .i64 0),(.slice none 0 0)]) Tryz.underlying140
theorem u5:oq bO 140 2 2:=pz
theorem Bt:oh bO 137 false 1:=xT
theorem I7:Tryz.prog.underlying 135=some (.slice 140):=by kernel_rfl
theorem xd:wE bO 135 140 3:=Ea
theorem zv:oq bO 140 1 1:=pz
theorem Fa:oq bO 140 0 0:=pz
theorem JN:JZ bO 156 aF:=⟨fun M cs ds a b w ha hb=>by
  obtain⟨_,_,rfl,rfl,rfl⟩:=ha
  obtain⟨_,_,rfl,rfl,rfl⟩:=hb
  refine(rO 9999 Tryz.underlying156 (Gt.cons (by decide) (ku cJ _) (ku cJ _) (nJ Jy _ _ w) (Gt.cons (by decide) (ku cJ _) (ku cJ _) (nJ Jy _ _ w) Gt.nil))).trans ?_
  congr 1
  cases a;cases b;unfold gJ
  rw [fu]
  simp,by kernel_rfl⟩
theorem K3:iv bO 119:=iR Tryz.func119
theorem K4:oh bO 140 true 3:=xT
theorem K5:D6 bO 140 3:=E8 (.agg #[(.int .i64 0),(.int .i64 0),(.slice none 0 0)])
theorem K6:t4 bO 135 140 3 40:=t4.of (.agg #[(.int .i64 0),(.int .i64 0),(.slice none 0 0)])
theorem K7:iv bO 98:=iR Tryz.func98
theorem I8:iv bO 100:=iR Tryz.func100
theorem JO:iv bO 61:=iR Tryz.func61
theorem MB:iv bO 91:=iR Tryz.func91
theorem K8:iv bO 56:=iR Tryz.func56
theorem G9:iv bO 58:=iR Tryz.func58
theorem K9:iv bO 92:=iR Tryz.func92
theorem FV:iv bO 26:=iR Tryz.func26
theorem MC:iv bO 57:=iR Tryz.func57
theorem Lb:iv bO 95:=iR Tryz.func95
theorem MD:iv bO 94:=iR Tryz.func94
theorem ME:iv bO 59:=iR Tryz.func59
theorem MF:iv bO 23:=iR Tryz.func23
theorem MG:iv bO 24:=iR Tryz.func24
theorem MH:iv bO 25:=iR Tryz.func25
theorem Il:iv bO 29:=iR Tryz.func29
theorem Ha:iv bO 146:=iR Tryz.func146
theorem Lc:iv bO 117:=iR Tryz.func117
theorem MI:iv bO 96:=iR Tryz.func96
theorem MJ:iv bO 60:=iR Tryz.func60
theorem Ld:iv bO 27:=iR Tryz.func27
theorem Hb:t4 bO 106 4 1 1:=t4.of (.bool false)
theorem MK:Gu bO 4 (false:Bool):=Gu.of (.bool false) (fun M=>rfl)
theorem vM:wE bO 106 4 1:=Ea
theorem ML:iv bO 62:=iR Tryz.func62
theorem MM:iv bO 63:=iR Tryz.func63
theorem Le:iv bO 28:=iR Tryz.func28
theorem Lg:iv bO 11:=iR Tryz.func11
theorem MN:wK bO 52 [(0,4),(4,1),(5,1),(6,1),(7,1)] #[(.slice none 0 0),(.slice none 0 0),(.slice none 0 0),(.slice none 0 0),(.slice none 0 0),(.slice none 0 0),(.slice none 0 0),(.slice none 0 0)]:=wK.of (.agg #[(.slice none 0 0),(.slice none 0 0),(.slice none 0 0),(.slice none 0 0),(.slice none 0 0),(.slice none 0 0),(.slice none 0 0),(.slice none 0 0)]) Tryz.underlying52
theorem zQ:oq bO 52 1 4:=pz
theorem uv:oq bO 52 2 5:=pz
theorem MO:iv bO 30:=iR Tryz.func30
theorem rD:oq bO 52 4 7:=pz
theorem oC:oq bO 52 3 6:=pz
theorem Lh:wK bO 47 [(0,1),(1,1),(2,1)] #[(.slice none 0 0),(.slice none 0 0),(.slice none 0 0)]:=wK.of (.agg #[(.slice none 0 0),(.slice none 0 0),(.slice none 0 0)]) Tryz.underlying47
theorem Fb:iv bO 101:=iR Tryz.func101
theorem JP:iv bO 13:=iR Tryz.func13
theorem MP:iv bO 64:=iR Tryz.func64
theorem we:oq bO 52 0 0:=pz
theorem I9:iv bO 121:=iR Tryz.func121
theorem Li:iv bO 102:=iR Tryz.func102
theorem Lj:iv bO 103:=iR Tryz.func103
theorem MQ:iv bO 65:=iR Tryz.func65
theorem MR:iv bO 31:=iR Tryz.func31
theorem Ll:iv bO 12:=iR Tryz.func12
theorem Nk:iv bO 5:=iR Tryz.func5
theorem Nl:iv bO 6:=iR Tryz.func6
theorem Nm:iv bO 7:=iR Tryz.func7
theorem MS:wK bO 57 [(0,2),(2,1),(3,1),(4,1),(5,1)] #[(.int .i64 0),(.int .i64 0),(.int .i64 0),(.int .i64 0),(.int .i64 0),(.bool false)]:=wK.of (.agg #[(.int .i64 0),(.int .i64 0),(.int .i64 0),(.int .i64 0),(.int .i64 0),(.bool false)]) Tryz.underlying57
theorem Nn:iv bO 9:=iR Tryz.func9
def oR (E:World) (V:List HP) (res: (List Int)×Int) (v:Value) (w:World):Prop:=∃u0:Value,v = .tuple #[u0,(vi res.2)]/\Holds E w ([own 3 u0 res.1]++V)
def aV (E:World) (V:List HP) (res:Bool) (v:Value) (w:World):Prop:=v= (vb res)/\Holds E w V
def aW (E:World) (V:List HP) (res:Int) (v:Value) (w:World):Prop:=v= (vi res)/\Holds E w V
def fX (E:World) (V:List HP) (res: (List aI)) (v:Value) (w:World):Prop:=Holds E w ([own 59 v res]++V)
def my (E:World) (V:List HP) (res: (List Int)) (v:Value) (w:World):Prop:=Holds E w ([own 3 v res]++V)
def m0 (E:World) (V:List HP) (res: (List aA)) (v:Value) (w:World):Prop:=Holds E w ([own 118 v res]++V)
def uw (E:World) (V:List HP) (res: (List Int)×Int) (v:Value) (w:World):Prop:=∃u0:Value,v = .tuple #[u0,(vi res.2)]/\Holds E w ([rd u0 res.1]++V)
def oD (E:World) (V:List HP) (res:aI) (v:Value) (w:World):Prop:=Holds E w ([rd v res]++V)
def qx (E:World) (V:List HP) (res: (List eJ)) (v:Value) (w:World):Prop:=Holds E w ([own 9 v res]++V)
def gC (E:World) (V:List HP) (b0:Nat) (v0_0 v0_1:Value) (v0_2 v0_3:Value) (v0_4 v0_5 v0_6:Value) (us0_6:List aT) (p0_6: (List cC)) (v0_7:Value) (res:Int) (v:Value) (w:World):Prop:=v= (vi res)/\Holds E w ([bc 52 b0 [v0_0,v0_1,v0_2,v0_3,v0_4,v0_5,v0_6,v0_7],own 47 v0_6 us0_6,iu aU us0_6 p0_6 none]++V)
def ng (E:World) (V:List HP) (res: (List Int)) (v:Value) (w:World):Prop:=Holds E w ([rd v res]++V)
def lF (E:World) (V:List HP) (res: (List aF)) (v:Value) (w:World):Prop:=Holds E w ([own 156 v res]++V)
def oE (E:World) (V:List HP) (res: (List (List aI))) (v:Value) (w:World):Prop:=Holds E w ([own 23 v res]++V)
end Go.Gk
namespace Go.Gk
open Go Go.Proofs
def Ce (H:Type) (d:DataW H):Nat:=YtmmiladckdcjeaaGreatDoor.Rows.uptoBulk d
def Lp (H:Type) (d:List (DataW H)):Nat:=YtmmiladckdcjeaaGreatDoor.Rows.uptoBulkAll d
theorem kd:UB Ce Lp where
  str:=fun H b=>by simp [Ce,YtmmiladckdcjeaaGreatDoor.Rows.uptoBulk]
  pos:=fun H d=>by
    unfold Ce
    cases d with
    | lit l=>cases l <;> simp [YtmmiladckdcjeaaGreatDoor.Rows.uptoBulk]
    | nil=>simp [YtmmiladckdcjeaaGreatDoor.Rows.uptoBulk]
    | ptr d=>simp [YtmmiladckdcjeaaGreatDoor.Rows.uptoBulk]
    | slice elems spare=>simp [YtmmiladckdcjeaaGreatDoor.Rows.uptoBulk]
    | agg parts=>simp [YtmmiladckdcjeaaGreatDoor.Rows.uptoBulk]
    | iface t d=>simp [YtmmiladckdcjeaaGreatDoor.Rows.uptoBulk]
    | map entries=>simp [YtmmiladckdcjeaaGreatDoor.Rows.uptoBulk]
    | held h=>simp [YtmmiladckdcjeaaGreatDoor.Rows.uptoBulk]
  sl:=fun H e s=>by simp [Ce,Lp,YtmmiladckdcjeaaGreatDoor.Rows.uptoBulk]
  ag:=fun H l=>by simp [Ce,Lp,YtmmiladckdcjeaaGreatDoor.Rows.uptoBulk]
  nil:=fun H=>by simp [Lp,YtmmiladckdcjeaaGreatDoor.Rows.uptoBulkAll]
  cons:=fun H x l=>by simp [Ce,Lp,YtmmiladckdcjeaaGreatDoor.Rows.uptoBulkAll]
theorem HU:mb Ce Tryz.prog 3 Int:=FY kd (by kernel_rfl)
theorem MT:mb Ce Tryz.prog 59 aI:=oF kd (fun(x:aI)=>(x.X0,x.Y0,x.X1,x.Y1)) (fun b=>⟨b.1,b.2.1,b.2.2.1,b.2.2.2⟩) (fun b=>rfl) Tryz.underlying59 (iS kd HU (iS kd HU (iS kd HU (rW kd HU rfl)))) (fun b=>by simp only [Ir];omega)
theorem Lq:mb Ce Tryz.prog 23 (List aI):=s9 (e:=59) kd MT
theorem MU:mb Ce Tryz.prog 22 (List (List aI)):=s9 (e:=23) kd Lq
theorem Lr:mb Ce Tryz.prog 55 jt:=oF kd (fun(x:jt)=>(x.X,x.Y)) (fun b=>⟨b.1,b.2⟩) (fun b=>rfl) Tryz.underlying55 (iS kd HU (rW kd HU rfl)) (fun b=>by simp only [Hg];omega)
theorem Np:mb Ce Tryz.prog 4 Bool:=Ey kd (by kernel_rfl)
theorem MV:mb Ce Tryz.prog 57 cE:=oF kd (fun(x:cE)=>(x.At,x.dE,x.cM,x.To,x.eH)) (fun b=>⟨b.1,b.2.1,b.2.2.1,b.2.2.2.1,b.2.2.2.2⟩) (fun b=>rfl) Tryz.underlying57 (iS kd Lr (iS kd HU (iS kd HU (iS kd HU (rW kd Np rfl))))) (fun b=>by simp only [Is];omega)
theorem MW:mb Ce Tryz.prog 24 (List cE):=s9 (e:=57) kd MV
theorem M9:mb Ce Tryz.prog 9 eJ:=FZ kd (by kernel_rfl)
theorem MX:mb Ce Tryz.prog 79 fW:=oF kd (fun(x:fW)=>(x.Part,x.fD,x.cU,x.At)) (fun b=>⟨b.1,b.2.1,b.2.2.1,b.2.2.2⟩) (fun b=>rfl) Tryz.underlying79 (iS kd M9 (iS kd M9 (iS kd HU (rW kd Lr rfl)))) (fun b=>by simp only [Fe];omega)
theorem MY:mb Ce Tryz.prog 25 (List fW):=s9 (e:=79) kd MX
theorem MZ:mb Ce Tryz.prog 27 k7:=oF kd (fun(x:k7)=>(x.aJ,x.cG,x.aM,x.bV)) (fun b=>⟨b.1,b.2.1,b.2.2.1,b.2.2.2⟩) (fun b=>rfl) Tryz.underlying27 (iS kd MU (iS kd Lq (iS kd MW (rW kd MY rfl)))) (fun b=>by simp only [Hh];omega)
end Go.Gk
namespace Go.Proofs
open Go.Shelf Go.RowKit Go.Lib Go.Sort
def Tryz.lay68_ren : Go.Shelf.Ren := ⟨fun | 6 => 68 | 15 => 106 | 14 => 105 | 28 => 130 | 29 => 131 | 20 => 122 | 21 => 123 | 22 => 124 | 23 => 125 | 24 => 126 | 25 => 127 | 26 => 128 | 27 => 129 | 46 => 147 | 47 => 148 | 48 => 149 | 49 => 150 | 50 => 151 | 57 => 160 | n => n, fun | 22 => 23 | 24 => 59 | 25 => 63 | 3 => 3 | 39 => 145 | 0 => 0 | 53 => 165 | 55 => 167 | 4 => 4 | 46 => 159 | 45 => 158 | 50 => 129 | 5 => 5 | 9 => 9 | 66 => 176 | 70 => 180 | 76 => 187 | 77 => 188 | n => n, fun | n => n⟩
theorem Tryz.lay68 : Go.Proofs.SlLaysF0.n6 Tryz.prog Tryz.lay68_ren := {
  mixed := by kernel_rfl
  f6 := ⟨Tryz.f68.name, by decide, Tryz.func68.trans (congrArg some (by kernel_rfl))⟩
  f14 := ⟨Tryz.f105.name, by decide, Tryz.func105.trans (congrArg some (by kernel_rfl))⟩
  f15 := Tryz.func106.trans (congrArg some (by kernel_rfl))
  f20 := ⟨Tryz.f122.name, by decide, Tryz.func122.trans (congrArg some (by kernel_rfl))⟩
  f21 := ⟨Tryz.f123.name, by decide, Tryz.func123.trans (congrArg some (by kernel_rfl))⟩
  f22 := ⟨Tryz.f124.name, by decide, Tryz.func124.trans (congrArg some (by kernel_rfl))⟩
  f23 := ⟨Tryz.f125.name, by decide, Tryz.func125.trans (congrArg some (by kernel_rfl))⟩
  f24 := ⟨Tryz.f126.name, by decide, Tryz.func126.trans (congrArg some (by kernel_rfl))⟩
  f25 := ⟨Tryz.f127.name, by decide, Tryz.func127.trans (congrArg some (by kernel_rfl))⟩
  f26 := ⟨Tryz.f128.name, by decide, Tryz.func128.trans (congrArg some (by kernel_rfl))⟩
  f27 := ⟨Tryz.f129.name, by decide, Tryz.func129.trans (congrArg some (by kernel_rfl))⟩
  f28 := Tryz.func130.trans (congrArg some (by kernel_rfl))
  f29 := Tryz.func131.trans (congrArg some (by kernel_rfl))
  f46 := ⟨Tryz.f147.name, by decide, Tryz.func147.trans (congrArg some (by kernel_rfl))⟩
  f47 := Tryz.func148.trans (congrArg some (by kernel_rfl))
  f48 := Tryz.func149.trans (congrArg some (by kernel_rfl))
  f49 := ⟨Tryz.f150.name, by decide, Tryz.func150.trans (congrArg some (by kernel_rfl))⟩
  f50 := ⟨Tryz.f151.name, by decide, Tryz.func151.trans (congrArg some (by kernel_rfl))⟩
  f57 := ⟨Tryz.f160.name, by decide, Tryz.func160.trans (congrArg some (by kernel_rfl))⟩
  t0 := Tryz.underlying0
  a0 := Tryz.isAgg0
  z0 := Tryz.sizeOf0
  v0 := Tryz.zeroValue0
  t3 := Tryz.underlying3
  a3 := Tryz.isAgg3
  z3 := Tryz.sizeOf3
  v3 := Tryz.zeroValue3
  t4 := Tryz.underlying4
  a4 := Tryz.isAgg4
  z4 := Tryz.sizeOf4
  v4 := Tryz.zeroValue4
  t5 := Tryz.underlying5
  a5 := Tryz.isAgg5
  z5 := Tryz.sizeOf5
  v5 := Tryz.zeroValue5
  t9 := Tryz.underlying9
  a9 := Tryz.isAgg9
  z9 := Tryz.sizeOf9
  v9 := Tryz.zeroValue9
  t22 := Tryz.underlying23
  a22 := Tryz.isAgg23
  z22 := Tryz.sizeOf23
  v22 := Tryz.zeroValue23
  t25 := Tryz.underlying63
  a25 := Tryz.isAgg63
  z25 := Tryz.sizeOf63
  v25 := Tryz.zeroValue63
  t39 := Tryz.underlying145
  a39 := Tryz.isAgg145
  z39 := Tryz.sizeOf145
  v39 := Tryz.zeroValue145
  t45 := Tryz.underlying158
  a45 := Tryz.isAgg158
  z45 := Tryz.sizeOf158
  v45 := Tryz.zeroValue158
  t46 := Tryz.underlying159
  a46 := Tryz.isAgg159
  z46 := Tryz.sizeOf159
  v46 := Tryz.zeroValue159
  t50 := Tryz.underlying129
  a50 := Tryz.isAgg129
  z50 := Tryz.sizeOf129
  v50 := Tryz.zeroValue129
  t53 := Tryz.underlying165
  a53 := Tryz.isAgg165
  z53 := Tryz.sizeOf165
  v53 := Tryz.zeroValue165
  t55 := Tryz.underlying167
  a55 := Tryz.isAgg167
  z55 := Tryz.sizeOf167
  v55 := Tryz.zeroValue167
  t66 := Tryz.underlying176
  a66 := Tryz.isAgg176
  z66 := Tryz.sizeOf176
  v66 := Tryz.zeroValue176
  t70 := Tryz.underlying180
  a70 := Tryz.isAgg180
  z70 := Tryz.sizeOf180
  v70 := Tryz.zeroValue180
  t76 := Tryz.underlying187
  a76 := Tryz.isAgg187
  z76 := Tryz.sizeOf187
  v76 := Tryz.zeroValue187
  t77 := Tryz.underlying188
  a77 := Tryz.isAgg188
  z77 := Tryz.sizeOf188
  v77 := Tryz.zeroValue188 }
def Tryz.lay70_ren : Go.Shelf.Ren := ⟨fun | 5 => 70 | 8 => 106 | 7 => 107 | 19 => 130 | 20 => 131 | 10 => 132 | 11 => 133 | 12 => 134 | 13 => 135 | 14 => 136 | 15 => 137 | 16 => 138 | 17 => 139 | 18 => 140 | 30 => 152 | 31 => 148 | 32 => 149 | 33 => 153 | 34 => 154 | 35 => 155 | 40 => 161 | n => n, fun | 23 => 28 | 25 => 3 | 3 => 3 | 32 => 145 | 22 => 28 | 0 => 0 | 44 => 165 | 46 => 167 | 4 => 4 | 36 => 159 | 35 => 158 | 41 => 129 | 5 => 5 | 9 => 9 | 53 => 176 | 57 => 180 | 63 => 187 | 64 => 188 | n => n, fun | n => n⟩
theorem Tryz.lay70 : Go.Proofs.SlLaysM.n5 Tryz.prog Tryz.lay70_ren := {
  mixed := by kernel_rfl
  f5 := ⟨Tryz.f70.name, by decide, Tryz.func70.trans (congrArg some (by kernel_rfl))⟩
  f7 := ⟨Tryz.f107.name, by decide, Tryz.func107.trans (congrArg some (by kernel_rfl))⟩
  f8 := Tryz.func106.trans (congrArg some (by kernel_rfl))
  f10 := ⟨Tryz.f132.name, by decide, Tryz.func132.trans (congrArg some (by kernel_rfl))⟩
  f11 := ⟨Tryz.f133.name, by decide, Tryz.func133.trans (congrArg some (by kernel_rfl))⟩
  f12 := ⟨Tryz.f134.name, by decide, Tryz.func134.trans (congrArg some (by kernel_rfl))⟩
  f13 := ⟨Tryz.f135.name, by decide, Tryz.func135.trans (congrArg some (by kernel_rfl))⟩
  f14 := ⟨Tryz.f136.name, by decide, Tryz.func136.trans (congrArg some (by kernel_rfl))⟩
  f15 := ⟨Tryz.f137.name, by decide, Tryz.func137.trans (congrArg some (by kernel_rfl))⟩
  f16 := ⟨Tryz.f138.name, by decide, Tryz.func138.trans (congrArg some (by kernel_rfl))⟩
  f17 := ⟨Tryz.f139.name, by decide, Tryz.func139.trans (congrArg some (by kernel_rfl))⟩
  f18 := ⟨Tryz.f140.name, by decide, Tryz.func140.trans (congrArg some (by kernel_rfl))⟩
  f19 := Tryz.func130.trans (congrArg some (by kernel_rfl))
  f20 := Tryz.func131.trans (congrArg some (by kernel_rfl))
  f30 := ⟨Tryz.f152.name, by decide, Tryz.func152.trans (congrArg some (by kernel_rfl))⟩
  f31 := Tryz.func148.trans (congrArg some (by kernel_rfl))
  f32 := Tryz.func149.trans (congrArg some (by kernel_rfl))
  f33 := ⟨Tryz.f153.name, by decide, Tryz.func153.trans (congrArg some (by kernel_rfl))⟩
  f34 := ⟨Tryz.f154.name, by decide, Tryz.func154.trans (congrArg some (by kernel_rfl))⟩
  f35 := ⟨Tryz.f155.name, by decide, Tryz.func155.trans (congrArg some (by kernel_rfl))⟩
  f40 := ⟨Tryz.f161.name, by decide, Tryz.func161.trans (congrArg some (by kernel_rfl))⟩
  t0 := Tryz.underlying0
  a0 := Tryz.isAgg0
  z0 := Tryz.sizeOf0
  v0 := Tryz.zeroValue0
  t3 := Tryz.underlying3
  a3 := Tryz.isAgg3
  z3 := Tryz.sizeOf3
  v3 := Tryz.zeroValue3
  t4 := Tryz.underlying4
  a4 := Tryz.isAgg4
  z4 := Tryz.sizeOf4
  v4 := Tryz.zeroValue4
  t5 := Tryz.underlying5
  a5 := Tryz.isAgg5
  z5 := Tryz.sizeOf5
  v5 := Tryz.zeroValue5
  t9 := Tryz.underlying9
  a9 := Tryz.isAgg9
  z9 := Tryz.sizeOf9
  v9 := Tryz.zeroValue9
  t22 := Tryz.underlying28
  a22 := Tryz.isAgg28
  z22 := Tryz.sizeOf28
  v22 := Tryz.zeroValue28
  t23 := Tryz.underlying28
  a23 := Tryz.isAgg28
  z23 := Tryz.sizeOf28
  v23 := Tryz.zeroValue28
  t25 := Tryz.underlying3
  a25 := Tryz.isAgg3
  z25 := Tryz.sizeOf3
  v25 := Tryz.zeroValue3
  t32 := Tryz.underlying145
  a32 := Tryz.isAgg145
  z32 := Tryz.sizeOf145
  v32 := Tryz.zeroValue145
  t35 := Tryz.underlying158
  a35 := Tryz.isAgg158
  z35 := Tryz.sizeOf158
  v35 := Tryz.zeroValue158
  t36 := Tryz.underlying159
  a36 := Tryz.isAgg159
  z36 := Tryz.sizeOf159
  v36 := Tryz.zeroValue159
  t41 := Tryz.underlying129
  a41 := Tryz.isAgg129
  z41 := Tryz.sizeOf129
  v41 := Tryz.zeroValue129
  t44 := Tryz.underlying165
  a44 := Tryz.isAgg165
  z44 := Tryz.sizeOf165
  v44 := Tryz.zeroValue165
  t46 := Tryz.underlying167
  a46 := Tryz.isAgg167
  z46 := Tryz.sizeOf167
  v46 := Tryz.zeroValue167
  t53 := Tryz.underlying176
  a53 := Tryz.isAgg176
  z53 := Tryz.sizeOf176
  v53 := Tryz.zeroValue176
  t57 := Tryz.underlying180
  a57 := Tryz.isAgg180
  z57 := Tryz.sizeOf180
  v57 := Tryz.zeroValue180
  t63 := Tryz.underlying187
  a63 := Tryz.isAgg187
  z63 := Tryz.sizeOf187
  v63 := Tryz.zeroValue187
  t64 := Tryz.underlying188
  a64 := Tryz.isAgg188
  z64 := Tryz.sizeOf188
  v64 := Tryz.zeroValue188 }
end Go.Proofs
namespace Go.Gk
open Go Go.Proofs
variable (N:Nat) {E w:World} {i0 i1 i2:Nat} {p0 p1 p2 res:Int} {v0 v1 v2:Value} {V:List HP}
theorem zh {res:Bool} (o:Holds E w V) (j:sT N p0 p1 p2=some res):
    Calls bO 104 [(vi p0),(vi p1),(vi p2)].toArray w (gW (aV E V res)):=by
 unfold sT at j
 refine enter Tryz.func104 zr zr (RC.sr (aQ (vb false) (RL.ns (mv (vi p0) (mv (vi p1) (ic p0 p1 (mv (vb (decide (p0>=p1))) (RL.gs true (decide (p0>=p1)) (vi p0) zr zr zr cH ?_))))))))
 refine RL.gs true (decide (p0>=p1)) (vi p2) rfl rfl rfl cH (RL.gs true (decide (p0>=p1)) (vb (decide (p0<=p2))) rfl rfl rfl (dI .leq .i64 p0 p2 rfl (fun h=>by exact(cK h:cv (true&&((decide (p0>=p1))==true)) (vi p0)= (vi p0))) (fun h=>by exact(cK h:cv (true&&((decide (p0>=p1))==true)) (vi p2)= (vi p2))) rfl) (RL.pick (decide (p0>=p1)) (vb ((decide (p0>=p1))&&(decide (p0<=p2)))) (gr true rfl) (aQ (vb ((decide (p0>=p1))&&(decide (p0<=p2)))) (RL.nt (RC.ret ?_)))))
 obtain rfl:=oi j
 exact bX ⟨rfl,o.drop 0⟩
theorem lX {res:Bool} (o:Holds E w V) (j:lC N p0=some res):
    Calls bO 66 [(vi p0)].toArray w (gW (aV E V res)):=by
 unfold lC at j
 refine enter Tryz.func66 zr zr (RC.sr (aQ (vb false) (RL.ns (mv (vi p0) ?_))))
 obtain⟨aa,ab,j⟩:=bd j
 refine RL.call zt zr Kn [(vi p0),(vi (-1000000)),(vi 1000000)] zr (aD (zh N (p0:=p0) (p1:=(-1000000)) (p2:=1000000) o ab) ?_)
 rintro _ w ⟨rfl,o⟩
 refine aQ (vb aa) (RL.nt (RC.ret ?_))
 obtain rfl:=oi j
 exact bX ⟨rfl,o.drop 0⟩
theorem tJ {p0:aI} {res:Bool} (j:Holds E w V) (h0:V[i0]? =some (rd v0 p0)) (hb:mU N p0=some res):
    Calls bO 76 [v0].toArray w (gW (aV E V res)):=by
 unfold mU at hb
 refine enter Tryz.func76 zr zr ?_
 have j:=j.dup (i0+0) h0
 refine RC.sr (RL.dJ 0 v0 j zr fun aq w j=>?_)
 refine aQ (vb false) (RL.nq ?_)
 obtain⟨af,o,hb⟩:=bd hb
 refine RC.jn (fun(af:Bool)=>SH E V [(2,vb af)] []) af ?_ ?_
 ·refine RC.region (RL.aX zr ir (RL.aN 0 j zr dL cJ ?_))
  obtain⟨aj,ak,o⟩:=bd o
  refine RL.call zt zr FM [(vi p0.X0)] zr (aD (lX N (p0:=p0.X0) j ak) ?_)
  rintro _ w ⟨rfl,j⟩
  refine mv (vb aj) (fC o (fun aa o=>?_) fun aa o=>?_)
  rotate_left
  ·refine bG aa (bG aa (bG aa (fL aa (vb false) (mv (vb false) (ko (ko (ko (RL.pick false (vb false) zr ?_))))))))
   refine mv (vb false) (ko (ko (ko (RL.pick false (vb false) zr (aQ (vb false) (RL.nil ?_))))))
   obtain rfl:=oi o
   exact⟨rfl,j.sp 2 []⟩
  refine RL.aX (hg:=(cg aa)) zr g8 (RL.aN (hg:=(cg aa)) 0 j zr dF cJ ?_)
  obtain⟨ag,al,o⟩:=bd o
  refine RL.call (cg aa) zr FM [(vi p0.Y0)] zr (aD (lX N (p0:=p0.Y0) j al) ?_)
  rintro _ w ⟨rfl,j⟩
  refine fL aa (vb ag) (mv (vb ag) (fC o (fun ab o=>?_) fun ab o=>?_))
  rotate_left
  ·refine bG ab (bG ab (bG ab (fL ab (vb false) (mv (vb false) (ko (ko (ko (RL.pick false (vb false) zr ?_))))))))
   refine aQ (vb false) (RL.nil ?_)
   obtain rfl:=oi o
   exact⟨rfl,j.sp 2 []⟩
  refine RL.aX (hg:=(cg ab)) zr jl (RL.aN (hg:=(cg ab)) 0 j zr eE cJ ?_)
  obtain⟨ah,an,o⟩:=bd o
  refine RL.call (cg ab) zr FM [(vi p0.X1)] zr (aD (lX N (p0:=p0.X1) j an) ?_)
  rintro _ w ⟨rfl,j⟩
  refine fL ab (vb ah) (mv (vb ah) (fC o (fun ad o=>?_) fun ad o=>?_))
  rotate_left
  ·refine bG ad (bG ad (bG ad (fL ad (vb false) (aQ (vb false) (RL.nil ?_)))))
   obtain rfl:=oi o
   exact⟨rfl,j.sp 2 []⟩
  refine RL.aX (hg:=(cg ad)) zr kq (RL.aN (hg:=(cg ad)) 0 j zr fF cJ ?_)
  obtain⟨ai,ao,o⟩:=bd o
  refine RL.call (cg ad) zr FM [(vi p0.Y1)] zr (aD (lX N (p0:=p0.Y1) j ao) ?_)
  rintro _ w ⟨rfl,j⟩
  refine fL ad (vb ai) (aQ (vb ai) (RL.nil ?_))
  obtain rfl:=oi o
  exact⟨rfl,j.sp 2 []⟩
 rintro _ w ⟨O,rfl,j⟩
 refine aH (RC.ret ?_)
 obtain rfl:=oi hb
 exact bX ⟨rfl,j.drop 0⟩
def wi (E:World) (V:List HP) (r:Int) (U:Nat->Value) (w:World):Prop:=mh bO 30 Tryz.f36 (aW E V r) .ret U w
theorem vv {p0: (List aI)} (o:Holds E w V) (h0:V[i0]? =some (rd v0 p0)) (hb:k8 N p0=some res):
    Calls bO 36 [v0].toArray w (gW (aW E V res)):=by
 unfold k8 at hb
 refine enter Tryz.func36 zr zr ?_
 have o:=o.dup (i0+0) h0
 refine RC.sr (aQ (vi 0) (RL.nq (RC.sr (mv v0 (RL.bA 0 p0 o nc (ic ((p0.length:Int)) 2000 (RL.nt (dU hb (fun hc hb=>?_) fun hc hb=>?_))))))))
 ·refine RC.sr (aQ (vi 2) (RL.nt (RC.rt ?_)))
  obtain rfl:=oi hb
  exact bX ⟨rfl,o.drop 1⟩
 refine RC.ss (RC.sr (mv v0 (RL.bA 0 p0 o nc (mv (vi 0) (RL.nt ?_)))))
 obtain⟨aq,hN,hb⟩:=bd hb
 refine RC.range (fun(ae:Nat) (af:Unit)=>SH E V [(8,v0),(9,vi p0.length),(10,vi ae)] [rd v0 p0]) (fun(af:Unit)=>SH E V [] [rd v0 p0]) (wi E V) hN ?_ ?_ ?_ ?_ ?_
 ·exact o.sp 1 [0]
 ·rintro hm af _ w ⟨O,rfl,o⟩
  refine RC.sr (ic ((p0.length:Int)) ((p0.length:Int)) (RL.nq (RC.fO tG (RC.ex ?_))))
  exact⟨rfl,o.sp 1 [0]⟩
 ·rintro hm ae af fl _ w hk ⟨O,rfl,o⟩ hb
  refine RC.sr (ic ((ae:Int)) ((p0.length:Int)) (RL.nq (RC.fN (tF hk) (RC.ss (RC.bs ?_)))))
  obtain⟨j,aj,hb⟩:=bd hb
  refine RL.bP 0 o jk aj fun au o=>(RL.bL 0 j o iF fun av o=>(RL.alloc o oA.z fun ab w o=>?_))
  refine RL.cA 0 o 1 zr iF fun w o=>?_
  refine RL.nq (RC.sr (RL.bE (f:=(fun x=>x)) 0 o zr Fd.self iF fun ak o=>?_))
  obtain⟨al,an,hb⟩:=bd hb
  refine RL.call zt zr Ko [ak] zr (aD (tJ N (i0:=0) o zr an) ?_)
  rintro _ w ⟨rfl,o⟩
  refine RL.not al (RL.nt (dU hb (fun hc hb=>?_) fun hc hb=>?_))
  ·refine RC.sr (aQ (vi 1) (RL.nt (RC.rt (ot (bT ?_)))))
   obtain rfl:=oi hb
   exact⟨rfl,bX ⟨rfl,o.drop 5⟩⟩
  refine RC.sx (RL.aX rfl jl (RL.aN 1 o rfl eE cJ (RL.aX rfl ir (RL.aN 1 o rfl dL cJ (ic j.X1 j.X0 (mv (vb (decide (j.X1<=j.X0))) (RL.gs true (decide (j.X1<=j.X0)) (vp ab 3) rfl rfl rfl (eA kq) (RL.gs true (decide (j.X1<=j.X0)) (vi j.Y1) rfl rfl rfl (bZ 1 rfl o (fun h=>by exact(cK h:cv (true&&((decide (j.X1<=j.X0))==false)) (vp ab 3)= (vp ab 3))) rfl fF cJ) ?_))))))))
  refine RL.gs true (decide (j.X1<=j.X0)) (vp ab 1) rfl rfl rfl (eA g8) (RL.gs true (decide (j.X1<=j.X0)) (vi j.Y0) rfl rfl rfl (bZ 1 rfl o (fun h=>by exact(cK h:cv (true&&((decide (j.X1<=j.X0))==false)) (vp ab 1)= (vp ab 1))) rfl dF cJ) (RL.gs true (decide (j.X1<=j.X0)) (vb (decide (j.Y1<=j.Y0))) rfl rfl rfl (dI .leq .i64 j.Y1 j.Y0 rfl (fun h=>by exact(cK h:cv (true&&((decide (j.X1<=j.X0))==false)) (vi j.Y1)= (vi j.Y1))) (fun h=>by exact(cK h:cv (true&&((decide (j.X1<=j.X0))==false)) (vi j.Y0)= (vi j.Y0))) rfl) (RL.pick (decide (j.X1<=j.X0)) (vb ((decide (j.X1<=j.X0))||(decide (j.Y1<=j.Y0)))) (nR true) (RL.nt (dU hb (fun hc hb=>?_) fun hc hb=>?_)))))
  rotate_left
  ·refine RC.skip (bM (aH (RC.region (RL.inc hk hm (mv (vi ((ae+1:Nat):Int)) (RL.nil ?_))))))
   obtain rfl:=oi hb
   exact⟨rfl,o.sp 5 [4]⟩
  refine RC.sr (aQ (vi 13) (RL.nt (RC.rb (bT ?_))))
  obtain rfl:=oi hb
  exact⟨rfl,bX ⟨rfl,o.drop 5⟩⟩
 ·intro r U w e hK
  subst e
  refine bT ?_
  obtain rfl:=oi hb
  exact hK
 rintro af _ w rfl ⟨O,rfl,o⟩
 rw [Fo.dA] at hb
 refine aH (RC.sr (aQ (vi 0) (RL.nt (RC.ret ?_))))
 obtain rfl:=oi hb
 exact bX ⟨rfl,o.drop 1⟩
theorem ux {p0: (List aI)} {res: (List aI)} (j:Holds E w V) (h0:V[i0]? =some (rd v0 p0)) (o:jH N p0=some res):
    Calls bO 67 [v0].toArray w (gW (fX E V res)):=by
 unfold jH at o
 refine enter Tryz.func67 zr zr ?_
 have j:=j.dup (i0+0) h0
 refine RC.sr (aQ (.slice none 0 0) (RL.nq (RC.sr (mv v0 (RL.Kc (i:=0) zt zr j zr zr zr nc (RL.nt (RC.cond (b:=(H7 v0)) zr (fun hc=>?_) (fun hc=>?_))))))))
 ·have hx:=j.LO (i:=0) rfl hc
  rw [hx] at o
  replace o:some ([]: (List aI))=_:=o
  refine RC.sr (aQ (.slice none 0 0) (RL.nt (RC.rt ?_)))
  obtain rfl:=oi o
  have j:=j.cO aI 59
  exact bX (j.pk 2 [0])
 refine RC.sx (RL.dR ([]: (List aI)) j [] jk oA (fun M hs g=>zt) fun ae w j=>(mv v0 ?_))
 obtain⟨af,ab,o⟩:=bd o
 refine RL.app 0 1 j zO ab fun ad w j=>?_
 refine aQ ad (RL.nt (RC.ret ?_))
 obtain rfl:=oi o
 exact bX (j.pk 2 [0])
theorem xf {p0 p1:aI} (j:Holds E w V) (h0:V[i0]? =some (rd v0 p0)) (h1:V[i1]? =some (rd v1 p1)) (o:j5 N p0 p1=some res):
    Calls bO 69 [v0,v1].toArray w (gW (aW E V res)):=by
 unfold j5 at o
 refine enter Tryz.func69 zr zr ?_
 have j:=(j.dup (i0+0) h0).dup (i1+1) h1
 refine RC.sr (RL.dJ 1 v0 j zr fun aa w j=>?_)
 refine RL.dJ 1 v1 j zr fun ab w j=>?_
 refine aQ (vi 0) (RL.ns (RL.aX zr g8 (RL.aN 1 j zr dF cJ (RL.aX zr g8 (RL.aN 0 j zr dF cJ (RL.gl p0.Y0 p1.Y0 (aQ (vi (IntKind.wrap .i64 (p0.Y0 - p1.Y0))) (RL.nt ?_))))))))
 refine RC.ret ?_
 obtain rfl:=oi o
 exact bX ⟨rfl,j.drop 4⟩
def uy (E:World) (V:List HP) (r: (List Int)) (U:Nat->Value) (w:World):Prop:=mh bO 61 Tryz.f71 (my E V r) .ret U w
theorem tS {p0: (List Int)} {res: (List Int)} (j:Holds E w (own 3 v0 p0::V)) (o:ij N p0=some res):
    Calls bO 71 [v0].toArray w (gW (my E V res)):=by
 unfold ij at o
 refine enter Tryz.func71 zr zr (RC.sr (aQ (.slice none 0 0) (RL.nq (RC.sr (mv v0 (RL.fS 0 p0 j ly (ic ((p0.length:Int)) 2 (RL.nt ?_))))))))
 refine dU o (fun hc o=>?_) fun hc o=>?_
 ·refine RC.sr (mv v0 (aQ v0 (RL.nt (RC.rt ?_))))
  obtain rfl:=oi o
  exact bX (j.pk 1 [0])
 refine RC.ss (RC.sr (aQ (vi 1) (RL.nt ?_)))
 obtain⟨a2,hN,o⟩:=bd o
 refine RC.iter (fun(ab:Int)=>SH E V [(0,v0),(3,vi ab)] [own 3 v0 p0]) (fun(ab:Int)=>SH E V [(0,v0)] [own 3 v0 p0]) (uy E V) hN ?_ ?_ ?_ ?_
 ·exact j.sp 1 [0]
 ·rintro ab fl _ w ⟨O,rfl,j⟩ o
  refine RC.seq (RC.sr (mv (vi ab) (mv v0 (RL.fS 0 p0 j ly (ic ab ((p0.length:Int)) (RL.nt (dU o (fun hc o=>?_) fun hc o=>?_)))))))
  rotate_left
  ·refine RC.ex ?_
   obtain rfl:=oi o
   exact⟨rfl,j.sp 1 [0]⟩
  refine RC.ss (RC.block (RC.seq (RC.zf mixed ?_)))
  have j:=j.drew
  refine RO.go (mv v0 (RO.nx (mv (vi ab) (RO.nx ?_))))
  obtain⟨au,al,o⟩:=bd o
  refine RL.bQ 0 j zr zr dW al (RO.nx (RL.dQ (f:=(fun x=>x)) 0 j (jg 0 j al 0) (bF al).2.1 Fd.self cJ (RO.nx (mv v0 (RO.nx (mv (vi ab) (RO.nx (RL.gl ab 1 ?_))))))))
  refine RO.nx ?_
  obtain⟨av,an,o⟩:=bd o
  refine RL.bQ 0 j zr zr dW an (RO.nx (RL.dQ (f:=(fun x=>x)) 0 j (jg 0 j an 0) (bF an).2.1 Fd.self cJ (RO.nx (ic au av (RO.last (aH (dU o (fun hc o=>?_) fun hc o=>?_)))))))
  rotate_left
  ·refine RC.skip (bM (aH (RC.region (mv (vi ab) (RL.gl ab 1 (aQ (vi (IntKind.wrap .i64 (ab+1))) (RL.nil ?_)))))))
   obtain rfl:=oi o
   exact⟨rfl,j.sp 1 [0]⟩
  refine RC.sr (mv v0 (mv (vi ab) ?_))
  obtain⟨a3,af,o⟩:=bd o
  refine RL.view 0 ab zr j zr zr dW af (aQ (vw v0 (Int.toNat ab) 1) (RL.nq (RC.sr (aQ (vi 1) (RL.nt ?_)))))
  obtain⟨a4,hN,o⟩:=bd o
  refine RC.iter (fun(aa: (List Int)×Int×Int)=>SH E V [(0,v0),(3,vi aa.2.1),(4,(vw v0 (Int.toNat ab) 1)),(5,vi aa.2.2)] [own 3 v0 aa.1]) (fun(aa: (List Int)×Int×Int)=>SH E V [(0,v0),(3,vi aa.2.1)] [own 3 v0 aa.1]) (fun(r:Empty) _ _=>r.elim) hN ?_ ?_ ?_ ?_
  ·exact j.sp 1 [0]
  ·rintro aa fl _ w ⟨O,rfl,j⟩ o
   refine RC.seq (RC.sr (mv (vi aa.2.2) (mv (vw v0 (Int.toNat ab) 1) (RL.Jp (i:=0) (l:=aa.1) zt zr j zr zr ly (ic aa.2.2 ((((aa.1.length - Int.toNat ab):Nat):Int)) (RL.nt (dU o (fun hc o=>?_) fun hc o=>?_)))))))
   rotate_left
   ·refine RC.ex ?_
    obtain rfl:=oi o
    exact⟨rfl,j.sp 1 [0]⟩
   refine RC.ss (RC.block (RC.seq (RC.zf mixed ?_)))
   have j:=j.drew
   refine RO.go (mv (vw v0 (Int.toNat ab) 1) (RO.nx (mv (vi aa.2.2) (RO.nx ?_))))
   obtain⟨aw,ag,o⟩:=bd o
   refine RL.GJ 0 ab zr j zr zr zr dW (En af) (kx ag).1 (kx ag).2 (RO.nx (RL.dQ (f:=(fun x=>x)) 0 j (jg 0 j (kx ag).2 0) (bF (kx ag).2).2.1 Fd.self cJ (RO.nx (mv (vw v0 (Int.toNat ab) 1) (RO.nx (mv (vi aa.2.2) (RO.nx (RL.gl aa.2.2 1 ?_))))))))
   refine RO.nx ?_
   obtain⟨ax,ah,o⟩:=bd o
   refine RL.GJ 0 ab zr j zr zr zr dW (En af) (kx ah).1 (kx ah).2 (RO.nx (RL.dQ (f:=(fun x=>x)) 0 j (jg 0 j (kx ah).2 0) (bF (kx ah).2).2.1 Fd.self cJ (RO.nx (ic aw ax (RO.last (aH ?_))))))
   obtain⟨ai,hj,o⟩:=bd o
   refine RC.jn (fun(ai: (List Int)×Int)=>SH E V [(0,v0),(3,vi ai.2),(4,(vw v0 (Int.toNat ab) 1)),(5,vi aa.2.2)] [own 3 v0 ai.1]) ai ?_ ?_
   ·refine dU hj (fun hc hj=>?_) fun hc hj=>?_
    rotate_left
    ·refine RC.skip ?_
     obtain rfl:=oi hj
     exact⟨rfl,j.sp 1 [0]⟩
    refine RC.sr (mv v0 (mv (vi aa.2.1) (mv (vw v0 (Int.toNat ab) 1) (mv (vi aa.2.2) ?_))))
    obtain⟨ay,aj,hj⟩:=bd hj
    refine RL.GJ 0 ab zr j zr zr zr dW (En af) (kx aj).1 (kx aj).2 (RL.dQ (f:=(fun x=>x)) 0 j (jg 0 j (kx aj).2 0) (bF (kx aj).2).2.1 Fd.self cJ ?_)
    obtain⟨a5,ao,hj⟩:=bd hj
    refine RL.bQ 0 j zr zr dW ao ?_
    have j:=j.sc Int ay
    refine RL.gL (f:=(fun _ y=>y)) 1 0 j (jg 1 j ao 0) (bF ao).2.1 zr Fs.self cJ fun w j=>?_
    refine RL.nt (RC.region (mv (vi aa.2.1) (RL.gl aa.2.1 1 (aQ (vi (IntKind.wrap .i64 (aa.2.1+1))) (RL.nil ?_)))))
    obtain rfl:=oi hj
    exact⟨rfl,j.sp 2 [1]⟩
   rintro _ w ⟨O,rfl,j⟩
   refine bM (aH (RC.region (mv (vi aa.2.2) (RL.gl aa.2.2 1 (aQ (vi (IntKind.wrap .i64 (aa.2.2+1))) (RL.nil ?_))))))
   obtain rfl:=oi o
   exact⟨rfl,j.sp 1 [0]⟩
  ·intro r _ _ _ _
   exact r.elim
  rintro aa _ w rfl ⟨O,rfl,j⟩
  rw [Fo.dA] at o
  refine aH (RC.sr (mv v0 (mv (vi aa.2.1) ?_)))
  obtain⟨a6,aq,o⟩:=bd o
  refine RL.view 0 aa.2.1 zr j zr zr dW aq (RL.CU 0 zt j zr zr pC Kr (GK aq) fun w j=>(RL.ns (mv v0 (mv (vi aa.2.1) ?_))))
  obtain⟨a7,az,o⟩:=bd o
  refine RL.BV 0 zr j zr zr dW (.inr ⟨rfl,zr⟩) az fun a0 j=>(aQ a0 (RL.nt (RC.rb (bT ?_))))
  obtain rfl:=oi o
  exact⟨rfl,bX (j.pk 1 [0])⟩
 ·intro r U w e hK
  subst e
  refine bT ?_
  obtain rfl:=oi o
  exact hK
 rintro ab _ w rfl ⟨O,rfl,j⟩
 rw [Fo.dA] at o
 refine aH (RC.sr (mv v0 (aQ v0 (RL.nt (RC.ret ?_)))))
 obtain rfl:=oi o
 exact bX (j.pk 1 [0])
theorem xg {p0:aI} {p1: (List Int)} {res:Bool} (j:Holds E w V) (h0:V[i0]? =some (rd v0 p0)) (h1:V[i1]? =some (pt v1 p1)) (h2:V[i2]? =some (pt v2 p2)) (o:ou N p0 p1 p2=some res):
    Calls bO 73 [v0,v1,v2].toArray w (gW (aV E V res)):=by
 unfold ou at o
 refine enter Tryz.func73 zr zr ?_
 have j:=((j.dup (i0+0) h0).BU (i:=i1+1) h1).BU (i:=i2+2) h2
 refine RC.sr (RL.dJ 2 v0 j zr fun ad w j=>?_)
 refine aQ (vb false) (RL.nq (RC.zf mixed ?_))
 have j:=j.drew
 refine RO.go (RL.aX zr kq (RO.nx (RL.aN 0 j zr fF cJ (RO.nx (RL.bL 2 p1 j eY fun ae j=>(RO.nx (RL.bD p2 2 j cJ (RO.nx ?_))))))))
 obtain⟨aa,ab,o⟩:=bd o
 refine RL.bP 0 j dW ab fun af j=>(RO.nx (RL.bD aa 0 j cJ (RO.nx (ic p0.Y1 aa (RO.nx (aQ (vb (decide (p0.Y1<=aa))) (RO.last (aH ?_))))))))
 refine RC.ret ?_
 obtain rfl:=oi o
 exact bX ⟨rfl,j.drop 6⟩
def rX (E:World) (V:List HP) (r:Int) (U:Nat->Value) (w:World):Prop:=mh bO 19 Tryz.f86 (aW E V r) .ret U w
theorem rF {p0: (List aI)} {p1:aI->Option Bool} (j:Holds E w V) (h0:V[i0]? =some (rd v0 p0)) (h1:HS bO E V v1 p1 (fun(r:Bool)=>Value.bool r)) (o:l3 N p0 p1=some res):
    Calls bO 86 [v0,v1].toArray w (gW (aW E V res)):=by
 unfold l3 at o
 refine enter Tryz.func86 zr zr ?_
 have j:=j.dup (i0+0) h0
 refine RC.sr (aQ (vi 0) (RL.nq (RC.sr (mv v0 (RL.bA 0 p0 j nc (mv (vi 0) (RL.nt ?_)))))))
 obtain⟨al,hN,o⟩:=bd o
 refine RC.range (fun(aa:Nat) (ab:Unit)=>SH E V [(0,v0),(1,v1),(7,vi p0.length),(8,vi aa)] [rd v0 p0]) (fun(ab:Unit)=>SH E V [] [rd v0 p0]) (rX E V) hN ?_ ?_ ?_ ?_ ?_
 ·exact j.sp 1 [0]
 ·rintro hm ab _ w ⟨O,rfl,j⟩
  refine RC.sr (ic ((p0.length:Int)) ((p0.length:Int)) (RL.nq (RC.fO tG (RC.ex ?_))))
  exact⟨rfl,j.sp 1 [0]⟩
 ·rintro hm aa ab fl _ w hk ⟨O,rfl,j⟩ o
  refine RC.sr (ic ((aa:Int)) ((p0.length:Int)) (RL.nq (RC.fN (tF hk) (RC.ss (RC.bs (mv (vi aa) (aQ (vi aa) (RL.ns ?_))))))))
  refine mv v1 (mv v0 (mv (vi aa) ?_))
  obtain⟨ag,ah,o⟩:=bd o
  refine RL.bP 0 j jk ah fun ao j=>(RL.bL 0 ag j iF fun aq j=>?_)
  obtain⟨ar,ai,o⟩:=bd o
  refine RL.BT 0 zr j zr h1 3 zr zr zr ai fun w j=>(RL.nt (dU o (fun hc o=>?_) fun hc o=>?_))
  rotate_left
  ·refine RC.skip (bM (aH (RC.region (RL.inc hk hm (mv (vi ((aa+1:Nat):Int)) (RL.nil ?_))))))
   obtain rfl:=oi o
   exact⟨rfl,j.sp 3 [2]⟩
  refine RC.sr (mv (vi aa) (aQ (vi aa) (RL.nt (RC.rb (bT ?_)))))
  obtain rfl:=oi o
  exact⟨rfl,bX ⟨rfl,j.drop 3⟩⟩
 ·intro r U w e hK
  subst e
  refine bT ?_
  obtain rfl:=oi o
  exact hK
 rintro ab _ w rfl ⟨O,rfl,j⟩
 rw [Fo.dA] at o
 refine aH (RC.sr (aQ (vi (-1)) (RL.nt (RC.ret ?_))))
 obtain rfl:=oi o
 exact bX ⟨rfl,j.drop 1⟩
def mz (E:World) (V:List HP) (v0:Value) (p0: (List aI)) (res:Int) (v:Value) (w:World):Prop:=v= (vi res)/\Holds E w ([own 59 v0 p0]++V)
def qz (E:World) (V:List HP) (v0:Value) (p0: (List aI)) (r:Int) (U:Nat->Value) (w:World):Prop:=mh bO 19 Tryz.f86 (mz E V v0 p0 r) .ret U w
theorem pZ {p0: (List aI)} {p1:aI->Option Bool} (o:Holds E w (own 59 v0 p0::V)) (h1:HS bO E V v1 p1 (fun(r:Bool)=>Value.bool r)) (j:kR N p0 p1=some res):
    Calls bO 86 [v0,v1].toArray w (gW (mz E V v0 p0 res)):=by
 unfold kR at j
 refine enter Tryz.func86 zr zr (RC.sr (aQ (vi 0) (RL.nq (RC.sr (mv v0 (RL.fS 0 p0 o nc (mv (vi 0) (RL.nt ?_))))))))
 obtain⟨ak,hN,j⟩:=bd j
 refine RC.range (fun(aa:Nat) (ab:Unit)=>SH E V [(0,v0),(1,v1),(7,vi p0.length),(8,vi aa)] [own 59 v0 p0]) (fun(ab:Unit)=>SH E V [(0,v0)] [own 59 v0 p0]) (qz E V v0 p0) hN ?_ ?_ ?_ ?_ ?_
 ·exact o.sp 1 [0]
 ·rintro hm ab _ w ⟨O,rfl,o⟩
  refine RC.sr (ic ((p0.length:Int)) ((p0.length:Int)) (RL.nq (RC.fO tG (RC.ex ?_))))
  exact⟨rfl,o.sp 1 [0]⟩
 ·rintro hm aa ab fl _ w hk ⟨O,rfl,o⟩ j
  refine RC.sr (ic ((aa:Int)) ((p0.length:Int)) (RL.nq (RC.fN (tF hk) (RC.ss (RC.bs (mv (vi aa) (aQ (vi aa) (RL.ns ?_))))))))
  refine mv v1 (mv v0 (mv (vi aa) ?_))
  obtain⟨an,ad,j⟩:=bd j
  refine RL.bQ 0 o zr zr jk ad (RL.ju (f:=(fun x=>x)) 0 o (jg 0 o ad 0) (bF ad).2.1 Fd.self iF fun ao o=>?_)
  obtain⟨aq,ah,j⟩:=bd j
  refine RL.BT 0 zr o zr h1 2 zr zr zr ah fun w o=>(RL.nt (dU j (fun hc j=>?_) fun hc j=>?_))
  rotate_left
  ·refine RC.skip (bM (aH (RC.region (RL.inc hk hm (mv (vi ((aa+1:Nat):Int)) (RL.nil ?_))))))
   obtain rfl:=oi j
   exact⟨rfl,o.sp 2 [1]⟩
  refine RC.sr (mv (vi aa) (aQ (vi aa) (RL.nt (RC.rb (bT ?_)))))
  obtain rfl:=oi j
  exact⟨rfl,bX ⟨rfl,o.pk 2 [1]⟩⟩
 ·intro r U w e hK
  subst e
  refine bT ?_
  obtain rfl:=oi j
  exact hK
 rintro ab _ w rfl ⟨O,rfl,o⟩
 rw [Fo.dA] at j
 refine aH (RC.sr (aQ (vi (-1)) (RL.nt (RC.ret ?_))))
 obtain rfl:=oi j
 exact bX ⟨rfl,o.pk 1 [0]⟩
theorem qW {p0: (List aI)} {p1:aI->Option Bool} {res: (List aI)} (j:Holds E w (own 59 v0 p0::V)) (h1:HS bO E V v1 p1 (fun(r:Bool)=>Value.bool r)) (o:iO N p0 p1=some res):
    Calls bO 72 [v0,v1].toArray w (gW (fX E V res)):=by
 unfold iO at o
 refine enter Tryz.func72 zr zr (RC.sr (aQ (.slice none 0 0) (RL.ns (mv v0 (mv v1 ?_)))))
 have j:=j.pull 0
 obtain⟨ad,aj,o⟩:=bd o
 refine RL.call zt zr Ks [v0,v1] zr (aD (pZ N j (h1.lift 1 zr) aj) ?_)
 rintro _ w ⟨rfl,j⟩
 refine aQ (vi ad) (RL.nq (RC.sr (mv (vi ad) (ic ad ((-1)) (RL.nt (dU o (fun hc o=>?_) fun hc o=>?_))))))
 ·refine RC.sr (mv v0 (aQ v0 (RL.nt (RC.rt ?_))))
  obtain rfl:=oi o
  exact bX (j.pk 2 [0])
 refine RC.ss (RC.sr (mv (vi ad) (RL.gl ad 1 (aQ (vi (IntKind.wrap .i64 (ad+1))) (RL.nt ?_)))))
 obtain⟨ar,hN,o⟩:=bd o
 refine RC.iter (fun(aa: (List aI)×Int×Int)=>SH E V [(0,v0),(1,v1),(5,vi aa.2.1),(6,vi aa.2.2)] [own 59 v0 aa.1]) (fun(aa: (List aI)×Int×Int)=>SH E V [(0,v0),(5,vi aa.2.1)] [own 59 v0 aa.1]) (fun(r:Empty) _ _=>r.elim) hN ?_ ?_ ?_ ?_
 ·exact j.sp 2 [0]
 ·rintro aa fl _ w ⟨O,rfl,j⟩ o
  refine RC.seq (RC.sr (mv (vi aa.2.2) (mv v0 (RL.fS 0 aa.1 j nc (ic aa.2.2 ((aa.1.length:Int)) (RL.nt (dU o (fun hc o=>?_) fun hc o=>?_)))))))
  rotate_left
  ·refine RC.ex ?_
   obtain rfl:=oi o
   exact⟨rfl,j.sp 1 [0]⟩
  refine RC.ss (RC.bs (mv v0 (mv (vi aa.2.2) ?_)))
  obtain⟨av,ag,o⟩:=bd o
  refine RL.bQ 0 j zr zr jk ag (RL.ju (f:=(fun x=>x)) 0 j (jg 0 j ag 0) (bF ag).2.1 Fd.self iF fun aw j=>?_)
  refine RL.alloc j oA.z fun ax w j=>?_
  refine RL.cA 0 j 1 zr iF fun w j=>?_
  refine RL.ns (mv v1 (RL.bE (f:=(fun x=>x)) 0 j zr Fd.self iF fun ay j=>?_))
  obtain⟨al,an,o⟩:=bd o
  refine RL.BT 0 zr j zr h1 4 zr zr zr an fun w j=>(RL.not al (RL.nt ?_))
  obtain⟨af,hj,o⟩:=bd o
  refine RC.jn (fun(af: (List aI)×Int)=>SH E V [(0,v0),(1,v1),(5,vi af.2),(6,vi aa.2.2)] [own 59 v0 af.1]) af ?_ ?_
  ·refine dU hj (fun hc hj=>?_) fun hc hj=>?_
   rotate_left
   ·refine RC.skip ?_
    obtain rfl:=oi hj
    exact⟨rfl,j.sp 4 [3]⟩
   refine RC.sr (mv v0 (mv (vi aa.2.1) (RL.bE (f:=(fun x=>x)) 1 j zr Fd.self iF fun az j=>?_)))
   obtain⟨a0,ah,hj⟩:=bd hj
   refine RL.bQ 4 j zr zr jk ah (RL.gL (f:=(fun _ y=>y)) 4 0 j (jg 4 j ah 0) (bF ah).2.1 zr Fs.self iF fun w j=>?_)
   refine RL.nt (RC.region (mv (vi aa.2.1) (RL.gl aa.2.1 1 (aQ (vi (IntKind.wrap .i64 (aa.2.1+1))) (RL.nil ?_)))))
   obtain rfl:=oi hj
   exact⟨rfl,j.sp 5 [4]⟩
  rintro _ w ⟨O,rfl,j⟩
  refine bM (aH (RC.region (mv (vi aa.2.2) (RL.gl aa.2.2 1 (aQ (vi (IntKind.wrap .i64 (aa.2.2+1))) (RL.nil ?_))))))
  obtain rfl:=oi o
  exact⟨rfl,j.sp 1 [0]⟩
 ·intro r _ _ _ _
  exact r.elim
 rintro aa _ w rfl ⟨O,rfl,j⟩
 rw [Fo.dA] at o
 refine aH (RC.sr (mv v0 (mv (vi aa.2.1) ?_)))
 obtain⟨a1,ai,o⟩:=bd o
 refine RL.view 0 aa.2.1 zr j zr zr jk ai (RL.CU 0 zt j zr zr zO LY (GK ai) fun w j=>(RL.ns (mv v0 (mv (vi aa.2.1) ?_))))
 obtain⟨a2,ao,o⟩:=bd o
 refine RL.BV 0 zr j zr zr jk (.inr ⟨rfl,zr⟩) ao fun aq j=>(aQ aq (RL.nt (RC.ret ?_)))
 obtain rfl:=oi o
 exact bX (j.pk 1 [0])
theorem tT {p0 p1:aI} (j:Holds E w V) (h0:V[i0]? =some (rd v0 p0)) (h1:V[i1]? =some (rd v1 p1)) (o:ik N p0 p1=some res):
    Calls bO 108 [v0,v1].toArray w (gW (aW E V res)):=by
 unfold ik at o
 refine enter Tryz.func108 zr zr ?_
 have j:=(j.dup (i0+0) h0).dup (i1+1) h1
 refine RC.sr (RL.dJ 1 v0 j zr fun aa w j=>?_)
 refine RL.dJ 1 v1 j zr fun ab w j=>?_
 refine aQ (vi 0) (RL.ns (RL.aX zr ir (RL.aN 1 j zr dL cJ (RL.aX zr ir (RL.aN 0 j zr dL cJ (RL.gl p0.X0 p1.X0 (aQ (vi (IntKind.wrap .i64 (p0.X0 - p1.X0))) (RL.nt ?_))))))))
 refine RC.ret ?_
 obtain rfl:=oi o
 exact bX ⟨rfl,j.drop 4⟩
def xh (E:World) (V:List HP) (v0:Value) (res: (List Int)×(List aI)) (v:Value) (w:World):Prop:=Holds E w ([own 3 v res.1,own 59 v0 res.2]++V)
theorem wj {p0: (List aI)} {res: (List Int)×(List aI)} (j:Holds E w (own 59 v0 p0::V)) (hb:jN N p0=some res):
    Calls bO 75 [v0].toArray w (gW (xh E V v0 res)):=by
 unfold jN at hb
 refine enter Tryz.func75 zr zr (RC.sr (aQ (.slice none 0 0) (RL.ns (mv v0 ?_))))
 obtain⟨af,a1,hb⟩:=bd hb
 have j:=j.pull 0
 refine RL.call zt zr Kp [v0,(.func (.func 108) #[] #[])] zr (aD (E4 Tryz.lay68 aI zr iF.IM iF.sz Kt (fun j hi o hr=>tT N j hi o hr) j a1) ?_)
 rintro _ w ⟨rfl,j⟩
 refine RL.ns (aQ (.slice none 0 0) (RL.nq (RC.sr (mv v0 (RL.fS 0 af j nc (mv (vi 0) (RL.nt ?_)))))))
 have j:=j.cO Int 3
 obtain⟨aa,hN,hb⟩:=bd hb
 refine RC.fold (fun(ah:Nat) (aa: (List Int)) U w=>∃av:Value,SH E V [(0,v0),(3,av),(9,v0),(10,vi af.length),(11,vi ah)] [own 59 v0 af,own 3 av aa] U w) (fun(aa: (List Int)) U w=>∃ai:Value,SH E V [(0,v0),(3,ai)] [own 59 v0 af,own 3 ai aa] U w) hN ?_ ?_ ?_ ?_
 ·exact⟨(.slice none 0 0),j.sp 3 [1,0]⟩
 ·rintro hm aa _ w ⟨a3,O,rfl,j⟩
  refine RC.sr (ic ((af.length:Int)) ((af.length:Int)) (RL.nq (RC.fO tG (RC.ex ?_))))
  exact⟨rfl,a3,j.sp 2 [0,1]⟩
 ·rintro hm ah aa s' _ w hk ⟨ag,O,rfl,j⟩ hb
  refine RC.sr (ic ((ah:Int)) ((af.length:Int)) (RL.nq (RC.fN (tF hk) (RC.ss (RC.bs ?_)))))
  obtain⟨ae,ak,hb⟩:=bd hb
  refine RL.bQ 0 j zr zr jk ak (RL.ju (f:=(fun x=>x)) 0 j (jg 0 j ak 0) (bF ak).2.1 Fd.self iF fun a6 j=>?_)
  refine RL.alloc j oA.z fun ay w j=>?_
  refine RL.cA 0 j 1 zr iF fun w j=>?_
  refine RL.ns (mv ag (RL.fS 3 aa j ly (RL.gl (aa.length:Int) 1 (aQ (vi (IntKind.wrap .i64 ((aa.length:Int) - 1))) (RL.nq ?_)))))
  obtain⟨al,o,hb⟩:=bd hb
  refine RC.jn (fun(al:Bool)=>SH E V [(0,v0),(3,ag),(5,vp ay 0),(6,(vi (IntKind.wrap .i64 ((aa.length:Int) - 1)))),(9,v0),(10,vi af.length),(11,vi ah),(28,vb al)] [own 59 v0 af,own 3 ag aa,bx 59 ay ae]) al ?_ ?_
  ·refine RC.zf mixed ?_
   have j:=j.drew
   refine RO.go (mv (vi (IntKind.wrap .i64 ((aa.length:Int) - 1))) (RO.nx (ic ((IntKind.wrap .i64 ((aa.length:Int) - 1))) 0 (RO.nx (mv (vb (decide ((IntKind.wrap .i64 ((aa.length:Int) - 1))>=0))) (fC o (fun ab o=>?_) fun ab o=>?_))))))
   rotate_left
   ·refine RO.nx (bG ab (RO.nx (bG ab (RO.nx (bG ab (RO.nx (bG ab (RO.nx ?_))))))))
    refine bG ab (RO.nx (bG ab (RO.nx (bG ab (RO.nx (fL ab (vb false) (RO.last ?_)))))))
    obtain rfl:=oi o
    exact⟨rfl,j.sp 4 [2,3,0]⟩
   refine RO.nx (RL.aX (hg:=(cg ab)) zr ir (RO.nx (RL.aN (hg:=(cg ab)) 0 j zr dL cJ (RO.nx (RL.move ag (cg ab) (RO.nx (RL.move (vi (IntKind.wrap .i64 ((aa.length:Int) - 1))) (cg ab) (RO.nx ?_))))))))
   obtain⟨az,an,o⟩:=bd o
   refine RL.bQ (hg:=(cg ab)) 3 j zr zr dW an (RO.nx (RL.dQ (hg:=(cg ab)) (f:=(fun x=>x)) 3 j (jg 3 j an 0) (bF an).2.1 Fd.self cJ (RO.nx (RL.kD ae.X0 az (cg ab) (RO.nx (fL ab (vb (decide (ae.X0<=az))) (RO.last ?_)))))))
   obtain rfl:=oi o
   exact⟨rfl,j.sp 4 [2,3,0]⟩
  rintro _ w ⟨O,rfl,j⟩
  refine aH ?_
  obtain⟨ao,o,hb⟩:=bd hb
  refine RC.jn (fun(ao: (List Int)) U w=>∃aj:Value,SH E V [(0,v0),(3,aj),(9,v0),(10,vi af.length),(11,vi ah)] [own 59 v0 af,own 3 aj ao] U w) ao ?_ ?_
  ·refine dU o (fun hc o=>?_) fun hc o=>?_
   rotate_left
   ·refine RC.region (mv ag (RL.aX zr ir (RL.aN 2 j zr dL cJ (RL.aX zr jl (RL.aN 2 j zr eE cJ ?_)))))
    have j:=(j.sc Int ae.X0).sc Int ae.X1
    refine RL.dR ([ae.X0,ae.X1]: (List Int)) j [(vi ae.X0),(vi ae.X1)] dW A1 (fun M hs g=>⟨(g.sat 1 _ zr).1,⟨(g.sat 0 _ zr).1,zt⟩⟩) fun a7 w j=>?_
    have j:=j.freeze 0
    obtain⟨a8,a5,o⟩:=bd o
    refine RL.app 4 0 j pC a5 fun a0 w j=>?_
    refine aQ a0 (RL.nil ?_)
    obtain rfl:=oi o
    exact⟨rfl,a0,j.sp 6 [3,4]⟩
   refine RC.v5 mixed [0,0,0,0,0,0,0,0,0,0,2] [0,1,2,3,4,5,6,7,8,9,10] ?_
   have j:=j.drew
   refine DP.e0 zr (mv ag (aZ zr (mv (vi (IntKind.wrap .i64 ((aa.length:Int) - 1))) (aZ zr (mv ag (aZ zr (mv (vi (IntKind.wrap .i64 ((aa.length:Int) - 1))) (aZ zr ?_))))))))
   obtain⟨aq,ar,o⟩:=bd o
   refine RL.bQ 1 j zr zr dW ar (aZ zr (RL.dQ (f:=(fun x=>x)) 1 j (jg 1 j ar 0) (bF ar).2.1 Fd.self cJ (aZ zr (RL.aX zr jl (aZ zr (RL.aN 2 j zr eE cJ (aZ zr (RL.max aq ae.X1 ?_))))))))
   refine aZ zr ?_
   obtain⟨a9,au,o⟩:=bd o
   refine RL.bQ 1 j zr zr dW au (pP zr ?_)
   have j:=j.sc Int (if aq<ae.X1 then ae.X1 else aq)
   refine RL.gL (f:=(fun _ y=>y)) 2 0 j (jg 2 j au 0) (bF au).2.1 zr Fs.self cJ fun w j=>?_
   refine DP.d2 zt (DP.z ?_)
   obtain rfl:=oi o
   exact⟨rfl,ag,j.sp 4 [1,2]⟩
  rintro _ w ⟨aj,O,rfl,j⟩
  refine bM (aH (RC.region (RL.inc hk hm (mv (vi ((ah+1:Nat):Int)) (RL.nil ?_)))))
  obtain rfl:=oi hb
  exact⟨rfl,aj,j.sp 2 [0,1]⟩
 rintro _ w ⟨ai,O,rfl,j⟩
 refine aH (RC.sr (mv ai (aQ ai (RL.nt (RC.ret ?_)))))
 obtain rfl:=oi hb
 exact bX (j.pk 2 [1,0])
def wk (E:World) (V:List HP) (r:Bool) (U:Nat->Value) (w:World):Prop:=mh bO 26 Tryz.f8 (aV E V r) .ret U w
theorem ni {p0: (List Int)} {p1: (List Int)} {res:Bool} (j:Holds E w V) (h0:V[i0]? =some (rd v0 p0)) (h1:V[i1]? =some (rd v1 p1)) (o:jZ N p0 p1=some res):
    Calls bO 8 [v0,v1].toArray w (gW (aV E V res)):=by
 unfold jZ at o
 refine enter Tryz.func8 zr zr ?_
 have j:=(j.dup (i0+0) h0).dup (i1+1) h1
 refine RC.sr (aQ (vb false) (RL.nq (RC.sr (mv v0 (RL.bA 1 p0 j ly (mv v1 (RL.bA 0 p1 j ly (ic ((p0.length:Int)) ((p1.length:Int)) ?_))))))))
 refine RL.nt (dU o (fun hc o=>?_) fun hc o=>?_)
 ·refine RC.sr (aQ (vb false) (RL.nt (RC.rt ?_)))
  obtain rfl:=oi o
  exact bX ⟨rfl,j.drop 2⟩
 refine RC.ss (RC.sr (mv v0 (RL.bA 1 p0 j ly (mv (vi 0) (RL.nt ?_)))))
 obtain⟨an,hN,o⟩:=bd o
 refine RC.range (fun(aa:Nat) (ab:Unit)=>SH E V [(0,v0),(1,v1),(12,vi p0.length),(13,vi aa)] [rd v0 p0,rd v1 p1]) (fun(ab:Unit)=>SH E V [] [rd v0 p0,rd v1 p1]) (wk E V) hN ?_ ?_ ?_ ?_ ?_
 ·exact j.sp 2 [1,0]
 ·rintro hm ab _ w ⟨O,rfl,j⟩
  refine RC.sr (ic ((p0.length:Int)) ((p0.length:Int)) (RL.nq (RC.fO tG (RC.ex ?_))))
  exact⟨rfl,j.sp 2 [0,1]⟩
 ·rintro hm aa ab fl _ w hk ⟨O,rfl,j⟩ o
  refine RC.sr (ic ((aa:Int)) ((p0.length:Int)) (RL.nq (RC.fN (tF hk) (RC.ss (RC.bs (mv (vi aa) (aQ (vi aa) (RL.nq ?_))))))))
  refine RC.zf mixed ?_
  have j:=j.drew
  refine RO.go (mv v0 (RO.nx (mv (vi aa) (RO.nx ?_))))
  obtain⟨ag,aj,o⟩:=bd o
  refine RL.bP 0 j dW aj fun aq j=>(RO.nx (RL.bD ag 0 j cJ (RO.nx (mv v1 (RO.nx (mv (vi aa) (RO.nx ?_)))))))
  obtain⟨ah,ak,o⟩:=bd o
  refine RL.bP 2 j dW ak fun ar j=>(RO.nx (RL.bD ah 0 j cJ (RO.nx (ic ag ah (RO.last (aH (dU o (fun hc o=>?_) fun hc o=>?_)))))))
  rotate_left
  ·refine RC.skip (bM (aH (RC.region (RL.inc hk hm (mv (vi ((aa+1:Nat):Int)) (RL.nil ?_))))))
   obtain rfl:=oi o
   exact⟨rfl,j.sp 4 [2,3]⟩
  refine RC.sr (aQ (vb false) (RL.nt (RC.rb (bT ?_))))
  obtain rfl:=oi o
  exact⟨rfl,bX ⟨rfl,j.drop 4⟩⟩
 ·intro r U w e hK
  subst e
  refine bT ?_
  obtain rfl:=oi o
  exact hK
 rintro ab _ w rfl ⟨O,rfl,j⟩
 rw [Fo.dA] at o
 refine aH (RC.sr (aQ (vb true) (RL.nt (RC.ret ?_))))
 obtain rfl:=oi o
 exact bX ⟨rfl,j.drop 2⟩
theorem rj {p0: (List aA)} {p1:aA} {res: (List aA)} (j:Holds E w (own 118 v0 p0::V)) (h1:V[i1]? =some (rd v1 p1)) (hb:jz N p0 p1=some res):
    Calls bO 74 [v0,v1].toArray w (gW (m0 E V res)):=by
 unfold jz at hb
 refine enter Tryz.func74 zr zr ?_
 have j:=j.dup (i1+1) h1
 refine RC.sr (RL.dJ 0 v1 j zr fun ae w j=>?_)
 refine aQ (.slice none 0 0) (RL.nq (RC.sr (RL.aX zr ma (RL.bE 0 j zr eB eY fun aw j=>(RL.bA 0 p1.Xs j ly (ic ((p1.Xs.length:Int)) 0 (mv (vb ((p1.Xs.length:Int)==0)) (RL.gs true ((p1.Xs.length:Int)==0) (vp ae 1) zr zr zr (eA nH) ?_))))))))
 refine RL.gs true ((p1.Xs.length:Int)==0) (vi p1.Y1) rfl rfl rfl (bZ 1 rfl j (fun h=>by exact(cK h:cv (true&&(((p1.Xs.length:Int)==0)==false)) (vp ae 1)= (vp ae 1))) rfl fQ cJ) (RL.gs true ((p1.Xs.length:Int)==0) (vp ae 0) rfl rfl rfl (eA pV) (RL.gs true ((p1.Xs.length:Int)==0) (vi p1.Y0) rfl rfl rfl (bZ 1 rfl j (fun h=>by exact(cK h:cv (true&&(((p1.Xs.length:Int)==0)==false)) (vp ae 0)= (vp ae 0))) rfl ig cJ) (RL.gs true ((p1.Xs.length:Int)==0) (vb (decide (p1.Y1<=p1.Y0))) rfl rfl rfl (dI .leq .i64 p1.Y1 p1.Y0 rfl (fun h=>by exact(cK h:cv (true&&(((p1.Xs.length:Int)==0)==false)) (vi p1.Y1)= (vi p1.Y1))) (fun h=>by exact(cK h:cv (true&&(((p1.Xs.length:Int)==0)==false)) (vi p1.Y0)= (vi p1.Y0))) rfl) (RL.pick ((p1.Xs.length:Int)==0) (vb (((p1.Xs.length:Int)==0)||(decide (p1.Y1<=p1.Y0)))) (nR true) (RL.nt (dU hb (fun hc hb=>?_) fun hc hb=>?_))))))
 ·refine RC.sr (mv v0 (aQ v0 (RL.nt (RC.rt ?_))))
  obtain rfl:=oi hb
  exact bX (j.pk 4 [3])
 refine RC.ss (RC.sr (mv v0 (RL.fS 3 p0 j vr (RL.gl (p0.length:Int) 1 (aQ (vi (IntKind.wrap .i64 ((p0.length:Int) - 1))) (RL.nq ?_))))))
 obtain⟨aj,hj,hb⟩:=bd hb
 refine RC.jn (fun(aj:Bool)=>SH E V [(0,v0),(3,vp ae 0),(5,(vi (IntKind.wrap .i64 ((p0.length:Int) - 1)))),(42,vb aj)] [own 118 v0 p0,bx 118 ae p1]) aj ?_ ?_
 ·refine RC.v5 mixed [0,0,0,0,0,0,0,0,0,0,0,0,0,0,0,0,0,0,0,0,2,0] [0,1,2,3,4,5,6,7,8,9,10,11,12,13,14,15,16,17,18,19,20,21] ?_
  have j:=j.drew
  refine DP.e0 zr (mv (vi (IntKind.wrap .i64 ((p0.length:Int) - 1))) (aZ zr (ic ((IntKind.wrap .i64 ((p0.length:Int) - 1))) 0 (aZ zr (mv (vb (decide ((IntKind.wrap .i64 ((p0.length:Int) - 1))>=0))) (DP.d0 (fC hj (fun o hj=>?_) fun o hj=>?_)))))))
  rotate_left
  ·refine DP.e0 zr (bG o (aZ zr (bG o (aZ zr (bG o (aZ zr (bG o (aZ zr ?_))))))))
   refine bG o (aZ zr (bG o (aZ zr (bG o (aZ zr (bG o (aZ zr (fL o (vb false) ?_))))))))
   refine aZ zr (mv (vb false) (aZ zr (ko (aZ zr (ko (aZ zr (ko (aZ zr ?_))))))))
   refine ko (aZ zr (ko (aZ zr (ko (aZ zr (ko (pP zr (ko ?_))))))))
   refine tP zr (RL.pick false (vb false) zr (DP.d0 (DP.z ?_)))
   obtain rfl:=oi hj
   exact⟨rfl,j.sp 4 [3,1]⟩
  refine DP.e0 zr (RL.move v0 (cg o) (aZ zr (RL.move (vi (IntKind.wrap .i64 ((p0.length:Int) - 1))) (cg o) (aZ zr ?_))))
  obtain⟨ak,af,hj⟩:=bd hj
  refine RL.bQ (hg:=(cg o)) 3 j zr zr pD af (aZ zr (RL.jV (hg:=(cg o)) (α:=aA) (jg 3 j af 0) nH (aZ zr (RL.dQ (hg:=(cg o)) 3 j (jg 3 j af 1) (bF af).2.1 fQ cJ (aZ zr (RL.aX (hg:=(cg o)) zr pV (aZ zr (RL.aN (hg:=(cg o)) 1 j zr ig cJ ?_))))))))
  refine aZ zr (RL.kD ak.Y1 p1.Y0 (cg o) (aZ zr (fL o (vb (ak.Y1==p1.Y0)) (aZ zr (mv (vb (ak.Y1==p1.Y0)) (DP.d0 (fC hj (fun aa hj=>?_) fun aa hj=>?_)))))))
  rotate_left
  ·refine DP.e0 zr (bG aa (aZ zr (bG aa (aZ zr (bG aa (aZ zr (bG aa (aZ zr ?_))))))))
   refine bG aa (aZ zr (bG aa (aZ zr (bG aa (pP zr (bG aa (tP zr (fL aa (vb false) ?_))))))))
   refine DP.d0 (DP.z ?_)
   obtain rfl:=oi hj
   exact⟨rfl,j.sp 4 [3,1]⟩
  refine DP.e0 zr (RL.move v0 (cg aa) (aZ zr (RL.move (vi (IntKind.wrap .i64 ((p0.length:Int) - 1))) (cg aa) (aZ zr ?_))))
  obtain⟨ax,ag,hj⟩:=bd hj
  refine RL.bQ (hg:=(cg aa)) 3 j zr zr pD ag (aZ zr (RL.jV (hg:=(cg aa)) (α:=aA) (jg 3 j ag 0) ma (aZ zr (RL.ju (hg:=(cg aa)) 3 j (jg 3 j ag 2) (bF ag).2.1 eB eY fun al j=>?_))))
  refine aZ zr (RL.aX (hg:=(cg aa)) zr ma (aZ zr (RL.bE (hg:=(cg aa)) 2 j zr eB eY fun an j=>(pP zr ?_))))
  obtain⟨ao,aq,hj⟩:=bd hj
  refine RL.call (cg aa) zr L2 [al,an] zr (aD (ni N (i0:=1) (i1:=0) j zr zr aq) ?_)
  rintro _ w ⟨rfl,j⟩
  refine tP zr (fL aa (vb ao) (DP.d0 (DP.z ?_)))
  obtain rfl:=oi hj
  exact⟨rfl,j.sp 6 [5,3]⟩
 rintro _ w ⟨O,rfl,j⟩
 refine aH (dU hb (fun hc hb=>?_) fun hc hb=>?_)
 rotate_left
 ·refine RC.sx (mv v0 (RL.bE (f:=(fun x=>x)) 1 j zr Fd.self w8 fun ar j=>(RL.dR ([p1]: (List aA)) j [ar] pD Dh (fun M hs g=>⟨(g.sat 0 _ zr).1,zt⟩) fun ay w j=>?_)))
  have j:=j.freeze 0
  obtain⟨az,au,hb⟩:=bd hb
  refine RL.app 2 0 j L3 au fun av w j=>?_
  refine aQ av (RL.nt (RC.ret ?_))
  obtain rfl:=oi hb
  exact bX (j.pk 4 [2])
 refine RC.sr (mv v0 (mv (vi (IntKind.wrap .i64 ((p0.length:Int) - 1))) (RL.aX zr nH (RL.aN 1 j zr fQ cJ ?_))))
 obtain⟨a0,ah,hb⟩:=bd hb
 refine RL.bQ 0 j zr zr pD ah (RL.jV (α:=aA) (jg 0 j ah 0) nH ?_)
 have j:=j.sc Int p1.Y1
 refine RL.gL 1 0 j (jg 1 j ah 1) (bF ah).2.1 zr pA cJ fun w j=>?_
 refine RL.ns (mv v0 (aQ v0 (RL.nt (RC.rt ?_))))
 obtain rfl:=oi hb
 exact bX (j.pk 3 [1])
theorem mA {p0: (List aI)} {res: (List aA)} (o:Holds E w V) (h0:V[i0]? =some (rd v0 p0)) (hb:iz N p0=some res):
    Calls bO 34 [v0].toArray w (gW (m0 E V res)):=by
 unfold iz at hb
 refine enter Tryz.func34 zr zr ?_
 have o:=o.dup (i0+0) h0
 refine RC.sr (aQ (.slice none 0 0) (RL.ns (mv v0 ?_)))
 obtain⟨cf,bn,hb⟩:=bd hb
 refine RL.call zt zr LU [v0] zr (aD (ux N (i0:=0) o zr bn) ?_)
 rintro ae w o
 refine aQ ae (RL.ns (mv ae ?_))
 obtain⟨ah,bo,hb⟩:=bd hb
 have o:=o.pull 0
 refine RL.call zt zr Kp [ae,(.func (.func 69) #[] #[])] zr (aD (E4 Tryz.lay68 aI zr iF.IM iF.sz LV (fun o hi hj hr=>xf N o hi hj hr) o bo) ?_)
 rintro _ w ⟨rfl,o⟩
 refine RL.ns (RL.uc zr o Kq zr fun ag w o=>?_)
 refine RL.nq (RC.sr (mv ae (RL.fS 1 ah o nc (mv (vi 0) (RL.nt ?_)))))
 obtain⟨ao,hN,hb⟩:=bd hb
 refine RC.fold (fun(aw:Nat) (ao: (List Int)) U w=>∃a6:Value,SH E V [(0,ae),(3,vp ag 0),(14,ae),(15,vi ah.length),(16,vi aw)] [own 59 ae ah,bc 28 ag [a6],own 3 a6 ao] U w) (fun(ao: (List Int)) U w=>∃an:Value,SH E V [(0,ae),(3,vp ag 0)] [own 59 ae ah,bc 28 ag [an],own 3 an ao] U w) hN ?_ ?_ ?_ ?_
 ·have o:=o.cO Int 3
  exact⟨(.slice none 0 0),o.sp 5 [2,1,0]⟩
 ·rintro hm ao _ w ⟨bp,O,rfl,o⟩
  refine RC.sr (ic ((ah.length:Int)) ((ah.length:Int)) (RL.nq (RC.fO tG (RC.ex ?_))))
  exact⟨rfl,bp,o.sp 3 [0,1,2]⟩
 ·rintro hm aw ao s' _ w hk ⟨bq,O,rfl,o⟩ hb
  refine RC.sr (ic ((aw:Int)) ((ah.length:Int)) (RL.nq (RC.fN (tF hk) (RC.ss (RC.bs ?_)))))
  obtain⟨aq,a1,hb⟩:=bd hb
  refine RL.bQ 0 o zr zr jk a1 (RL.ju (f:=(fun x=>x)) 0 o (jg 0 o a1 0) (bF a1).2.1 Fd.self iF fun ch o=>?_)
  refine RL.alloc o oA.z fun cj w o=>?_
  refine RL.cA 0 o 1 zr iF fun w o=>?_
  refine RL.nt (RC.region (RL.bI 3 bq o eY (RL.aX zr g8 (RL.aN 0 o zr dF cJ (RL.aX zr kq (RL.aN 0 o zr fF cJ ?_))))))
  have o:=(o.sc Int aq.Y0).sc Int aq.Y1
  refine RL.dR ([aq.Y0,aq.Y1]: (List Int)) o [(vi aq.Y0),(vi aq.Y1)] dW A1 (fun M hs g=>⟨(g.sat 1 _ zr).1,⟨(g.sat 0 _ zr).1,zt⟩⟩) fun ck w o=>?_
  have o:=o.freeze 0
  obtain⟨cl,br,hb⟩:=bd hb
  refine RL.app 7 0 o pC br fun a9 w o=>?_
  refine RL.iw 6 a9 o zr zr (iM 7 o) eY fun w o=>?_
  refine RL.nil (bM (aH (RC.region (RL.inc hk hm (mv (vi ((aw+1:Nat):Int)) (RL.nil ?_))))))
  obtain rfl:=oi hb
  exact⟨rfl,a9,o.sp 8 [5,6,7]⟩
 rintro _ w ⟨an,O,rfl,o⟩
 refine aH (RC.sr (RL.bI 1 an o eY ?_))
 obtain⟨cm,bt,hb⟩:=bd hb
 have o:=o.pull 2
 refine RL.call zt zr LW [an] zr (aD (GP Tryz.lay70 o bt) ?_)
 rintro _ w ⟨rfl,o⟩
 refine RL.ns (RL.bI 2 an o eY ?_)
 have o:=o.pull 0
 obtain⟨ai,bu,hb⟩:=bd hb
 refine RL.call zt zr LX [an] zr (aD (tS N o bu) ?_)
 rintro bw w o
 refine RL.iw 3 bw o zr zr (iM 0 o) eY fun w o=>?_
 refine RL.ns (aQ (.slice none 0 0) (RL.ns (aQ (.slice none 0 0) (RL.ns (aQ (vi 0) (RL.nq (RC.sr (RL.alloc o A1.z fun bz w o=>?_))))))))
 have o:=o.sc Int 0
 refine RL.cA 1 o 0 zr cJ fun w o=>?_
 refine RL.nt ?_
 have o:=((((o.freeze 2).GI (i:=5) (x:=ai) rfl (fun M hs g=>(ru (g.sat 2 _ rfl).1))).lR (i:=5) rfl).cO aA 118).cO aI 59
 obtain⟨cn,hN,hb⟩:=bd hb
 refine RC.iter (fun(ab: (List aA)×(List aI)×Int×Int) U w=>∃(ba bb:Value) (bf:Nat),SH E V [(0,ae),(3,vp ag 0),(6,ba),(7,bb),(8,vi ab.2.2.1),(9,vp bf 0)] [own 59 ae ah,pt (vp ag 0) ai,own 118 ba ab.1,own 59 bb ab.2.1,bx 3 bf ab.2.2.2] U w) (fun(ab: (List aA)×(List aI)×Int×Int) U w=>∃av:Value,SH E V [(6,av)] [own 59 ae ah,pt (vp ag 0) ai,own 118 av ab.1] U w) (fun(r:Empty) _ _=>r.elim) hN ?_ ?_ ?_ ?_
 ·exact⟨(.slice none 0 0),(.slice none 0 0),bz,o.sp 9 [6,7,1,0,3]⟩
 ·rintro ab fl _ w ⟨ak,bg,al,O,rfl,o⟩ hb
  refine RC.seq (RC.sr (RL.aN (f:=(fun x=>x)) 4 o zr Fd.self cJ (RL.gl ab.2.2.2 1 (RL.bL 1 ai o eY fun cp o=>(RL.bA 0 ai o ly (ic ((IntKind.wrap .i64 (ab.2.2.2+1))) ((ai.length:Int)) (RL.nt (dU hb (fun hc hb=>?_) fun hc hb=>?_))))))))
  rotate_left
  ·refine RC.ex ?_
   obtain rfl:=oi hb
   exact⟨rfl,ak,o.sp 6 [1,2,3]⟩
  refine RC.ss (RC.bs (mv bg ?_))
  have o:=o.lR (i:=5) rfl
  refine RL.makeFunc zt zr [(vp ag 0),(vp al 0)] zr ?_
  have o:=o.pull 4
  obtain⟨cq,b1,hb⟩:=bd hb
  refine RL.call trivial rfl L0 [bg,(.func (.func 73) #[] #[(vp ag 0),(vp al 0)])] rfl (aD (qW N o ⟨73,[(vp ag 0),(vp al 0)],rfl,LZ,fun w Γl v y0 r i o hi hr=>by exact aD (xg N (i0:=i) (i1:=Γl.length+2) (i2:=Γl.length+5) o hi (BS rfl) (BS rfl) hr) fun _ _ h=>h⟩ b1) ?_)
  rintro bh w o
  refine aQ bh (RL.nq ?_)
  obtain⟨cr,hN,hb⟩:=bd hb
  refine RC.iter (fun(af: (List aI)×Int) U w=>∃bj:Value,SH E V [(0,ae),(3,vp ag 0),(6,ak),(7,bj),(8,vi af.2),(9,vp al 0)] [own 59 ae ah,pt (vp ag 0) ai,own 118 ak ab.1,pt (vp al 0) ab.2.2.2,own 59 bj af.1] U w) (fun(af: (List aI)×Int) U w=>∃ar:Value,SH E V [(0,ae),(3,vp ag 0),(6,ak),(7,ar),(8,vi af.2),(9,vp al 0)] [own 59 ae ah,pt (vp ag 0) ai,own 118 ak ab.1,pt (vp al 0) ab.2.2.2,own 59 ar af.1] U w) (fun(r:Empty) _ _=>r.elim) hN ?_ ?_ ?_ ?_
  ·exact⟨bh,o.sp 7 [2,3,4,6,0]⟩
  ·rintro af fl _ w ⟨ax,O,rfl,o⟩ hb
   refine RC.seq (RC.seq ?_)
   obtain⟨a3,hj,hb⟩:=bd hb
   refine RC.jn (fun(a3:Bool)=>SH E V [(0,ae),(3,vp ag 0),(6,ak),(7,ax),(8,vi af.2),(9,vp al 0),(57,vb a3)] [own 59 ae ah,pt (vp ag 0) ai,own 118 ak ab.1,own 59 ax af.1,pt (vp al 0) ab.2.2.2]) a3 ?_ ?_
   ·refine RC.zf mixed ?_
    have o:=o.drew
    refine RO.go (mv (vi af.2) (RO.nx (mv ae (RO.nx (RL.fS 0 ah o nc (RO.nx (ic af.2 ((ah.length:Int)) (RO.nx ?_))))))))
    refine mv (vb (decide (af.2< (ah.length:Int)))) (fC hj (fun ad hj=>?_) fun ad hj=>?_)
    rotate_left
    ·refine RO.nx (bG ad (RO.nx (bG ad (RO.nx (bG ad (RO.nx (bG ad (RO.nx ?_))))))))
     refine bG ad (RO.nx (bG ad (RO.nx (bG ad (RO.nx (bG ad (RO.nx (bG ad ?_))))))))
     refine RO.nx (bG ad (RO.nx (fL ad (vb false) (RO.last ?_))))
     obtain rfl:=oi hj
     exact⟨rfl,o.sp 5 [0,1,2,4,3]⟩
    refine RO.nx (RL.move ae (cg ad) (RO.nx (RL.move (vi af.2) (cg ad) (RO.nx ?_))))
    obtain⟨bk,ay,hj⟩:=bd hj
    refine RL.bQ (hg:=(cg ad)) 0 o zr zr jk ay (RO.nx (RL.jV (hg:=(cg ad)) (α:=aI) (jg 0 o ay 0) g8 (RO.nx (RL.dQ (hg:=(cg ad)) 0 o (jg 0 o ay 1) (bF ay).2.1 dF cJ (RO.nx (RL.bL (hg:=(cg ad)) 1 ai o eY fun ct o=>?_))))))
    refine RO.nx (RL.bD (hg:=(cg ad)) ab.2.2.2 4 o cJ (RO.nx ?_))
    obtain⟨a4,b2,hj⟩:=bd hj
    refine RL.bP (hg:=(cg ad)) 0 o dW b2 fun cu o=>(RO.nx (RL.bD (hg:=(cg ad)) a4 0 o cJ (RO.nx (RL.kD bk.Y0 a4 (cg ad) (RO.nx (fL ad (vb (decide (bk.Y0<=a4))) (RO.last ?_)))))))
    obtain rfl:=oi hj
    exact⟨rfl,o.sp 7 [2,3,4,6,5]⟩
   rintro _ w ⟨O,rfl,o⟩
   refine aH (dU hb (fun hc hb=>?_) fun hc hb=>?_)
   rotate_left
   ·refine RC.ex ?_
    obtain rfl:=oi hb
    exact⟨rfl,ax,o.sp 5 [0,1,2,4,3]⟩
   refine RC.sn (RC.block (RC.region (mv ax (mv ae (mv (vi af.2) ?_)))))
   obtain⟨b3,a5,hb⟩:=bd hb
   refine RL.bQ 0 o zr zr jk a5 (RL.ju (f:=(fun x=>x)) 0 o (jg 0 o a5 0) (bF a5).2.1 Fd.self iF fun b4 o=>?_)
   refine RL.dR ([b3]: (List aI)) o [b4] jk oA (fun M hs g=>⟨(g.sat 0 _ zr).1,zt⟩) fun cv w o=>?_
   have o:=o.freeze 0
   obtain⟨cw,b5,hb⟩:=bd hb
   refine RL.app 5 0 o zO b5 fun bl w o=>?_
   refine mv (vi af.2) (RL.gl af.2 1 (aQ bl (aQ (vi (IntKind.wrap .i64 (af.2+1))) (RL.nil (bM ?_)))))
   obtain rfl:=oi hb
   exact⟨rfl,bl,o.sp 7 [2,3,4,6,5]⟩
  ·intro r _ _ _ _
   exact r.elim
  rintro af _ w rfl ⟨ar,O,rfl,o⟩
  rw [Fo.dA] at hb
  refine aH (RC.v5 mixed [1,1,1,1,1,1,1,1,1,1,0,2,0,2,0] [0,1,2,3,4,5,6,7,8,9,10,11,12,13,14] ?_)
  have o:=o.drew
  refine DP.e1 ak zr (fun w=>RL.move ak zt DP.d1) (DP.zg ai 1 zr zt o eY fun cx a305 cy o=>(DP.re ab.2.2.2 5 zr o cJ fun a307 cz o=>?_))
  obtain⟨az,b6,hb⟩:=bd hb
  refine DP.v7 2 zr o dW b6 fun c0 o=>(DP.re az 0 zr o cJ fun a311 c1 o=>(DP.zg ai 6 zr zt o eY fun c2 a314 c3 o=>(DP.re ab.2.2.2 10 zr o cJ fun a316 c4 o=>(DP.e1 (vi (IntKind.wrap .i64 (ab.2.2.2+1))) zr (fun w=>RL.gl ab.2.2.2 1 DP.d1) ?_))))
  obtain⟨a0,b7,hb⟩:=bd hb
  refine DP.v7 2 zr o dW b7 fun c5 o=>(DP.re a0 0 zr o cJ fun a320 c6 o=>(DP.e0 zr (mv ar (pP zr ?_))))
  have o:=o.pull 14
  obtain⟨b8,b9,hb⟩:=bd hb
  refine RL.call zt zr L1 [ar] zr (aD (wj N o b9) ?_)
  rintro ca w o
  refine DP.d2 (⟨⟨⟨⟨⟨⟨zt,o.iq 10⟩,o.iq 9⟩,o.iq 7⟩,o.iq 5⟩,o.iq 4⟩,o.iq 2⟩) (DP.e0 zr ?_)
  have o:=((o.sc Int az).sc Int a0).freeze 2
  refine RL.build (⟨az,a0,b8.1⟩:aA) trivial rfl o [(0,vi az),(1,vi a0),(2,ca)] rfl IY rfl (fun M hs g=>by have h:=w6 M;exact cT.cons (f:=fun(x:aA) y=>{x with Y0:=y}) h tH (g.sat 1 _ rfl).1 fun _ h=>cT.cons (f:=fun(x:aA) y=>{x with Y1:=y}) h pA (g.sat 0 _ rfl).1 fun _ h=>cT.cons (f:=fun(x:aA) y=>{x with Xs:=y}) h tI (g.sat 2 _ rfl).1 fun _ h=>cT.nil h) fun cb o=>?_
  refine pP zr ?_
  have o:=o.pull 17
  obtain⟨c7,cc,hb⟩:=bd hb
  refine RL.call zt zr Ku [ak,cb] zr (aD (rj N (i1:=0) o zr cc) ?_)
  rintro bm w o
  refine DP.d2 (⟨⟨⟨⟨⟨⟨zt,o.iq 14⟩,o.iq 13⟩,o.iq 11⟩,o.iq 9⟩,o.iq 8⟩,o.iq 6⟩) (DP.e0 zr (aQ bm (DP.d0 ?_)))
  have o:=o.pl 21 [0,1,2,3,4,5,7,10,12,15,16,17,18,19,20]
  refine DP.z (bM (aH (RC.seq (RC.sr (RL.bD ab.2.2.2 13 o cJ (RL.nt (RC.region (RL.alloc o A1.z fun cd w o=>?_))))))))
  have o:=o.sc Int ab.2.2.2
  refine RL.cA 1 o 0 zr cJ fun w o=>?_
  refine RL.nt (RC.region (RL.aN (f:=(fun x=>x)) 1 o zr Fd.self cJ (RL.gl ab.2.2.2 1 ?_)))
  have o:=o.sc Int (IntKind.wrap .i64 (ab.2.2.2+1))
  refine RL.Gy (i:=2) (j:=0) zt o zr zr zr zr cJ fun w o=>?_
  refine RL.nil ?_
  obtain rfl:=oi hb
  exact⟨rfl,bm,ar,cd,o.sp 18 [13,14,3,8,2]⟩
 ·intro r _ _ _ _
  exact r.elim
 rintro ab _ w rfl ⟨av,O,rfl,o⟩
 rw [Fo.dA] at hb
 refine aH (RC.sr (mv av (aQ av (RL.nt (RC.ret ?_)))))
 obtain rfl:=oi hb
 exact bX (o.pk 3 [2])
theorem nN {p0: (List aA)} {res: (List aI)} (j:Holds E w V) (h0:V[i0]? =some (rd v0 p0)) (o:jO N p0=some res):
    Calls bO 38 [v0].toArray w (gW (fX E V res)):=by
 unfold jO at o
 refine enter Tryz.func38 zr zr ?_
 have j:=j.dup (i0+0) h0
 refine RC.sr (aQ (.slice none 0 0) (RL.ns (aQ (.slice none 0 0) (RL.nq (RC.sr (mv v0 (RL.bA 0 p0 j vr (mv (vi 0) ?_))))))))
 refine RL.nt ?_
 obtain⟨ad,hN,o⟩:=bd o
 refine RC.fold (fun(ae:Nat) (ad: (List aI)) U w=>∃an:Value,SH E V [(3,an),(7,v0),(8,vi p0.length),(9,vi ae)] [rd v0 p0,own 59 an ad] U w) (fun(ad: (List aI)) U w=>∃af:Value,SH E V [(3,af)] [rd v0 p0,own 59 af ad] U w) hN ?_ ?_ ?_ ?_
 ·have j:=j.cO aI 59
  exact⟨(.slice none 0 0),j.sp 2 [1,0]⟩
 ·rintro hm ad _ w ⟨av,O,rfl,j⟩
  refine RC.sr (ic ((p0.length:Int)) ((p0.length:Int)) (RL.nq (RC.fO tG (RC.ex ?_))))
  exact⟨rfl,av,j.sp 2 [0,1]⟩
 ·rintro hm ae ad s' _ w hk ⟨aw,O,rfl,j⟩ o
  refine RC.sr (ic ((ae:Int)) ((p0.length:Int)) (RL.nq (RC.fN (tF hk) (RC.ss (RC.bs ?_)))))
  obtain⟨ab,ax,o⟩:=bd o
  refine RL.bP 0 j pD ax fun a3 j=>(RL.bL 0 ab j w8 fun a4 j=>(RL.alloc j Dh.z fun ak w j=>?_))
  refine RL.cA 0 j 1 zr w8 fun w j=>?_
  refine RL.ns (aQ (vi 0) (RL.nt ?_))
  obtain⟨a5,hN,o⟩:=bd o
  refine RC.iter (fun(aa: (List aI)×Int) U w=>∃ar:Value,SH E V [(3,ar),(5,vp ak 0),(6,vi aa.2),(7,v0),(8,vi p0.length),(9,vi ae)] [bx 118 ak ab,rd v0 p0,own 59 ar aa.1] U w) (fun(aa: (List aI)×Int) U w=>∃ai:Value,SH E V [(3,ai),(7,v0),(8,vi p0.length),(9,vi ae)] [bx 118 ak ab,rd v0 p0,own 59 ai aa.1] U w) (fun(r:Empty) _ _=>r.elim) hN ?_ ?_ ?_ ?_
  ·exact⟨aw,j.sp 5 [0,3,4]⟩
  ·rintro aa fl _ w ⟨al,O,rfl,j⟩ o
   refine RC.seq (RC.sr (mv (vi aa.2) (RL.aX zr ma (RL.bE 0 j zr eB eY fun a7 j=>(RL.bA 0 ab.Xs j ly (ic aa.2 ((ab.Xs.length:Int)) (RL.nt (dU o (fun hc o=>?_) fun hc o=>?_))))))))
   rotate_left
   ·refine RC.ex ?_
    obtain rfl:=oi o
    exact⟨rfl,al,j.sp 4 [1,2,3]⟩
   refine RC.ss (RC.block (RC.v5 mixed [1,0,0,0,0,0,0,0,0,0,0,0,0,0,0,0,0,2,2,0] [0,1,2,3,4,5,6,7,8,9,10,11,12,13,14,15,16,17,18,19] ?_))
   have j:=j.drew
   refine DP.e1 al zr (fun w=>RL.move al zt DP.d1) (DP.e0 zr (RL.aX zr ma (aZ zr (RL.bE 1 j zr eB eY fun a8 j=>(aZ zr (mv (vi aa.2) (aZ zr ?_)))))))
   obtain⟨ag,az,o⟩:=bd o
   refine RL.bP 0 j dW az fun a9 j=>(aZ zr (RL.bD ag 0 j cJ (aZ zr (RL.aX zr pV (aZ zr (RL.aN 3 j zr ig cJ (aZ zr (RL.aX zr ma ?_))))))))
   refine aZ zr (RL.bE 3 j zr eB eY fun ba j=>(aZ zr (mv (vi aa.2) (aZ zr (RL.gl aa.2 1 (aZ zr ?_))))))
   obtain⟨ah,a0,o⟩:=bd o
   refine RL.bP 0 j dW a0 fun bb j=>(aZ zr (RL.bD ah 0 j cJ (aZ zr (RL.aX zr nH (aZ zr (RL.aN 5 j zr fQ cJ (aZ zr ?_)))))))
   have j:=(((j.sc Int ag).sc Int ab.Y0).sc Int ah).sc Int ab.Y1
   refine RL.build (⟨ag,ab.Y0,ah,ab.Y1⟩:aI) trivial rfl j [(0,vi ag),(1,vi ab.Y0),(2,vi ah),(3,vi ab.Y1)] rfl Di rfl (fun M hs g=>by have h:=sX M;exact cT.cons (f:=fun(x:aI) y=>{x with X0:=y}) h oO (g.sat 3 _ rfl).1 fun _ h=>cT.cons (f:=fun(x:aI) y=>{x with Y0:=y}) h qf (g.sat 2 _ rfl).1 fun _ h=>cT.cons (f:=fun(x:aI) y=>{x with X1:=y}) h oQ (g.sat 1 _ rfl).1 fun _ h=>cT.cons (f:=fun(x:aI) y=>{x with Y1:=y}) h qg (g.sat 0 _ rfl).1 fun _ h=>cT.nil h) fun a1 j=>?_
   refine pP zr (RL.dR ([(⟨ag,ab.Y0,ah,ab.Y1⟩:aI)]: (List aI)) j [a1] jk oA (fun M hs g=>⟨(g.sat 0 _ zr).1,zt⟩) fun bc w j=>(E7 zr ?_))
   have j:=j.freeze 0
   obtain⟨bf,a2,o⟩:=bd o
   refine RL.app 13 0 j zO a2 fun au w j=>?_
   refine tP zr (aQ au (DP.d0 (DP.z (bM (aH (RC.region (mv (vi aa.2) (RL.gl aa.2 2 ?_))))))))
   refine aQ (vi (IntKind.wrap .i64 (aa.2+2))) (RL.nil ?_)
   obtain rfl:=oi o
   exact⟨rfl,au,j.sp 14 [11,12,13]⟩
  ·intro r _ _ _ _
   exact r.elim
  rintro aa _ w rfl ⟨ai,O,rfl,j⟩
  rw [Fo.dA] at o
  refine bM (aH (RC.region (RL.inc hk hm (mv (vi ((ae+1:Nat):Int)) (RL.nil ?_)))))
  obtain rfl:=oi o
  exact⟨rfl,ai,j.sp 3 [1,2]⟩
 rintro _ w ⟨af,O,rfl,j⟩
 refine aH (RC.sr (mv af (aQ af (RL.nt (RC.ret ?_)))))
 obtain rfl:=oi o
 exact bX (j.pk 2 [1])
def vx (E:World) (V:List HP) (r:Bool) (U:Nat->Value) (w:World):Prop:=mh bO 26 Tryz.f37 (aV E V r) .ret U w
theorem uz {p0: (List aI)} {p1: (List aI)} {res:Bool} (j:Holds E w V) (h0:V[i0]? =some (rd v0 p0)) (h1:V[i1]? =some (rd v1 p1)) (o:kF N p0 p1=some res):
    Calls bO 37 [v0,v1].toArray w (gW (aV E V res)):=by
 unfold kF at o
 refine enter Tryz.func37 zr zr ?_
 have j:=(j.dup (i0+0) h0).dup (i1+1) h1
 refine RC.sr (aQ (vb false) (RL.nq (RC.sr (mv v0 (RL.bA 1 p0 j nc (mv v1 (RL.bA 0 p1 j nc (ic ((p0.length:Int)) ((p1.length:Int)) ?_))))))))
 refine RL.nt (dU o (fun hc o=>?_) fun hc o=>?_)
 ·refine RC.sr (aQ (vb false) (RL.nt (RC.rt ?_)))
  obtain rfl:=oi o
  exact bX ⟨rfl,j.drop 2⟩
 refine RC.ss (RC.sr (mv v0 (RL.bA 1 p0 j nc (mv (vi 0) (RL.nt ?_)))))
 obtain⟨an,hN,o⟩:=bd o
 refine RC.range (fun(aa:Nat) (ab:Unit)=>SH E V [(0,v0),(1,v1),(12,vi p0.length),(13,vi aa)] [rd v0 p0,rd v1 p1]) (fun(ab:Unit)=>SH E V [] [rd v0 p0,rd v1 p1]) (vx E V) hN ?_ ?_ ?_ ?_ ?_
 ·exact j.sp 2 [1,0]
 ·rintro hm ab _ w ⟨O,rfl,j⟩
  refine RC.sr (ic ((p0.length:Int)) ((p0.length:Int)) (RL.nq (RC.fO tG (RC.ex ?_))))
  exact⟨rfl,j.sp 2 [0,1]⟩
 ·rintro hm aa ab fl _ w hk ⟨O,rfl,j⟩ o
  refine RC.sr (ic ((aa:Int)) ((p0.length:Int)) (RL.nq (RC.fN (tF hk) (RC.ss (RC.bs (mv (vi aa) (aQ (vi aa) (RL.nq ?_))))))))
  refine RC.zf mixed ?_
  have j:=j.drew
  refine RO.go (mv v0 (RO.nx (mv (vi aa) (RO.nx ?_))))
  obtain⟨ag,aj,o⟩:=bd o
  refine RL.bP 0 j jk aj fun aq j=>(RO.nx (RL.bL 0 ag j iF fun ar j=>(RO.nx (mv v1 (RO.nx (mv (vi aa) (RO.nx ?_)))))))
  obtain⟨ah,ak,o⟩:=bd o
  refine RL.bP 3 j jk ak fun au j=>(RO.nx (RL.bL 0 ah j iF fun av j=>(RO.nx (RL.LM 2 0 ag ah zr j zr zr zr zr GV zr (RO.last (aH (dU o (fun hc o=>?_) fun hc o=>?_)))))))
  rotate_left
  ·refine RC.skip (bM (aH (RC.region (RL.inc hk hm (mv (vi ((aa+1:Nat):Int)) (RL.nil ?_))))))
   obtain rfl:=oi o
   exact⟨rfl,j.sp 6 [4,5]⟩
  refine RC.sr (aQ (vb false) (RL.nt (RC.rb (bT ?_))))
  obtain rfl:=oi o
  exact⟨rfl,bX ⟨rfl,j.drop 6⟩⟩
 ·intro r U w e hK
  subst e
  refine bT ?_
  obtain rfl:=oi o
  exact hK
 rintro ab _ w rfl ⟨O,rfl,j⟩
 rw [Fo.dA] at o
 refine aH (RC.sr (aQ (vb true) (RL.nt (RC.ret ?_))))
 obtain rfl:=oi o
 exact bX ⟨rfl,j.drop 2⟩
def vz (E:World) (V:List HP) (r:Int) (U:Nat->Value) (w:World):Prop:=mh bO 52 Tryz.f15 (aW E V r) .ret U w
theorem pd {p0: (List aI)} (j:Holds E w V) (h0:V[i0]? =some (rd v0 p0)) (hb:jI N p0=some res):
    Calls bO 15 [v0].toArray w (gW (aW E V res)):=by
 unfold jI at hb
 refine enter Tryz.func15 zr zr ?_
 have j:=j.dup (i0+0) h0
 refine RC.sr (aQ (vi 0) (RL.nq (RC.sr (mv v0 ?_))))
 obtain⟨av,ay,hb⟩:=bd hb
 refine RL.call zt zr LS [v0] zr (aD (vv N (i0:=0) j zr ay) ?_)
 rintro _ w ⟨rfl,j⟩
 refine aQ (vi av) (RL.ns (mv (vi av) (ic av 0 (RL.nt (dU hb (fun hc hb=>?_) fun hc hb=>?_)))))
 ·refine RC.sr (mv (vi av) (aQ (vi av) (RL.nt (RC.rt ?_))))
  obtain rfl:=oi hb
  exact bX ⟨rfl,j.drop 1⟩
 refine RC.ss (RC.sr (aQ (vi 1) (RL.nt ?_)))
 obtain⟨bg,hN,hb⟩:=bd hb
 refine RC.iter (fun(ao:Int)=>SH E V [(0,v0),(4,vi ao)] [rd v0 p0]) (fun(ao:Int)=>SH E V [(0,v0)] [rd v0 p0]) (vz E V) hN ?_ ?_ ?_ ?_
 ·exact j.sp 1 [0]
 ·rintro ao fl _ w ⟨O,rfl,j⟩ hb
  refine RC.seq (RC.sr (mv (vi ao) (mv v0 (RL.bA 0 p0 j nc (ic ao ((p0.length:Int)) (RL.nt (dU hb (fun hc hb=>?_) fun hc hb=>?_)))))))
  rotate_left
  ·refine RC.ex ?_
   obtain rfl:=oi hb
   exact⟨rfl,j.sp 1 [0]⟩
  refine RC.ss (RC.block (RC.seq ?_))
  obtain⟨o,a1,hb⟩:=bd hb
  obtain⟨aa,a2,hb⟩:=bd hb
  refine RC.FJ E V mixed [1,1,1,0,0,1,1,0,0,0,0,0,0] [3,4,7,8,9,10,11,12] (fun(x:Value×Value×Value×Value×Nat×Nat)=>(fun ah ai aj ak ae af=>[(0,18,v0),(1,19,(vi ao)),(2,20,(vi (IntKind.wrap .i64 (ao - 1)))),(3,21,ah),(4,22,ai),(5,23,v0),(6,24,(vi ao)),(7,25,aj),(8,26,ak),(9,5,(vp ae 0)),(10,6,(vp af 0))]) x.1 x.2.1 x.2.2.1 x.2.2.2.1 x.2.2.2.2.1 x.2.2.2.2.2) [(0,v0),(4,vi ao)] [] (fun(D:Nat->Bool) (x:Value×Value×Value×Value×Nat×Nat)=>(fun ah ai aj ak ae af=>[bif D 0 then (pt ah o) else bC,bif D 1 then (rd ai o) else bC,bif D 2 then (pt aj aa) else bC,bif D 3 then (rd ak aa) else bC,bif D 6 then (bx 59 ae o) else (bif D 4 then (raw 59 ae 4) else bC),bif D 7 then (bx 59 af aa) else (bif D 5 then (raw 59 af 4) else bC),rd v0 p0]) x.1 x.2.1 x.2.2.1 x.2.2.2.1 x.2.2.2.2.1 x.2.2.2.2.2) (fun x=>by kernel_rfl) ?_ ⟨fun _=>jF gn,fun _=>jF gn,fun _=>Ju gn rfl,?_,?_,fun _=>jF gn,fun _=>jF gn,?_,?_,?_,?_,?_,?_,trivial⟩ ?_
  ·have j:=((((((j.drew).bC).bC).bC).bC).bC).bC
   exact⟨(undef,undef,undef,undef,0,0),fP.none,(Eu zr),zt,j⟩
  ·rintro D U w hD ag aq ⟨⟨ah,ai,aj,ak,ae,af⟩,hv,ha,_,j⟩
   obtain⟨O,rfl⟩:=(ac (hv.at 0 rfl (ag.1 rfl)) (ac (hv.at 2 rfl (ag.2.1 rfl)) az)).fH
   have j:=j.cB 0 hD
   refine RL.bP 6 j jk a1 fun a3 j=>?_
   have j:=(j.pl 8 [0,2,3,4,5,6,7]).cQ 0 true rfl bC
   exact RL.nil ⟨rfl,(a3,ai,aj,ak,ae,af),hv.pu 3,ha.u,zt,j⟩
  ·rintro D U w hD ag aq ⟨⟨ah,ai,aj,ak,ae,af⟩,hv,ha,_,j⟩
   obtain⟨O,rfl⟩:=(ac (hv.at 3 rfl (ag.1 rfl)) az).fH
   have j:=(j.cP 0 (ag.1 rfl)).cB 1 hD
   refine RL.bL 0 o j iF fun a4 j=>?_
   have j:=((j.pl 8 [1,0,3,4,5,6,7]).cQ 0 (D 3) (ag.1 rfl) bC).cQ 1 true rfl bC
   exact RL.nil ⟨rfl,(ah,a4,aj,ak,ae,af),hv.pu 4,ha.u,zt,j⟩
  ·rintro D U w hD ag aq ⟨⟨ah,ai,aj,ak,ae,af⟩,hv,ha,_,j⟩
   obtain⟨O,rfl⟩:=(ac (hv.at 5 rfl (ag.1 rfl)) (ac (hv.at 6 rfl (ag.2.1 rfl)) az)).fH
   have j:=j.cB 2 hD
   refine RL.bP 6 j jk a2 fun a5 j=>?_
   have j:=(j.pl 8 [1,2,0,4,5,6,7]).cQ 2 true rfl bC
   exact RL.nil ⟨rfl,(ah,ai,a5,ak,ae,af),hv.pu 7,ha.u,zt,j⟩
  ·rintro D U w hD ag aq ⟨⟨ah,ai,aj,ak,ae,af⟩,hv,ha,_,j⟩
   obtain⟨O,rfl⟩:=(ac (hv.at 7 rfl (ag.1 rfl)) az).fH
   have j:=(j.cP 2 (ag.1 rfl)).cB 3 hD
   refine RL.bL 2 aa j iF fun a6 j=>?_
   have j:=((j.pl 8 [1,2,3,0,5,6,7]).cQ 2 (D 7) (ag.1 rfl) bC).cQ 3 true rfl bC
   exact RL.nil ⟨rfl,(ah,ai,aj,a6,ae,af),hv.pu 8,ha.u,zt,j⟩
  ·rintro D U w hD ag aq ⟨⟨ah,ai,aj,ak,ae,af⟩,hv,ha,_,j⟩
   obtain⟨O,rfl⟩:=(az (U:=U)).fH
   have j:=(j.cB 4 (nh aq hD 11)).cB 4 hD
   refine RL.alloc j oA.z fun aw w j=>?_
   have j:=((j.pl 8 [1,2,3,4,0,6,7]).cQ 4 true rfl bC).eW 4 (D 11) (nh aq hD 11) (bx 59 aw o)
   exact RL.nil ⟨rfl,(ah,ai,aj,ak,aw,af),hv.pu 9,ha.u,zt,j⟩
  ·rintro D U w hD ag aq ⟨⟨ah,ai,aj,ak,ae,af⟩,hv,ha,_,j⟩
   obtain⟨O,rfl⟩:=(az (U:=U)).fH
   have j:=(j.cB 5 (nh aq hD 12)).cB 5 hD
   refine RL.alloc j oA.z fun ax w j=>?_
   have j:=((j.pl 8 [1,2,3,4,5,0,7]).cQ 5 true rfl bC).eW 5 (D 12) (nh aq hD 12) (bx 59 ax aa)
   exact RL.nil ⟨rfl,(ah,ai,aj,ak,ae,ax),hv.pu 10,ha.u,zt,j⟩
  ·rintro D U w hD ag aq ⟨⟨ah,ai,aj,ak,ae,af⟩,hv,ha,_,j⟩
   obtain⟨O,rfl⟩:=(ac (hv.at 4 rfl (ag.2.1 rfl)) (ac (hv.at 9 rfl (ag.1 rfl)) az)).fH
   have j:=((j.cP 1 (ag.2.1 rfl)).cB 4 hD).cP 4 (ag.1 rfl)
   refine RL.cA 4 j 1 zr iF fun w j=>?_
   have j:=(j.cQ 1 (D 4) (ag.2.1 rfl) bC).cQ 4 true rfl (bif D 9 then (raw 59 ae 4) else bC)
   exact RL.nil ⟨rfl,(ah,ai,aj,ak,ae,af),hv.n1,ha,zt,j⟩
  ·rintro D U w hD ag aq ⟨⟨ah,ai,aj,ak,ae,af⟩,hv,ha,_,j⟩
   obtain⟨O,rfl⟩:=(ac (hv.at 8 rfl (ag.2.1 rfl)) (ac (hv.at 10 rfl (ag.1 rfl)) az)).fH
   have j:=((j.cP 3 (ag.2.1 rfl)).cB 5 hD).cP 5 (ag.1 rfl)
   refine RL.cA 5 j 3 zr iF fun w j=>?_
   have j:=(j.cQ 3 (D 8) (ag.2.1 rfl) bC).cQ 5 true rfl (bif D 10 then (raw 59 af 4) else bC)
   exact RL.nil ⟨rfl,(ah,ai,aj,ak,ae,af),hv.n1,ha,zt,j⟩
  rintro D U w ar ⟨⟨ah,ai,aj,ak,ae,af⟩,hv,ha,_,j⟩
  have j:=(((((j.cP 0 (kQ ar 3)).cP 1 (kQ ar 4)).cP 2 (kQ ar 7)).cP 3 (kQ ar 8)).cP 4 (kQ ar 11)).cP 5 (kQ ar 12)
  obtain⟨O,rfl⟩:=(ac (hv.at 9 rfl (kQ ar 9)) (ac (hv.at 10 rfl (kQ ar 10)) (ac (ha.at 0 rfl) (ac (ha.at 1 rfl) az)))).fH
  refine aH (RC.sr (RL.aX zr g8 (RL.aN 5 j zr dF cJ (RL.aX zr g8 (RL.aN 4 j zr dF cJ (ic aa.Y0 o.Y0 (mv (vb (decide (aa.Y0<o.Y0))) (RL.gs true (decide (aa.Y0<o.Y0)) (vp af 1) zr zr zr (eA g8) ?_))))))))
  refine RL.gs true (decide (aa.Y0<o.Y0)) (vi aa.Y0) rfl rfl rfl (bZ 5 rfl j (fun h=>by exact(cK h:cv (true&&((decide (aa.Y0<o.Y0))==false)) (vp af 1)= (vp af 1))) rfl dF cJ) (RL.gs true (decide (aa.Y0<o.Y0)) (vp ae 1) rfl rfl rfl (eA g8) (RL.gs true (decide (aa.Y0<o.Y0)) (vi o.Y0) rfl rfl rfl (bZ 4 rfl j (fun h=>by exact(cK h:cv (true&&((decide (aa.Y0<o.Y0))==false)) (vp ae 1)= (vp ae 1))) rfl dF cJ) (RL.gs true (decide (aa.Y0<o.Y0)) (vb (aa.Y0==o.Y0)) rfl rfl rfl (dI .eql .i64 aa.Y0 o.Y0 rfl (fun h=>by exact(cK h:cv (true&&((decide (aa.Y0<o.Y0))==false)) (vi aa.Y0)= (vi aa.Y0))) (fun h=>by exact(cK h:cv (true&&((decide (aa.Y0<o.Y0))==false)) (vi o.Y0)= (vi o.Y0))) rfl) (RL.gs true (decide (aa.Y0<o.Y0)) (vb (aa.Y0==o.Y0)) rfl rfl rfl (cH (hx:=fun h=>by exact(cK h:cv (true&&((decide (aa.Y0<o.Y0))==false)) (vb (aa.Y0==o.Y0))= (vb (aa.Y0==o.Y0))))) (RL.gs (true&&((decide (aa.Y0<o.Y0))==false)) (aa.Y0==o.Y0) (vp af 0) rfl rfl rfl (eA ir) (RL.gs (true&&((decide (aa.Y0<o.Y0))==false)) (aa.Y0==o.Y0) (vi aa.X0) rfl rfl rfl (bZ 5 rfl j (fun h=>by exact(cK h:cv ((true&&((decide (aa.Y0<o.Y0))==false))&&((aa.Y0==o.Y0)==true)) (vp af 0)= (vp af 0))) rfl dL cJ) (RL.gs (true&&((decide (aa.Y0<o.Y0))==false)) (aa.Y0==o.Y0) (vp ae 0) rfl rfl rfl (eA ir) (RL.gs (true&&((decide (aa.Y0<o.Y0))==false)) (aa.Y0==o.Y0) (vi o.X0) rfl rfl rfl (bZ 4 rfl j (fun h=>by exact(cK h:cv ((true&&((decide (aa.Y0<o.Y0))==false))&&((aa.Y0==o.Y0)==true)) (vp ae 0)= (vp ae 0))) rfl dL cJ) ?_))))))))
  refine RL.gs (true&&((decide (aa.Y0<o.Y0))==false)) (aa.Y0==o.Y0) (vb (decide (aa.X0<=o.X0))) rfl rfl rfl (dI .leq .i64 aa.X0 o.X0 rfl (fun h=>by exact(cK h:cv ((true&&((decide (aa.Y0<o.Y0))==false))&&((aa.Y0==o.Y0)==true)) (vi aa.X0)= (vi aa.X0))) (fun h=>by exact(cK h:cv ((true&&((decide (aa.Y0<o.Y0))==false))&&((aa.Y0==o.Y0)==true)) (vi o.X0)= (vi o.X0))) rfl) (RL.gs true (decide (aa.Y0<o.Y0)) (vb ((aa.Y0==o.Y0)&&(decide (aa.X0<=o.X0)))) rfl rfl rfl (kE (aa.Y0==o.Y0) rfl (fun h=>by exact(cK h:cv (true&&((decide (aa.Y0<o.Y0))==false)) (vb (aa.Y0==o.Y0))= (vb (aa.Y0==o.Y0)))) (fun h=>by exact gr (true&&((decide (aa.Y0<o.Y0))==false)) h)) (RL.pick (decide (aa.Y0<o.Y0)) (vb ((decide (aa.Y0<o.Y0))||((aa.Y0==o.Y0)&&(decide (aa.X0<=o.X0))))) (nR true) (RL.nt (dU hb (fun hc hb=>?_) fun hc hb=>?_))))
  ·refine RC.sr (aQ (vi 8) (RL.nt (RC.rb (bT ?_))))
   obtain rfl:=oi hb
   exact⟨rfl,bX ⟨rfl,j.drop 7⟩⟩
  refine RC.skip (bM (aH (RC.region (mv (vi ao) (RL.gl ao 1 (aQ (vi (IntKind.wrap .i64 (ao+1))) (RL.nil ?_)))))))
  obtain rfl:=oi hb
  exact⟨rfl,j.sp 7 [6]⟩
 ·intro r U w e hK
  subst e
  refine bT ?_
  obtain rfl:=oi hb
  exact hK
 rintro ao _ w rfl ⟨O,rfl,j⟩
 rw [Fo.dA] at hb
 refine aH (RC.seq (RC.sr (mv v0 ?_)))
 obtain⟨bj,a8,hb⟩:=bd hb
 refine RL.call zt zr GU [v0] zr (aD (mA N (i0:=0) j zr a8) ?_)
 rintro a9 w j
 have j:=j.freeze 0
 obtain⟨bk,ba,hb⟩:=bd hb
 refine RL.call zt zr Jx [a9] zr (aD (nN N (i0:=0) j zr ba) ?_)
 rintro bb w j
 refine mv v0 ?_
 have j:=j.freeze 0
 obtain⟨bc,bf,hb⟩:=bd hb
 refine RL.call zt zr L4 [bb,v0] zr (aD (uz N (i0:=0) (i1:=2) j zr zr bf) ?_)
 rintro _ w ⟨rfl,j⟩
 refine RL.not bc (RL.nt (dU hb (fun hc hb=>?_) fun hc hb=>?_))
 ·refine RC.sr (aQ (vi 3) (RL.nt (RC.rt ?_)))
  obtain rfl:=oi hb
  exact bX ⟨rfl,j.drop 3⟩
 refine RC.sx (aQ (vi 0) (RL.nt (RC.ret ?_)))
 obtain rfl:=oi hb
 exact bX ⟨rfl,j.drop 3⟩
theorem m6 {res:Bool} (o:Holds E w V) (j:iK N p0 p1 p2=some res):
    Calls bO 32 [(vi p0),(vi p1),(vi p2)].toArray w (gW (aV E V res)):=by
 unfold iK at j
 refine enter Tryz.func32 zr zr (RC.sr (aQ (vb false) (RL.ns (mv (vi p0) (mv (vi p1) (ic p0 p1 (mv (vb (decide (p0>=p1))) (RL.gs true (decide (p0>=p1)) (vi p0) zr zr zr cH ?_))))))))
 refine RL.gs true (decide (p0>=p1)) (vi p2) rfl rfl rfl cH (RL.gs true (decide (p0>=p1)) (vb (decide (p0<=p2))) rfl rfl rfl (dI .leq .i64 p0 p2 rfl (fun h=>by exact(cK h:cv (true&&((decide (p0>=p1))==true)) (vi p0)= (vi p0))) (fun h=>by exact(cK h:cv (true&&((decide (p0>=p1))==true)) (vi p2)= (vi p2))) rfl) (RL.pick (decide (p0>=p1)) (vb ((decide (p0>=p1))&&(decide (p0<=p2)))) (gr true rfl) (aQ (vb ((decide (p0>=p1))&&(decide (p0<=p2)))) (RL.nt (RC.ret ?_)))))
 obtain rfl:=oi j
 exact bX ⟨rfl,o.drop 0⟩
theorem rY {p0:jt} {res:Bool} (j:Holds E w V) (h0:V[i0]? =some (rd v0 p0)) (hb:jX N p0=some res):
    Calls bO 33 [v0].toArray w (gW (aV E V res)):=by
 unfold jX at hb
 refine enter Tryz.func33 zr zr ?_
 have j:=j.dup (i0+0) h0
 refine RC.sr (RL.dJ 0 v0 j zr fun ai w j=>?_)
 refine aQ (vb false) (RL.nq ?_)
 obtain⟨ad,o,hb⟩:=bd hb
 refine RC.jn (fun(ad:Bool)=>SH E V [(2,vb ad)] []) ad ?_ ?_
 ·refine RC.region (RL.aX zr v8 (RL.aN 0 j zr nL cJ ?_))
  obtain⟨af,ag,o⟩:=bd o
  refine RL.call zt zr FM [(vi p0.X)] zr (aD (lX N (p0:=p0.X) j ag) ?_)
  rintro _ w ⟨rfl,j⟩
  refine mv (vb af) (fC o (fun aa o=>?_) fun aa o=>?_)
  rotate_left
  ·refine bG aa (bG aa (bG aa (fL aa (vb false) (aQ (vb false) (RL.nil ?_)))))
   obtain rfl:=oi o
   exact⟨rfl,j.sp 2 []⟩
  refine RL.aX (hg:=(cg aa)) zr v9 (RL.aN (hg:=(cg aa)) 0 j zr nM cJ ?_)
  obtain⟨ae,ah,o⟩:=bd o
  refine RL.call (cg aa) zr FM [(vi p0.Y)] zr (aD (lX N (p0:=p0.Y) j ah) ?_)
  rintro _ w ⟨rfl,j⟩
  refine fL aa (vb ae) (aQ (vb ae) (RL.nil ?_))
  obtain rfl:=oi o
  exact⟨rfl,j.sp 2 []⟩
 rintro _ w ⟨O,rfl,j⟩
 refine aH (RC.ret ?_)
 obtain rfl:=oi hb
 exact bX ⟨rfl,j.drop 0⟩
end Go.Gk
