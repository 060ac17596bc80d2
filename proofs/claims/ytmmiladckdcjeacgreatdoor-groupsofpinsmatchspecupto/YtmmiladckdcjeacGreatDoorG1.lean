/-
  Printed texts: Go functions as plain functions, and that they are. No statement of the seed is proved here.
-/
import Derived.Test.YtmmiladckdcjeacGreatDoorProg
import Derived.Test.YtmmiladckdcjeacGreatDoorE1
import Derived.Test.YtmmiladckdcjeacGreatDoorA1
import Derived.Test.YtmmiladckdcjeacGreatDoorA2
import Derived.Test.YtmmiladckdcjeacGreatDoorRows
import Derived.Shelf.SlGeneric
import Derived.Ground.SlsfProg
import Derived.Ground.SlgmProg
set_option linter.unusedVariables false
set_option linter.unusedSimpArgs false
set_option linter.unusedSectionVars false
set_option maxRecDepth 100000
set_option maxHeartbeats 4000000
namespace Go.Gk
open Go Go.Proofs
noncomputable abbrev bN:=Tryz.prog
def ny (x:aI):=(x.X0,x.Y0,x.X1,x.Y1)
instance instGTRect:GT aI:=GT.via ny
instance instKVRect:KV aI:=instKVvia (fun(x:aI)=>(x.X0,x.Y0,x.X1,x.Y1))
theorem dM:Fd 0 (fun x:aI=>x.X0):= .v ny (.fst .self)
theorem oW:Fs 0 Int (fun(x:aI) y=>{x with X0:=y}):= .v ny (.fst .self)
theorem dF:Fd 1 (fun x:aI=>x.Y0):= .v ny (.snd (.fst .self))
theorem qj:Fs 1 Int (fun(x:aI) y=>{x with Y0:=y}):= .v ny (.snd (.fst .self))
theorem eF:Fd 2 (fun x:aI=>x.X1):= .v ny (.snd (.snd (.fst .self)))
theorem oX:Fs 2 Int (fun(x:aI) y=>{x with X1:=y}):= .v ny (.snd (.snd (.fst .self)))
theorem fG:Fd 3 (fun x:aI=>x.Y1):= .v ny (.snd (.snd (.snd (.self))))
theorem ql:Fs 3 Int (fun(x:aI) y=>{x with Y1:=y}):= .v ny (.snd (.snd (.snd (.self))))
def yb (x:jr):=(x.X,x.Y)
instance instGTPoint:GT jr:=GT.via yb
instance instKVPoint:KV jr:=instKVvia (fun(x:jr)=>(x.X,x.Y))
theorem nO:Fd 0 (fun x:jr=>x.X):= .v yb (.fst .self)
theorem nP:Fd 1 (fun x:jr=>x.Y):= .v yb (.snd (.self))
def qA (x:bZ):=(x.At,x.dE,x.cO,x.To,x.fS)
instance instGTBore:GT bZ:=GT.via qA
theorem qm:Fd 0 (fun x:bZ=>x.At):= .v qA (.fst .self)
theorem l3:Fd 2 (fun x:bZ=>x.dE):= .v qA (.snd (.fst .self))
theorem F4:Fs 2 Int (fun(x:bZ) y=>{x with dE:=y}):= .v qA (.snd (.fst .self))
theorem kA:Fd 3 (fun x:bZ=>x.cO):= .v qA (.snd (.snd (.fst .self)))
theorem l4:Fd 4 (fun x:bZ=>x.To):= .v qA (.snd (.snd (.snd (.fst .self))))
theorem qo:Fd 5 (fun x:bZ=>x.fS):= .v qA (.snd (.snd (.snd (.snd (.self)))))
def ux (x:eM):=(x.Part,x.dV,x.cT,x.At)
instance instGTLand:GT eM:=GT.via ux
theorem m8:Fd 0 (fun x:eM=>x.Part):= .v ux (.fst .self)
theorem oY:Fd 1 (fun x:eM=>x.dV):= .v ux (.snd (.fst .self))
theorem qp:Fd 2 (fun x:eM=>x.cT):= .v ux (.snd (.snd (.fst .self)))
theorem qq:Fd 3 (fun x:eM=>x.At):= .v ux (.snd (.snd (.snd (.self))))
def w8 (x:kT):=(x.aJ,x.cG,x.aO,x.bM)
instance instGTArt:GT kT:=GT.via w8
theorem i9:Fd 0 (fun x:kT=>x.aJ):= .v w8 (.fst .self)
theorem r8:Fd 1 (fun x:kT=>x.cG):= .v w8 (.snd (.fst .self))
theorem gK:Fd 2 (fun x:kT=>x.aO):= .v w8 (.snd (.snd (.fst .self)))
theorem kK:Fd 3 (fun x:kT=>x.bM):= .v w8 (.snd (.snd (.snd (.self))))
def w9 (x:dV):=(x.Part,x.dV)
instance instGTPin:GT dV:=GT.via w9
instance instKVPin:KV dV:=instKVvia (fun(x:dV)=>(x.Part,x.dV))
theorem zS:Fd 0 (fun x:dV=>x.Part):= .v w9 (.fst .self)
theorem Di:Fs 0 eJ (fun(x:dV) y=>{x with Part:=y}):= .v w9 (.fst .self)
theorem zT:Fd 1 (fun x:dV=>x.dV):= .v w9 (.snd (.self))
theorem Dj:Fs 1 eJ (fun(x:dV) y=>{x with dV:=y}):= .v w9 (.snd (.self))
def kg (x:aA):=(x.Y0,x.Y1,x.Xs)
instance instGTshape_Band:GT aA:=GT.via kg
theorem g8:Fd 0 (fun x:aA=>x.Y0):= .v kg (.fst .self)
theorem tO:Fs 0 Int (fun(x:aA) y=>{x with Y0:=y}):= .v kg (.fst .self)
theorem fM:Fd 1 (fun x:aA=>x.Y1):= .v kg (.snd (.fst .self))
theorem pI:Fs 1 Int (fun(x:aA) y=>{x with Y1:=y}):= .v kg (.snd (.fst .self))
theorem eB:Fd 2 (fun x:aA=>x.Xs):= .v kg (.snd (.snd (.self)))
theorem tP:Fs 2 (List Int) (fun(x:aA) y=>{x with Xs:=y}):= .v kg (.snd (.snd (.self)))
def j6 (x:aK):=(x.cT,x.Set,x.iJ)
instance instGTcopper_Piece:GT aK:=GT.via j6
theorem ru:Fd 0 (fun x:aK=>x.cT):= .v j6 (.fst .self)
theorem xc:Fs 0 Int (fun(x:aK) y=>{x with cT:=y}):= .v j6 (.fst .self)
theorem xd:Fs 1 (List aA) (fun(x:aK) y=>{x with Set:=y}):= .v j6 (.snd (.fst .self))
theorem ry:Fd 2 (fun x:aK=>x.iJ):= .v j6 (.snd (.snd (.self)))
theorem xe:Fs 2 (List aI) (fun(x:aK) y=>{x with iJ:=y}):= .v j6 (.snd (.snd (.self)))
def yc (x:cF):=(x.iZ,x.aO,x.gl)
instance instGTGroup:GT cF:=GT.via yc
theorem zU:Fd 0 (fun x:cF=>x.iZ):= .v yc (.fst .self)
theorem ED:Fd 1 (fun x:cF=>x.aO):= .v yc (.snd (.fst .self))
def xf (x:j8):=(x.bZ,x.Number)
instance instGTHop:GT j8:=GT.via xf
instance instKVHop:KV j8:=instKVvia (fun(x:j8)=>(x.bZ,x.Number))
theorem qB:Fd 0 (fun x:j8=>x.bZ):= .v xf (.fst .self)
theorem Dk:Fs 0 Bool (fun(x:j8) y=>{x with bZ:=y}):= .v xf (.fst .self)
theorem ph:Fd 1 (fun x:j8=>x.Number):= .v xf (.snd (.self))
theorem xg:Fs 1 Int (fun(x:j8) y=>{x with Number:=y}):= .v xf (.snd (.self))
def gG (x:aF):=(x.from_,x.to)
instance instGTetchhouseref1_span:GT aF:=GT.via gG
instance instKVetchhouseref1_span:KV aF:=instKVvia (fun(x:aF)=>(x.from_,x.to))
theorem eG:Fd 0 (fun x:aF=>x.from_):= .v gG (.fst .self)
theorem lj:Fs 0 Int (fun(x:aF) y=>{x with from_:=y}):= .v gG (.fst .self)
theorem eH:Fd 1 (fun x:aF=>x.to):= .v gG (.snd (.self))
theorem lk:Fs 1 Int (fun(x:aF) y=>{x with to:=y}):= .v gG (.snd (.self))
def fL (x:aL):=(x.from_,x.to,x.iX)
instance instGTetchhouseref1_band:GT aL:=GT.via fL
theorem nZ:Fd 0 (fun x:aL=>x.from_):= .v fL (.fst .self)
theorem n0:Fs 0 Int (fun(x:aL) y=>{x with from_:=y}):= .v fL (.fst .self)
theorem ll:Fd 1 (fun x:aL=>x.to):= .v fL (.snd (.fst .self))
theorem ln:Fs 1 Int (fun(x:aL) y=>{x with to:=y}):= .v fL (.snd (.fst .self))
theorem gp:Fd 2 (fun x:aL=>x.iX):= .v fL (.snd (.snd (.self)))
theorem n7:Fs 2 (List aF) (fun(x:aL) y=>{x with iX:=y}):= .v fL (.snd (.snd (.self)))
theorem Jb (M:eL):GT.ok M (#[(.string ⟨#[]⟩),(.string ⟨#[]⟩)]:Array Value).toList (⟨⟨[]⟩,⟨[]⟩⟩:dV):=⟨[(.string ⟨#[]⟩)],[(.string ⟨#[]⟩)],rfl,(show GT.ok M [(.string ⟨#[]⟩)] (⟨[]⟩:eJ) from rfl),(show GT.ok M [(.string ⟨#[]⟩)] (⟨[]⟩:eJ) from rfl)⟩
theorem tj (M:eL):GT.ok M (#[(.int .i64 0),(.int .i64 0),(.int .i64 0),(.int .i64 0)]:Array Value).toList (⟨0,0,0,0⟩:aI):=⟨[(.int .i64 0)],[(.int .i64 0),(.int .i64 0),(.int .i64 0)],rfl,(show GT.ok M [(.int .i64 0)] (0:Int) from rfl),⟨[(.int .i64 0)],[(.int .i64 0),(.int .i64 0)],rfl,(show GT.ok M [(.int .i64 0)] (0:Int) from rfl),⟨[(.int .i64 0)],[(.int .i64 0)],rfl,(show GT.ok M [(.int .i64 0)] (0:Int) from rfl),(show GT.ok M [(.int .i64 0)] (0:Int) from rfl)⟩⟩⟩
theorem Iz (M:eL):GT.ok M (#[(.int .i64 0),(.int .i64 0)]:Array Value).toList (⟨0,0⟩:jr):=⟨[(.int .i64 0)],[(.int .i64 0)],rfl,(show GT.ok M [(.int .i64 0)] (0:Int) from rfl),(show GT.ok M [(.int .i64 0)] (0:Int) from rfl)⟩
theorem JT (M:eL):GT.ok M (#[(.int .i64 0),(.int .i64 0),(.int .i64 0),(.int .i64 0),(.int .i64 0),(.bool false)]:Array Value).toList (⟨⟨0,0⟩,0,0,0,false⟩:bZ):=⟨[(.int .i64 0),(.int .i64 0)],[(.int .i64 0),(.int .i64 0),(.int .i64 0),(.bool false)],rfl,(show GT.ok M [(.int .i64 0),(.int .i64 0)] (⟨0,0⟩:jr) from Iz M),⟨[(.int .i64 0)],[(.int .i64 0),(.int .i64 0),(.bool false)],rfl,(show GT.ok M [(.int .i64 0)] (0:Int) from rfl),⟨[(.int .i64 0)],[(.int .i64 0),(.bool false)],rfl,(show GT.ok M [(.int .i64 0)] (0:Int) from rfl),⟨[(.int .i64 0)],[(.bool false)],rfl,(show GT.ok M [(.int .i64 0)] (0:Int) from rfl),(show GT.ok M [(.bool false)] (false:Bool) from rfl)⟩⟩⟩⟩
theorem BE (M:eL):GT.ok M (#[(.bool false),(.int .i64 0)]:Array Value).toList (⟨false,0⟩:j8):=⟨[(.bool false)],[(.int .i64 0)],rfl,(show GT.ok M [(.bool false)] (false:Bool) from rfl),(show GT.ok M [(.int .i64 0)] (0:Int) from rfl)⟩
theorem zV (M:eL):GT.ok M (#[(.int .i64 0),(.slice none 0 0),(.slice none 0 0)]:Array Value).toList (⟨0,[],[]⟩:aK):=⟨[(.int .i64 0)],[(.slice none 0 0),(.slice none 0 0)],rfl,(show GT.ok M [(.int .i64 0)] (0:Int) from rfl),⟨[(.slice none 0 0)],[(.slice none 0 0)],rfl,(show GT.ok M [(.slice none 0 0)] ([]: (List aA)) from ⟨_,rfl,none,0,0,rfl,rfl,bT _,by simp [maxLen],fun _ _ h=>by simp at h⟩),(show GT.ok M [(.slice none 0 0)] ([]: (List aI)) from ⟨_,rfl,none,0,0,rfl,rfl,bT _,by simp [maxLen],fun _ _ h=>by simp at h⟩)⟩⟩
theorem xh (M:eL):GT.ok M (#[(.int .i64 0),(.int .i64 0),(.slice none 0 0)]:Array Value).toList (⟨0,0,[]⟩:aA):=⟨[(.int .i64 0)],[(.int .i64 0),(.slice none 0 0)],rfl,(show GT.ok M [(.int .i64 0)] (0:Int) from rfl),⟨[(.int .i64 0)],[(.slice none 0 0)],rfl,(show GT.ok M [(.int .i64 0)] (0:Int) from rfl),(show GT.ok M [(.slice none 0 0)] ([]: (List Int)) from ⟨_,rfl,none,0,0,rfl,rfl,bT _,by simp [maxLen],fun _ _ h=>by simp at h⟩)⟩⟩
theorem pj (M:eL):GT.ok M (#[(.int .i64 0),(.int .i64 0),(.slice none 0 0)]:Array Value).toList (⟨0,0,[]⟩:aL):=⟨[(.int .i64 0)],[(.int .i64 0),(.slice none 0 0)],rfl,(show GT.ok M [(.int .i64 0)] (0:Int) from rfl),⟨[(.int .i64 0)],[(.slice none 0 0)],rfl,(show GT.ok M [(.int .i64 0)] (0:Int) from rfl),(show GT.ok M [(.slice none 0 0)] ([]: (List aF)) from ⟨_,rfl,none,0,0,rfl,rfl,bT _,by simp [maxLen],fun _ _ h=>by simp at h⟩)⟩⟩
theorem po (M:eL):GT.ok M (#[(.int .i64 0),(.int .i64 0)]:Array Value).toList (⟨0,0⟩:aF):=⟨[(.int .i64 0)],[(.int .i64 0)],rfl,(show GT.ok M [(.int .i64 0)] (0:Int) from rfl),(show GT.ok M [(.int .i64 0)] (0:Int) from rfl)⟩
structure aT where
  iZ: (List Int)
  aO: (List Int)
  gl:RV
  deriving Inhabited
def oF (x:aT):=(x.iZ,x.aO,x.gl)
instance instGTGroup_r2:GT aT:=GT.via oF
theorem vQ:Fd 0 (fun x:aT=>x.iZ):= .v oF (.fst .self)
theorem Be:Fd 1 (fun x:aT=>x.aO):= .v oF (.snd (.fst .self))
theorem Bf:Fd 2 (fun x:aT=>x.gl):= .v oF (.snd (.snd (.self)))
theorem Bg:Fs 2 RV (fun(x:aT) y=>{x with gl:=y}):= .v oF (.snd (.snd (.self)))
def aV:XT aT cF:=⟨fun u x=>u.iZ=x.iZ/\u.aO=x.aO,fun M h u x=>(u.iZ=x.iZ/\u.aO=x.aO)/\wc 29 M h u.gl.v x.gl,fun{M M' h u x} hk hh=>⟨hh.1,(own 29 u.gl.v x.gl).mono hk hh.2⟩,fun h=>h.1⟩
theorem n8:XO aV 29 2 (fun u=>u.gl) (fun u r=>{u with gl:=r}) (fun x=>x.gl) (fun x y=>{x with gl:=y}):=⟨Bf,Bg,by decide,fun h=>h.2,fun hr ho=>⟨hr,ho⟩⟩
theorem xk (M h:eL) (u:aT) (x:cF) (cs:List Value) (hd: ∀b o,h b=some o->M b=none) (hx:aV.ok M h u x) (hc:GT.ok M cs u):GT.ok (q6 M h) cs x:=by
  obtain⟨⟨e0,e1⟩,ho⟩:=hx
  obtain⟨c0,d0,hd0,a0,c1,d1,hd1,a1,a2⟩:=hc
  exact⟨c0,d0,hd0,GT.mono (u7 M h) (show GT.ok M c0 x.iZ from e0▸(show GT.ok M c0 u.iZ from a0)),⟨c1,d1,hd1,GT.mono (u7 M h) (show GT.ok M c1 x.aO from e1▸(show GT.ok M c1 u.aO from a1)),⟨u.gl.v,a2,wc.sl hd ho⟩⟩⟩
theorem vz:ot bN 27 true 4:=xW
theorem zW:ot bN 29 true 2:=xW
theorem mC:oz bN 27 0 0:=pH
theorem pJ:ot bN 22 false 1:=xW
theorem qC:Tryz.prog.underlying 22=some (.slice 23):=by kernel_rfl
theorem Ch:oz bN 27 1 1:=pH
theorem tW:ot bN 23 false 1:=xW
theorem nk:Tryz.prog.underlying 23=some (.slice 56):=by kernel_rfl
theorem uy:wN bN 22 23 1:=Ei
theorem jh:wN bN 23 56 4:=Ei
theorem iE:ot bN 56 true 4:=xW
theorem oG:Ee bN 56 4:=Ft (.agg #[(.int .i64 0),(.int .i64 0),(.int .i64 0),(.int .i64 0)])
theorem ij:oz bN 56 0 0:=pH
theorem cI:ot bN 3 false 1:=xW
theorem KF:g9 bN 108:=iK Tryz.func108
theorem F5:g9 bN 71:=iK Tryz.func71
theorem gW:oz bN 56 1 1:=pH
theorem ji:oz bN 56 2 2:=pH
theorem kr:oz bN 56 3 3:=pH
theorem KG:g9 bN 81:=iK Tryz.func81
theorem L6:g9 bN 41:=iK Tryz.func41
theorem mixed:Tryz.prog.follows .mixedOrders=true:=by kernel_rfl
theorem zX:uc bN 23 56 4 32:=uc.of (.agg #[(.int .i64 0),(.int .i64 0),(.int .i64 0),(.int .i64 0)])
theorem L7:g9 bN 72:=iK Tryz.func72
theorem L8:g9 bN 74:=iK Tryz.func74
theorem KH:g9 bN 73:=iK Tryz.func73
theorem KI:LZ bN 43 [(.slice none 0 0)]:=⟨(.slice none 0 0),fun _=>by kernel_rfl,rfl⟩
theorem fu:ot bN 43 false 1:=xW
theorem eC:wN bN 43 3 1:=Ei
theorem CI:Ee bN 3 1:=Ft (.int .i64 0)
theorem q7:uc bN 43 3 1 8:=uc.of (.int .i64 0)
theorem L9:g9 bN 75:=iK Tryz.func75
theorem mn:Tryz.prog.underlying 43=some (.slice 3):=by kernel_rfl
theorem KJ:GR bN 3 (0:Int):=GR.of (.int .i64 0) (fun M=>rfl)
theorem Ma:g9 bN 76:=iK Tryz.func76
theorem KK:g9 bN 90:=iK Tryz.func90
theorem Mb:GR bN 56 (⟨0,0,0,0⟩:aI):=GR.of (.agg #[(.int .i64 0),(.int .i64 0),(.int .i64 0),(.int .i64 0)]) (fun M=>(tj M))
theorem Mc:g9 bN 78:=iK Tryz.func78
theorem Md:g9 bN 77:=iK Tryz.func77
theorem KL:g9 bN 113:=iK Tryz.func113
theorem Me:g9 bN 80:=iK Tryz.func80
theorem Jc:wU bN 124 [(0,1),(1,1),(2,1)] #[(.int .i64 0),(.int .i64 0),(.slice none 0 0)]:=wU.of (.agg #[(.int .i64 0),(.int .i64 0),(.slice none 0 0)]) Tryz.underlying124
theorem mg:oz bN 124 2 2:=pH
theorem nJ:oz bN 124 1 1:=pH
theorem pW:oz bN 124 0 0:=pH
theorem vA:Tryz.prog.underlying 85=some (.slice 124):=by kernel_rfl
theorem pK:wN bN 85 124 3:=Ei
theorem KM:g9 bN 112:=iK Tryz.func112
theorem xl:ot bN 124 true 3:=xW
theorem Dl:Ee bN 124 3:=Ft (.agg #[(.int .i64 0),(.int .i64 0),(.slice none 0 0)])
theorem Mf:uc bN 85 124 3 40:=uc.of (.agg #[(.int .i64 0),(.int .i64 0),(.slice none 0 0)])
theorem KN:g9 bN 79:=iK Tryz.func79
theorem Hf:g9 bN 39:=iK Tryz.func39
theorem Dm:wU bN 56 [(0,1),(1,1),(2,1),(3,1)] #[(.int .i64 0),(.int .i64 0),(.int .i64 0),(.int .i64 0)]:=wU.of (.agg #[(.int .i64 0),(.int .i64 0),(.int .i64 0),(.int .i64 0)]) Tryz.underlying56
theorem JU:g9 bN 43:=iK Tryz.func43
theorem IA:Tryz.prog.underlying 3=some (.int .i64):=by kernel_rfl
theorem Hg:Kj bN 56 aI:=⟨fun M cs ds a b w ha hb=>by
  obtain⟨_,_,rfl,rfl,⟨_,_,rfl,rfl,⟨_,_,rfl,rfl,rfl⟩⟩⟩:=ha
  obtain⟨_,_,rfl,rfl,⟨_,_,rfl,rfl,⟨_,_,rfl,rfl,rfl⟩⟩⟩:=hb
  refine(rY 9999 Tryz.underlying56 (GQ.cons (by decide) (kx cI _) (kx cI _) (nM IA _ _ w) (GQ.cons (by decide) (kx cI _) (kx cI _) (nM IA _ _ w) (GQ.cons (by decide) (kx cI _) (kx cI _) (nM IA _ _ w) (GQ.cons (by decide) (kx cI _) (kx cI _) (nM IA _ _ w) GQ.nil))))).trans ?_
  congr 1
  cases a;cases b;unfold ny
  rw [eN]
  simp,by kernel_rfl⟩
theorem Mg:g9 bN 42:=iK Tryz.func42
theorem KO:g9 bN 14:=iK Tryz.func14
theorem ik:oz bN 27 2 2:=pH
theorem nQ:ot bN 24 false 1:=xW
theorem wj:Tryz.prog.underlying 24=some (.slice 60):=by kernel_rfl
theorem qD:wN bN 24 60 6:=Ei
theorem ma:ot bN 60 true 6:=xW
theorem EE:Ee bN 60 6:=Ft (.agg #[(.int .i64 0),(.int .i64 0),(.int .i64 0),(.int .i64 0),(.int .i64 0),(.bool false)])
theorem rJ:oz bN 60 1 2:=pH
theorem IB:g9 bN 37:=iK Tryz.func37
theorem yd:oz bN 60 0 0:=pH
theorem Dn:ot bN 52 true 2:=xW
theorem wk:oz bN 52 0 0:=pH
theorem wm:oz bN 52 1 1:=pH
theorem KP:g9 bN 38:=iK Tryz.func38
theorem F6:g9 bN 18:=iK Tryz.func18
theorem Mh:g9 bN 82:=iK Tryz.func82
theorem Mi:g9 bN 40:=iK Tryz.func40
theorem KQ:g9 bN 13:=iK Tryz.func13
theorem pL:oz bN 60 2 3:=pH
theorem rK:oz bN 60 3 4:=pH
theorem Mj:g9 bN 15:=iK Tryz.func15
theorem nR:oz bN 27 3 3:=pH
theorem wo:ot bN 25 false 1:=xW
theorem Dp:Tryz.prog.underlying 25=some (.slice 54):=by kernel_rfl
theorem zY:wN bN 25 54 5:=Ei
theorem rL:ot bN 54 true 5:=xW
theorem Hh:Ee bN 54 5:=Ft (.agg #[(.string ⟨#[]⟩),(.string ⟨#[]⟩),(.int .i64 0),(.int .i64 0),(.int .i64 0)])
theorem tk:oz bN 54 0 0:=pH
theorem yP:ot bN 9 false 1:=xW
theorem Bh:Tryz.prog.underlying 9=some (.string):=by kernel_rfl
theorem Mk (a:eJ) (b:Int) (w:World): (callFunc 160 [(str a),(.int .u8 b)].toArray).run bN w = .ok (.value (vi ((Lib.countByte a.cX (Int.toNat b).toUInt8:Nat):Int))) w:=zK Extern.BytealgCount.count Tryz.func160 (Lib.run_countString _ _ w)
theorem Ml (a:eJ) (b:Int) (w:World): (callFunc 148 [(str a),(.int .u8 b)].toArray).run bN w = .ok (.value (vi (Lib.indexByte a.cX (Int.toNat b).toUInt8))) w:=zK Extern.BytealgIndexByte.indexByte Tryz.func148 (Lib.run_indexByteString _ _ w)
theorem Jd:g9 bN 116:=iK Tryz.func116
theorem KR:g9 bN 161:=iK Tryz.func161
theorem Je:g9 bN 147:=iK Tryz.func147
theorem KS:g9 bN 146:=iK Tryz.func146
theorem KT:uc bN 127 9 1 16:=uc.of (.string ⟨#[]⟩)
theorem Nz:GR bN 9 (⟨[]⟩:eJ):=GR.of (.string ⟨#[]⟩) (fun M=>rfl)
theorem Dq:wN bN 127 9 1:=Ei
theorem KU:g9 bN 115:=iK Tryz.func115
theorem KW:g9 bN 84:=iK Tryz.func84
theorem Jf:Tryz.prog.underlying 127=some (.slice 9):=by kernel_rfl
theorem KX:g9 bN 114:=iK Tryz.func114
theorem KY:g9 bN 86:=iK Tryz.func86
theorem KZ:g9 bN 45:=iK Tryz.func45
theorem Mm:g9 bN 85:=iK Tryz.func85
theorem Mn:g9 bN 83:=iK Tryz.func83
theorem Mo:g9 bN 44:=iK Tryz.func44
theorem wq:oz bN 54 1 1:=pH
theorem ye:oz bN 54 2 2:=pH
theorem yf:oz bN 54 3 3:=pH
theorem JV:Ee bN 29 2:=Ft (.agg #[(.string ⟨#[]⟩),(.string ⟨#[]⟩)])
theorem K0:wU bN 29 [(0,1),(1,1)] #[(.string ⟨#[]⟩),(.string ⟨#[]⟩)]:=wU.of (.agg #[(.string ⟨#[]⟩),(.string ⟨#[]⟩)]) Tryz.underlying29
theorem IC:g9 bN 25:=iK Tryz.func25
theorem EF:oz bN 29 0 0:=pH
theorem mA (a b:eJ) (w:World): (callFunc 120 [(str a),(str b)].toArray).run bN w = .ok (.value (vi (Lib.compareBytes a.cX b.cX))) w:=zK Extern.BytealgCompare.compare Tryz.func120 (Lib.run_compareString _ _ w)
theorem Mp:g9 bN 93:=iK Tryz.func93
theorem K1:g9 bN 59:=iK Tryz.func59
theorem EG:oz bN 29 1 1:=pH
theorem K2:g9 bN 24:=iK Tryz.func24
theorem Mq:g9 bN 16:=iK Tryz.func16
theorem K3:g9 bN 46:=iK Tryz.func46
theorem Mr:g9 bN 17:=iK Tryz.func17
theorem Ms:wU bN 46 [(0,4),(4,1),(5,1),(6,1),(7,1),(8,1),(9,1),(10,1),(11,1)] #[(.slice none 0 0),(.slice none 0 0),(.slice none 0 0),(.slice none 0 0),(.slice none 0 0),(.slice none 0 0),(.slice none 0 0),(.slice none 0 0),(.slice none 0 0),(.slice none 0 0),(.slice none 0 0),(.slice none 0 0)]:=wU.of (.agg #[(.slice none 0 0),(.slice none 0 0),(.slice none 0 0),(.slice none 0 0),(.slice none 0 0),(.slice none 0 0),(.slice none 0 0),(.slice none 0 0),(.slice none 0 0),(.slice none 0 0),(.slice none 0 0),(.slice none 0 0)]) Tryz.underlying46
theorem uz:oz bN 46 0 0:=pH
theorem JW:g9 bN 47:=iK Tryz.func47
theorem Hi:wN bN 39 85 1:=Ei
theorem JX:Ee bN 85 1:=Ft (.slice none 0 0)
theorem K4:Tryz.prog.underlying 39=some (.slice 85):=by kernel_rfl
theorem K5:ot bN 85 false 1:=xW
theorem Jg:g9 bN 117:=iK Tryz.func117
theorem Nq:Tryz.prog.underlying 4=some (.bool):=by kernel_rfl
theorem K6:g9 bN 118:=iK Tryz.func118
theorem Mt:g9 bN 88:=iK Tryz.func88
theorem Mu:g9 bN 87:=iK Tryz.func87
theorem Mv:g9 bN 48:=iK Tryz.func48
theorem Mw:g9 bN 49:=iK Tryz.func49
theorem Hj:oz bN 46 1 4:=pH
theorem K7:ot bN 39 false 1:=xW
theorem K8:uc bN 39 85 1 24:=uc.of (.slice none 0 0)
theorem JY:g9 bN 89:=iK Tryz.func89
theorem Dr:F0 bN 133 3 3 Int Int (0:Int):=⟨by kernel_rfl,(Ba.int IA),Is (Z:=(.int .i64 0)) (by kernel_rfl) (fun M=>⟨_,rfl,rfl⟩)⟩
theorem JZ:Ee bN 23 1:=Ft (.slice none 0 0)
theorem Hk:uc bN 22 23 1 24:=uc.of (.slice none 0 0)
theorem Mx:g9 bN 50:=iK Tryz.func50
theorem yg:oz bN 46 2 5:=pH
theorem F7:ot bN 40 false 1:=xW
theorem My:wU bN 95 [(0,1),(1,1),(2,1)] #[(.int .i64 0),(.slice none 0 0),(.slice none 0 0)]:=wU.of (.agg #[(.int .i64 0),(.slice none 0 0),(.slice none 0 0)]) Tryz.underlying95
theorem J0:wN bN 40 95 3:=Ei
theorem J3:Ee bN 95 3:=Ft (.agg #[(.int .i64 0),(.slice none 0 0),(.slice none 0 0)])
theorem Mz:uc bN 40 95 3 56:=uc.of (.agg #[(.int .i64 0),(.slice none 0 0),(.slice none 0 0)])
theorem ID:Tryz.prog.underlying 40=some (.slice 95):=by kernel_rfl
theorem MA:g9 bN 19:=iK Tryz.func19
theorem MB:g9 bN 53:=iK Tryz.func53
theorem IE:ot bN 95 true 3:=xW
theorem yh:oz bN 60 4 5:=pH
theorem zZ:ot bN 4 false 1:=xW
theorem Hl:oz bN 95 0 0:=pH
theorem Hm:oz bN 95 2 2:=pH
theorem MC:g9 bN 52:=iK Tryz.func52
theorem K9:g9 bN 51:=iK Tryz.func51
theorem EH:oz bN 46 3 6:=pH
theorem zj:ot bN 41 false 1:=xW
theorem z5:wN bN 41 43 1:=Ei
theorem J4:Ee bN 43 1:=Ft (.slice none 0 0)
theorem J5:uc bN 41 43 1 24:=uc.of (.slice none 0 0)
theorem MD:g9 bN 20:=iK Tryz.func20
theorem Lb:wU bN 136 [(0,1)] #[(.slice none 0 0)]:=wU.of (.agg #[(.slice none 0 0)]) Tryz.underlying136
theorem pX:oz bN 136 0 0:=pH
theorem ME:g9 bN 54:=iK Tryz.func54
theorem F8:Tryz.prog.underlying 41=some (.slice 43):=by kernel_rfl
theorem J6:g9 bN 91:=iK Tryz.func91
theorem MF:g9 bN 55:=iK Tryz.func55
theorem EI:oz bN 46 5 8:=pH
theorem Ci:oz bN 46 6 9:=pH
theorem MG:g9 bN 56:=iK Tryz.func56
theorem Hn:LZ bN 104 [(.slice none 0 0),(.slice none 0 0),(.slice none 0 0)]:=⟨(.agg #[(.slice none 0 0),(.slice none 0 0),(.slice none 0 0)]),fun _=>by kernel_rfl,rfl⟩
theorem yi:oz bN 46 4 7:=pH
theorem r9:ot bN 42 false 1:=xW
theorem IF:Tryz.prog.underlying 42=some (.slice 104):=by kernel_rfl
theorem pY:oz bN 104 0 0:=pH
theorem tm:oz bN 104 1 1:=pH
theorem Ds:ot bN 104 true 3:=xW
theorem yj:wN bN 42 104 3:=Ei
theorem Ho:Ee bN 104 3:=Ft (.agg #[(.slice none 0 0),(.slice none 0 0),(.slice none 0 0)])
theorem J7:uc bN 42 104 3 72:=uc.of (.agg #[(.slice none 0 0),(.slice none 0 0),(.slice none 0 0)])
theorem F9:Ee bN 78 2:=Ft (.agg #[(.bool false),(.int .i64 0)])
theorem Lc:g9 bN 119:=iK Tryz.func119
theorem Ld:g9 bN 92:=iK Tryz.func92
theorem Ga:wU bN 78 [(0,1),(1,1)] #[(.bool false),(.int .i64 0)]:=wU.of (.agg #[(.bool false),(.int .i64 0)]) Tryz.underlying78
theorem tn:ot bN 78 true 2:=xW
theorem MH:g9 bN 57:=iK Tryz.func57
theorem wu:oz bN 78 0 0:=pH
theorem uA:oz bN 78 1 1:=pH
theorem MI:g9 bN 58:=iK Tryz.func58
theorem zy:oz bN 104 2 2:=pH
theorem Fu:ot bN 102 false 1:=xW
theorem Jh:wN bN 102 29 2:=Ei
theorem Ji:uc bN 102 29 2 32:=uc.of (.agg #[(.string ⟨#[]⟩),(.string ⟨#[]⟩)])
theorem Cj:oz bN 46 7 10:=pH
theorem Hp:oz bN 46 8 11:=pH
theorem Le:ot bN 44 false 1:=xW
theorem MJ:wN bN 44 78 2:=Ei
theorem MK:uc bN 44 78 2 16:=uc.of (.agg #[(.bool false),(.int .i64 0)])
theorem ML:g9 bN 21:=iK Tryz.func21
theorem NA:g9 bN 7:=iK Tryz.func7
theorem Jj:Tryz.prog.underlying 105=some (.int .u64):=by kernel_rfl
theorem MM:g9 bN 23:=iK Tryz.func23
theorem MN:g9 bN 22:=iK Tryz.func22
theorem Nr:g9 bN 8:=iK Tryz.func8
theorem NB:g9 bN 4:=iK Tryz.func4
theorem Lg:g9 bN 121:=iK Tryz.func121
theorem Bi:g9 bN 98:=iK Tryz.func98
theorem MO:g9 bN 94:=iK Tryz.func94
theorem Lh:g9 bN 95:=iK Tryz.func95
theorem BF:g9 bN 123:=iK Tryz.func123
theorem Jk:g9 bN 102:=iK Tryz.func102
theorem Jl:wU bN 160 [(0,1),(1,1)] #[(.int .i64 0),(.int .i64 0)]:=wU.of (.agg #[(.int .i64 0),(.int .i64 0)]) Tryz.underlying160
theorem vR:Tryz.prog.underlying 140=some (.slice 160):=by kernel_rfl
theorem oS:wN bN 140 160 2:=Ei
theorem pZ:oz bN 160 1 1:=pH
theorem p4:oz bN 160 0 0:=pH
theorem Fv:ot bN 160 true 2:=xW
theorem Jm:Ee bN 160 2:=Ft (.agg #[(.int .i64 0),(.int .i64 0)])
theorem Hq:uc bN 140 160 2 16:=uc.of (.agg #[(.int .i64 0),(.int .i64 0)])
theorem Jn:g9 bN 125:=iK Tryz.func125
theorem Fw:g9 bN 104:=iK Tryz.func104
theorem Jo:wU bN 143 [(0,1),(1,1),(2,1)] #[(.int .i64 0),(.int .i64 0),(.slice none 0 0)]:=wU.of (.agg #[(.int .i64 0),(.int .i64 0),(.slice none 0 0)]) Tryz.underlying143
theorem va:oz bN 143 2 2:=pH
theorem BG:ot bN 140 false 1:=xW
theorem Jp:Tryz.prog.underlying 138=some (.slice 143):=by kernel_rfl
theorem xm:wN bN 138 143 3:=Ei
theorem zz:oz bN 143 1 1:=pH
theorem Fx:oz bN 143 0 0:=pH
theorem J8:Kj bN 160 aF:=⟨fun M cs ds a b w ha hb=>by
  obtain⟨_,_,rfl,rfl,rfl⟩:=ha
  obtain⟨_,_,rfl,rfl,rfl⟩:=hb
  refine(rY 9999 Tryz.underlying160 (GQ.cons (by decide) (kx cI _) (kx cI _) (nM IA _ _ w) (GQ.cons (by decide) (kx cI _) (kx cI _) (nM IA _ _ w) GQ.nil))).trans ?_
  congr 1
  cases a;cases b;unfold gG
  rw [eN]
  simp,by kernel_rfl⟩
theorem Li:g9 bN 124:=iK Tryz.func124
theorem Lj:ot bN 143 true 3:=xW
theorem Ll:Ee bN 143 3:=Ft (.agg #[(.int .i64 0),(.int .i64 0),(.slice none 0 0)])
theorem Lm:uc bN 138 143 3 40:=uc.of (.agg #[(.int .i64 0),(.int .i64 0),(.slice none 0 0)])
theorem Jq:g9 bN 103:=iK Tryz.func103
theorem Jr:g9 bN 105:=iK Tryz.func105
theorem J9:g9 bN 65:=iK Tryz.func65
theorem MP:g9 bN 96:=iK Tryz.func96
theorem Ln:g9 bN 60:=iK Tryz.func60
theorem Hr:g9 bN 62:=iK Tryz.func62
theorem Lo:g9 bN 97:=iK Tryz.func97
theorem Gb:g9 bN 29:=iK Tryz.func29
theorem MQ:g9 bN 61:=iK Tryz.func61
theorem Js:g9 bN 100:=iK Tryz.func100
theorem MR:g9 bN 99:=iK Tryz.func99
theorem MS:g9 bN 63:=iK Tryz.func63
theorem MT:g9 bN 26:=iK Tryz.func26
theorem MU:g9 bN 27:=iK Tryz.func27
theorem MV:g9 bN 28:=iK Tryz.func28
theorem IG:g9 bN 32:=iK Tryz.func32
theorem Hs:g9 bN 107:=iK Tryz.func107
theorem Lp:g9 bN 122:=iK Tryz.func122
theorem Lq:g9 bN 101:=iK Tryz.func101
theorem MW:g9 bN 64:=iK Tryz.func64
theorem Lr:g9 bN 30:=iK Tryz.func30
theorem Ht:uc bN 111 4 1 1:=uc.of (.bool false)
theorem MX:GR bN 4 (false:Bool):=GR.of (.bool false) (fun M=>rfl)
theorem vS:wN bN 111 4 1:=Ei
theorem MY:g9 bN 66:=iK Tryz.func66
theorem MZ:g9 bN 67:=iK Tryz.func67
theorem Ls:g9 bN 31:=iK Tryz.func31
theorem NC:g9 bN 9:=iK Tryz.func9
theorem M1:g9 bN 10:=iK Tryz.func10
theorem M3:wU bN 74 [(0,4),(4,1),(5,1),(6,1),(7,1)] #[(.slice none 0 0),(.slice none 0 0),(.slice none 0 0),(.slice none 0 0),(.slice none 0 0),(.slice none 0 0),(.slice none 0 0),(.slice none 0 0)]:=wU.of (.agg #[(.slice none 0 0),(.slice none 0 0),(.slice none 0 0),(.slice none 0 0),(.slice none 0 0),(.slice none 0 0),(.slice none 0 0),(.slice none 0 0)]) Tryz.underlying74
theorem z6:oz bN 74 1 4:=pH
theorem uB:oz bN 74 2 5:=pH
theorem M4:g9 bN 33:=iK Tryz.func33
theorem tp:oz bN 74 4 7:=pH
theorem oH:oz bN 74 3 6:=pH
theorem Jt:wU bN 104 [(0,1),(1,1),(2,1)] #[(.slice none 0 0),(.slice none 0 0),(.slice none 0 0)]:=wU.of (.agg #[(.slice none 0 0),(.slice none 0 0),(.slice none 0 0)]) Tryz.underlying104
theorem EJ:g9 bN 70:=iK Tryz.func70
theorem Ju:g9 bN 106:=iK Tryz.func106
theorem M5:g9 bN 68:=iK Tryz.func68
theorem wv:oz bN 74 0 0:=pH
theorem Lt:g9 bN 69:=iK Tryz.func69
theorem Lu:g9 bN 35:=iK Tryz.func35
theorem Lv:g9 bN 36:=iK Tryz.func36
theorem Lw:g9 bN 12:=iK Tryz.func12
theorem M6:g9 bN 34:=iK Tryz.func34
theorem M7:g9 bN 11:=iK Tryz.func11
theorem ND:g9 bN 5:=iK Tryz.func5
theorem M8:wU bN 60 [(0,2),(2,1),(3,1),(4,1),(5,1)] #[(.int .i64 0),(.int .i64 0),(.int .i64 0),(.int .i64 0),(.int .i64 0),(.bool false)]:=wU.of (.agg #[(.int .i64 0),(.int .i64 0),(.int .i64 0),(.int .i64 0),(.int .i64 0),(.bool false)]) Tryz.underlying60
theorem NF:g9 bN 6:=iK Tryz.func6
def aX (E:World) (V:List HP) (res:Bool) (v:Value) (w:World):Prop:=v= (vb res)/\Holds E w V
def aU (E:World) (V:List HP) (res:Int) (v:Value) (w:World):Prop:=v= (vi res)/\Holds E w V
def fR (E:World) (V:List HP) (res: (List aI)) (v:Value) (w:World):Prop:=Holds E w ([own 56 v res]++V)
def mD (E:World) (V:List HP) (res: (List Int)) (v:Value) (w:World):Prop:=Holds E w ([own 3 v res]++V)
def m9 (E:World) (V:List HP) (res: (List aA)) (v:Value) (w:World):Prop:=Holds E w ([own 124 v res]++V)
def sd (E:World) (V:List HP) (res:Int×Bool×Int) (v:Value) (w:World):Prop:=v = .tuple #[(vi res.1),(vb res.2.1),(vi res.2.2)]/\Holds E w V
def nn (E:World) (V:List HP) (res: (List Int)) (v:Value) (w:World):Prop:=Holds E w ([rd v res]++V)
def lJ (E:World) (V:List HP) (res: (List aF)) (v:Value) (w:World):Prop:=Holds E w ([own 160 v res]++V)
def gw (E:World) (V:List HP) (b0:Nat) (v0_0 v0_1:Value) (v0_2 v0_3:Value) (v0_4 v0_5 v0_6:Value) (us0_6:List aT) (p0_6: (List cF)) (v0_7:Value) (res:Int) (v:Value) (w:World):Prop:=v= (vi res)/\Holds E w ([bc 74 b0 [v0_0,v0_1,v0_2,v0_3,v0_4,v0_5,v0_6,v0_7],own 104 v0_6 us0_6,ir aV us0_6 p0_6 none]++V)
def iS (E:World) (V:List HP) (b0:Nat) (v0_0 v0_1:Value) (v0_2 v0_3:Value) (v0_4 v0_5:Value) (v0_6 v0_7:Value) (res:Int) (v:Value) (w:World):Prop:=v= (vi res)/\Holds E w ([bc 74 b0 [v0_0,v0_1,v0_2,v0_3,v0_4,v0_5,v0_6,v0_7]]++V)
def oI (E:World) (V:List HP) (res:aI) (v:Value) (w:World):Prop:=Holds E w ([rd v res]++V)
def qE (E:World) (V:List HP) (res: (List eJ)) (v:Value) (w:World):Prop:=Holds E w ([own 9 v res]++V)
def oJ (E:World) (V:List HP) (res: (List (List aI))) (v:Value) (w:World):Prop:=Holds E w ([own 23 v res]++V)
end Go.Gk
namespace Go.Gk
open Go Go.Proofs
def Bj (H:Type) (d:DataW H):Nat:=YtmmiladckdcjeacGreatDoor.Rows.uptoBulk d
def Ly (H:Type) (d:List (DataW H)):Nat:=YtmmiladckdcjeacGreatDoor.Rows.uptoBulkAll d
theorem jN:UB Bj Ly where
  str:=fun H b=>by simp [Bj,YtmmiladckdcjeacGreatDoor.Rows.uptoBulk]
  pos:=fun H d=>by
    unfold Bj
    cases d with
    | lit l=>cases l <;> simp [YtmmiladckdcjeacGreatDoor.Rows.uptoBulk]
    | nil=>simp [YtmmiladckdcjeacGreatDoor.Rows.uptoBulk]
    | ptr d=>simp [YtmmiladckdcjeacGreatDoor.Rows.uptoBulk]
    | slice elems spare=>simp [YtmmiladckdcjeacGreatDoor.Rows.uptoBulk]
    | agg parts=>simp [YtmmiladckdcjeacGreatDoor.Rows.uptoBulk]
    | iface t d=>simp [YtmmiladckdcjeacGreatDoor.Rows.uptoBulk]
    | map entries=>simp [YtmmiladckdcjeacGreatDoor.Rows.uptoBulk]
    | held h=>simp [YtmmiladckdcjeacGreatDoor.Rows.uptoBulk]
  sl:=fun H e s=>by simp [Bj,Ly,YtmmiladckdcjeacGreatDoor.Rows.uptoBulk]
  ag:=fun H l=>by simp [Bj,Ly,YtmmiladckdcjeacGreatDoor.Rows.uptoBulk]
  nil:=fun H=>by simp [Ly,YtmmiladckdcjeacGreatDoor.Rows.uptoBulkAll]
  cons:=fun H x l=>by simp [Bj,Ly,YtmmiladckdcjeacGreatDoor.Rows.uptoBulkAll]
theorem Ie:lC Bj Tryz.prog 3 Int:=Gg jN (by kernel_rfl)
theorem M9:lC Bj Tryz.prog 56 aI:=na jN (fun(x:aI)=>(x.X0,x.Y0,x.X1,x.Y1)) (fun b=>⟨b.1,b.2.1,b.2.2.1,b.2.2.2⟩) (fun b=>rfl) Tryz.underlying56 (il jN Ie (il jN Ie (il jN Ie (qs jN Ie)))) (fun b=>by simp only [IL];omega)
theorem Lz:lC Bj Tryz.prog 23 (List aI):=tr (e:=56) jN M9
theorem Na:lC Bj Tryz.prog 22 (List (List aI)):=tr (e:=23) jN Lz
theorem LA:lC Bj Tryz.prog 52 jr:=na jN (fun(x:jr)=>(x.X,x.Y)) (fun b=>⟨b.1,b.2⟩) (fun b=>rfl) Tryz.underlying52 (il jN Ie (qs jN Ie)) (fun b=>by simp only [HA];omega)
theorem NG:lC Bj Tryz.prog 4 Bool:=EN jN (by kernel_rfl)
theorem Nb:lC Bj Tryz.prog 60 bZ:=na jN (fun(x:bZ)=>(x.At,x.dE,x.cO,x.To,x.fS)) (fun b=>⟨b.1,b.2.1,b.2.2.1,b.2.2.2.1,b.2.2.2.2⟩) (fun b=>rfl) Tryz.underlying60 (il jN LA (il jN Ie (il jN Ie (il jN Ie (qs jN NG))))) (fun b=>by simp only [IM];omega)
theorem Nc:lC Bj Tryz.prog 24 (List bZ):=tr (e:=60) jN Nb
theorem LQ:lC Bj Tryz.prog 9 eJ:=Gh jN (by kernel_rfl)
theorem Nd:lC Bj Tryz.prog 54 eM:=na jN (fun(x:eM)=>(x.Part,x.dV,x.cT,x.At)) (fun b=>⟨b.1,b.2.1,b.2.2.1,b.2.2.2⟩) (fun b=>rfl) Tryz.underlying54 (il jN LQ (il jN LQ (il jN Ie (qs jN LA)))) (fun b=>by simp only [FA];omega)
theorem Nf:lC Bj Tryz.prog 25 (List eM):=tr (e:=54) jN Nd
theorem Ng:lC Bj Tryz.prog 27 kT:=na jN (fun(x:kT)=>(x.aJ,x.cG,x.aO,x.bM)) (fun b=>⟨b.1,b.2.1,b.2.2.1,b.2.2.2⟩) (fun b=>rfl) Tryz.underlying27 (il jN Na (il jN Lz (il jN Nc (qs jN Nf)))) (fun b=>by simp only [HB];omega)
theorem Nh:lC Bj Tryz.prog 29 dV:=na jN (fun(x:dV)=>(x.Part,x.dV)) (fun b=>⟨b.1,b.2⟩) (fun b=>rfl) Tryz.underlying29 (il jN LQ (qs jN LQ)) (fun b=>by simp only [Kb];omega)
end Go.Gk
namespace Go.Proofs
open Go.Shelf Go.RowKit Go.Lib Go.Sort
def Tryz.lay73_ren : Go.Shelf.Ren := ⟨fun | 6 => 73 | 15 => 110 | 14 => 109 | 28 => 134 | 29 => 135 | 20 => 126 | 21 => 127 | 22 => 128 | 23 => 129 | 24 => 130 | 25 => 131 | 26 => 132 | 27 => 133 | 46 => 149 | 47 => 150 | 48 => 151 | 49 => 152 | 50 => 153 | 57 => 162 | n => n, fun | 22 => 23 | 24 => 56 | 25 => 62 | 3 => 3 | 39 => 105 | 0 => 0 | 53 => 169 | 55 => 171 | 4 => 4 | 46 => 163 | 45 => 162 | 50 => 64 | 5 => 5 | 9 => 9 | 66 => 179 | 70 => 183 | 76 => 190 | 77 => 191 | n => n, fun | n => n⟩
theorem Tryz.lay73 : Go.Proofs.SlLaysF0.n6 Tryz.prog Tryz.lay73_ren := {
  mixed := by kernel_rfl
  f6 := ⟨Tryz.f73.name, by decide, Tryz.func73.trans (congrArg some (by kernel_rfl))⟩
  f14 := ⟨Tryz.f109.name, by decide, Tryz.func109.trans (congrArg some (by kernel_rfl))⟩
  f15 := Tryz.func110.trans (congrArg some (by kernel_rfl))
  f20 := ⟨Tryz.f126.name, by decide, Tryz.func126.trans (congrArg some (by kernel_rfl))⟩
  f21 := ⟨Tryz.f127.name, by decide, Tryz.func127.trans (congrArg some (by kernel_rfl))⟩
  f22 := ⟨Tryz.f128.name, by decide, Tryz.func128.trans (congrArg some (by kernel_rfl))⟩
  f23 := ⟨Tryz.f129.name, by decide, Tryz.func129.trans (congrArg some (by kernel_rfl))⟩
  f24 := ⟨Tryz.f130.name, by decide, Tryz.func130.trans (congrArg some (by kernel_rfl))⟩
  f25 := ⟨Tryz.f131.name, by decide, Tryz.func131.trans (congrArg some (by kernel_rfl))⟩
  f26 := ⟨Tryz.f132.name, by decide, Tryz.func132.trans (congrArg some (by kernel_rfl))⟩
  f27 := ⟨Tryz.f133.name, by decide, Tryz.func133.trans (congrArg some (by kernel_rfl))⟩
  f28 := Tryz.func134.trans (congrArg some (by kernel_rfl))
  f29 := Tryz.func135.trans (congrArg some (by kernel_rfl))
  f46 := ⟨Tryz.f149.name, by decide, Tryz.func149.trans (congrArg some (by kernel_rfl))⟩
  f47 := Tryz.func150.trans (congrArg some (by kernel_rfl))
  f48 := Tryz.func151.trans (congrArg some (by kernel_rfl))
  f49 := ⟨Tryz.f152.name, by decide, Tryz.func152.trans (congrArg some (by kernel_rfl))⟩
  f50 := ⟨Tryz.f153.name, by decide, Tryz.func153.trans (congrArg some (by kernel_rfl))⟩
  f57 := ⟨Tryz.f162.name, by decide, Tryz.func162.trans (congrArg some (by kernel_rfl))⟩
  t0 := Tryz.underlying0
  a0 := Tryz.isAgg0
  z0 := Tryz.sizeOf0
  v0 := Tryz.zeroValue0
  t3 := Tryz.underlying3
  a3 := Tryz.isAgg3
  z3 := Tryz.sizeOf3
  v3 := Tryz.zeroValue3
  t4 := Tryz.underlying4
  a4 := Tryz.isAgg4
  z4 := Tryz.sizeOf4
  v4 := Tryz.zeroValue4
  t5 := Tryz.underlying5
  a5 := Tryz.isAgg5
  z5 := Tryz.sizeOf5
  v5 := Tryz.zeroValue5
  t9 := Tryz.underlying9
  a9 := Tryz.isAgg9
  z9 := Tryz.sizeOf9
  v9 := Tryz.zeroValue9
  t22 := Tryz.underlying23
  a22 := Tryz.isAgg23
  z22 := Tryz.sizeOf23
  v22 := Tryz.zeroValue23
  t25 := Tryz.underlying62
  a25 := Tryz.isAgg62
  z25 := Tryz.sizeOf62
  v25 := Tryz.zeroValue62
  t39 := Tryz.underlying105
  a39 := Tryz.isAgg105
  z39 := Tryz.sizeOf105
  v39 := Tryz.zeroValue105
  t45 := Tryz.underlying162
  a45 := Tryz.isAgg162
  z45 := Tryz.sizeOf162
  v45 := Tryz.zeroValue162
  t46 := Tryz.underlying163
  a46 := Tryz.isAgg163
  z46 := Tryz.sizeOf163
  v46 := Tryz.zeroValue163
  t50 := Tryz.underlying64
  a50 := Tryz.isAgg64
  z50 := Tryz.sizeOf64
  v50 := Tryz.zeroValue64
  t53 := Tryz.underlying169
  a53 := Tryz.isAgg169
  z53 := Tryz.sizeOf169
  v53 := Tryz.zeroValue169
  t55 := Tryz.underlying171
  a55 := Tryz.isAgg171
  z55 := Tryz.sizeOf171
  v55 := Tryz.zeroValue171
  t66 := Tryz.underlying179
  a66 := Tryz.isAgg179
  z66 := Tryz.sizeOf179
  v66 := Tryz.zeroValue179
  t70 := Tryz.underlying183
  a70 := Tryz.isAgg183
  z70 := Tryz.sizeOf183
  v70 := Tryz.zeroValue183
  t76 := Tryz.underlying190
  a76 := Tryz.isAgg190
  z76 := Tryz.sizeOf190
  v76 := Tryz.zeroValue190
  t77 := Tryz.underlying191
  a77 := Tryz.isAgg191
  z77 := Tryz.sizeOf191
  v77 := Tryz.zeroValue191 }
def Tryz.lay75_ren : Go.Shelf.Ren := ⟨fun | 5 => 75 | 8 => 110 | 7 => 111 | 19 => 134 | 20 => 135 | 10 => 136 | 11 => 137 | 12 => 138 | 13 => 139 | 14 => 140 | 15 => 141 | 16 => 142 | 17 => 143 | 18 => 144 | 30 => 154 | 31 => 150 | 32 => 151 | 33 => 155 | 34 => 156 | 35 => 157 | 40 => 163 | n => n, fun | 23 => 43 | 25 => 3 | 3 => 3 | 32 => 105 | 22 => 43 | 0 => 0 | 44 => 169 | 46 => 171 | 4 => 4 | 36 => 163 | 35 => 162 | 41 => 64 | 5 => 5 | 9 => 9 | 53 => 179 | 57 => 183 | 63 => 190 | 64 => 191 | n => n, fun | n => n⟩
theorem Tryz.lay75 : Go.Proofs.SlLaysM.n5 Tryz.prog Tryz.lay75_ren := {
  mixed := by kernel_rfl
  f5 := ⟨Tryz.f75.name, by decide, Tryz.func75.trans (congrArg some (by kernel_rfl))⟩
  f7 := ⟨Tryz.f111.name, by decide, Tryz.func111.trans (congrArg some (by kernel_rfl))⟩
  f8 := Tryz.func110.trans (congrArg some (by kernel_rfl))
  f10 := ⟨Tryz.f136.name, by decide, Tryz.func136.trans (congrArg some (by kernel_rfl))⟩
  f11 := ⟨Tryz.f137.name, by decide, Tryz.func137.trans (congrArg some (by kernel_rfl))⟩
  f12 := ⟨Tryz.f138.name, by decide, Tryz.func138.trans (congrArg some (by kernel_rfl))⟩
  f13 := ⟨Tryz.f139.name, by decide, Tryz.func139.trans (congrArg some (by kernel_rfl))⟩
  f14 := ⟨Tryz.f140.name, by decide, Tryz.func140.trans (congrArg some (by kernel_rfl))⟩
  f15 := ⟨Tryz.f141.name, by decide, Tryz.func141.trans (congrArg some (by kernel_rfl))⟩
  f16 := ⟨Tryz.f142.name, by decide, Tryz.func142.trans (congrArg some (by kernel_rfl))⟩
  f17 := ⟨Tryz.f143.name, by decide, Tryz.func143.trans (congrArg some (by kernel_rfl))⟩
  f18 := ⟨Tryz.f144.name, by decide, Tryz.func144.trans (congrArg some (by kernel_rfl))⟩
  f19 := Tryz.func134.trans (congrArg some (by kernel_rfl))
  f20 := Tryz.func135.trans (congrArg some (by kernel_rfl))
  f30 := ⟨Tryz.f154.name, by decide, Tryz.func154.trans (congrArg some (by kernel_rfl))⟩
  f31 := Tryz.func150.trans (congrArg some (by kernel_rfl))
  f32 := Tryz.func151.trans (congrArg some (by kernel_rfl))
  f33 := ⟨Tryz.f155.name, by decide, Tryz.func155.trans (congrArg some (by kernel_rfl))⟩
  f34 := ⟨Tryz.f156.name, by decide, Tryz.func156.trans (congrArg some (by kernel_rfl))⟩
  f35 := ⟨Tryz.f157.name, by decide, Tryz.func157.trans (congrArg some (by kernel_rfl))⟩
  f40 := ⟨Tryz.f163.name, by decide, Tryz.func163.trans (congrArg some (by kernel_rfl))⟩
  t0 := Tryz.underlying0
  a0 := Tryz.isAgg0
  z0 := Tryz.sizeOf0
  v0 := Tryz.zeroValue0
  t3 := Tryz.underlying3
  a3 := Tryz.isAgg3
  z3 := Tryz.sizeOf3
  v3 := Tryz.zeroValue3
  t4 := Tryz.underlying4
  a4 := Tryz.isAgg4
  z4 := Tryz.sizeOf4
  v4 := Tryz.zeroValue4
  t5 := Tryz.underlying5
  a5 := Tryz.isAgg5
  z5 := Tryz.sizeOf5
  v5 := Tryz.zeroValue5
  t9 := Tryz.underlying9
  a9 := Tryz.isAgg9
  z9 := Tryz.sizeOf9
  v9 := Tryz.zeroValue9
  t22 := Tryz.underlying43
  a22 := Tryz.isAgg43
  z22 := Tryz.sizeOf43
  v22 := Tryz.zeroValue43
  t23 := Tryz.underlying43
  a23 := Tryz.isAgg43
  z23 := Tryz.sizeOf43
  v23 := Tryz.zeroValue43
  t25 := Tryz.underlying3
  a25 := Tryz.isAgg3
  z25 := Tryz.sizeOf3
  v25 := Tryz.zeroValue3
  t32 := Tryz.underlying105
  a32 := Tryz.isAgg105
  z32 := Tryz.sizeOf105
  v32 := Tryz.zeroValue105
  t35 := Tryz.underlying162
  a35 := Tryz.isAgg162
  z35 := Tryz.sizeOf162
  v35 := Tryz.zeroValue162
  t36 := Tryz.underlying163
  a36 := Tryz.isAgg163
  z36 := Tryz.sizeOf163
  v36 := Tryz.zeroValue163
  t41 := Tryz.underlying64
  a41 := Tryz.isAgg64
  z41 := Tryz.sizeOf64
  v41 := Tryz.zeroValue64
  t44 := Tryz.underlying169
  a44 := Tryz.isAgg169
  z44 := Tryz.sizeOf169
  v44 := Tryz.zeroValue169
  t46 := Tryz.underlying171
  a46 := Tryz.isAgg171
  z46 := Tryz.sizeOf171
  v46 := Tryz.zeroValue171
  t53 := Tryz.underlying179
  a53 := Tryz.isAgg179
  z53 := Tryz.sizeOf179
  v53 := Tryz.zeroValue179
  t57 := Tryz.underlying183
  a57 := Tryz.isAgg183
  z57 := Tryz.sizeOf183
  v57 := Tryz.zeroValue183
  t63 := Tryz.underlying190
  a63 := Tryz.isAgg190
  z63 := Tryz.sizeOf190
  v63 := Tryz.zeroValue190
  t64 := Tryz.underlying191
  a64 := Tryz.isAgg191
  z64 := Tryz.sizeOf191
  v64 := Tryz.zeroValue191 }
end Go.Proofs
namespace Go.Gk
open Go Go.Proofs
variable (N:Nat) {E w:World} {i0 i1 i2:Nat} {p0 p1 p2 res:Int} {v0 v1 v2:Value} {V:List HP}
theorem zk {res:Bool} (o:Holds E w V) (j:tf N p0 p1 p2=some res):
    Calls bN 108 [(vi p0),(vi p1),(vi p2)].toArray w (gL (aX E V res)):=by
 unfold tf at j
 refine enter Tryz.func108 zr zr (RC.sr (aQ (vb false) (RL.ns (mv (vi p0) (mv (vi p1) (ic p0 p1 (mv (vb (decide (p0>=p1))) (RL.gs true (decide (p0>=p1)) (vi p0) zr zr zr cK ?_))))))))
 refine RL.gs true (decide (p0>=p1)) (vi p2) rfl rfl rfl cK (RL.gs true (decide (p0>=p1)) (vb (decide (p0<=p2))) rfl rfl rfl (dK .leq .i64 p0 p2 rfl (fun h=>by exact(cM h:cv (true&&((decide (p0>=p1))==true)) (vi p0)= (vi p0))) (fun h=>by exact(cM h:cv (true&&((decide (p0>=p1))==true)) (vi p2)= (vi p2))) rfl) (RL.pick (decide (p0>=p1)) (vb ((decide (p0>=p1))&&(decide (p0<=p2)))) (gD true rfl) (aQ (vb ((decide (p0>=p1))&&(decide (p0<=p2)))) (RL.nt (RC.ret ?_)))))
 obtain rfl:=oi j
 exact bX ⟨rfl,o.drop 0⟩
theorem l5 {res:Bool} (o:Holds E w V) (j:lG N p0=some res):
    Calls bN 71 [(vi p0)].toArray w (gL (aX E V res)):=by
 unfold lG at j
 refine enter Tryz.func71 zr zr (RC.sr (aQ (vb false) (RL.ns (mv (vi p0) ?_))))
 obtain⟨aa,ab,j⟩:=bd j
 refine RL.call zt zr KF [(vi p0),(vi (-1000000)),(vi 1000000)] zr (aD (zk N (p0:=p0) (p1:=(-1000000)) (p2:=1000000) o ab) ?_)
 rintro _ w ⟨rfl,o⟩
 refine aQ (vb aa) (RL.nt (RC.ret ?_))
 obtain rfl:=oi j
 exact bX ⟨rfl,o.drop 0⟩
theorem tQ {p0:aI} {res:Bool} (j:Holds E w V) (h0:V[i0]? =some (rd v0 p0)) (hb:mY N p0=some res):
    Calls bN 81 [v0].toArray w (gL (aX E V res)):=by
 unfold mY at hb
 refine enter Tryz.func81 zr zr ?_
 have j:=j.dup (i0+0) h0
 refine RC.sr (RL.cS 0 v0 j zr fun aq w j=>?_)
 refine aQ (vb false) (RL.nq ?_)
 obtain⟨af,o,hb⟩:=bd hb
 refine RC.jn (fun(af:Bool)=>SH E V [(2,vb af)] []) af ?_ ?_
 ·refine RC.region (RL.aY zr ij (RL.aM 0 j zr dM cI ?_))
  obtain⟨aj,ak,o⟩:=bd o
  refine RL.call zt zr F5 [(vi p0.X0)] zr (aD (l5 N (p0:=p0.X0) j ak) ?_)
  rintro _ w ⟨rfl,j⟩
  refine mv (vb aj) (eZ o (fun aa o=>?_) fun aa o=>?_)
  rotate_left
  ·refine bC aa (bC aa (bC aa (fq aa (vb false) (mv (vb false) (kp (kp (kp (RL.pick false (vb false) zr ?_))))))))
   refine mv (vb false) (kp (kp (kp (RL.pick false (vb false) zr (aQ (vb false) (RL.nil ?_))))))
   obtain rfl:=oi o
   exact⟨rfl,j.sp 2 []⟩
  refine RL.aY (hg:=(cg aa)) zr gW (RL.aM (hg:=(cg aa)) 0 j zr dF cI ?_)
  obtain⟨ag,al,o⟩:=bd o
  refine RL.call (cg aa) zr F5 [(vi p0.Y0)] zr (aD (l5 N (p0:=p0.Y0) j al) ?_)
  rintro _ w ⟨rfl,j⟩
  refine fq aa (vb ag) (mv (vb ag) (eZ o (fun ab o=>?_) fun ab o=>?_))
  rotate_left
  ·refine bC ab (bC ab (bC ab (fq ab (vb false) (mv (vb false) (kp (kp (kp (RL.pick false (vb false) zr ?_))))))))
   refine aQ (vb false) (RL.nil ?_)
   obtain rfl:=oi o
   exact⟨rfl,j.sp 2 []⟩
  refine RL.aY (hg:=(cg ab)) zr ji (RL.aM (hg:=(cg ab)) 0 j zr eF cI ?_)
  obtain⟨ah,an,o⟩:=bd o
  refine RL.call (cg ab) zr F5 [(vi p0.X1)] zr (aD (l5 N (p0:=p0.X1) j an) ?_)
  rintro _ w ⟨rfl,j⟩
  refine fq ab (vb ah) (mv (vb ah) (eZ o (fun ad o=>?_) fun ad o=>?_))
  rotate_left
  ·refine bC ad (bC ad (bC ad (fq ad (vb false) (aQ (vb false) (RL.nil ?_)))))
   obtain rfl:=oi o
   exact⟨rfl,j.sp 2 []⟩
  refine RL.aY (hg:=(cg ad)) zr kr (RL.aM (hg:=(cg ad)) 0 j zr fG cI ?_)
  obtain⟨ai,ao,o⟩:=bd o
  refine RL.call (cg ad) zr F5 [(vi p0.Y1)] zr (aD (l5 N (p0:=p0.Y1) j ao) ?_)
  rintro _ w ⟨rfl,j⟩
  refine fq ad (vb ai) (aQ (vb ai) (RL.nil ?_))
  obtain rfl:=oi o
  exact⟨rfl,j.sp 2 []⟩
 rintro _ w ⟨O,rfl,j⟩
 refine aH (RC.ret ?_)
 obtain rfl:=oi hb
 exact bX ⟨rfl,j.drop 0⟩
def wz (E:World) (V:List HP) (r:Int) (U:Nat->Value) (w:World):Prop:=lF bN 30 Tryz.f41 (aU E V r) .ret U w
theorem vC {p0: (List aI)} (o:Holds E w V) (h0:V[i0]? =some (rd v0 p0)) (hb:k8 N p0=some res):
    Calls bN 41 [v0].toArray w (gL (aU E V res)):=by
 unfold k8 at hb
 refine enter Tryz.func41 zr zr ?_
 have o:=o.dup (i0+0) h0
 refine RC.sr (aQ (vi 0) (RL.nq (RC.sr (mv v0 (RL.bF 0 p0 o nk (ic ((p0.length:Int)) 2000 (RL.nt (dQ hb (fun hc hb=>?_) fun hc hb=>?_))))))))
 ·refine RC.sr (aQ (vi 2) (RL.nt (RC.rt ?_)))
  obtain rfl:=oi hb
  exact bX ⟨rfl,o.drop 1⟩
 refine RC.ss (RC.sr (mv v0 (RL.bF 0 p0 o nk (mv (vi 0) (RL.nt ?_)))))
 obtain⟨aq,hN,hb⟩:=bd hb
 refine RC.range (fun(ae:Nat) (af:Unit)=>SH E V [(8,v0),(9,vi p0.length),(10,vi ae)] [rd v0 p0]) (fun(af:Unit)=>SH E V [] [rd v0 p0]) (wz E V) hN ?_ ?_ ?_ ?_ ?_
 ·exact o.sp 1 [0]
 ·rintro hm af _ w ⟨O,rfl,o⟩
  refine RC.sr (ic ((p0.length:Int)) ((p0.length:Int)) (RL.nq (RC.gk ue (RC.ex ?_))))
  exact⟨rfl,o.sp 1 [0]⟩
 ·rintro hm ae af fl _ w hk ⟨O,rfl,o⟩ hb
  refine RC.sr (ic ((ae:Int)) ((p0.length:Int)) (RL.nq (RC.gj (ud hk) (RC.ss (RC.bs ?_)))))
  obtain⟨j,aj,hb⟩:=bd hb
  refine RL.bP 0 o jh aj fun au o=>(RL.bJ 0 j o iE fun av o=>(RL.alloc o oG.z fun ab w o=>?_))
  refine RL.cC 0 o 1 zr iE fun w o=>?_
  refine RL.nq (RC.sr (RL.bB (f:=(fun x=>x)) 0 o zr Fd.self iE fun ak o=>?_))
  obtain⟨al,an,hb⟩:=bd hb
  refine RL.call zt zr KG [ak] zr (aD (tQ N (i0:=0) o zr an) ?_)
  rintro _ w ⟨rfl,o⟩
  refine RL.not al (RL.nt (dQ hb (fun hc hb=>?_) fun hc hb=>?_))
  ·refine RC.sr (aQ (vi 1) (RL.nt (RC.rt (oA (bS ?_)))))
   obtain rfl:=oi hb
   exact⟨rfl,bX ⟨rfl,o.drop 5⟩⟩
  refine RC.sx (RL.aY rfl ji (RL.aM 1 o rfl eF cI (RL.aY rfl ij (RL.aM 1 o rfl dM cI (ic j.X1 j.X0 (mv (vb (decide (j.X1<=j.X0))) (RL.gs true (decide (j.X1<=j.X0)) (vp ab 3) rfl rfl rfl (eA kr) (RL.gs true (decide (j.X1<=j.X0)) (vi j.Y1) rfl rfl rfl (cB 1 rfl o (fun h=>by exact(cM h:cv (true&&((decide (j.X1<=j.X0))==false)) (vp ab 3)= (vp ab 3))) rfl fG cI) ?_))))))))
  refine RL.gs true (decide (j.X1<=j.X0)) (vp ab 1) rfl rfl rfl (eA gW) (RL.gs true (decide (j.X1<=j.X0)) (vi j.Y0) rfl rfl rfl (cB 1 rfl o (fun h=>by exact(cM h:cv (true&&((decide (j.X1<=j.X0))==false)) (vp ab 1)= (vp ab 1))) rfl dF cI) (RL.gs true (decide (j.X1<=j.X0)) (vb (decide (j.Y1<=j.Y0))) rfl rfl rfl (dK .leq .i64 j.Y1 j.Y0 rfl (fun h=>by exact(cM h:cv (true&&((decide (j.X1<=j.X0))==false)) (vi j.Y1)= (vi j.Y1))) (fun h=>by exact(cM h:cv (true&&((decide (j.X1<=j.X0))==false)) (vi j.Y0)= (vi j.Y0))) rfl) (RL.pick (decide (j.X1<=j.X0)) (vb ((decide (j.X1<=j.X0))||(decide (j.Y1<=j.Y0)))) (nX true) (RL.nt (dQ hb (fun hc hb=>?_) fun hc hb=>?_)))))
  rotate_left
  ·refine RC.skip (bQ (aH (RC.region (RL.inc hk hm (mv (vi ((ae+1:Nat):Int)) (RL.nil ?_))))))
   obtain rfl:=oi hb
   exact⟨rfl,o.sp 5 [4]⟩
  refine RC.sr (aQ (vi 13) (RL.nt (RC.rb (bS ?_))))
  obtain rfl:=oi hb
  exact⟨rfl,bX ⟨rfl,o.drop 5⟩⟩
 ·intro r U w e hK
  subst e
  refine bS ?_
  obtain rfl:=oi hb
  exact hK
 rintro af _ w rfl ⟨O,rfl,o⟩
 rw [Fo.dB] at hb
 refine aH (RC.sr (aQ (vi 0) (RL.nt (RC.ret ?_))))
 obtain rfl:=oi hb
 exact bX ⟨rfl,o.drop 1⟩
theorem uC {p0: (List aI)} {res: (List aI)} (j:Holds E w V) (h0:V[i0]? =some (rd v0 p0)) (o:jJ N p0=some res):
    Calls bN 72 [v0].toArray w (gL (fR E V res)):=by
 unfold jJ at o
 refine enter Tryz.func72 zr zr ?_
 have j:=j.dup (i0+0) h0
 refine RC.sr (aQ (.slice none 0 0) (RL.nq (RC.sr (mv v0 (RL.Ku (i:=0) zt zr j zr zr zr nk (RL.nt (RC.cond (b:=(It v0)) zr (fun hc=>?_) (fun hc=>?_))))))))
 ·have hx:=j.L0 (i:=0) rfl hc
  rw [hx] at o
  replace o:some ([]: (List aI))=_:=o
  refine RC.sr (aQ (.slice none 0 0) (RL.nt (RC.rt ?_)))
  obtain rfl:=oi o
  have j:=j.cW aI 56
  exact bX (j.pk 2 [0])
 refine RC.sx (RL.dY ([]: (List aI)) j [] jh oG (fun M hs g=>zt) fun ae w j=>(mv v0 ?_))
 obtain⟨af,ab,o⟩:=bd o
 refine RL.app 0 1 j zX ab fun ad w j=>?_
 refine aQ ad (RL.nt (RC.ret ?_))
 obtain rfl:=oi o
 exact bX (j.pk 2 [0])
theorem xo {p0 p1:aI} (j:Holds E w V) (h0:V[i0]? =some (rd v0 p0)) (h1:V[i1]? =some (rd v1 p1)) (o:j9 N p0 p1=some res):
    Calls bN 74 [v0,v1].toArray w (gL (aU E V res)):=by
 unfold j9 at o
 refine enter Tryz.func74 zr zr ?_
 have j:=(j.dup (i0+0) h0).dup (i1+1) h1
 refine RC.sr (RL.cS 1 v0 j zr fun aa w j=>?_)
 refine RL.cS 1 v1 j zr fun ab w j=>?_
 refine aQ (vi 0) (RL.ns (RL.aY zr gW (RL.aM 1 j zr dF cI (RL.aY zr gW (RL.aM 0 j zr dF cI (RL.fY p0.Y0 p1.Y0 (aQ (vi (IntKind.wrap .i64 (p0.Y0 - p1.Y0))) (RL.nt ?_))))))))
 refine RC.ret ?_
 obtain rfl:=oi o
 exact bX ⟨rfl,j.drop 4⟩
def uD (E:World) (V:List HP) (r: (List Int)) (U:Nat->Value) (w:World):Prop:=lF bN 61 Tryz.f76 (mD E V r) .ret U w
theorem tX {p0: (List Int)} {res: (List Int)} (j:Holds E w (own 3 v0 p0::V)) (o:hU N p0=some res):
    Calls bN 76 [v0].toArray w (gL (mD E V res)):=by
 unfold hU at o
 refine enter Tryz.func76 zr zr (RC.sr (aQ (.slice none 0 0) (RL.nq (RC.sr (mv v0 (RL.fZ 0 p0 j mn (ic ((p0.length:Int)) 2 (RL.nt ?_))))))))
 refine dQ o (fun hc o=>?_) fun hc o=>?_
 ·refine RC.sr (mv v0 (aQ v0 (RL.nt (RC.rt ?_))))
  obtain rfl:=oi o
  exact bX (j.pk 1 [0])
 refine RC.ss (RC.sr (aQ (vi 1) (RL.nt ?_)))
 obtain⟨a2,hN,o⟩:=bd o
 refine RC.iter (fun(ab:Int)=>SH E V [(0,v0),(3,vi ab)] [own 3 v0 p0]) (fun(ab:Int)=>SH E V [(0,v0)] [own 3 v0 p0]) (uD E V) hN ?_ ?_ ?_ ?_
 ·exact j.sp 1 [0]
 ·rintro ab fl _ w ⟨O,rfl,j⟩ o
  refine RC.seq (RC.sr (mv (vi ab) (mv v0 (RL.fZ 0 p0 j mn (ic ab ((p0.length:Int)) (RL.nt (dQ o (fun hc o=>?_) fun hc o=>?_)))))))
  rotate_left
  ·refine RC.ex ?_
   obtain rfl:=oi o
   exact⟨rfl,j.sp 1 [0]⟩
  refine RC.ss (RC.block (RC.seq (RC.yN mixed ?_)))
  have j:=j.drew
  refine RO.go (mv v0 (RO.nx (mv (vi ab) (RO.nx ?_))))
  obtain⟨au,al,o⟩:=bd o
  refine RL.bV 0 j zr zr eC al (RO.nx (RL.dH (f:=(fun x=>x)) 0 j (jF 0 j al 0) (bH al).2.1 Fd.self cI (RO.nx (mv v0 (RO.nx (mv (vi ab) (RO.nx (RL.fY ab 1 ?_))))))))
  refine RO.nx ?_
  obtain⟨av,an,o⟩:=bd o
  refine RL.bV 0 j zr zr eC an (RO.nx (RL.dH (f:=(fun x=>x)) 0 j (jF 0 j an 0) (bH an).2.1 Fd.self cI (RO.nx (ic au av (RO.last (aH (dQ o (fun hc o=>?_) fun hc o=>?_)))))))
  rotate_left
  ·refine RC.skip (bQ (aH (RC.region (mv (vi ab) (RL.fY ab 1 (aQ (vi (IntKind.wrap .i64 (ab+1))) (RL.nil ?_)))))))
   obtain rfl:=oi o
   exact⟨rfl,j.sp 1 [0]⟩
  refine RC.sr (mv v0 (mv (vi ab) ?_))
  obtain⟨a3,af,o⟩:=bd o
  refine RL.view 0 ab zr j zr zr eC af (aQ (vw v0 (Int.toNat ab) 1) (RL.nq (RC.sr (aQ (vi 1) (RL.nt ?_)))))
  obtain⟨a4,hN,o⟩:=bd o
  refine RC.iter (fun(aa: (List Int)×Int×Int)=>SH E V [(0,v0),(3,vi aa.2.1),(4,(vw v0 (Int.toNat ab) 1)),(5,vi aa.2.2)] [own 3 v0 aa.1]) (fun(aa: (List Int)×Int×Int)=>SH E V [(0,v0),(3,vi aa.2.1)] [own 3 v0 aa.1]) (fun(r:Empty) _ _=>r.elim) hN ?_ ?_ ?_ ?_
  ·exact j.sp 1 [0]
  ·rintro aa fl _ w ⟨O,rfl,j⟩ o
   refine RC.seq (RC.sr (mv (vi aa.2.2) (mv (vw v0 (Int.toNat ab) 1) (RL.JM (i:=0) (l:=aa.1) zt zr j zr zr mn (ic aa.2.2 ((((aa.1.length - Int.toNat ab):Nat):Int)) (RL.nt (dQ o (fun hc o=>?_) fun hc o=>?_)))))))
   rotate_left
   ·refine RC.ex ?_
    obtain rfl:=oi o
    exact⟨rfl,j.sp 1 [0]⟩
   refine RC.ss (RC.block (RC.seq (RC.yN mixed ?_)))
   have j:=j.drew
   refine RO.go (mv (vw v0 (Int.toNat ab) 1) (RO.nx (mv (vi aa.2.2) (RO.nx ?_))))
   obtain⟨aw,ag,o⟩:=bd o
   refine RL.G6 0 ab zr j zr zr zr eC (Ew af) (ky ag).1 (ky ag).2 (RO.nx (RL.dH (f:=(fun x=>x)) 0 j (jF 0 j (ky ag).2 0) (bH (ky ag).2).2.1 Fd.self cI (RO.nx (mv (vw v0 (Int.toNat ab) 1) (RO.nx (mv (vi aa.2.2) (RO.nx (RL.fY aa.2.2 1 ?_))))))))
   refine RO.nx ?_
   obtain⟨ax,ah,o⟩:=bd o
   refine RL.G6 0 ab zr j zr zr zr eC (Ew af) (ky ah).1 (ky ah).2 (RO.nx (RL.dH (f:=(fun x=>x)) 0 j (jF 0 j (ky ah).2 0) (bH (ky ah).2).2.1 Fd.self cI (RO.nx (ic aw ax (RO.last (aH ?_))))))
   obtain⟨ai,hj,o⟩:=bd o
   refine RC.jn (fun(ai: (List Int)×Int)=>SH E V [(0,v0),(3,vi ai.2),(4,(vw v0 (Int.toNat ab) 1)),(5,vi aa.2.2)] [own 3 v0 ai.1]) ai ?_ ?_
   ·refine dQ hj (fun hc hj=>?_) fun hc hj=>?_
    rotate_left
    ·refine RC.skip ?_
     obtain rfl:=oi hj
     exact⟨rfl,j.sp 1 [0]⟩
    refine RC.sr (mv v0 (mv (vi aa.2.1) (mv (vw v0 (Int.toNat ab) 1) (mv (vi aa.2.2) ?_))))
    obtain⟨ay,aj,hj⟩:=bd hj
    refine RL.G6 0 ab zr j zr zr zr eC (Ew af) (ky aj).1 (ky aj).2 (RL.dH (f:=(fun x=>x)) 0 j (jF 0 j (ky aj).2 0) (bH (ky aj).2).2.1 Fd.self cI ?_)
    obtain⟨a5,ao,hj⟩:=bd hj
    refine RL.bV 0 j zr zr eC ao ?_
    have j:=j.sc Int ay
    refine RL.gI (f:=(fun _ y=>y)) 1 0 j (jF 1 j ao 0) (bH ao).2.1 zr Fs.self cI fun w j=>?_
    refine RL.nt (RC.region (mv (vi aa.2.1) (RL.fY aa.2.1 1 (aQ (vi (IntKind.wrap .i64 (aa.2.1+1))) (RL.nil ?_)))))
    obtain rfl:=oi hj
    exact⟨rfl,j.sp 2 [1]⟩
   rintro _ w ⟨O,rfl,j⟩
   refine bQ (aH (RC.region (mv (vi aa.2.2) (RL.fY aa.2.2 1 (aQ (vi (IntKind.wrap .i64 (aa.2.2+1))) (RL.nil ?_))))))
   obtain rfl:=oi o
   exact⟨rfl,j.sp 1 [0]⟩
  ·intro r _ _ _ _
   exact r.elim
  rintro aa _ w rfl ⟨O,rfl,j⟩
  rw [Fo.dB] at o
  refine aH (RC.sr (mv v0 (mv (vi aa.2.1) ?_)))
  obtain⟨a6,aq,o⟩:=bd o
  refine RL.view 0 aa.2.1 zr j zr zr eC aq (RL.C0 0 zt j zr zr q7 KJ (G7 aq) fun w j=>(RL.ns (mv v0 (mv (vi aa.2.1) ?_))))
  obtain⟨a7,az,o⟩:=bd o
  refine RL.B8 0 zr j zr zr eC (.inr ⟨rfl,zr⟩) az fun a0 j=>(aQ a0 (RL.nt (RC.rb (bS ?_))))
  obtain rfl:=oi o
  exact⟨rfl,bX (j.pk 1 [0])⟩
 ·intro r U w e hK
  subst e
  refine bS ?_
  obtain rfl:=oi o
  exact hK
 rintro ab _ w rfl ⟨O,rfl,j⟩
 rw [Fo.dB] at o
 refine aH (RC.sr (mv v0 (aQ v0 (RL.nt (RC.ret ?_)))))
 obtain rfl:=oi o
 exact bX (j.pk 1 [0])
theorem xp {p0:aI} {p1: (List Int)} {res:Bool} (j:Holds E w V) (h0:V[i0]? =some (rd v0 p0)) (h1:V[i1]? =some (pt v1 p1)) (h2:V[i2]? =some (pt v2 p2)) (o:oC N p0 p1 p2=some res):
    Calls bN 78 [v0,v1,v2].toArray w (gL (aX E V res)):=by
 unfold oC at o
 refine enter Tryz.func78 zr zr ?_
 have j:=((j.dup (i0+0) h0).B7 (i:=i1+1) h1).B7 (i:=i2+2) h2
 refine RC.sr (RL.cS 2 v0 j zr fun ad w j=>?_)
 refine aQ (vb false) (RL.nq (RC.yN mixed ?_))
 have j:=j.drew
 refine RO.go (RL.aY zr kr (RO.nx (RL.aM 0 j zr fG cI (RO.nx (RL.bJ 2 p1 j fu fun ae j=>(RO.nx (RL.bE p2 2 j cI (RO.nx ?_))))))))
 obtain⟨aa,ab,o⟩:=bd o
 refine RL.bP 0 j eC ab fun af j=>(RO.nx (RL.bE aa 0 j cI (RO.nx (ic p0.Y1 aa (RO.nx (aQ (vb (decide (p0.Y1<=aa))) (RO.last (aH ?_))))))))
 refine RC.ret ?_
 obtain rfl:=oi o
 exact bX ⟨rfl,j.drop 6⟩
def si (E:World) (V:List HP) (r:Int) (U:Nat->Value) (w:World):Prop:=lF bN 19 Tryz.f90 (aU E V r) .ret U w
theorem rN {p0: (List aI)} {p1:aI->Option Bool} (j:Holds E w V) (h0:V[i0]? =some (rd v0 p0)) (h1:Ib bN E V v1 p1 (fun(r:Bool)=>Value.bool r)) (o:l8 N p0 p1=some res):
    Calls bN 90 [v0,v1].toArray w (gL (aU E V res)):=by
 unfold l8 at o
 refine enter Tryz.func90 zr zr ?_
 have j:=j.dup (i0+0) h0
 refine RC.sr (aQ (vi 0) (RL.nq (RC.sr (mv v0 (RL.bF 0 p0 j nk (mv (vi 0) (RL.nt ?_)))))))
 obtain⟨al,hN,o⟩:=bd o
 refine RC.range (fun(aa:Nat) (ab:Unit)=>SH E V [(0,v0),(1,v1),(7,vi p0.length),(8,vi aa)] [rd v0 p0]) (fun(ab:Unit)=>SH E V [] [rd v0 p0]) (si E V) hN ?_ ?_ ?_ ?_ ?_
 ·exact j.sp 1 [0]
 ·rintro hm ab _ w ⟨O,rfl,j⟩
  refine RC.sr (ic ((p0.length:Int)) ((p0.length:Int)) (RL.nq (RC.gk ue (RC.ex ?_))))
  exact⟨rfl,j.sp 1 [0]⟩
 ·rintro hm aa ab fl _ w hk ⟨O,rfl,j⟩ o
  refine RC.sr (ic ((aa:Int)) ((p0.length:Int)) (RL.nq (RC.gj (ud hk) (RC.ss (RC.bs (mv (vi aa) (aQ (vi aa) (RL.ns ?_))))))))
  refine mv v1 (mv v0 (mv (vi aa) ?_))
  obtain⟨ag,ah,o⟩:=bd o
  refine RL.bP 0 j jh ah fun ao j=>(RL.bJ 0 ag j iE fun aq j=>?_)
  obtain⟨ar,ai,o⟩:=bd o
  refine RL.B6 0 zr j zr h1 3 zr zr zr ai fun w j=>(RL.nt (dQ o (fun hc o=>?_) fun hc o=>?_))
  rotate_left
  ·refine RC.skip (bQ (aH (RC.region (RL.inc hk hm (mv (vi ((aa+1:Nat):Int)) (RL.nil ?_))))))
   obtain rfl:=oi o
   exact⟨rfl,j.sp 3 [2]⟩
  refine RC.sr (mv (vi aa) (aQ (vi aa) (RL.nt (RC.rb (bS ?_)))))
  obtain rfl:=oi o
  exact⟨rfl,bX ⟨rfl,j.drop 3⟩⟩
 ·intro r U w e hK
  subst e
  refine bS ?_
  obtain rfl:=oi o
  exact hK
 rintro ab _ w rfl ⟨O,rfl,j⟩
 rw [Fo.dB] at o
 refine aH (RC.sr (aQ (vi (-1)) (RL.nt (RC.ret ?_))))
 obtain rfl:=oi o
 exact bX ⟨rfl,j.drop 1⟩
def mE (E:World) (V:List HP) (v0:Value) (p0: (List aI)) (res:Int) (v:Value) (w:World):Prop:=v= (vi res)/\Holds E w ([own 56 v0 p0]++V)
def qG (E:World) (V:List HP) (v0:Value) (p0: (List aI)) (r:Int) (U:Nat->Value) (w:World):Prop:=lF bN 19 Tryz.f90 (mE E V v0 p0 r) .ret U w
theorem p5 {p0: (List aI)} {p1:aI->Option Bool} (o:Holds E w (own 56 v0 p0::V)) (h1:Ib bN E V v1 p1 (fun(r:Bool)=>Value.bool r)) (j:kU N p0 p1=some res):
    Calls bN 90 [v0,v1].toArray w (gL (mE E V v0 p0 res)):=by
 unfold kU at j
 refine enter Tryz.func90 zr zr (RC.sr (aQ (vi 0) (RL.nq (RC.sr (mv v0 (RL.fZ 0 p0 o nk (mv (vi 0) (RL.nt ?_))))))))
 obtain⟨ak,hN,j⟩:=bd j
 refine RC.range (fun(aa:Nat) (ab:Unit)=>SH E V [(0,v0),(1,v1),(7,vi p0.length),(8,vi aa)] [own 56 v0 p0]) (fun(ab:Unit)=>SH E V [(0,v0)] [own 56 v0 p0]) (qG E V v0 p0) hN ?_ ?_ ?_ ?_ ?_
 ·exact o.sp 1 [0]
 ·rintro hm ab _ w ⟨O,rfl,o⟩
  refine RC.sr (ic ((p0.length:Int)) ((p0.length:Int)) (RL.nq (RC.gk ue (RC.ex ?_))))
  exact⟨rfl,o.sp 1 [0]⟩
 ·rintro hm aa ab fl _ w hk ⟨O,rfl,o⟩ j
  refine RC.sr (ic ((aa:Int)) ((p0.length:Int)) (RL.nq (RC.gj (ud hk) (RC.ss (RC.bs (mv (vi aa) (aQ (vi aa) (RL.ns ?_))))))))
  refine mv v1 (mv v0 (mv (vi aa) ?_))
  obtain⟨an,ad,j⟩:=bd j
  refine RL.bV 0 o zr zr jh ad (RL.kF (f:=(fun x=>x)) 0 o (jF 0 o ad 0) (bH ad).2.1 Fd.self iE fun ao o=>?_)
  obtain⟨aq,ah,j⟩:=bd j
  refine RL.B6 0 zr o zr h1 2 zr zr zr ah fun w o=>(RL.nt (dQ j (fun hc j=>?_) fun hc j=>?_))
  rotate_left
  ·refine RC.skip (bQ (aH (RC.region (RL.inc hk hm (mv (vi ((aa+1:Nat):Int)) (RL.nil ?_))))))
   obtain rfl:=oi j
   exact⟨rfl,o.sp 2 [1]⟩
  refine RC.sr (mv (vi aa) (aQ (vi aa) (RL.nt (RC.rb (bS ?_)))))
  obtain rfl:=oi j
  exact⟨rfl,bX ⟨rfl,o.pk 2 [1]⟩⟩
 ·intro r U w e hK
  subst e
  refine bS ?_
  obtain rfl:=oi j
  exact hK
 rintro ab _ w rfl ⟨O,rfl,o⟩
 rw [Fo.dB] at j
 refine aH (RC.sr (aQ (vi (-1)) (RL.nt (RC.ret ?_))))
 obtain rfl:=oi j
 exact bX ⟨rfl,o.pk 1 [0]⟩
theorem q8 {p0: (List aI)} {p1:aI->Option Bool} {res: (List aI)} (j:Holds E w (own 56 v0 p0::V)) (h1:Ib bN E V v1 p1 (fun(r:Bool)=>Value.bool r)) (o:iP N p0 p1=some res):
    Calls bN 77 [v0,v1].toArray w (gL (fR E V res)):=by
 unfold iP at o
 refine enter Tryz.func77 zr zr (RC.sr (aQ (.slice none 0 0) (RL.ns (mv v0 (mv v1 ?_)))))
 have j:=j.pull 0
 obtain⟨ad,aj,o⟩:=bd o
 refine RL.call zt zr KK [v0,v1] zr (aD (p5 N j (h1.lift 1 zr) aj) ?_)
 rintro _ w ⟨rfl,j⟩
 refine aQ (vi ad) (RL.nq (RC.sr (mv (vi ad) (ic ad ((-1)) (RL.nt (dQ o (fun hc o=>?_) fun hc o=>?_))))))
 ·refine RC.sr (mv v0 (aQ v0 (RL.nt (RC.rt ?_))))
  obtain rfl:=oi o
  exact bX (j.pk 2 [0])
 refine RC.ss (RC.sr (mv (vi ad) (RL.fY ad 1 (aQ (vi (IntKind.wrap .i64 (ad+1))) (RL.nt ?_)))))
 obtain⟨ar,hN,o⟩:=bd o
 refine RC.iter (fun(aa: (List aI)×Int×Int)=>SH E V [(0,v0),(1,v1),(5,vi aa.2.1),(6,vi aa.2.2)] [own 56 v0 aa.1]) (fun(aa: (List aI)×Int×Int)=>SH E V [(0,v0),(5,vi aa.2.1)] [own 56 v0 aa.1]) (fun(r:Empty) _ _=>r.elim) hN ?_ ?_ ?_ ?_
 ·exact j.sp 2 [0]
 ·rintro aa fl _ w ⟨O,rfl,j⟩ o
  refine RC.seq (RC.sr (mv (vi aa.2.2) (mv v0 (RL.fZ 0 aa.1 j nk (ic aa.2.2 ((aa.1.length:Int)) (RL.nt (dQ o (fun hc o=>?_) fun hc o=>?_)))))))
  rotate_left
  ·refine RC.ex ?_
   obtain rfl:=oi o
   exact⟨rfl,j.sp 1 [0]⟩
  refine RC.ss (RC.bs (mv v0 (mv (vi aa.2.2) ?_)))
  obtain⟨av,ag,o⟩:=bd o
  refine RL.bV 0 j zr zr jh ag (RL.kF (f:=(fun x=>x)) 0 j (jF 0 j ag 0) (bH ag).2.1 Fd.self iE fun aw j=>?_)
  refine RL.alloc j oG.z fun ax w j=>?_
  refine RL.cC 0 j 1 zr iE fun w j=>?_
  refine RL.ns (mv v1 (RL.bB (f:=(fun x=>x)) 0 j zr Fd.self iE fun ay j=>?_))
  obtain⟨al,an,o⟩:=bd o
  refine RL.B6 0 zr j zr h1 4 zr zr zr an fun w j=>(RL.not al (RL.nt ?_))
  obtain⟨af,hj,o⟩:=bd o
  refine RC.jn (fun(af: (List aI)×Int)=>SH E V [(0,v0),(1,v1),(5,vi af.2),(6,vi aa.2.2)] [own 56 v0 af.1]) af ?_ ?_
  ·refine dQ hj (fun hc hj=>?_) fun hc hj=>?_
   rotate_left
   ·refine RC.skip ?_
    obtain rfl:=oi hj
    exact⟨rfl,j.sp 4 [3]⟩
   refine RC.sr (mv v0 (mv (vi aa.2.1) (RL.bB (f:=(fun x=>x)) 1 j zr Fd.self iE fun az j=>?_)))
   obtain⟨a0,ah,hj⟩:=bd hj
   refine RL.bV 4 j zr zr jh ah (RL.gI (f:=(fun _ y=>y)) 4 0 j (jF 4 j ah 0) (bH ah).2.1 zr Fs.self iE fun w j=>?_)
   refine RL.nt (RC.region (mv (vi aa.2.1) (RL.fY aa.2.1 1 (aQ (vi (IntKind.wrap .i64 (aa.2.1+1))) (RL.nil ?_)))))
   obtain rfl:=oi hj
   exact⟨rfl,j.sp 5 [4]⟩
  rintro _ w ⟨O,rfl,j⟩
  refine bQ (aH (RC.region (mv (vi aa.2.2) (RL.fY aa.2.2 1 (aQ (vi (IntKind.wrap .i64 (aa.2.2+1))) (RL.nil ?_))))))
  obtain rfl:=oi o
  exact⟨rfl,j.sp 1 [0]⟩
 ·intro r _ _ _ _
  exact r.elim
 rintro aa _ w rfl ⟨O,rfl,j⟩
 rw [Fo.dB] at o
 refine aH (RC.sr (mv v0 (mv (vi aa.2.1) ?_)))
 obtain⟨a1,ai,o⟩:=bd o
 refine RL.view 0 aa.2.1 zr j zr zr jh ai (RL.C0 0 zt j zr zr zX Mb (G7 ai) fun w j=>(RL.ns (mv v0 (mv (vi aa.2.1) ?_))))
 obtain⟨a2,ao,o⟩:=bd o
 refine RL.B8 0 zr j zr zr jh (.inr ⟨rfl,zr⟩) ao fun aq j=>(aQ aq (RL.nt (RC.ret ?_)))
 obtain rfl:=oi o
 exact bX (j.pk 1 [0])
theorem tY {p0 p1:aI} (j:Holds E w V) (h0:V[i0]? =some (rd v0 p0)) (h1:V[i1]? =some (rd v1 p1)) (o:hZ N p0 p1=some res):
    Calls bN 113 [v0,v1].toArray w (gL (aU E V res)):=by
 unfold hZ at o
 refine enter Tryz.func113 zr zr ?_
 have j:=(j.dup (i0+0) h0).dup (i1+1) h1
 refine RC.sr (RL.cS 1 v0 j zr fun aa w j=>?_)
 refine RL.cS 1 v1 j zr fun ab w j=>?_
 refine aQ (vi 0) (RL.ns (RL.aY zr ij (RL.aM 1 j zr dM cI (RL.aY zr ij (RL.aM 0 j zr dM cI (RL.fY p0.X0 p1.X0 (aQ (vi (IntKind.wrap .i64 (p0.X0 - p1.X0))) (RL.nt ?_))))))))
 refine RC.ret ?_
 obtain rfl:=oi o
 exact bX ⟨rfl,j.drop 4⟩
def xq (E:World) (V:List HP) (v0:Value) (res: (List Int)×(List aI)) (v:Value) (w:World):Prop:=Holds E w ([own 3 v res.1,own 56 v0 res.2]++V)
theorem wA {p0: (List aI)} {res: (List Int)×(List aI)} (j:Holds E w (own 56 v0 p0::V)) (hb:jR N p0=some res):
    Calls bN 80 [v0].toArray w (gL (xq E V v0 res)):=by
 unfold jR at hb
 refine enter Tryz.func80 zr zr (RC.sr (aQ (.slice none 0 0) (RL.ns (mv v0 ?_))))
 obtain⟨af,a1,hb⟩:=bd hb
 have j:=j.pull 0
 refine RL.call zt zr KH [v0,(.func (.func 113) #[] #[])] zr (aD (Fk Tryz.lay73 aI zr iE.I6 iE.sz KL (fun j hi o hr=>tY N j hi o hr) j a1) ?_)
 rintro _ w ⟨rfl,j⟩
 refine RL.ns (aQ (.slice none 0 0) (RL.nq (RC.sr (mv v0 (RL.fZ 0 af j nk (mv (vi 0) (RL.nt ?_)))))))
 have j:=j.cW Int 3
 obtain⟨aa,hN,hb⟩:=bd hb
 refine RC.fold (fun(ah:Nat) (aa: (List Int)) U w=>∃av:Value,SH E V [(0,v0),(3,av),(9,v0),(10,vi af.length),(11,vi ah)] [own 56 v0 af,own 3 av aa] U w) (fun(aa: (List Int)) U w=>∃ai:Value,SH E V [(0,v0),(3,ai)] [own 56 v0 af,own 3 ai aa] U w) hN ?_ ?_ ?_ ?_
 ·exact⟨(.slice none 0 0),j.sp 3 [1,0]⟩
 ·rintro hm aa _ w ⟨a3,O,rfl,j⟩
  refine RC.sr (ic ((af.length:Int)) ((af.length:Int)) (RL.nq (RC.gk ue (RC.ex ?_))))
  exact⟨rfl,a3,j.sp 2 [0,1]⟩
 ·rintro hm ah aa s' _ w hk ⟨ag,O,rfl,j⟩ hb
  refine RC.sr (ic ((ah:Int)) ((af.length:Int)) (RL.nq (RC.gj (ud hk) (RC.ss (RC.bs ?_)))))
  obtain⟨ae,ak,hb⟩:=bd hb
  refine RL.bV 0 j zr zr jh ak (RL.kF (f:=(fun x=>x)) 0 j (jF 0 j ak 0) (bH ak).2.1 Fd.self iE fun a6 j=>?_)
  refine RL.alloc j oG.z fun ay w j=>?_
  refine RL.cC 0 j 1 zr iE fun w j=>?_
  refine RL.ns (mv ag (RL.fZ 3 aa j mn (RL.fY (aa.length:Int) 1 (aQ (vi (IntKind.wrap .i64 ((aa.length:Int) - 1))) (RL.nq ?_)))))
  obtain⟨al,o,hb⟩:=bd hb
  refine RC.jn (fun(al:Bool)=>SH E V [(0,v0),(3,ag),(5,vp ay 0),(6,(vi (IntKind.wrap .i64 ((aa.length:Int) - 1)))),(9,v0),(10,vi af.length),(11,vi ah),(28,vb al)] [own 56 v0 af,own 3 ag aa,bx 56 ay ae]) al ?_ ?_
  ·refine RC.yN mixed ?_
   have j:=j.drew
   refine RO.go (mv (vi (IntKind.wrap .i64 ((aa.length:Int) - 1))) (RO.nx (ic ((IntKind.wrap .i64 ((aa.length:Int) - 1))) 0 (RO.nx (mv (vb (decide ((IntKind.wrap .i64 ((aa.length:Int) - 1))>=0))) (eZ o (fun ab o=>?_) fun ab o=>?_))))))
   rotate_left
   ·refine RO.nx (bC ab (RO.nx (bC ab (RO.nx (bC ab (RO.nx (bC ab (RO.nx ?_))))))))
    refine bC ab (RO.nx (bC ab (RO.nx (bC ab (RO.nx (fq ab (vb false) (RO.last ?_)))))))
    obtain rfl:=oi o
    exact⟨rfl,j.sp 4 [2,3,0]⟩
   refine RO.nx (RL.aY (hg:=(cg ab)) zr ij (RO.nx (RL.aM (hg:=(cg ab)) 0 j zr dM cI (RO.nx (RL.move ag (cg ab) (RO.nx (RL.move (vi (IntKind.wrap .i64 ((aa.length:Int) - 1))) (cg ab) (RO.nx ?_))))))))
   obtain⟨az,an,o⟩:=bd o
   refine RL.bV (hg:=(cg ab)) 3 j zr zr eC an (RO.nx (RL.dH (hg:=(cg ab)) (f:=(fun x=>x)) 3 j (jF 3 j an 0) (bH an).2.1 Fd.self cI (RO.nx (RL.kX ae.X0 az (cg ab) (RO.nx (fq ab (vb (decide (ae.X0<=az))) (RO.last ?_)))))))
   obtain rfl:=oi o
   exact⟨rfl,j.sp 4 [2,3,0]⟩
  rintro _ w ⟨O,rfl,j⟩
  refine aH ?_
  obtain⟨ao,o,hb⟩:=bd hb
  refine RC.jn (fun(ao: (List Int)) U w=>∃aj:Value,SH E V [(0,v0),(3,aj),(9,v0),(10,vi af.length),(11,vi ah)] [own 56 v0 af,own 3 aj ao] U w) ao ?_ ?_
  ·refine dQ o (fun hc o=>?_) fun hc o=>?_
   rotate_left
   ·refine RC.region (mv ag (RL.aY zr ij (RL.aM 2 j zr dM cI (RL.aY zr ji (RL.aM 2 j zr eF cI ?_)))))
    have j:=(j.sc Int ae.X0).sc Int ae.X1
    refine RL.dY ([ae.X0,ae.X1]: (List Int)) j [(vi ae.X0),(vi ae.X1)] eC CI (fun M hs g=>⟨(g.sat 1 _ zr).1,⟨(g.sat 0 _ zr).1,zt⟩⟩) fun a7 w j=>?_
    have j:=j.freeze 0
    obtain⟨a8,a5,o⟩:=bd o
    refine RL.app 4 0 j q7 a5 fun a0 w j=>?_
    refine aQ a0 (RL.nil ?_)
    obtain rfl:=oi o
    exact⟨rfl,a0,j.sp 6 [3,4]⟩
   refine RC.ug mixed [0,0,0,0,0,0,0,0,0,0,2] [0,1,2,3,4,5,6,7,8,9,10] ?_
   have j:=j.drew
   refine DP.e0 zr (mv ag (aW zr (mv (vi (IntKind.wrap .i64 ((aa.length:Int) - 1))) (aW zr (mv ag (aW zr (mv (vi (IntKind.wrap .i64 ((aa.length:Int) - 1))) (aW zr ?_))))))))
   obtain⟨aq,ar,o⟩:=bd o
   refine RL.bV 1 j zr zr eC ar (aW zr (RL.dH (f:=(fun x=>x)) 1 j (jF 1 j ar 0) (bH ar).2.1 Fd.self cI (aW zr (RL.aY zr ji (aW zr (RL.aM 2 j zr eF cI (aW zr (RL.max aq ae.X1 ?_))))))))
   refine aW zr ?_
   obtain⟨a9,au,o⟩:=bd o
   refine RL.bV 1 j zr zr eC au (ou zr ?_)
   have j:=j.sc Int (if aq<ae.X1 then ae.X1 else aq)
   refine RL.gI (f:=(fun _ y=>y)) 2 0 j (jF 2 j au 0) (bH au).2.1 zr Fs.self cI fun w j=>?_
   refine DP.d2 zt (DP.z ?_)
   obtain rfl:=oi o
   exact⟨rfl,ag,j.sp 4 [1,2]⟩
  rintro _ w ⟨aj,O,rfl,j⟩
  refine bQ (aH (RC.region (RL.inc hk hm (mv (vi ((ah+1:Nat):Int)) (RL.nil ?_)))))
  obtain rfl:=oi hb
  exact⟨rfl,aj,j.sp 2 [0,1]⟩
 rintro _ w ⟨ai,O,rfl,j⟩
 refine aH (RC.sr (mv ai (aQ ai (RL.nt (RC.ret ?_)))))
 obtain rfl:=oi hb
 exact bX (j.pk 2 [1,0])
def wB (E:World) (V:List HP) (r:Bool) (U:Nat->Value) (w:World):Prop:=lF bN 26 Tryz.f112 (aX E V r) .ret U w
theorem vD {p0: (List Int)} {p1: (List Int)} {res:Bool} (j:Holds E w V) (h0:V[i0]? =some (rd v0 p0)) (h1:V[i1]? =some (rd v1 p1)) (o:mZ N p0 p1=some res):
    Calls bN 112 [v0,v1].toArray w (gL (aX E V res)):=by
 unfold mZ at o
 refine enter Tryz.func112 zr zr ?_
 have j:=(j.dup (i0+0) h0).dup (i1+1) h1
 refine RC.sr (aQ (vb false) (RL.nq (RC.sr (mv v0 (RL.bF 1 p0 j mn (mv v1 (RL.bF 0 p1 j mn (ic ((p0.length:Int)) ((p1.length:Int)) ?_))))))))
 refine RL.nt (dQ o (fun hc o=>?_) fun hc o=>?_)
 ·refine RC.sr (aQ (vb false) (RL.nt (RC.rt ?_)))
  obtain rfl:=oi o
  exact bX ⟨rfl,j.drop 2⟩
 refine RC.ss (RC.sr (mv v0 (RL.bF 1 p0 j mn (mv (vi 0) (RL.nt ?_)))))
 obtain⟨an,hN,o⟩:=bd o
 refine RC.range (fun(aa:Nat) (ab:Unit)=>SH E V [(0,v0),(1,v1),(12,vi p0.length),(13,vi aa)] [rd v0 p0,rd v1 p1]) (fun(ab:Unit)=>SH E V [] [rd v0 p0,rd v1 p1]) (wB E V) hN ?_ ?_ ?_ ?_ ?_
 ·exact j.sp 2 [1,0]
 ·rintro hm ab _ w ⟨O,rfl,j⟩
  refine RC.sr (ic ((p0.length:Int)) ((p0.length:Int)) (RL.nq (RC.gk ue (RC.ex ?_))))
  exact⟨rfl,j.sp 2 [0,1]⟩
 ·rintro hm aa ab fl _ w hk ⟨O,rfl,j⟩ o
  refine RC.sr (ic ((aa:Int)) ((p0.length:Int)) (RL.nq (RC.gj (ud hk) (RC.ss (RC.bs (mv (vi aa) (aQ (vi aa) (RL.nq ?_))))))))
  refine RC.yN mixed ?_
  have j:=j.drew
  refine RO.go (mv v0 (RO.nx (mv (vi aa) (RO.nx ?_))))
  obtain⟨ag,aj,o⟩:=bd o
  refine RL.bP 0 j eC aj fun aq j=>(RO.nx (RL.bE ag 0 j cI (RO.nx (mv v1 (RO.nx (mv (vi aa) (RO.nx ?_)))))))
  obtain⟨ah,ak,o⟩:=bd o
  refine RL.bP 2 j eC ak fun ar j=>(RO.nx (RL.bE ah 0 j cI (RO.nx (ic ag ah (RO.last (aH (dQ o (fun hc o=>?_) fun hc o=>?_)))))))
  rotate_left
  ·refine RC.skip (bQ (aH (RC.region (RL.inc hk hm (mv (vi ((aa+1:Nat):Int)) (RL.nil ?_))))))
   obtain rfl:=oi o
   exact⟨rfl,j.sp 4 [2,3]⟩
  refine RC.sr (aQ (vb false) (RL.nt (RC.rb (bS ?_))))
  obtain rfl:=oi o
  exact⟨rfl,bX ⟨rfl,j.drop 4⟩⟩
 ·intro r U w e hK
  subst e
  refine bS ?_
  obtain rfl:=oi o
  exact hK
 rintro ab _ w rfl ⟨O,rfl,j⟩
 rw [Fo.dB] at o
 refine aH (RC.sr (aQ (vb true) (RL.nt (RC.ret ?_))))
 obtain rfl:=oi o
 exact bX ⟨rfl,j.drop 2⟩
theorem rA {p0: (List aA)} {p1:aA} {res: (List aA)} (j:Holds E w (own 124 v0 p0::V)) (h1:V[i1]? =some (rd v1 p1)) (hb:jz N p0 p1=some res):
    Calls bN 79 [v0,v1].toArray w (gL (m9 E V res)):=by
 unfold jz at hb
 refine enter Tryz.func79 zr zr ?_
 have j:=j.dup (i1+1) h1
 refine RC.sr (RL.cS 0 v1 j zr fun ae w j=>?_)
 refine aQ (.slice none 0 0) (RL.nq (RC.sr (RL.aY zr mg (RL.bB 0 j zr eB fu fun aw j=>(RL.bF 0 p1.Xs j mn (ic ((p1.Xs.length:Int)) 0 (mv (vb ((p1.Xs.length:Int)==0)) (RL.gs true ((p1.Xs.length:Int)==0) (vp ae 1) zr zr zr (eA nJ) ?_))))))))
 refine RL.gs true ((p1.Xs.length:Int)==0) (vi p1.Y1) rfl rfl rfl (cB 1 rfl j (fun h=>by exact(cM h:cv (true&&(((p1.Xs.length:Int)==0)==false)) (vp ae 1)= (vp ae 1))) rfl fM cI) (RL.gs true ((p1.Xs.length:Int)==0) (vp ae 0) rfl rfl rfl (eA pW) (RL.gs true ((p1.Xs.length:Int)==0) (vi p1.Y0) rfl rfl rfl (cB 1 rfl j (fun h=>by exact(cM h:cv (true&&(((p1.Xs.length:Int)==0)==false)) (vp ae 0)= (vp ae 0))) rfl g8 cI) (RL.gs true ((p1.Xs.length:Int)==0) (vb (decide (p1.Y1<=p1.Y0))) rfl rfl rfl (dK .leq .i64 p1.Y1 p1.Y0 rfl (fun h=>by exact(cM h:cv (true&&(((p1.Xs.length:Int)==0)==false)) (vi p1.Y1)= (vi p1.Y1))) (fun h=>by exact(cM h:cv (true&&(((p1.Xs.length:Int)==0)==false)) (vi p1.Y0)= (vi p1.Y0))) rfl) (RL.pick ((p1.Xs.length:Int)==0) (vb (((p1.Xs.length:Int)==0)||(decide (p1.Y1<=p1.Y0)))) (nX true) (RL.nt (dQ hb (fun hc hb=>?_) fun hc hb=>?_))))))
 ·refine RC.sr (mv v0 (aQ v0 (RL.nt (RC.rt ?_))))
  obtain rfl:=oi hb
  exact bX (j.pk 4 [3])
 refine RC.ss (RC.sr (mv v0 (RL.fZ 3 p0 j vA (RL.fY (p0.length:Int) 1 (aQ (vi (IntKind.wrap .i64 ((p0.length:Int) - 1))) (RL.nq ?_))))))
 obtain⟨aj,hj,hb⟩:=bd hb
 refine RC.jn (fun(aj:Bool)=>SH E V [(0,v0),(3,vp ae 0),(5,(vi (IntKind.wrap .i64 ((p0.length:Int) - 1)))),(42,vb aj)] [own 124 v0 p0,bx 124 ae p1]) aj ?_ ?_
 ·refine RC.ug mixed [0,0,0,0,0,0,0,0,0,0,0,0,0,0,0,0,0,0,0,0,2,0] [0,1,2,3,4,5,6,7,8,9,10,11,12,13,14,15,16,17,18,19,20,21] ?_
  have j:=j.drew
  refine DP.e0 zr (mv (vi (IntKind.wrap .i64 ((p0.length:Int) - 1))) (aW zr (ic ((IntKind.wrap .i64 ((p0.length:Int) - 1))) 0 (aW zr (mv (vb (decide ((IntKind.wrap .i64 ((p0.length:Int) - 1))>=0))) (DP.d0 (eZ hj (fun o hj=>?_) fun o hj=>?_)))))))
  rotate_left
  ·refine DP.e0 zr (bC o (aW zr (bC o (aW zr (bC o (aW zr (bC o (aW zr ?_))))))))
   refine bC o (aW zr (bC o (aW zr (bC o (aW zr (bC o (aW zr (fq o (vb false) ?_))))))))
   refine aW zr (mv (vb false) (aW zr (kp (aW zr (kp (aW zr (kp (aW zr ?_))))))))
   refine kp (aW zr (kp (aW zr (kp (aW zr (kp (ou zr (kp ?_))))))))
   refine qz zr (RL.pick false (vb false) zr (DP.d0 (DP.z ?_)))
   obtain rfl:=oi hj
   exact⟨rfl,j.sp 4 [3,1]⟩
  refine DP.e0 zr (RL.move v0 (cg o) (aW zr (RL.move (vi (IntKind.wrap .i64 ((p0.length:Int) - 1))) (cg o) (aW zr ?_))))
  obtain⟨ak,af,hj⟩:=bd hj
  refine RL.bV (hg:=(cg o)) 3 j zr zr pK af (aW zr (RL.k7 (α:=aA) (cg o) (jF 3 j af 0) nJ (aW zr (RL.dH (hg:=(cg o)) 3 j (jF 3 j af 1) (bH af).2.1 fM cI (aW zr (RL.aY (hg:=(cg o)) zr pW (aW zr (RL.aM (hg:=(cg o)) 1 j zr g8 cI ?_))))))))
  refine aW zr (RL.kX ak.Y1 p1.Y0 (cg o) (aW zr (fq o (vb (ak.Y1==p1.Y0)) (aW zr (mv (vb (ak.Y1==p1.Y0)) (DP.d0 (eZ hj (fun aa hj=>?_) fun aa hj=>?_)))))))
  rotate_left
  ·refine DP.e0 zr (bC aa (aW zr (bC aa (aW zr (bC aa (aW zr (bC aa (aW zr ?_))))))))
   refine bC aa (aW zr (bC aa (aW zr (bC aa (ou zr (bC aa (qz zr (fq aa (vb false) ?_))))))))
   refine DP.d0 (DP.z ?_)
   obtain rfl:=oi hj
   exact⟨rfl,j.sp 4 [3,1]⟩
  refine DP.e0 zr (RL.move v0 (cg aa) (aW zr (RL.move (vi (IntKind.wrap .i64 ((p0.length:Int) - 1))) (cg aa) (aW zr ?_))))
  obtain⟨ax,ag,hj⟩:=bd hj
  refine RL.bV (hg:=(cg aa)) 3 j zr zr pK ag (aW zr (RL.k7 (α:=aA) (cg aa) (jF 3 j ag 0) mg (aW zr (RL.kF (hg:=(cg aa)) 3 j (jF 3 j ag 2) (bH ag).2.1 eB fu fun al j=>?_))))
  refine aW zr (RL.aY (hg:=(cg aa)) zr mg (aW zr (RL.bB (hg:=(cg aa)) 2 j zr eB fu fun an j=>(ou zr ?_))))
  obtain⟨ao,aq,hj⟩:=bd hj
  refine RL.call (cg aa) zr KM [al,an] zr (aD (vD N (i0:=1) (i1:=0) j zr zr aq) ?_)
  rintro _ w ⟨rfl,j⟩
  refine qz zr (fq aa (vb ao) (DP.d0 (DP.z ?_)))
  obtain rfl:=oi hj
  exact⟨rfl,j.sp 6 [5,3]⟩
 rintro _ w ⟨O,rfl,j⟩
 refine aH (dQ hb (fun hc hb=>?_) fun hc hb=>?_)
 rotate_left
 ·refine RC.sx (mv v0 (RL.bB (f:=(fun x=>x)) 1 j zr Fd.self xl fun ar j=>(RL.dY ([p1]: (List aA)) j [ar] pK Dl (fun M hs g=>⟨(g.sat 0 _ zr).1,zt⟩) fun ay w j=>?_)))
  have j:=j.freeze 0
  obtain⟨az,au,hb⟩:=bd hb
  refine RL.app 2 0 j Mf au fun av w j=>?_
  refine aQ av (RL.nt (RC.ret ?_))
  obtain rfl:=oi hb
  exact bX (j.pk 4 [2])
 refine RC.sr (mv v0 (mv (vi (IntKind.wrap .i64 ((p0.length:Int) - 1))) (RL.aY zr nJ (RL.aM 1 j zr fM cI ?_))))
 obtain⟨a0,ah,hb⟩:=bd hb
 refine RL.bV 0 j zr zr pK ah (RL.k7 (α:=aA) zt (jF 0 j ah 0) nJ ?_)
 have j:=j.sc Int p1.Y1
 refine RL.gI 1 0 j (jF 1 j ah 1) (bH ah).2.1 zr pI cI fun w j=>?_
 refine RL.ns (mv v0 (aQ v0 (RL.nt (RC.rt ?_))))
 obtain rfl:=oi hb
 exact bX (j.pk 3 [1])
theorem mF {p0: (List aI)} {res: (List aA)} (o:Holds E w V) (h0:V[i0]? =some (rd v0 p0)) (hb:iv N p0=some res):
    Calls bN 39 [v0].toArray w (gL (m9 E V res)):=by
 unfold iv at hb
 refine enter Tryz.func39 zr zr ?_
 have o:=o.dup (i0+0) h0
 refine RC.sr (aQ (.slice none 0 0) (RL.ns (mv v0 ?_)))
 obtain⟨cf,bn,hb⟩:=bd hb
 refine RL.call zt zr L7 [v0] zr (aD (uC N (i0:=0) o zr bn) ?_)
 rintro ae w o
 refine aQ ae (RL.ns (mv ae ?_))
 obtain⟨ah,bo,hb⟩:=bd hb
 have o:=o.pull 0
 refine RL.call zt zr KH [ae,(.func (.func 74) #[] #[])] zr (aD (Fk Tryz.lay73 aI zr iE.I6 iE.sz L8 (fun o hi hj hr=>xo N o hi hj hr) o bo) ?_)
 rintro _ w ⟨rfl,o⟩
 refine RL.ns (RL.uo zr o KI zr fun ag w o=>?_)
 refine RL.nq (RC.sr (mv ae (RL.fZ 1 ah o nk (mv (vi 0) (RL.nt ?_)))))
 obtain⟨ao,hN,hb⟩:=bd hb
 refine RC.fold (fun(aw:Nat) (ao: (List Int)) U w=>∃a6:Value,SH E V [(0,ae),(3,vp ag 0),(14,ae),(15,vi ah.length),(16,vi aw)] [own 56 ae ah,bc 43 ag [a6],own 3 a6 ao] U w) (fun(ao: (List Int)) U w=>∃an:Value,SH E V [(0,ae),(3,vp ag 0)] [own 56 ae ah,bc 43 ag [an],own 3 an ao] U w) hN ?_ ?_ ?_ ?_
 ·have o:=o.cW Int 3
  exact⟨(.slice none 0 0),o.sp 5 [2,1,0]⟩
 ·rintro hm ao _ w ⟨bp,O,rfl,o⟩
  refine RC.sr (ic ((ah.length:Int)) ((ah.length:Int)) (RL.nq (RC.gk ue (RC.ex ?_))))
  exact⟨rfl,bp,o.sp 3 [0,1,2]⟩
 ·rintro hm aw ao s' _ w hk ⟨bq,O,rfl,o⟩ hb
  refine RC.sr (ic ((aw:Int)) ((ah.length:Int)) (RL.nq (RC.gj (ud hk) (RC.ss (RC.bs ?_)))))
  obtain⟨aq,a1,hb⟩:=bd hb
  refine RL.bV 0 o zr zr jh a1 (RL.kF (f:=(fun x=>x)) 0 o (jF 0 o a1 0) (bH a1).2.1 Fd.self iE fun ch o=>?_)
  refine RL.alloc o oG.z fun cj w o=>?_
  refine RL.cC 0 o 1 zr iE fun w o=>?_
  refine RL.nt (RC.region (RL.bK 3 bq o fu (RL.aY zr gW (RL.aM 0 o zr dF cI (RL.aY zr kr (RL.aM 0 o zr fG cI ?_))))))
  have o:=(o.sc Int aq.Y0).sc Int aq.Y1
  refine RL.dY ([aq.Y0,aq.Y1]: (List Int)) o [(vi aq.Y0),(vi aq.Y1)] eC CI (fun M hs g=>⟨(g.sat 1 _ zr).1,⟨(g.sat 0 _ zr).1,zt⟩⟩) fun ck w o=>?_
  have o:=o.freeze 0
  obtain⟨cl,br,hb⟩:=bd hb
  refine RL.app 7 0 o q7 br fun a9 w o=>?_
  refine RL.iu 6 a9 o zr zr (iO 7 o) fu fun w o=>?_
  refine RL.nil (bQ (aH (RC.region (RL.inc hk hm (mv (vi ((aw+1:Nat):Int)) (RL.nil ?_))))))
  obtain rfl:=oi hb
  exact⟨rfl,a9,o.sp 8 [5,6,7]⟩
 rintro _ w ⟨an,O,rfl,o⟩
 refine aH (RC.sr (RL.bK 1 an o fu ?_))
 obtain⟨cm,bt,hb⟩:=bd hb
 have o:=o.pull 2
 refine RL.call zt zr L9 [an] zr (aD (Hb Tryz.lay75 o bt) ?_)
 rintro _ w ⟨rfl,o⟩
 refine RL.ns (RL.bK 2 an o fu ?_)
 have o:=o.pull 0
 obtain⟨ai,bu,hb⟩:=bd hb
 refine RL.call zt zr Ma [an] zr (aD (tX N o bu) ?_)
 rintro bw w o
 refine RL.iu 3 bw o zr zr (iO 0 o) fu fun w o=>?_
 refine RL.ns (aQ (.slice none 0 0) (RL.ns (aQ (.slice none 0 0) (RL.ns (aQ (vi 0) (RL.nq (RC.sr (RL.alloc o CI.z fun bz w o=>?_))))))))
 have o:=o.sc Int 0
 refine RL.cC 1 o 0 zr cI fun w o=>?_
 refine RL.nt ?_
 have o:=((((o.freeze 2).G5 (i:=5) (x:=ai) rfl (fun M hs g=>(rH (g.sat 2 _ rfl).1))).jI (i:=5) rfl).cW aA 124).cW aI 56
 obtain⟨cn,hN,hb⟩:=bd hb
 refine RC.iter (fun(ab: (List aA)×(List aI)×Int×Int) U w=>∃(ba bb:Value) (bf:Nat),SH E V [(0,ae),(3,vp ag 0),(6,ba),(7,bb),(8,vi ab.2.2.1),(9,vp bf 0)] [own 56 ae ah,pt (vp ag 0) ai,own 124 ba ab.1,own 56 bb ab.2.1,bx 3 bf ab.2.2.2] U w) (fun(ab: (List aA)×(List aI)×Int×Int) U w=>∃av:Value,SH E V [(6,av)] [own 56 ae ah,pt (vp ag 0) ai,own 124 av ab.1] U w) (fun(r:Empty) _ _=>r.elim) hN ?_ ?_ ?_ ?_
 ·exact⟨(.slice none 0 0),(.slice none 0 0),bz,o.sp 9 [6,7,1,0,3]⟩
 ·rintro ab fl _ w ⟨ak,bg,al,O,rfl,o⟩ hb
  refine RC.seq (RC.sr (RL.aM (f:=(fun x=>x)) 4 o zr Fd.self cI (RL.fY ab.2.2.2 1 (RL.bJ 1 ai o fu fun cp o=>(RL.bF 0 ai o mn (ic ((IntKind.wrap .i64 (ab.2.2.2+1))) ((ai.length:Int)) (RL.nt (dQ hb (fun hc hb=>?_) fun hc hb=>?_))))))))
  rotate_left
  ·refine RC.ex ?_
   obtain rfl:=oi hb
   exact⟨rfl,ak,o.sp 6 [1,2,3]⟩
  refine RC.ss (RC.bs (mv bg ?_))
  have o:=o.jI (i:=5) rfl
  refine RL.makeFunc zt zr [(vp ag 0),(vp al 0)] zr ?_
  have o:=o.pull 4
  obtain⟨cq,b1,hb⟩:=bd hb
  refine RL.call trivial rfl Md [bg,(.func (.func 78) #[] #[(vp ag 0),(vp al 0)])] rfl (aD (q8 N o ⟨78,[(vp ag 0),(vp al 0)],rfl,Mc,fun w Γl v y0 r i o hi hr=>by exact aD (xp N (i0:=i) (i1:=Γl.length+2) (i2:=Γl.length+5) o hi (B5 rfl) (B5 rfl) hr) fun _ _ h=>h⟩ b1) ?_)
  rintro bh w o
  refine aQ bh (RL.nq ?_)
  obtain⟨cr,hN,hb⟩:=bd hb
  refine RC.iter (fun(af: (List aI)×Int) U w=>∃bj:Value,SH E V [(0,ae),(3,vp ag 0),(6,ak),(7,bj),(8,vi af.2),(9,vp al 0)] [own 56 ae ah,pt (vp ag 0) ai,own 124 ak ab.1,pt (vp al 0) ab.2.2.2,own 56 bj af.1] U w) (fun(af: (List aI)×Int) U w=>∃ar:Value,SH E V [(0,ae),(3,vp ag 0),(6,ak),(7,ar),(8,vi af.2),(9,vp al 0)] [own 56 ae ah,pt (vp ag 0) ai,own 124 ak ab.1,pt (vp al 0) ab.2.2.2,own 56 ar af.1] U w) (fun(r:Empty) _ _=>r.elim) hN ?_ ?_ ?_ ?_
  ·exact⟨bh,o.sp 7 [2,3,4,6,0]⟩
  ·rintro af fl _ w ⟨ax,O,rfl,o⟩ hb
   refine RC.seq (RC.seq ?_)
   obtain⟨a3,hj,hb⟩:=bd hb
   refine RC.jn (fun(a3:Bool)=>SH E V [(0,ae),(3,vp ag 0),(6,ak),(7,ax),(8,vi af.2),(9,vp al 0),(57,vb a3)] [own 56 ae ah,pt (vp ag 0) ai,own 124 ak ab.1,own 56 ax af.1,pt (vp al 0) ab.2.2.2]) a3 ?_ ?_
   ·refine RC.yN mixed ?_
    have o:=o.drew
    refine RO.go (mv (vi af.2) (RO.nx (mv ae (RO.nx (RL.fZ 0 ah o nk (RO.nx (ic af.2 ((ah.length:Int)) (RO.nx ?_))))))))
    refine mv (vb (decide (af.2< (ah.length:Int)))) (eZ hj (fun ad hj=>?_) fun ad hj=>?_)
    rotate_left
    ·refine RO.nx (bC ad (RO.nx (bC ad (RO.nx (bC ad (RO.nx (bC ad (RO.nx ?_))))))))
     refine bC ad (RO.nx (bC ad (RO.nx (bC ad (RO.nx (bC ad (RO.nx (bC ad ?_))))))))
     refine RO.nx (bC ad (RO.nx (fq ad (vb false) (RO.last ?_))))
     obtain rfl:=oi hj
     exact⟨rfl,o.sp 5 [0,1,2,4,3]⟩
    refine RO.nx (RL.move ae (cg ad) (RO.nx (RL.move (vi af.2) (cg ad) (RO.nx ?_))))
    obtain⟨bk,ay,hj⟩:=bd hj
    refine RL.bV (hg:=(cg ad)) 0 o zr zr jh ay (RO.nx (RL.k7 (α:=aI) (cg ad) (jF 0 o ay 0) gW (RO.nx (RL.dH (hg:=(cg ad)) 0 o (jF 0 o ay 1) (bH ay).2.1 dF cI (RO.nx (RL.bJ (hg:=(cg ad)) 1 ai o fu fun ct o=>?_))))))
    refine RO.nx (RL.bE (hg:=(cg ad)) ab.2.2.2 4 o cI (RO.nx ?_))
    obtain⟨a4,b2,hj⟩:=bd hj
    refine RL.bP (hg:=(cg ad)) 0 o eC b2 fun cu o=>(RO.nx (RL.bE (hg:=(cg ad)) a4 0 o cI (RO.nx (RL.kX bk.Y0 a4 (cg ad) (RO.nx (fq ad (vb (decide (bk.Y0<=a4))) (RO.last ?_)))))))
    obtain rfl:=oi hj
    exact⟨rfl,o.sp 7 [2,3,4,6,5]⟩
   rintro _ w ⟨O,rfl,o⟩
   refine aH (dQ hb (fun hc hb=>?_) fun hc hb=>?_)
   rotate_left
   ·refine RC.ex ?_
    obtain rfl:=oi hb
    exact⟨rfl,ax,o.sp 5 [0,1,2,4,3]⟩
   refine RC.sn (RC.block (RC.region (mv ax (mv ae (mv (vi af.2) ?_)))))
   obtain⟨b3,a5,hb⟩:=bd hb
   refine RL.bV 0 o zr zr jh a5 (RL.kF (f:=(fun x=>x)) 0 o (jF 0 o a5 0) (bH a5).2.1 Fd.self iE fun b4 o=>?_)
   refine RL.dY ([b3]: (List aI)) o [b4] jh oG (fun M hs g=>⟨(g.sat 0 _ zr).1,zt⟩) fun cv w o=>?_
   have o:=o.freeze 0
   obtain⟨cw,b5,hb⟩:=bd hb
   refine RL.app 5 0 o zX b5 fun bl w o=>?_
   refine mv (vi af.2) (RL.fY af.2 1 (aQ bl (aQ (vi (IntKind.wrap .i64 (af.2+1))) (RL.nil (bQ ?_)))))
   obtain rfl:=oi hb
   exact⟨rfl,bl,o.sp 7 [2,3,4,6,5]⟩
  ·intro r _ _ _ _
   exact r.elim
  rintro af _ w rfl ⟨ar,O,rfl,o⟩
  rw [Fo.dB] at hb
  refine aH (RC.ug mixed [1,1,1,1,1,1,1,1,1,1,0,2,0,2,0] [0,1,2,3,4,5,6,7,8,9,10,11,12,13,14] ?_)
  have o:=o.drew
  refine DP.e1 ak zr (fun w=>RL.move ak zt DP.d1) (DP.wi ai 1 zr zt o fu fun cx a305 cy o=>(DP.rq ab.2.2.2 5 zr o cI fun a307 cz o=>?_))
  obtain⟨az,b6,hb⟩:=bd hb
  refine DP.vx 2 zr o eC b6 fun c0 o=>(DP.rq az 0 zr o cI fun a311 c1 o=>(DP.wi ai 6 zr zt o fu fun c2 a314 c3 o=>(DP.rq ab.2.2.2 10 zr o cI fun a316 c4 o=>(DP.e1 (vi (IntKind.wrap .i64 (ab.2.2.2+1))) zr (fun w=>RL.fY ab.2.2.2 1 DP.d1) ?_))))
  obtain⟨a0,b7,hb⟩:=bd hb
  refine DP.vx 2 zr o eC b7 fun c5 o=>(DP.rq a0 0 zr o cI fun a320 c6 o=>(DP.e0 zr (mv ar (ou zr ?_))))
  have o:=o.pull 14
  obtain⟨b8,b9,hb⟩:=bd hb
  refine RL.call zt zr Me [ar] zr (aD (wA N o b9) ?_)
  rintro ca w o
  refine DP.d2 (⟨⟨⟨⟨⟨⟨zt,o.gF 10⟩,o.gF 9⟩,o.gF 7⟩,o.gF 5⟩,o.gF 4⟩,o.gF 2⟩) (DP.e0 zr ?_)
  have o:=((o.sc Int az).sc Int a0).freeze 2
  refine RL.build (⟨az,a0,b8.1⟩:aA) trivial rfl o [(0,vi az),(1,vi a0),(2,ca)] rfl Jc rfl (fun M hs g=>by have h:=xh M;exact cU.cons (f:=fun(x:aA) y=>{x with Y0:=y}) h tO (g.sat 1 _ rfl).1 fun _ h=>cU.cons (f:=fun(x:aA) y=>{x with Y1:=y}) h pI (g.sat 0 _ rfl).1 fun _ h=>cU.cons (f:=fun(x:aA) y=>{x with Xs:=y}) h tP (g.sat 2 _ rfl).1 fun _ h=>cU.nil h) fun cb o=>?_
  refine ou zr ?_
  have o:=o.pull 17
  obtain⟨c7,cc,hb⟩:=bd hb
  refine RL.call zt zr KN [ak,cb] zr (aD (rA N (i1:=0) o zr cc) ?_)
  rintro bm w o
  refine DP.d2 (⟨⟨⟨⟨⟨⟨zt,o.gF 14⟩,o.gF 13⟩,o.gF 11⟩,o.gF 9⟩,o.gF 8⟩,o.gF 6⟩) (DP.e0 zr (aQ bm (DP.d0 ?_)))
  have o:=o.pl 21 [0,1,2,3,4,5,7,10,12,15,16,17,18,19,20]
  refine DP.z (bQ (aH (RC.seq (RC.sr (RL.bE ab.2.2.2 13 o cI (RL.nt (RC.region (RL.alloc o CI.z fun cd w o=>?_))))))))
  have o:=o.sc Int ab.2.2.2
  refine RL.cC 1 o 0 zr cI fun w o=>?_
  refine RL.nt (RC.region (RL.aM (f:=(fun x=>x)) 1 o zr Fd.self cI (RL.fY ab.2.2.2 1 ?_)))
  have o:=o.sc Int (IntKind.wrap .i64 (ab.2.2.2+1))
  refine RL.GW (i:=2) (j:=0) zt o zr zr zr zr cI fun w o=>?_
  refine RL.nil ?_
  obtain rfl:=oi hb
  exact⟨rfl,bm,ar,cd,o.sp 18 [13,14,3,8,2]⟩
 ·intro r _ _ _ _
  exact r.elim
 rintro ab _ w rfl ⟨av,O,rfl,o⟩
 rw [Fo.dB] at hb
 refine aH (RC.sr (mv av (aQ av (RL.nt (RC.ret ?_)))))
 obtain rfl:=oi hb
 exact bX (o.pk 3 [2])
theorem nS {p0: (List aA)} {res: (List aI)} (j:Holds E w V) (h0:V[i0]? =some (rd v0 p0)) (o:jS N p0=some res):
    Calls bN 43 [v0].toArray w (gL (fR E V res)):=by
 unfold jS at o
 refine enter Tryz.func43 zr zr ?_
 have j:=j.dup (i0+0) h0
 refine RC.sr (aQ (.slice none 0 0) (RL.ns (aQ (.slice none 0 0) (RL.nq (RC.sr (mv v0 (RL.bF 0 p0 j vA (mv (vi 0) ?_))))))))
 refine RL.nt ?_
 obtain⟨ad,hN,o⟩:=bd o
 refine RC.fold (fun(ae:Nat) (ad: (List aI)) U w=>∃an:Value,SH E V [(3,an),(7,v0),(8,vi p0.length),(9,vi ae)] [rd v0 p0,own 56 an ad] U w) (fun(ad: (List aI)) U w=>∃af:Value,SH E V [(3,af)] [rd v0 p0,own 56 af ad] U w) hN ?_ ?_ ?_ ?_
 ·have j:=j.cW aI 56
  exact⟨(.slice none 0 0),j.sp 2 [1,0]⟩
 ·rintro hm ad _ w ⟨av,O,rfl,j⟩
  refine RC.sr (ic ((p0.length:Int)) ((p0.length:Int)) (RL.nq (RC.gk ue (RC.ex ?_))))
  exact⟨rfl,av,j.sp 2 [0,1]⟩
 ·rintro hm ae ad s' _ w hk ⟨aw,O,rfl,j⟩ o
  refine RC.sr (ic ((ae:Int)) ((p0.length:Int)) (RL.nq (RC.gj (ud hk) (RC.ss (RC.bs ?_)))))
  obtain⟨ab,ax,o⟩:=bd o
  refine RL.bP 0 j pK ax fun a3 j=>(RL.bJ 0 ab j xl fun a4 j=>(RL.alloc j Dl.z fun ak w j=>?_))
  refine RL.cC 0 j 1 zr xl fun w j=>?_
  refine RL.ns (aQ (vi 0) (RL.nt ?_))
  obtain⟨a5,hN,o⟩:=bd o
  refine RC.iter (fun(aa: (List aI)×Int) U w=>∃ar:Value,SH E V [(3,ar),(5,vp ak 0),(6,vi aa.2),(7,v0),(8,vi p0.length),(9,vi ae)] [bx 124 ak ab,rd v0 p0,own 56 ar aa.1] U w) (fun(aa: (List aI)×Int) U w=>∃ai:Value,SH E V [(3,ai),(7,v0),(8,vi p0.length),(9,vi ae)] [bx 124 ak ab,rd v0 p0,own 56 ai aa.1] U w) (fun(r:Empty) _ _=>r.elim) hN ?_ ?_ ?_ ?_
  ·exact⟨aw,j.sp 5 [0,3,4]⟩
  ·rintro aa fl _ w ⟨al,O,rfl,j⟩ o
   refine RC.seq (RC.sr (mv (vi aa.2) (RL.aY zr mg (RL.bB 0 j zr eB fu fun a7 j=>(RL.bF 0 ab.Xs j mn (ic aa.2 ((ab.Xs.length:Int)) (RL.nt (dQ o (fun hc o=>?_) fun hc o=>?_))))))))
   rotate_left
   ·refine RC.ex ?_
    obtain rfl:=oi o
    exact⟨rfl,al,j.sp 4 [1,2,3]⟩
   refine RC.ss (RC.block (RC.ug mixed [1,0,0,0,0,0,0,0,0,0,0,0,0,0,0,0,0,2,2,0] [0,1,2,3,4,5,6,7,8,9,10,11,12,13,14,15,16,17,18,19] ?_))
   have j:=j.drew
   refine DP.e1 al zr (fun w=>RL.move al zt DP.d1) (DP.e0 zr (RL.aY zr mg (aW zr (RL.bB 1 j zr eB fu fun a8 j=>(aW zr (mv (vi aa.2) (aW zr ?_)))))))
   obtain⟨ag,az,o⟩:=bd o
   refine RL.bP 0 j eC az fun a9 j=>(aW zr (RL.bE ag 0 j cI (aW zr (RL.aY zr pW (aW zr (RL.aM 3 j zr g8 cI (aW zr (RL.aY zr mg ?_))))))))
   refine aW zr (RL.bB 3 j zr eB fu fun ba j=>(aW zr (mv (vi aa.2) (aW zr (RL.fY aa.2 1 (aW zr ?_))))))
   obtain⟨ah,a0,o⟩:=bd o
   refine RL.bP 0 j eC a0 fun bb j=>(aW zr (RL.bE ah 0 j cI (aW zr (RL.aY zr nJ (aW zr (RL.aM 5 j zr fM cI (aW zr ?_)))))))
   have j:=(((j.sc Int ag).sc Int ab.Y0).sc Int ah).sc Int ab.Y1
   refine RL.build (⟨ag,ab.Y0,ah,ab.Y1⟩:aI) trivial rfl j [(0,vi ag),(1,vi ab.Y0),(2,vi ah),(3,vi ab.Y1)] rfl Dm rfl (fun M hs g=>by have h:=tj M;exact cU.cons (f:=fun(x:aI) y=>{x with X0:=y}) h oW (g.sat 3 _ rfl).1 fun _ h=>cU.cons (f:=fun(x:aI) y=>{x with Y0:=y}) h qj (g.sat 2 _ rfl).1 fun _ h=>cU.cons (f:=fun(x:aI) y=>{x with X1:=y}) h oX (g.sat 1 _ rfl).1 fun _ h=>cU.cons (f:=fun(x:aI) y=>{x with Y1:=y}) h ql (g.sat 0 _ rfl).1 fun _ h=>cU.nil h) fun a1 j=>?_
   refine ou zr (RL.dY ([(⟨ag,ab.Y0,ah,ab.Y1⟩:aI)]: (List aI)) j [a1] jh oG (fun M hs g=>⟨(g.sat 0 _ zr).1,zt⟩) fun bc w j=>(Fq zr ?_))
   have j:=j.freeze 0
   obtain⟨bf,a2,o⟩:=bd o
   refine RL.app 13 0 j zX a2 fun au w j=>?_
   refine qz zr (aQ au (DP.d0 (DP.z (bQ (aH (RC.region (mv (vi aa.2) (RL.fY aa.2 2 ?_))))))))
   refine aQ (vi (IntKind.wrap .i64 (aa.2+2))) (RL.nil ?_)
   obtain rfl:=oi o
   exact⟨rfl,au,j.sp 14 [11,12,13]⟩
  ·intro r _ _ _ _
   exact r.elim
  rintro aa _ w rfl ⟨ai,O,rfl,j⟩
  rw [Fo.dB] at o
  refine bQ (aH (RC.region (RL.inc hk hm (mv (vi ((ae+1:Nat):Int)) (RL.nil ?_)))))
  obtain rfl:=oi o
  exact⟨rfl,ai,j.sp 3 [1,2]⟩
 rintro _ w ⟨af,O,rfl,j⟩
 refine aH (RC.sr (mv af (aQ af (RL.nt (RC.ret ?_)))))
 obtain rfl:=oi o
 exact bX (j.pk 2 [1])
def vE (E:World) (V:List HP) (r:Bool) (U:Nat->Value) (w:World):Prop:=lF bN 26 Tryz.f42 (aX E V r) .ret U w
theorem uE {p0: (List aI)} {p1: (List aI)} {res:Bool} (j:Holds E w V) (h0:V[i0]? =some (rd v0 p0)) (h1:V[i1]? =some (rd v1 p1)) (o:kG N p0 p1=some res):
    Calls bN 42 [v0,v1].toArray w (gL (aX E V res)):=by
 unfold kG at o
 refine enter Tryz.func42 zr zr ?_
 have j:=(j.dup (i0+0) h0).dup (i1+1) h1
 refine RC.sr (aQ (vb false) (RL.nq (RC.sr (mv v0 (RL.bF 1 p0 j nk (mv v1 (RL.bF 0 p1 j nk (ic ((p0.length:Int)) ((p1.length:Int)) ?_))))))))
 refine RL.nt (dQ o (fun hc o=>?_) fun hc o=>?_)
 ·refine RC.sr (aQ (vb false) (RL.nt (RC.rt ?_)))
  obtain rfl:=oi o
  exact bX ⟨rfl,j.drop 2⟩
 refine RC.ss (RC.sr (mv v0 (RL.bF 1 p0 j nk (mv (vi 0) (RL.nt ?_)))))
 obtain⟨an,hN,o⟩:=bd o
 refine RC.range (fun(aa:Nat) (ab:Unit)=>SH E V [(0,v0),(1,v1),(12,vi p0.length),(13,vi aa)] [rd v0 p0,rd v1 p1]) (fun(ab:Unit)=>SH E V [] [rd v0 p0,rd v1 p1]) (vE E V) hN ?_ ?_ ?_ ?_ ?_
 ·exact j.sp 2 [1,0]
 ·rintro hm ab _ w ⟨O,rfl,j⟩
  refine RC.sr (ic ((p0.length:Int)) ((p0.length:Int)) (RL.nq (RC.gk ue (RC.ex ?_))))
  exact⟨rfl,j.sp 2 [0,1]⟩
 ·rintro hm aa ab fl _ w hk ⟨O,rfl,j⟩ o
  refine RC.sr (ic ((aa:Int)) ((p0.length:Int)) (RL.nq (RC.gj (ud hk) (RC.ss (RC.bs (mv (vi aa) (aQ (vi aa) (RL.nq ?_))))))))
  refine RC.yN mixed ?_
  have j:=j.drew
  refine RO.go (mv v0 (RO.nx (mv (vi aa) (RO.nx ?_))))
  obtain⟨ag,aj,o⟩:=bd o
  refine RL.bP 0 j jh aj fun aq j=>(RO.nx (RL.bJ 0 ag j iE fun ar j=>(RO.nx (mv v1 (RO.nx (mv (vi aa) (RO.nx ?_)))))))
  obtain⟨ah,ak,o⟩:=bd o
  refine RL.bP 3 j jh ak fun au j=>(RO.nx (RL.bJ 0 ah j iE fun av j=>(RO.nx (RL.LY 2 0 ag ah zr j zr zr zr zr Hg zr (RO.last (aH (dQ o (fun hc o=>?_) fun hc o=>?_)))))))
  rotate_left
  ·refine RC.skip (bQ (aH (RC.region (RL.inc hk hm (mv (vi ((aa+1:Nat):Int)) (RL.nil ?_))))))
   obtain rfl:=oi o
   exact⟨rfl,j.sp 6 [4,5]⟩
  refine RC.sr (aQ (vb false) (RL.nt (RC.rb (bS ?_))))
  obtain rfl:=oi o
  exact⟨rfl,bX ⟨rfl,j.drop 6⟩⟩
 ·intro r U w e hK
  subst e
  refine bS ?_
  obtain rfl:=oi o
  exact hK
 rintro ab _ w rfl ⟨O,rfl,j⟩
 rw [Fo.dB] at o
 refine aH (RC.sr (aQ (vb true) (RL.nt (RC.ret ?_))))
 obtain rfl:=oi o
 exact bX ⟨rfl,j.drop 2⟩
def vF (E:World) (V:List HP) (r:Int) (U:Nat->Value) (w:World):Prop:=lF bN 52 Tryz.f14 (aU E V r) .ret U w
theorem pr {p0: (List aI)} (j:Holds E w V) (h0:V[i0]? =some (rd v0 p0)) (hb:jK N p0=some res):
    Calls bN 14 [v0].toArray w (gL (aU E V res)):=by
 unfold jK at hb
 refine enter Tryz.func14 zr zr ?_
 have j:=j.dup (i0+0) h0
 refine RC.sr (aQ (vi 0) (RL.nq (RC.sr (mv v0 ?_))))
 obtain⟨av,ay,hb⟩:=bd hb
 refine RL.call zt zr L6 [v0] zr (aD (vC N (i0:=0) j zr ay) ?_)
 rintro _ w ⟨rfl,j⟩
 refine aQ (vi av) (RL.ns (mv (vi av) (ic av 0 (RL.nt (dQ hb (fun hc hb=>?_) fun hc hb=>?_)))))
 ·refine RC.sr (mv (vi av) (aQ (vi av) (RL.nt (RC.rt ?_))))
  obtain rfl:=oi hb
  exact bX ⟨rfl,j.drop 1⟩
 refine RC.ss (RC.sr (aQ (vi 1) (RL.nt ?_)))
 obtain⟨bg,hN,hb⟩:=bd hb
 refine RC.iter (fun(ao:Int)=>SH E V [(0,v0),(4,vi ao)] [rd v0 p0]) (fun(ao:Int)=>SH E V [(0,v0)] [rd v0 p0]) (vF E V) hN ?_ ?_ ?_ ?_
 ·exact j.sp 1 [0]
 ·rintro ao fl _ w ⟨O,rfl,j⟩ hb
  refine RC.seq (RC.sr (mv (vi ao) (mv v0 (RL.bF 0 p0 j nk (ic ao ((p0.length:Int)) (RL.nt (dQ hb (fun hc hb=>?_) fun hc hb=>?_)))))))
  rotate_left
  ·refine RC.ex ?_
   obtain rfl:=oi hb
   exact⟨rfl,j.sp 1 [0]⟩
  refine RC.ss (RC.block (RC.seq ?_))
  obtain⟨o,a1,hb⟩:=bd hb
  obtain⟨aa,a2,hb⟩:=bd hb
  refine RC.F2 E V mixed [1,1,1,0,0,1,1,0,0,0,0,0,0] [3,4,7,8,9,10,11,12] (fun(x:Value×Value×Value×Value×Nat×Nat)=>(fun ah ai aj ak ae af=>[(0,18,v0),(1,19,(vi ao)),(2,20,(vi (IntKind.wrap .i64 (ao - 1)))),(3,21,ah),(4,22,ai),(5,23,v0),(6,24,(vi ao)),(7,25,aj),(8,26,ak),(9,5,(vp ae 0)),(10,6,(vp af 0))]) x.1 x.2.1 x.2.2.1 x.2.2.2.1 x.2.2.2.2.1 x.2.2.2.2.2) [(0,v0),(4,vi ao)] [] (fun(D:Nat->Bool) (x:Value×Value×Value×Value×Nat×Nat)=>(fun ah ai aj ak ae af=>[bif D 0 then (pt ah o) else bD,bif D 1 then (rd ai o) else bD,bif D 2 then (pt aj aa) else bD,bif D 3 then (rd ak aa) else bD,bif D 6 then (bx 56 ae o) else (bif D 4 then (raw 56 ae 4) else bD),bif D 7 then (bx 56 af aa) else (bif D 5 then (raw 56 af 4) else bD),rd v0 p0]) x.1 x.2.1 x.2.2.1 x.2.2.2.1 x.2.2.2.2.1 x.2.2.2.2.2) (fun x=>by kernel_rfl) ?_ ⟨fun _=>jG gn,fun _=>jG gn,fun _=>JR gn rfl,?_,?_,fun _=>jG gn,fun _=>jG gn,?_,?_,?_,?_,?_,?_,trivial⟩ ?_
  ·have j:=((((((j.drew).bD).bD).bD).bD).bD).bD
   exact⟨(undef,undef,undef,undef,0,0),gH.none,(EC zr),zt,j⟩
  ·rintro D U w hD ag aq ⟨⟨ah,ai,aj,ak,ae,af⟩,hv,ha,_,j⟩
   obtain⟨O,rfl⟩:=(ac (hv.at 0 rfl (ag.1 rfl)) (ac (hv.at 2 rfl (ag.2.1 rfl)) az)).fI
   have j:=j.cD 0 hD
   refine RL.bP 6 j jh a1 fun a3 j=>?_
   have j:=(j.pl 8 [0,2,3,4,5,6,7]).cQ 0 true rfl bD
   exact RL.nil ⟨rfl,(a3,ai,aj,ak,ae,af),hv.put 3 zr zr,ha.up zr,zt,j⟩
  ·rintro D U w hD ag aq ⟨⟨ah,ai,aj,ak,ae,af⟩,hv,ha,_,j⟩
   obtain⟨O,rfl⟩:=(ac (hv.at 3 rfl (ag.1 rfl)) az).fI
   have j:=(j.cP 0 (ag.1 rfl)).cD 1 hD
   refine RL.bJ 0 o j iE fun a4 j=>?_
   have j:=((j.pl 8 [1,0,3,4,5,6,7]).cQ 0 (D 3) (ag.1 rfl) bD).cQ 1 true rfl bD
   exact RL.nil ⟨rfl,(ah,a4,aj,ak,ae,af),hv.put 4 zr zr,ha.up zr,zt,j⟩
  ·rintro D U w hD ag aq ⟨⟨ah,ai,aj,ak,ae,af⟩,hv,ha,_,j⟩
   obtain⟨O,rfl⟩:=(ac (hv.at 5 rfl (ag.1 rfl)) (ac (hv.at 6 rfl (ag.2.1 rfl)) az)).fI
   have j:=j.cD 2 hD
   refine RL.bP 6 j jh a2 fun a5 j=>?_
   have j:=(j.pl 8 [1,2,0,4,5,6,7]).cQ 2 true rfl bD
   exact RL.nil ⟨rfl,(ah,ai,a5,ak,ae,af),hv.put 7 zr zr,ha.up zr,zt,j⟩
  ·rintro D U w hD ag aq ⟨⟨ah,ai,aj,ak,ae,af⟩,hv,ha,_,j⟩
   obtain⟨O,rfl⟩:=(ac (hv.at 7 rfl (ag.1 rfl)) az).fI
   have j:=(j.cP 2 (ag.1 rfl)).cD 3 hD
   refine RL.bJ 2 aa j iE fun a6 j=>?_
   have j:=((j.pl 8 [1,2,3,0,5,6,7]).cQ 2 (D 7) (ag.1 rfl) bD).cQ 3 true rfl bD
   exact RL.nil ⟨rfl,(ah,ai,aj,a6,ae,af),hv.put 8 zr zr,ha.up zr,zt,j⟩
  ·rintro D U w hD ag aq ⟨⟨ah,ai,aj,ak,ae,af⟩,hv,ha,_,j⟩
   obtain⟨O,rfl⟩:=(az (U:=U)).fI
   have j:=(j.cD 4 (nf (fun h=>ft hD ((aq 11 _ rfl h).1 rfl)))).cD 4 hD
   refine RL.alloc j oG.z fun aw w j=>?_
   have j:=((j.pl 8 [1,2,3,4,0,6,7]).cQ 4 true rfl bD).eX 4 (D 11) (nf (fun h=>ft hD ((aq 11 _ rfl h).1 rfl))) (bx 56 aw o)
   exact RL.nil ⟨rfl,(ah,ai,aj,ak,aw,af),hv.put 9 zr zr,ha.up zr,zt,j⟩
  ·rintro D U w hD ag aq ⟨⟨ah,ai,aj,ak,ae,af⟩,hv,ha,_,j⟩
   obtain⟨O,rfl⟩:=(az (U:=U)).fI
   have j:=(j.cD 5 (nf (fun h=>ft hD ((aq 12 _ rfl h).1 rfl)))).cD 5 hD
   refine RL.alloc j oG.z fun ax w j=>?_
   have j:=((j.pl 8 [1,2,3,4,5,0,7]).cQ 5 true rfl bD).eX 5 (D 12) (nf (fun h=>ft hD ((aq 12 _ rfl h).1 rfl))) (bx 56 ax aa)
   exact RL.nil ⟨rfl,(ah,ai,aj,ak,ae,ax),hv.put 10 zr zr,ha.up zr,zt,j⟩
  ·rintro D U w hD ag aq ⟨⟨ah,ai,aj,ak,ae,af⟩,hv,ha,_,j⟩
   obtain⟨O,rfl⟩:=(ac (hv.at 4 rfl (ag.2.1 rfl)) (ac (hv.at 9 rfl (ag.1 rfl)) az)).fI
   have j:=((j.cP 1 (ag.2.1 rfl)).cD 4 hD).cP 4 (ag.1 rfl)
   refine RL.cC 4 j 1 zr iE fun w j=>?_
   have j:=(j.cQ 1 (D 4) (ag.2.1 rfl) bD).cQ 4 true rfl (bif D 9 then (raw 56 ae 4) else bD)
   exact RL.nil ⟨rfl,(ah,ai,aj,ak,ae,af),hv.no zr,ha,zt,j⟩
  ·rintro D U w hD ag aq ⟨⟨ah,ai,aj,ak,ae,af⟩,hv,ha,_,j⟩
   obtain⟨O,rfl⟩:=(ac (hv.at 8 rfl (ag.2.1 rfl)) (ac (hv.at 10 rfl (ag.1 rfl)) az)).fI
   have j:=((j.cP 3 (ag.2.1 rfl)).cD 5 hD).cP 5 (ag.1 rfl)
   refine RL.cC 5 j 3 zr iE fun w j=>?_
   have j:=(j.cQ 3 (D 8) (ag.2.1 rfl) bD).cQ 5 true rfl (bif D 10 then (raw 56 af 4) else bD)
   exact RL.nil ⟨rfl,(ah,ai,aj,ak,ae,af),hv.no zr,ha,zt,j⟩
  rintro D U w ar ⟨⟨ah,ai,aj,ak,ae,af⟩,hv,ha,_,j⟩
  have j:=j.cP 0 (ar 3 (by decide))
  have j:=j.cP 1 (ar 4 (by decide))
  have j:=j.cP 2 (ar 7 (by decide))
  have j:=j.cP 3 (ar 8 (by decide))
  have j:=j.cP 4 (ar 11 (by decide))
  have j:=j.cP 5 (ar 12 (by decide))
  obtain⟨O,rfl⟩:=(ac (hv.at 9 rfl (ar 9 (by decide))) (ac (hv.at 10 rfl (ar 10 (by decide))) (ac (ha.at 0 rfl) (ac (ha.at 1 rfl) az)))).fI
  refine aH (RC.sr (RL.aY zr gW (RL.aM 5 j zr dF cI (RL.aY zr gW (RL.aM 4 j zr dF cI (ic aa.Y0 o.Y0 (mv (vb (decide (aa.Y0<o.Y0))) (RL.gs true (decide (aa.Y0<o.Y0)) (vp af 1) zr zr zr (eA gW) ?_))))))))
  refine RL.gs true (decide (aa.Y0<o.Y0)) (vi aa.Y0) rfl rfl rfl (cB 5 rfl j (fun h=>by exact(cM h:cv (true&&((decide (aa.Y0<o.Y0))==false)) (vp af 1)= (vp af 1))) rfl dF cI) (RL.gs true (decide (aa.Y0<o.Y0)) (vp ae 1) rfl rfl rfl (eA gW) (RL.gs true (decide (aa.Y0<o.Y0)) (vi o.Y0) rfl rfl rfl (cB 4 rfl j (fun h=>by exact(cM h:cv (true&&((decide (aa.Y0<o.Y0))==false)) (vp ae 1)= (vp ae 1))) rfl dF cI) (RL.gs true (decide (aa.Y0<o.Y0)) (vb (aa.Y0==o.Y0)) rfl rfl rfl (dK .eql .i64 aa.Y0 o.Y0 rfl (fun h=>by exact(cM h:cv (true&&((decide (aa.Y0<o.Y0))==false)) (vi aa.Y0)= (vi aa.Y0))) (fun h=>by exact(cM h:cv (true&&((decide (aa.Y0<o.Y0))==false)) (vi o.Y0)= (vi o.Y0))) rfl) (RL.gs true (decide (aa.Y0<o.Y0)) (vb (aa.Y0==o.Y0)) rfl rfl rfl (cK (hx:=fun h=>by exact(cM h:cv (true&&((decide (aa.Y0<o.Y0))==false)) (vb (aa.Y0==o.Y0))= (vb (aa.Y0==o.Y0))))) (RL.gs (true&&((decide (aa.Y0<o.Y0))==false)) (aa.Y0==o.Y0) (vp af 0) rfl rfl rfl (eA ij) (RL.gs (true&&((decide (aa.Y0<o.Y0))==false)) (aa.Y0==o.Y0) (vi aa.X0) rfl rfl rfl (cB 5 rfl j (fun h=>by exact(cM h:cv ((true&&((decide (aa.Y0<o.Y0))==false))&&((aa.Y0==o.Y0)==true)) (vp af 0)= (vp af 0))) rfl dM cI) (RL.gs (true&&((decide (aa.Y0<o.Y0))==false)) (aa.Y0==o.Y0) (vp ae 0) rfl rfl rfl (eA ij) (RL.gs (true&&((decide (aa.Y0<o.Y0))==false)) (aa.Y0==o.Y0) (vi o.X0) rfl rfl rfl (cB 4 rfl j (fun h=>by exact(cM h:cv ((true&&((decide (aa.Y0<o.Y0))==false))&&((aa.Y0==o.Y0)==true)) (vp ae 0)= (vp ae 0))) rfl dM cI) ?_))))))))
  refine RL.gs (true&&((decide (aa.Y0<o.Y0))==false)) (aa.Y0==o.Y0) (vb (decide (aa.X0<=o.X0))) rfl rfl rfl (dK .leq .i64 aa.X0 o.X0 rfl (fun h=>by exact(cM h:cv ((true&&((decide (aa.Y0<o.Y0))==false))&&((aa.Y0==o.Y0)==true)) (vi aa.X0)= (vi aa.X0))) (fun h=>by exact(cM h:cv ((true&&((decide (aa.Y0<o.Y0))==false))&&((aa.Y0==o.Y0)==true)) (vi o.X0)= (vi o.X0))) rfl) (RL.gs true (decide (aa.Y0<o.Y0)) (vb ((aa.Y0==o.Y0)&&(decide (aa.X0<=o.X0)))) rfl rfl rfl (kE (aa.Y0==o.Y0) rfl (fun h=>by exact(cM h:cv (true&&((decide (aa.Y0<o.Y0))==false)) (vb (aa.Y0==o.Y0))= (vb (aa.Y0==o.Y0)))) (fun h=>by exact gD (true&&((decide (aa.Y0<o.Y0))==false)) h)) (RL.pick (decide (aa.Y0<o.Y0)) (vb ((decide (aa.Y0<o.Y0))||((aa.Y0==o.Y0)&&(decide (aa.X0<=o.X0))))) (nX true) (RL.nt (dQ hb (fun hc hb=>?_) fun hc hb=>?_))))
  ·refine RC.sr (aQ (vi 8) (RL.nt (RC.rb (bS ?_))))
   obtain rfl:=oi hb
   exact⟨rfl,bX ⟨rfl,j.drop 7⟩⟩
  refine RC.skip (bQ (aH (RC.region (mv (vi ao) (RL.fY ao 1 (aQ (vi (IntKind.wrap .i64 (ao+1))) (RL.nil ?_)))))))
  obtain rfl:=oi hb
  exact⟨rfl,j.sp 7 [6]⟩
 ·intro r U w e hK
  subst e
  refine bS ?_
  obtain rfl:=oi hb
  exact hK
 rintro ao _ w rfl ⟨O,rfl,j⟩
 rw [Fo.dB] at hb
 refine aH (RC.seq (RC.sr (mv v0 ?_)))
 obtain⟨bj,a8,hb⟩:=bd hb
 refine RL.call zt zr Hf [v0] zr (aD (mF N (i0:=0) j zr a8) ?_)
 rintro a9 w j
 have j:=j.freeze 0
 obtain⟨bk,ba,hb⟩:=bd hb
 refine RL.call zt zr JU [a9] zr (aD (nS N (i0:=0) j zr ba) ?_)
 rintro bb w j
 refine mv v0 ?_
 have j:=j.freeze 0
 obtain⟨bc,bf,hb⟩:=bd hb
 refine RL.call zt zr Mg [bb,v0] zr (aD (uE N (i0:=0) (i1:=2) j zr zr bf) ?_)
 rintro _ w ⟨rfl,j⟩
 refine RL.not bc (RL.nt (dQ hb (fun hc hb=>?_) fun hc hb=>?_))
 ·refine RC.sr (aQ (vi 3) (RL.nt (RC.rt ?_)))
  obtain rfl:=oi hb
  exact bX ⟨rfl,j.drop 3⟩
 refine RC.sx (aQ (vi 0) (RL.nt (RC.ret ?_)))
 obtain rfl:=oi hb
 exact bX ⟨rfl,j.drop 3⟩
theorem nb {res:Bool} (o:Holds E w V) (j:iL N p0 p1 p2=some res):
    Calls bN 37 [(vi p0),(vi p1),(vi p2)].toArray w (gL (aX E V res)):=by
 unfold iL at j
 refine enter Tryz.func37 zr zr (RC.sr (aQ (vb false) (RL.ns (mv (vi p0) (mv (vi p1) (ic p0 p1 (mv (vb (decide (p0>=p1))) (RL.gs true (decide (p0>=p1)) (vi p0) zr zr zr cK ?_))))))))
 refine RL.gs true (decide (p0>=p1)) (vi p2) rfl rfl rfl cK (RL.gs true (decide (p0>=p1)) (vb (decide (p0<=p2))) rfl rfl rfl (dK .leq .i64 p0 p2 rfl (fun h=>by exact(cM h:cv (true&&((decide (p0>=p1))==true)) (vi p0)= (vi p0))) (fun h=>by exact(cM h:cv (true&&((decide (p0>=p1))==true)) (vi p2)= (vi p2))) rfl) (RL.pick (decide (p0>=p1)) (vb ((decide (p0>=p1))&&(decide (p0<=p2)))) (gD true rfl) (aQ (vb ((decide (p0>=p1))&&(decide (p0<=p2)))) (RL.nt (RC.ret ?_)))))
 obtain rfl:=oi j
 exact bX ⟨rfl,o.drop 0⟩
theorem sj {p0:jr} {res:Bool} (j:Holds E w V) (h0:V[i0]? =some (rd v0 p0)) (hb:jZ N p0=some res):
    Calls bN 38 [v0].toArray w (gL (aX E V res)):=by
 unfold jZ at hb
 refine enter Tryz.func38 zr zr ?_
 have j:=j.dup (i0+0) h0
 refine RC.sr (RL.cS 0 v0 j zr fun ai w j=>?_)
 refine aQ (vb false) (RL.nq ?_)
 obtain⟨ad,o,hb⟩:=bd hb
 refine RC.jn (fun(ad:Bool)=>SH E V [(2,vb ad)] []) ad ?_ ?_
 ·refine RC.region (RL.aY zr wk (RL.aM 0 j zr nO cI ?_))
  obtain⟨af,ag,o⟩:=bd o
  refine RL.call zt zr F5 [(vi p0.X)] zr (aD (l5 N (p0:=p0.X) j ag) ?_)
  rintro _ w ⟨rfl,j⟩
  refine mv (vb af) (eZ o (fun aa o=>?_) fun aa o=>?_)
  rotate_left
  ·refine bC aa (bC aa (bC aa (fq aa (vb false) (aQ (vb false) (RL.nil ?_)))))
   obtain rfl:=oi o
   exact⟨rfl,j.sp 2 []⟩
  refine RL.aY (hg:=(cg aa)) zr wm (RL.aM (hg:=(cg aa)) 0 j zr nP cI ?_)
  obtain⟨ae,ah,o⟩:=bd o
  refine RL.call (cg aa) zr F5 [(vi p0.Y)] zr (aD (l5 N (p0:=p0.Y) j ah) ?_)
  rintro _ w ⟨rfl,j⟩
  refine fq aa (vb ae) (aQ (vb ae) (RL.nil ?_))
  obtain rfl:=oi o
  exact⟨rfl,j.sp 2 []⟩
 rintro _ w ⟨O,rfl,j⟩
 refine aH (RC.ret ?_)
 obtain rfl:=oi hb
 exact bX ⟨rfl,j.drop 0⟩
end Go.Gk
