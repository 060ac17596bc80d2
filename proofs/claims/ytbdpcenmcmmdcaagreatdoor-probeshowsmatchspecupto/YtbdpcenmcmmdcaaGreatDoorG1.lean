/-
  Printed texts: Go functions as plain functions, and that they are. No statement of the seed is proved here.
-/
import Derived.Test.YtbdpcenmcmmdcaaGreatDoorProg
import Derived.Test.YtbdpcenmcmmdcaaGreatDoorE1
import Derived.Test.YtbdpcenmcmmdcaaGreatDoorA1
import Derived.Test.YtbdpcenmcmmdcaaGreatDoorA2
import Derived.Test.YtbdpcenmcmmdcaaGreatDoorRows
import Derived.Shelf.SlGeneric
import Derived.Ground.SlsfProg
import Derived.Ground.SlgmProg
set_option linter.unusedVariables false
set_option linter.unusedSimpArgs false
set_option linter.unusedSectionVars false
set_option maxRecDepth 100000
set_option maxHeartbeats 40000000
namespace Go.Gk
open Go IntKind Go.Proofs
noncomputable abbrev bK:=Tryz.prog
abbrev c_(f:Nat)(l:List Value)(w:World)(R:Value->World->Prop):Prop:=Calls bK f l.toArray w (fT R)
def o8(x:aH):=(x.X0,x.Y0,x.X1,x.Y1)
instance instGTRect:GT aH:=GT.via o8
instance instKVRect:KV aH:=instKVvia (λ(x:aH)=>(x.X0,x.Y0,x.X1,x.Y1))
theorem dZ:Fd 0 (λx:aH=>x.X0):= .v o8<|.fst .self
theorem sS:Fs 0 Int (λ(x:aH)y=>{x with X0:=y}):= .v o8<|.fst .self
theorem dR:Fd 1 (λx:aH=>x.Y0):= .v o8<|.snd<|.fst .self
theorem uP:Fs 1 Int (λ(x:aH)y=>{x with Y0:=y}):= .v o8<|.snd<|.fst .self
theorem eP:Fd 2 (λx:aH=>x.X1):= .v o8<|.snd<|.snd<|.fst .self
theorem qT:Fs 2 Int (λ(x:aH)y=>{x with X1:=y}):= .v o8<|.snd<|.snd<|.fst .self
theorem fZ:Fd 3 (λx:aH=>x.Y1):= .v o8<|.snd<|.snd<|.snd<|.self
theorem sT:Fs 3 Int (λ(x:aH)y=>{x with Y1:=y}):= .v o8<|.snd<|.snd<|.snd<|.self
def A4(x:jX):=(x.X,x.Y)
instance instGTPoint:GT jX:=GT.via A4
instance instKVPoint:KV jX:=instKVvia (λ(x:jX)=>(x.X,x.Y))
theorem pG:Fd 0 (λx:jX=>x.X):= .v A4<|.fst .self
theorem pH:Fd 1 (λx:jX=>x.Y):= .v A4<|.snd<|.self
def uQ(x:bR):=(x.At,x.dT,x.cR,x.To,x.eN)
instance instGTBore:GT bR:=GT.via uQ
theorem sU:Fd 0 (λx:bR=>x.At):= .v uQ<|.fst .self
theorem na:Fd 2 (λx:bR=>x.dT):= .v uQ<|.snd<|.fst .self
theorem lF:Fd 3 (λx:bR=>x.cR):= .v uQ<|.snd<|.snd<|.fst .self
theorem nb:Fd 4 (λx:bR=>x.To):= .v uQ<|.snd<|.snd<|.snd<|.fst .self
theorem pT:Fd 5 (λx:bR=>x.eN):= .v uQ<|.snd<|.snd<|.snd<|.snd<|.self
def tf(x:cS):=(x.Part,x.dQ,x.dN,x.At)
instance instGTLand:GT cS:=GT.via tf
theorem oF:Fd 0 (λx:cS=>x.Part):= .v tf<|.fst .self
theorem J0:Fs 0 eJ (λ(x:cS)y=>{x with Part:=y}):= .v tf<|.fst .self
theorem qU:Fd 1 (λx:cS=>x.dQ):= .v tf<|.snd<|.fst .self
theorem J3:Fs 1 eJ (λ(x:cS)y=>{x with dQ:=y}):= .v tf<|.snd<|.fst .self
theorem sV:Fd 2 (λx:cS=>x.dN):= .v tf<|.snd<|.snd<|.fst .self
theorem sW:Fd 3 (λx:cS=>x.At):= .v tf<|.snd<|.snd<|.snd<|.self
def zX(x:gQ):=(x.aK,x.cJ,x.aN,x.bJ)
instance instGTArt:GT gQ:=GT.via zX
theorem jI:Fd 0 (λx:gQ=>x.aK):= .v zX<|.fst .self
theorem uR:Fd 1 (λx:gQ=>x.cJ):= .v zX<|.snd<|.fst .self
theorem iu:Fd 2 (λx:gQ=>x.aN):= .v zX<|.snd<|.snd<|.fst .self
theorem me:Fd 3 (λx:gQ=>x.bJ):= .v zX<|.snd<|.snd<|.snd<|.self
def xY(x:dQ):=(x.Part,x.dQ)
instance instGTPin:GT dQ:=GT.via xY
instance instKVPin:KV dQ:=instKVvia (λ(x:dQ)=>(x.Part,x.dQ))
theorem tg:Fd 0 (λx:dQ=>x.Part):= .v xY<|.fst .self
theorem zY:Fs 0 eJ (λ(x:dQ)y=>{x with Part:=y}):= .v xY<|.fst .self
theorem xd:Fd 1 (λx:dQ=>x.dQ):= .v xY<|.snd<|.self
theorem zZ:Fs 1 eJ (λ(x:dQ)y=>{x with dQ:=y}):= .v xY<|.snd<|.self
def z5(x:Test):=(x.A,x.B,x.Joined)
instance instGTTest:GT Test:=GT.via z5
theorem kn:Fd 0 (λx:Test=>x.A):= .v z5<|.fst .self
theorem lG:Fd 2 (λx:Test=>x.B):= .v z5<|.snd<|.fst .self
theorem EL:Fd 4 (λx:Test=>x.Joined):= .v z5<|.snd<|.snd<|.self
def vO(x:dK):=(x.bR,x.Number)
instance instGTHop:GT dK:=GT.via vO
instance instKVHop:KV dK:=instKVvia (λ(x:dK)=>(x.bR,x.Number))
theorem qx:Fd 0 (λx:dK=>x.bR):= .v vO<|.fst .self
theorem GW:Fs 0 Bool (λ(x:dK)y=>{x with bR:=y}):= .v vO<|.fst .self
theorem k9:Fd 1 (λx:dK=>x.Number):= .v vO<|.snd<|.self
theorem z6:Fs 1 Int (λ(x:dK)y=>{x with Number:=y}):= .v vO<|.snd<|.self
def uS(x:dX):=(x.Open,x.dK,x.A,x.B)
instance instGTFlaw:GT dX:=GT.via uS
theorem lH:Fd 0 (λx:dX=>x.Open):= .v uS<|.fst .self
theorem kS:Fd 1 (λx:dX=>x.dK):= .v uS<|.snd<|.fst .self
theorem oG:Fd 3 (λx:dX=>x.A):= .v uS<|.snd<|.snd<|.fst .self
theorem oH:Fd 4 (λx:dX=>x.B):= .v uS<|.snd<|.snd<|.snd<|.self
def ld(x:aA):=(x.Y0,x.Y1,x.Xs)
instance instGTshape_Band:GT aA:=GT.via ld
theorem iQ:Fd 0 (λx:aA=>x.Y0):= .v ld<|.fst .self
theorem wy:Fs 0 Int (λ(x:aA)y=>{x with Y0:=y}):= .v ld<|.fst .self
theorem gq:Fd 1 (λx:aA=>x.Y1):= .v ld<|.snd<|.fst .self
theorem rP:Fs 1 Int (λ(x:aA)y=>{x with Y1:=y}):= .v ld<|.snd<|.fst .self
theorem eK:Fd 2 (λx:aA=>x.Xs):= .v ld<|.snd<|.snd<|.self
theorem wz:Fs 2 (List Int) (λ(x:aA)y=>{x with Xs:=y}):= .v ld<|.snd<|.snd<|.self
def kT(x:aF):=(x.dN,x.Set,x.gU)
instance instGTcopper_Piece:GT aF:=GT.via kT
theorem tX:Fd 0 (λx:aF=>x.dN):= .v kT<|.fst .self
theorem z7:Fs 0 Int (λ(x:aF)y=>{x with dN:=y}):= .v kT<|.fst .self
theorem z8:Fs 1 (List aA) (λ(x:aF)y=>{x with Set:=y}):= .v kT<|.snd<|.fst .self
theorem tY:Fd 2 (λx:aF=>x.gU):= .v kT<|.snd<|.snd<|.self
theorem z9:Fs 2 (List aH) (λ(x:aF)y=>{x with gU:=y}):= .v kT<|.snd<|.snd<|.self
def J4(x:cF):=(x.kX,x.aN,x.gL)
instance instGTGroup:GT cF:=GT.via J4
def ij(x:aD):=(x.from_,x.to)
instance instGTetchhouseref1_span:GT aD:=GT.via ij
instance instKVetchhouseref1_span:KV aD:=instKVvia (λ(x:aD)=>(x.from_,x.to))
theorem eQ:Fd 0 (λx:aD=>x.from_):= .v ij<|.fst .self
theorem mf:Fs 0 Int (λ(x:aD)y=>{x with from_:=y}):= .v ij<|.fst .self
theorem eR:Fd 1 (λx:aD=>x.to):= .v ij<|.snd<|.self
theorem mg:Fs 1 Int (λ(x:aD)y=>{x with to:=y}):= .v ij<|.snd<|.self
def gk(x:aO):=(x.from_,x.to,x.jY)
instance instGTetchhouseref1_band:GT aO:=GT.via gk
theorem pU:Fd 0 (λx:aO=>x.from_):= .v gk<|.fst .self
theorem pV:Fs 0 Int (λ(x:aO)y=>{x with from_:=y}):= .v gk<|.fst .self
theorem mh:Fd 1 (λx:aO=>x.to):= .v gk<|.snd<|.fst .self
theorem mi:Fs 1 Int (λ(x:aO)y=>{x with to:=y}):= .v gk<|.snd<|.fst .self
theorem gN:Fd 2 (λx:aO=>x.jY):= .v gk<|.snd<|.snd<|.self
theorem pW:Fs 2 (List aD) (λ(x:aO)y=>{x with jY:=y}):= .v gk<|.snd<|.snd<|.self
theorem Jf(M:eZ):GT.ok M (#[(.string ⟨#[]⟩),(.string ⟨#[]⟩)]:Array Value).toList (⟨⟨[]⟩,⟨[]⟩⟩:dQ):=⟨[(.string ⟨#[]⟩)],[(.string ⟨#[]⟩)],rfl,(show GT.ok M [(.string ⟨#[]⟩)] (⟨[]⟩:eJ)from rfl),(show GT.ok M [(.string ⟨#[]⟩)] (⟨[]⟩:eJ)from rfl)⟩
theorem vP(M:eZ):GT.ok M (#[(.int .i64 0),(.int .i64 0),(.int .i64 0),(.int .i64 0)]:Array Value).toList (⟨0,0,0,0⟩:aH):=⟨[(.int .i64 0)],[(.int .i64 0),(.int .i64 0),(.int .i64 0)],rfl,(show GT.ok M [(.int .i64 0)] (0:Int)from rfl),⟨[(.int .i64 0)],[(.int .i64 0),(.int .i64 0)],rfl,(show GT.ok M [(.int .i64 0)] (0:Int)from rfl),⟨[(.int .i64 0)],[(.int .i64 0)],rfl,(show GT.ok M [(.int .i64 0)] (0:Int)from rfl),(show GT.ok M [(.int .i64 0)] (0:Int)from rfl)⟩⟩⟩
theorem Mv(M:eZ):GT.ok M (#[(.int .i64 0),(.int .i64 0)]:Array Value).toList (⟨0,0⟩:jX):=⟨[(.int .i64 0)],[(.int .i64 0)],rfl,(show GT.ok M [(.int .i64 0)] (0:Int)from rfl),(show GT.ok M [(.int .i64 0)] (0:Int)from rfl)⟩
theorem Od(M:eZ):GT.ok M (#[(.string ⟨#[]⟩),(.string ⟨#[]⟩),(.int .i64 0),(.int .i64 0),(.int .i64 0)]:Array Value).toList (⟨⟨[]⟩,⟨[]⟩,0,⟨0,0⟩⟩:cS):=⟨[(.string ⟨#[]⟩)],[(.string ⟨#[]⟩),(.int .i64 0),(.int .i64 0),(.int .i64 0)],rfl,(show GT.ok M [(.string ⟨#[]⟩)] (⟨[]⟩:eJ)from rfl),⟨[(.string ⟨#[]⟩)],[(.int .i64 0),(.int .i64 0),(.int .i64 0)],rfl,(show GT.ok M [(.string ⟨#[]⟩)] (⟨[]⟩:eJ)from rfl),⟨[(.int .i64 0)],[(.int .i64 0),(.int .i64 0)],rfl,(show GT.ok M [(.int .i64 0)] (0:Int)from rfl),(show GT.ok M [(.int .i64 0),(.int .i64 0)] (⟨0,0⟩:jX)from Mv M)⟩⟩⟩
theorem BQ(M:eZ):GT.ok M (#[(.bool false),(.int .i64 0)]:Array Value).toList (⟨false,0⟩:dK):=⟨[(.bool false)],[(.int .i64 0)],rfl,(show GT.ok M [(.bool false)] (false:Bool)from rfl),(show GT.ok M [(.int .i64 0)] (0:Int)from rfl)⟩
theorem CX(M:eZ):GT.ok M (#[(.int .i64 0),n_,n_]:Array Value).toList (⟨0,[],[]⟩:aF):=⟨[(.int .i64 0)],[n_,n_],rfl,(show GT.ok M [(.int .i64 0)] (0:Int)from rfl),⟨[n_],[n_],rfl,(show GT.ok M [n_] ([]:List aA)from⟨_,rfl,none,0,0,rfl,rfl,cH _,by simp[maxLen],λ_ _ h=>by simp at h⟩),(show GT.ok M [n_] ([]:List aH)from⟨_,rfl,none,0,0,rfl,rfl,cH _,by simp[maxLen],λ_ _ h=>by simp at h⟩)⟩⟩
theorem ry(M:eZ):GT.ok M (#[(.int .i64 0),(.int .i64 0),n_]:Array Value).toList (⟨0,0,[]⟩:aO):=⟨[(.int .i64 0)],[(.int .i64 0),n_],rfl,(show GT.ok M [(.int .i64 0)] (0:Int)from rfl),⟨[(.int .i64 0)],[n_],rfl,(show GT.ok M [(.int .i64 0)] (0:Int)from rfl),(show GT.ok M [n_] ([]:List aD)from⟨_,rfl,none,0,0,rfl,rfl,cH _,by simp[maxLen],λ_ _ h=>by simp at h⟩)⟩⟩
theorem Aa(M:eZ):GT.ok M (#[(.int .i64 0),(.int .i64 0),n_]:Array Value).toList (⟨0,0,[]⟩:aA):=⟨[(.int .i64 0)],[(.int .i64 0),n_],rfl,(show GT.ok M [(.int .i64 0)] (0:Int)from rfl),⟨[(.int .i64 0)],[n_],rfl,(show GT.ok M [(.int .i64 0)] (0:Int)from rfl),(show GT.ok M [n_] ([]:List Int)from⟨_,rfl,none,0,0,rfl,rfl,cH _,by simp[maxLen],λ_ _ h=>by simp at h⟩)⟩⟩
theorem rz(M:eZ):GT.ok M (#[(.int .i64 0),(.int .i64 0)]:Array Value).toList (⟨0,0⟩:aD):=⟨[(.int .i64 0)],[(.int .i64 0)],rfl,(show GT.ok M [(.int .i64 0)] (0:Int)from rfl),(show GT.ok M [(.int .i64 0)] (0:Int)from rfl)⟩
structure aY where
  kX:List Int
  aN:List Int
  gL:RV
  deriving Inhabited
def qy(x:aY):=(x.kX,x.aN,x.gL)
instance instGTGroup_r2:GT aY:=GT.via qy
theorem yK:Fd 0 (λx:aY=>x.kX):= .v qy<|.fst .self
theorem D8:Fd 1 (λx:aY=>x.aN):= .v qy<|.snd<|.fst .self
theorem D9:Fd 2 (λx:aY=>x.gL):= .v qy<|.snd<|.snd<|.self
theorem Ea:Fs 2 RV (λ(x:aY)y=>{x with gL:=y}):= .v qy<|.snd<|.snd<|.self
def bD:XT aY cF:=⟨λu x=>u.kX=x.kX/\u.aN=x.aN,λM h u x=>(u.kX=x.kX/\u.aN=x.aN)/\yX 50 M h u.gL.v x.gL,λ{M M' h u x}hk hh=>⟨hh.1,(own 50 u.gL.v x.gL).mono hk hh.2⟩,λh=>h.1⟩
theorem pX:XO bD 50 2 (λu=>u.gL) (λu r=>{u with gL:=r}) (λx=>x.gL) (λx y=>{x with gL:=y}):=⟨D9,Ea,by decide,λh=>h.2,λhr ho=>⟨hr,ho⟩⟩
theorem Ab(M h:eZ)(u:aY)(x:cF)(cs:List Value)(hd:∀b o,h b=some o->M b=none)(hx:bD.ok M h u x)(hc:GT.ok M cs u):GT.ok (tK M h) cs x:=by
 obtain⟨⟨e0,e1⟩,ho⟩:=hx;obtain⟨c0,d0,hd0,a0,c1,d1,hd1,a1,a2⟩:=hc;exact⟨c0,d0,hd0,GT.mono (xW M h) (show GT.ok M c0 x.kX from e0▸(show GT.ok M c0 u.kX from a0)),⟨c1,d1,hd1,GT.mono (xW M h) (show GT.ok M c1 x.aN from e1▸(show GT.ok M c1 u.aN from a1)),⟨u.gL.v,a2,yX.sl hd ho⟩⟩⟩
theorem nn:nN bK 27 true 4:=yq
theorem nU:o5 bK 27 0 0:=qI
theorem qh:nN bK 22 false 1:=yq
theorem qL:Tryz.prog.underlying 22=some (.slice 23):=by kernel_rfl
theorem FB:o5 bK 27 1 1:=qI
theorem wH:nN bK 23 false 1:=yq
theorem oU:Tryz.prog.underlying 23=some (.slice 54):=by kernel_rfl
theorem wI:yI bK 22 23 1:=Gf
theorem jJ:yI bK 23 54 4:=Gf
theorem jk:nN bK 54 true 4:=yq
theorem qz:Ew bK 54 4:=Gg<|.agg #[(.int .i64 0),(.int .i64 0),(.int .i64 0),(.int .i64 0)]
theorem iU:o5 bK 54 0 0:=qI
theorem cB:nN bK 3 false 1:=yq
theorem EM:gm bK 123:=gF Tryz.func123
theorem iM:o5 bK 54 1 1:=qI
theorem jT:o5 bK 54 2 2:=qI
theorem lz:o5 bK 54 3 3:=qI
theorem Nf:gm bK 108:=gF Tryz.func108
theorem mixed:Tryz.prog.follows .mixedOrders=true:=by kernel_rfl
theorem CY:wV bK 23 54 4 32:=wV.of<|.agg #[(.int .i64 0),(.int .i64 0),(.int .i64 0),(.int .i64 0)]
theorem Ng:gm bK 110:=gF Tryz.func110
theorem Pl:O4 bK 69 [n_]:=⟨n_,λ_=>by kernel_rfl,rfl⟩
theorem fW:nN bK 69 false 1:=yq
theorem dM:yI bK 69 3 1:=Gf
theorem D2:Ew bK 3 1:=Gg<|.int .i64 0
theorem rA:wV bK 69 3 1 8:=wV.of<|.int .i64 0
theorem mj:Tryz.prog.underlying 69=some (.slice 3):=by kernel_rfl
theorem Oe:KL bK 3 (0:Int):=KL.of (.int .i64 0)<|λM=>rfl
theorem Nh:gm bK 127:=gF Tryz.func127
theorem Q6:KL bK 54 (⟨0,0,0,0⟩:aH):=KL.of (.agg #[(.int .i64 0),(.int .i64 0),(.int .i64 0),(.int .i64 0)])<|λM=>vP M
theorem Ni:yY bK 168 [(0,1),(1,1),(2,1)] #[(.int .i64 0),(.int .i64 0),n_]:=yY.of (.agg #[(.int .i64 0),(.int .i64 0),n_]) Tryz.underlying168
theorem nC:o5 bK 168 2 2:=qI
theorem pC:o5 bK 168 1 1:=qI
theorem sA:o5 bK 168 0 0:=qI
theorem r9:Tryz.prog.underlying 129=some (.slice 168):=by kernel_rfl
theorem mQ:yI bK 129 168 3:=Gf
theorem Ac:nN bK 168 true 3:=yq
theorem GX:Ew bK 168 3:=Gg<|.agg #[(.int .i64 0),(.int .i64 0),n_]
theorem Pv:wV bK 129 168 3 40:=wV.of<|.agg #[(.int .i64 0),(.int .i64 0),n_]
theorem Nj:gm bK 116:=gF Tryz.func116
theorem K7:gm bK 74:=gF Tryz.func74
theorem GY:yY bK 54 [(0,1),(1,1),(2,1),(3,1)] #[(.int .i64 0),(.int .i64 0),(.int .i64 0),(.int .i64 0)]:=yY.of (.agg #[(.int .i64 0),(.int .i64 0),(.int .i64 0),(.int .i64 0)]) Tryz.underlying54
theorem Of:gm bK 75:=gF Tryz.func75
theorem Jg:Tryz.prog.underlying 3=some (.int .i64):=by kernel_rfl
theorem Nk:Mn bK 54 aH:=⟨λM cs ds a b w ha hb=>by
  obtain⟨_,_,rfl,rfl,⟨_,_,rfl,rfl,⟨_,_,rfl,rfl,rfl⟩⟩⟩:=ha
  obtain⟨_,_,rfl,rfl,⟨_,_,rfl,rfl,⟨_,_,rfl,rfl,rfl⟩⟩⟩:=hb
  refine(kQ 9999 Tryz.underlying54<|BN.cons (by decide) (dY cB _) (dY cB _) (kW Jg _ _ w)<|BN.cons (by decide) (dY cB _) (dY cB _) (kW Jg _ _ w)<|BN.cons (by decide) (dY cB _) (dY cB _) (kW Jg _ _ w)<|BN.cons (by decide) (dY cB _) (dY cB _) (kW Jg _ _ w) BN.nil).trans ?_
  congr 1
  cases a;cases b;unfold o8
  rw[gS]
  simp,by kernel_rfl⟩
theorem Pw:gm bK 39:=gF Tryz.func39
theorem gr:o5 bK 27 2 2:=qI
theorem mR:nN bK 24 false 1:=yq
theorem uT:Tryz.prog.underlying 24=some (.slice 79):=by kernel_rfl
theorem rQ:yI bK 24 79 6:=Gf
theorem np:nN bK 79 true 6:=yq
theorem Il:Ew bK 79 6:=Gg<|.agg #[(.int .i64 0),(.int .i64 0),(.int .i64 0),(.int .i64 0),(.int .i64 0),(.bool false)]
theorem um:o5 bK 79 1 2:=qI
theorem Mw:gm bK 77:=gF Tryz.func77
theorem A5:o5 bK 79 0 0:=qI
theorem GZ:nN bK 56 true 2:=yq
theorem za:o5 bK 56 0 0:=qI
theorem zb:o5 bK 56 1 1:=qI
theorem Px:gm bK 80:=gF Tryz.func80
theorem J5:gm bK 43:=gF Tryz.func43
theorem rR:o5 bK 79 2 3:=qI
theorem uo:o5 bK 79 3 4:=qI
theorem nV:o5 bK 27 3 3:=qI
theorem xe:nN bK 25 false 1:=yq
theorem Eb:Tryz.prog.underlying 25=some (.slice 58):=by kernel_rfl
theorem Ch:yI bK 25 58 5:=Gf
theorem uU:nN bK 58 true 5:=yq
theorem J6:Ew bK 58 5:=Gg<|.agg #[(.string ⟨#[]⟩),(.string ⟨#[]⟩),(.int .i64 0),(.int .i64 0),(.int .i64 0)]
theorem vQ:o5 bK 58 0 0:=qI
theorem wW:nN bK 9 false 1:=yq
theorem CZ:Tryz.prog.underlying 9=some (.string):=by kernel_rfl
theorem CR(a:eJ)(b:Int)(w:World):(callFunc 189 [str a,(.int .u8 b)].toArray).run bK w = .ok (.value<|vi ((Lib.countByte a.dL (Int.toNat b).toUInt8:Nat):Int)) w:=CM Extern.BytealgCount.count Tryz.func189<|Lib.run_countString _ _ w
theorem y7(a:eJ)(b:Int)(w:World):(callFunc 177 [str a,(.int .u8 b)].toArray).run bK w = .ok (.value<|vi<|Lib.indexByte a.dL (Int.toNat b).toUInt8) w:=CM Extern.BytealgIndexByte.indexByte Tryz.func177<|Lib.run_indexByteString _ _ w
theorem Nl:gm bK 149:=gF Tryz.func149
theorem Nm:gm bK 176:=gF Tryz.func176
theorem PC:wV bK 170 9 1 16:=wV.of<|.string ⟨#[]⟩
theorem SI:KL bK 9 (⟨[]⟩:eJ):=KL.of (.string ⟨#[]⟩)<|λM=>rfl
theorem G0:yI bK 170 9 1:=Gf
theorem Nn:gm bK 120:=gF Tryz.func120
theorem Np:Tryz.prog.underlying 170=some (.slice 9):=by kernel_rfl
theorem Nq:gm bK 122:=gF Tryz.func122
theorem PF:gm bK 79:=gF Tryz.func79
theorem zc:o5 bK 58 1 1:=qI
theorem A6:o5 bK 58 2 2:=qI
theorem A7:o5 bK 58 3 3:=qI
theorem Og:Ew bK 50 2:=Gg<|.agg #[(.string ⟨#[]⟩),(.string ⟨#[]⟩)]
theorem Mx:yY bK 50 [(0,1),(1,1)] #[(.string ⟨#[]⟩),(.string ⟨#[]⟩)]:=yY.of (.agg #[(.string ⟨#[]⟩),(.string ⟨#[]⟩)]) Tryz.underlying50
theorem oI:nN bK 50 true 2:=yq
theorem My:gm bK 49:=gF Tryz.func49
theorem zd:o5 bK 50 0 0:=qI
theorem y8(a b:eJ)(w:World):(callFunc 129 [str a,str b].toArray).run bK w = .ok (.value<|vi<|Lib.compareBytes a.dL b.dL) w:=CM Extern.BytealgCompare.compare Tryz.func129<|Lib.run_compareString _ _ w
theorem PK:gm bK 50:=gF Tryz.func50
theorem C0:o5 bK 50 1 1:=qI
theorem J7:gm bK 20:=gF Tryz.func20
theorem PL:gm bK 81:=gF Tryz.func81
theorem Rg:yY bK 72 [(0,4),(4,1),(5,1),(6,1),(7,1),(8,1),(9,1),(10,1),(11,1)] #[n_,n_,n_,n_,n_,n_,n_,n_,n_,n_,n_,n_]:=yY.of (.agg #[n_,n_,n_,n_,n_,n_,n_,n_,n_,n_,n_,n_]) Tryz.underlying72
theorem qA:o5 bK 72 0 0:=qI
theorem Oh:gm bK 82:=gF Tryz.func82
theorem K8:yI bK 65 129 1:=Gf
theorem K9:Ew bK 129 1:=Gg<|.slice none 0 0
theorem PM:Tryz.prog.underlying 65=some (.slice 129):=by kernel_rfl
theorem Nr:nN bK 129 false 1:=yq
theorem Ns:gm bK 151:=gF Tryz.func151
theorem Nt:Tryz.prog.underlying 4=some (.bool):=by kernel_rfl
theorem Lb:o5 bK 72 1 4:=qI
theorem PR:nN bK 65 false 1:=yq
theorem PT:wV bK 65 129 1 24:=wV.of<|.slice none 0 0
theorem Lc:gm bK 126:=gF Tryz.func126
theorem BR:Ic bK 109 3 3 Int Int (0:Int):=⟨by kernel_rfl,CN.int Jg,I7 (.int .i64 0)<|λM=>⟨_,rfl,rfl⟩⟩
theorem Mz:Ew bK 23 1:=Gg<|.slice none 0 0
theorem Ld:wV bK 22 23 1 24:=wV.of<|.slice none 0 0
theorem xf:o5 bK 72 2 5:=qI
theorem G1:nN bK 66 false 1:=yq
theorem PU:yY bK 141 [(0,1),(1,1),(2,1)] #[(.int .i64 0),n_,n_]:=yY.of (.agg #[(.int .i64 0),n_,n_]) Tryz.underlying141
theorem Oi:yI bK 66 141 3:=Gf
theorem Le:Ew bK 141 3:=Gg<|.agg #[(.int .i64 0),n_,n_]
theorem Rk:wV bK 66 141 3 56:=wV.of<|.agg #[(.int .i64 0),n_,n_]
theorem J8:Tryz.prog.underlying 66=some (.slice 141):=by kernel_rfl
theorem Jh:nN bK 141 true 3:=yq
theorem xg:o5 bK 79 4 5:=qI
theorem qM:nN bK 4 false 1:=yq
theorem Ji:o5 bK 141 0 0:=qI
theorem Jj:o5 bK 141 2 2:=qI
theorem PV:gm bK 86:=gF Tryz.func86
theorem FC:o5 bK 72 3 6:=qI
theorem Ad:nN bK 67 false 1:=yq
theorem A8:yI bK 67 69 1:=Gf
theorem Oj:Ew bK 69 1:=Gg<|.slice none 0 0
theorem Ol:wV bK 67 69 1 24:=wV.of<|.slice none 0 0
theorem PW:yY bK 147 [(0,1)] #[n_]:=yY.of (.agg #[n_]) Tryz.underlying147
theorem sB:o5 bK 147 0 0:=qI
theorem PX:gm bK 54:=gF Tryz.func54
theorem Im:Tryz.prog.underlying 67=some (.slice 69):=by kernel_rfl
theorem J9:gm bK 57:=gF Tryz.func57
theorem PY:gm bK 56:=gF Tryz.func56
theorem Io:o5 bK 72 5 8:=qI
theorem FD:o5 bK 72 6 9:=qI
theorem Lg:O4 bK 124 [n_,n_,n_]:=⟨(.agg #[n_,n_,n_]),λ_=>by kernel_rfl,rfl⟩
theorem A9:o5 bK 72 4 7:=qI
theorem yr:nN bK 68 false 1:=yq
theorem Om:Tryz.prog.underlying 68=some (.slice 124):=by kernel_rfl
theorem vR:o5 bK 124 0 0:=qI
theorem xZ:o5 bK 124 1 1:=qI
theorem G2:nN bK 124 true 3:=yq
theorem Ec:yI bK 68 124 3:=Gf
theorem Lh:Ew bK 124 3:=Gg<|.agg #[n_,n_,n_]
theorem On:wV bK 68 124 3 72:=wV.of<|.agg #[n_,n_,n_]
theorem Ip:Ew bK 75 2:=Gg<|.agg #[(.bool false),(.int .i64 0)]
theorem Nu:gm bK 128:=gF Tryz.func128
theorem G3:yY bK 75 [(0,1),(1,1)] #[(.bool false),(.int .i64 0)]:=yY.of (.agg #[(.bool false),(.int .i64 0)]) Tryz.underlying75
theorem qB:nN bK 75 true 2:=yq
theorem vS:o5 bK 75 0 0:=qI
theorem pI:o5 bK 75 1 1:=qI
theorem Cx:o5 bK 124 2 2:=qI
theorem Jk:nN bK 122 false 1:=yq
theorem Nv:yI bK 122 50 2:=Gf
theorem Nw:wV bK 122 50 2 32:=wV.of<|.agg #[(.string ⟨#[]⟩),(.string ⟨#[]⟩)]
theorem Iq:o5 bK 72 7 10:=qI
theorem Ir:o5 bK 72 8 11:=qI
theorem Oo:nN bK 70 false 1:=yq
theorem P0:yI bK 70 75 2:=Gf
theorem Rs:wV bK 70 75 2 16:=wV.of<|.agg #[(.bool false),(.int .i64 0)]
theorem P3:gm bK 18:=gF Tryz.func18
theorem Ed:Tryz.prog.underlying 28=some (.slice 52):=by kernel_rfl
theorem ze:yI bK 28 52 5:=Gf
theorem Ae:nN bK 52 true 5:=yq
theorem MA:Ew bK 52 5:=Gg<|.agg #[(.string ⟨#[]⟩),(.string ⟨#[]⟩),(.string ⟨#[]⟩),(.string ⟨#[]⟩),(.bool false)]
theorem qC:o5 bK 52 0 0:=qI
theorem Ny:Tryz.prog.underlying 145=some (.int .u64):=by kernel_rfl
theorem G4:gm bK 19:=gF Tryz.func19
theorem rS:o5 bK 52 1 2:=qI
theorem P4:gm bK 21:=gF Tryz.func21
theorem FE:Tryz.prog.underlying 29=some (.slice 77):=by kernel_rfl
theorem Oq:nN bK 39 false 1:=yq
theorem P5:gm bK 23:=gF Tryz.func23
theorem zf:yI bK 29 77 5:=Gf
theorem Ba:nN bK 77 true 5:=yq
theorem Ot:Ew bK 77 5:=Gg<|.agg #[(.bool false),(.bool false),(.int .i64 0),(.int .i64 0),(.int .i64 0)]
theorem rT:o5 bK 77 0 0:=qI
theorem vT:o5 bK 77 2 3:=qI
theorem vU:o5 bK 77 3 4:=qI
theorem qV:o5 bK 77 1 1:=qI
theorem Nz:Mn bK 75 dK:=⟨λM cs ds a b w ha hb=>by
  obtain⟨_,_,rfl,rfl,rfl⟩:=ha
  obtain⟨_,_,rfl,rfl,rfl⟩:=hb
  refine(kQ 9999 Tryz.underlying75<|BN.cons (by decide) (dY qM _) (dY qM _) (rm Nt _ _ w)<|BN.cons (by decide) (dY cB _) (dY cB _) (kW Jg _ _ w) BN.nil).trans ?_
  congr 1
  cases a;cases b;unfold vO
  rw[gS]
  simp,by kernel_rfl⟩
theorem Ou:gm bK 22:=gF Tryz.func22
theorem NA:Mn bK 77 dX:=⟨λM cs ds a b w ha hb=>by
  obtain⟨_,_,rfl,rfl,⟨_,_,rfl,⟨_,_,rfl,rfl,rfl⟩,⟨_,_,rfl,rfl,rfl⟩⟩⟩:=ha
  obtain⟨_,_,rfl,rfl,⟨_,_,rfl,⟨_,_,rfl,rfl,rfl⟩,⟨_,_,rfl,rfl,rfl⟩⟩⟩:=hb
  refine(kQ 9999 Tryz.underlying77<|BN.cons (by decide) (dY qM _) (dY qM _) (rm Nt _ _ w)<|BN.cons (by decide) (Ex qB rfl _) (Ex qB rfl _) (kQ 9998 Tryz.underlying74<|BN.cons (by decide) (dY qM _) (dY qM _) (rm Nt _ _ w)<|BN.cons (by decide) (dY cB _) (dY cB _) (kW Jg _ _ w) BN.nil)<|BN.cons (by decide) (dY cB _) (dY cB _) (kW Jg _ _ w)<|BN.cons (by decide) (dY cB _) (dY cB _) (kW Jg _ _ w) BN.nil).trans ?_
  congr 1
  obtain⟨_,⟨_,_⟩,_,_⟩:=a;obtain⟨_,⟨_,_⟩,_,_⟩:=b;unfold uS vO
  rw[gS]
  simp,by kernel_rfl⟩
theorem P6:gm bK 11:=gF Tryz.func11
theorem P7:O4 bK 105 [(.map none)]:=⟨(.map none),λ_=>by kernel_rfl,rfl⟩
theorem G5:nN bK 105 false 1:=yq
theorem P8:gm bK 53:=gF Tryz.func53
theorem Jl:Ic bK 105 3 4 Int Bool (false:Bool):=⟨by kernel_rfl,CN.int Jg,I7 (.bool false)<|λM=>⟨_,rfl,rfl⟩⟩
theorem P9:O4 bK 106 [(.pointer none)]:=⟨(.pointer none),λ_=>by kernel_rfl,rfl⟩
theorem G6:nN bK 106 false 1:=yq
theorem Qa:gm bK 55:=gF Tryz.func55
theorem RB:Tryz.prog.underlying 70=some (.slice 75):=by kernel_rfl
theorem Qb:gm bK 25:=gF Tryz.func25
theorem th:yI bK 30 4 1:=Gf
theorem RD:Ew bK 4 1:=Gg<|.bool false
theorem Is:wV bK 30 4 1 1:=wV.of<|.bool false
theorem Sx:gm bK 4:=gF Tryz.func4
theorem yL:gm bK 133:=gF Tryz.func133
theorem Qe:gm bK 99:=gF Tryz.func99
theorem EN:gm bK 137:=gF Tryz.func137
theorem NB:gm bK 100:=gF Tryz.func100
theorem NC:yY bK 180 [(0,1),(1,1)] #[(.int .i64 0),(.int .i64 0)]:=yY.of (.agg #[(.int .i64 0),(.int .i64 0)]) Tryz.underlying180
theorem yM:Tryz.prog.underlying 154=some (.slice 180):=by kernel_rfl
theorem qP:yI bK 154 180 2:=Gf
theorem sC:o5 bK 180 1 1:=qI
theorem sD:o5 bK 180 0 0:=qI
theorem Jm:nN bK 180 true 2:=yq
theorem ND:Ew bK 180 2:=Gg<|.agg #[(.int .i64 0),(.int .i64 0)]
theorem Li:wV bK 154 180 2 16:=wV.of<|.agg #[(.int .i64 0),(.int .i64 0)]
theorem NF:gm bK 139:=gF Tryz.func139
theorem Jn:gm bK 102:=gF Tryz.func102
theorem NG:yY bK 157 [(0,1),(1,1),(2,1)] #[(.int .i64 0),(.int .i64 0),n_]:=yY.of (.agg #[(.int .i64 0),(.int .i64 0),n_]) Tryz.underlying157
theorem x6:o5 bK 157 2 2:=qI
theorem EO:nN bK 154 false 1:=yq
theorem NH:Tryz.prog.underlying 152=some (.slice 157):=by kernel_rfl
theorem Af:yI bK 152 157 3:=Gf
theorem Cy:o5 bK 157 1 1:=qI
theorem Jo:o5 bK 157 0 0:=qI
theorem Ov:Mn bK 180 aD:=⟨λM cs ds a b w ha hb=>by
  obtain⟨_,_,rfl,rfl,rfl⟩:=ha
  obtain⟨_,_,rfl,rfl,rfl⟩:=hb
  refine(kQ 9999 Tryz.underlying180<|BN.cons (by decide) (dY cB _) (dY cB _) (kW Jg _ _ w)<|BN.cons (by decide) (dY cB _) (dY cB _) (kW Jg _ _ w) BN.nil).trans ?_
  congr 1
  cases a;cases b;unfold ij
  rw[gS]
  simp,by kernel_rfl⟩
theorem Qh:nN bK 157 true 3:=yq
theorem Qi:Ew bK 157 3:=Gg<|.agg #[(.int .i64 0),(.int .i64 0),n_]
theorem Qj:wV bK 152 157 3 40:=wV.of<|.agg #[(.int .i64 0),(.int .i64 0),n_]
theorem NI:gm bK 101:=gF Tryz.func101
theorem NJ:gm bK 103:=gF Tryz.func103
theorem Ow:gm bK 68:=gF Tryz.func68
theorem Ql:gm bK 93:=gF Tryz.func93
theorem Lj:gm bK 95:=gF Tryz.func95
theorem NK:gm bK 132:=gF Tryz.func132
theorem Ka:gm bK 37:=gF Tryz.func37
theorem NL:gm bK 135:=gF Tryz.func135
theorem MB:gm bK 35:=gF Tryz.func35
theorem Ll:gm bK 136:=gF Tryz.func136
theorem Qp:gm bK 34:=gF Tryz.func34
theorem QU:KL bK 4 (false:Bool):=KL.of (.bool false)<|λM=>rfl
theorem Qq:gm bK 33:=gF Tryz.func33
theorem Qr:gm bK 26:=gF Tryz.func26
theorem MC:gm bK 27:=gF Tryz.func27
theorem Ox:gm bK 28:=gF Tryz.func28
theorem Qs:Mn bK 50 dQ:=⟨λM cs ds a b w ha hb=>by
  obtain⟨_,_,rfl,rfl,rfl⟩:=ha
  obtain⟨_,_,rfl,rfl,rfl⟩:=hb
  refine(kQ 9999 Tryz.underlying50<|BN.cons (by decide) (dY wW _) (dY wW _) (yZ CZ _ _ w)<|BN.cons (by decide) (dY wW _) (dY wW _) (yZ CZ _ _ w) BN.nil).trans ?_
  congr 1
  cases a;cases b;unfold xY
  rw[gS]
  simp,by kernel_rfl⟩
theorem RR:yY bK 89 [(0,4),(4,1),(5,1),(6,1),(7,1)] #[n_,n_,n_,n_,n_,n_,n_,n_]:=yY.of (.agg #[n_,n_,n_,n_,n_,n_,n_,n_]) Tryz.underlying89
theorem C1:o5 bK 89 1 4:=qI
theorem qW:o5 bK 89 2 5:=qI
theorem uq:o5 bK 89 4 7:=qI
theorem uu:o5 bK 89 3 6:=qI
theorem NM:yY bK 124 [(0,1),(1,1),(2,1)] #[n_,n_,n_]:=yY.of (.agg #[n_,n_,n_]) Tryz.underlying124
theorem Jp:gm bK 105:=gF Tryz.func105
theorem NN:gm bK 106:=gF Tryz.func106
theorem pJ:o5 bK 89 0 0:=qI
theorem Qt:gm bK 98:=gF Tryz.func98
theorem Qu:gm bK 65:=gF Tryz.func65
theorem Qw:gm bK 16:=gF Tryz.func16
theorem MD:gm bK 97:=gF Tryz.func97
theorem Oy:gm bK 62:=gF Tryz.func62
theorem ME:Tryz.prog.underlying 30=some (.slice 4):=by kernel_rfl
theorem Qx:gm bK 64:=gF Tryz.func64
theorem Sy:gm bK 5:=gF Tryz.func5
theorem Lm:o5 bK 52 2 4:=qI
theorem R4:yY bK 58 [(0,1),(1,1),(2,1),(3,2)] #[(.string ⟨#[]⟩),(.string ⟨#[]⟩),(.int .i64 0),(.int .i64 0),(.int .i64 0)]:=yY.of (.agg #[(.string ⟨#[]⟩),(.string ⟨#[]⟩),(.int .i64 0),(.int .i64 0),(.int .i64 0)]) Tryz.underlying58
theorem R5:yY bK 27 [(0,1),(1,1),(2,1),(3,1)] #[n_,n_,n_,n_]:=yY.of (.agg #[n_,n_,n_,n_]) Tryz.underlying27
theorem R6:Ew bK 27 4:=Gg<|.agg #[n_,n_,n_,n_]
def rj(E:World)(V:List HP)(res:Option (List (List aH)×List aH×List bR×List cS×List (List aA)×List aF×List (List Int)×List cF×List Int×List Int×List Int×List dK)×Int)(v:Value)(w:World):Prop:=I9 res.1 (v = .tuple #[(.pointer none),vi res.2]/\Holds E w V) (λy=>∃(ub0:Nat)(B_ I_:Value)(J_ O_:Value)(K_ L_:Value)(F_ M_:Value)(P_ Q_:Value)(R_ S_:Value),v = .tuple #[vp ub0 0,vi res.2]/\Holds E w ([bc 72 ub0 [B_,I_,J_,O_,K_,L_,F_,M_,P_,Q_,R_,S_],rd B_ y.1,rd I_ y.2.1,rd J_ y.2.2.1,rd O_ y.2.2.2.1,own 129 K_ y.2.2.2.2.1,rd L_ y.2.2.2.2.2.1,rd F_ y.2.2.2.2.2.2.1,own 124 M_ y.2.2.2.2.2.2.2.1,rd P_ y.2.2.2.2.2.2.2.2.1,rd Q_ y.2.2.2.2.2.2.2.2.2.1,own 3 R_ y.2.2.2.2.2.2.2.2.2.2.1,own 75 S_ y.2.2.2.2.2.2.2.2.2.2.2]++V))
def oV(E:World)(V:List HP)(res:List Int)(v:Value)(w:World):Prop:=Holds E w<|[rd v res]++V
def mD(E:World)(V:List HP)(res:List aD)(v:Value)(w:World):Prop:=Holds E w<|[own 180 v res]++V
def ti(E:World)(V:List HP)(res:List eJ)(v:Value)(w:World):Prop:=Holds E w<|[own 9 v res]++V
def aV(E:World)(V:List HP)(res:Bool)(v:Value)(w:World):Prop:=v= vb res/\Holds E w V
def aS(E:World)(V:List HP)(res:Int)(v:Value)(w:World):Prop:=v= vi res/\Holds E w V
def gz(E:World)(V:List HP)(res:List aH)(v:Value)(w:World):Prop:=Holds E w<|[own 54 v res]++V
def nW(E:World)(V:List HP)(res:List Int)(v:Value)(w:World):Prop:=Holds E w<|[own 3 v res]++V
def oJ(E:World)(V:List HP)(res:List aA)(v:Value)(w:World):Prop:=Holds E w<|[own 168 v res]++V
def qD(E:World)(V:List HP)(res:aH)(v:Value)(w:World):Prop:=Holds E w<|[rd v res]++V
def yN(E:World)(V:List HP)(res:List Bool×Int)(v:Value)(w:World):Prop:=∃u0:Value,v = .tuple #[u0,vi res.2]/\Holds E w ([own 4 u0 res.1]++V)
def g8(E:World)(V:List HP)(b0:Nat)(e_ f_:Value)(a_ d_:Value)(h_ b_ g_:Value)(us0_6:List aY)(s_:List cF)(i_:Value)(res:Int)(v:Value)(w:World):Prop:=v= vi res/\Holds E w ([bc 89 b0 [e_,f_,a_,d_,h_,b_,g_,i_],own 124 g_ us0_6,jl bD us0_6 s_ none]++V)
def jv(E:World)(V:List HP)(b0:Nat)(e_ f_:Value)(a_ d_:Value)(h_ b_:Value)(g_ i_:Value)(res:Int)(v:Value)(w:World):Prop:=v= vi res/\Holds E w ([bc 89 b0 [e_,f_,a_,d_,h_,b_,g_,i_]]++V)
def lA(E:World)(V:List HP)(b0:Nat)(e_ f_:Value)(a_ d_:Value)(h_ b_:Value)(g_ i_:Value)(r_ o_:Value)(m_ l_:Value)(res:Int)(v:Value)(w:World):Prop:=v= vi res/\Holds E w ([bc 72 b0 [e_,f_,a_,d_,h_,b_,g_,i_,r_,o_,m_,l_]]++V)
def qE(E:World)(V:List HP)(res:List (List aH))(v:Value)(w:World):Prop:=Holds E w<|[own 23 v res]++V
def nX(E:World)(V:List HP)(res:Bool×Int)(v:Value)(w:World):Prop:=v = .tuple #[vb res.1,vi res.2]/\Holds E w V
def Bc(H:Type)(d:DataW H):Nat:=YtbdpcenmcmmdcaaGreatDoor.Rows.uptoBulk d
def Qz(H:Type)(d:List (DataW H)):Nat:=YtbdpcenmcmmdcaaGreatDoor.Rows.uptoBulkAll d
theorem gO:UB Bc Qz where
  str:=λH b=>by simp[Bc,YtbdpcenmcmmdcaaGreatDoor.Rows.uptoBulk]
  pos:=λH d=>by
    unfold Bc
    cases d with
    |lit l=>cases l <;> simp[YtbdpcenmcmmdcaaGreatDoor.Rows.uptoBulk]
    |nil=>simp[YtbdpcenmcmmdcaaGreatDoor.Rows.uptoBulk]
    |ptr d=>simp[YtbdpcenmcmmdcaaGreatDoor.Rows.uptoBulk]
    |slice elems spare=>simp[YtbdpcenmcmmdcaaGreatDoor.Rows.uptoBulk]
    |agg parts=>simp[YtbdpcenmcmmdcaaGreatDoor.Rows.uptoBulk]
    |iface t d=>simp[YtbdpcenmcmmdcaaGreatDoor.Rows.uptoBulk]
    |map entries=>simp[YtbdpcenmcmmdcaaGreatDoor.Rows.uptoBulk]
    |held h=>simp[YtbdpcenmcmmdcaaGreatDoor.Rows.uptoBulk]
  sl:=λH e s=>by simp[Bc,Qz,YtbdpcenmcmmdcaaGreatDoor.Rows.uptoBulk]
  ag:=λH l=>by simp[Bc,Qz,YtbdpcenmcmmdcaaGreatDoor.Rows.uptoBulk]
  nil:=λH=>by simp[Qz,YtbdpcenmcmmdcaaGreatDoor.Rows.uptoBulkAll]
  cons:=λH x l=>by simp[Bc,Qz,YtbdpcenmcmmdcaaGreatDoor.Rows.uptoBulkAll]
theorem Ki:kP Bc Tryz.prog 3 Int:=Kf gO (by kernel_rfl)
theorem R8:kP Bc Tryz.prog 54 aH:=kJ gO (λ(x:aH)=>(x.X0,x.Y0,x.X1,x.Y1)) (λb=>⟨b.1,b.2.1,b.2.2.1,b.2.2.2⟩) (λb=>rfl) Tryz.underlying54 (fE gO Ki<|fE gO Ki<|fE gO Ki<|oK gO Ki) (λb=>by simp only[MK];omega)
theorem QA:kP Bc Tryz.prog 23 (List aH):=qX (e:=54) gO R8
theorem R9:kP Bc Tryz.prog 22 (List<|List aH):=qX (e:=23) gO QA
theorem QB:kP Bc Tryz.prog 56 jX:=kJ gO (λ(x:jX)=>(x.X,x.Y)) (λb=>⟨b.1,b.2⟩) (λb=>rfl) Tryz.underlying56 (fE gO Ki<|oK gO Ki) (λb=>by simp only[Lu];omega)
theorem QV:kP Bc Tryz.prog 4 Bool:=Iv gO (by kernel_rfl)
theorem Sa:kP Bc Tryz.prog 79 bR:=kJ gO (λ(x:bR)=>(x.At,x.dT,x.cR,x.To,x.eN)) (λb=>⟨b.1,b.2.1,b.2.2.1,b.2.2.2.1,b.2.2.2.2⟩) (λb=>rfl) Tryz.underlying79 (fE gO QB<|fE gO Ki<|fE gO Ki<|fE gO Ki<|oK gO QV) (λb=>by simp only[ML];omega)
theorem Sb:kP Bc Tryz.prog 24 (List bR):=qX (e:=79) gO Sa
theorem QW:kP Bc Tryz.prog 9 eJ:=Kg gO (by kernel_rfl)
theorem Sd:kP Bc Tryz.prog 58 cS:=kJ gO (λ(x:cS)=>(x.Part,x.dQ,x.dN,x.At)) (λb=>⟨b.1,b.2.1,b.2.2.1,b.2.2.2⟩) (λb=>rfl) Tryz.underlying58 (fE gO QW<|fE gO QW<|fE gO Ki<|oK gO QB) (λb=>by simp only[Jt];omega)
theorem Se:kP Bc Tryz.prog 25 (List cS):=qX (e:=58) gO Sd
theorem Sf:kP Bc Tryz.prog 27 gQ:=kJ gO (λ(x:gQ)=>(x.aK,x.cJ,x.aN,x.bJ)) (λb=>⟨b.1,b.2.1,b.2.2.1,b.2.2.2⟩) (λb=>rfl) Tryz.underlying27 (fE gO R9<|fE gO QA<|fE gO Sb<|oK gO Se) (λb=>by simp only[Lv];omega)
theorem QC:kP Bc Tryz.prog 50 dQ:=kJ gO (λ(x:dQ)=>(x.Part,x.dQ)) (λb=>⟨b.1,b.2⟩) (λb=>rfl) Tryz.underlying50 (fE gO QW<|oK gO QW) (λb=>by simp only[OA];omega)
theorem Sg:kP Bc Tryz.prog 52 Test:=kJ gO (λ(x:Test)=>(x.A,x.B,x.Joined)) (λb=>⟨b.1,b.2.1,b.2.2⟩) (λb=>rfl) Tryz.underlying52 (fE gO QC<|fE gO QC<|oK gO QV) (λb=>by simp only[MM];omega)
theorem Sh:kP Bc Tryz.prog 28 (List Test):=qX (e:=52) gO Sg
theorem Si:kP Bc Tryz.prog 75 dK:=kJ gO (λ(x:dK)=>(x.bR,x.Number)) (λb=>⟨b.1,b.2⟩) (λb=>rfl) Tryz.underlying75 (fE gO QV<|oK gO Ki) (λb=>by simp only[OB];omega)
theorem Sj:kP Bc Tryz.prog 77 dX:=kJ gO (λ(x:dX)=>(x.Open,x.dK,x.A,x.B)) (λb=>⟨b.1,b.2.1,b.2.2.1,b.2.2.2⟩) (λb=>rfl) Tryz.underlying77 (fE gO QV<|fE gO Si<|fE gO Ki<|oK gO Ki) (λb=>by simp only[MN];omega)
theorem Sk:kP Bc Tryz.prog 29 (List dX):=qX (e:=77) gO Sj
end Go.Gk
namespace Go.Proofs
open Go.Shelf Go.RowKit Go.Lib Go.Sort
def Tryz.lay110_ren : Go.Shelf.Ren := ⟨fun | 6 => 110 | 15 => 142 | 14 => 141 | 28 => 163 | 29 => 164 | 20 => 155 | 21 => 156 | 22 => 157 | 23 => 158 | 24 => 159 | 25 => 160 | 26 => 161 | 27 => 162 | 46 => 178 | 47 => 179 | 48 => 180 | 49 => 181 | 50 => 182 | 57 => 191 | n => n, fun | 22 => 23 | 24 => 54 | 25 => 96 | 3 => 3 | 39 => 145 | 0 => 0 | 53 => 200 | 55 => 202 | 4 => 4 | 46 => 194 | 45 => 193 | 50 => 97 | 5 => 5 | 9 => 9 | 66 => 208 | 70 => 212 | 76 => 219 | 77 => 220 | n => n, fun | n => n⟩
theorem Tryz.lay110 : Go.Proofs.SlLaysF0.n6 Tryz.prog Tryz.lay110_ren := {
  mixed := by kernel_rfl
  f6 := ⟨Tryz.f110.name, by decide, Tryz.func110.trans (congrArg some (by kernel_rfl))⟩
  f14 := ⟨Tryz.f141.name, by decide, Tryz.func141.trans (congrArg some (by kernel_rfl))⟩
  f15 := Tryz.func142.trans (congrArg some (by kernel_rfl))
  f20 := ⟨Tryz.f155.name, by decide, Tryz.func155.trans (congrArg some (by kernel_rfl))⟩
  f21 := ⟨Tryz.f156.name, by decide, Tryz.func156.trans (congrArg some (by kernel_rfl))⟩
  f22 := ⟨Tryz.f157.name, by decide, Tryz.func157.trans (congrArg some (by kernel_rfl))⟩
  f23 := ⟨Tryz.f158.name, by decide, Tryz.func158.trans (congrArg some (by kernel_rfl))⟩
  f24 := ⟨Tryz.f159.name, by decide, Tryz.func159.trans (congrArg some (by kernel_rfl))⟩
  f25 := ⟨Tryz.f160.name, by decide, Tryz.func160.trans (congrArg some (by kernel_rfl))⟩
  f26 := ⟨Tryz.f161.name, by decide, Tryz.func161.trans (congrArg some (by kernel_rfl))⟩
  f27 := ⟨Tryz.f162.name, by decide, Tryz.func162.trans (congrArg some (by kernel_rfl))⟩
  f28 := Tryz.func163.trans (congrArg some (by kernel_rfl))
  f29 := Tryz.func164.trans (congrArg some (by kernel_rfl))
  f46 := ⟨Tryz.f178.name, by decide, Tryz.func178.trans (congrArg some (by kernel_rfl))⟩
  f47 := Tryz.func179.trans (congrArg some (by kernel_rfl))
  f48 := Tryz.func180.trans (congrArg some (by kernel_rfl))
  f49 := ⟨Tryz.f181.name, by decide, Tryz.func181.trans (congrArg some (by kernel_rfl))⟩
  f50 := ⟨Tryz.f182.name, by decide, Tryz.func182.trans (congrArg some (by kernel_rfl))⟩
  f57 := ⟨Tryz.f191.name, by decide, Tryz.func191.trans (congrArg some (by kernel_rfl))⟩
  t0 := Tryz.underlying0
  a0 := Tryz.isAgg0
  z0 := Tryz.sizeOf0
  v0 := Tryz.zeroValue0
  t3 := Tryz.underlying3
  a3 := Tryz.isAgg3
  z3 := Tryz.sizeOf3
  v3 := Tryz.zeroValue3
  t4 := Tryz.underlying4
  a4 := Tryz.isAgg4
  z4 := Tryz.sizeOf4
  v4 := Tryz.zeroValue4
  t5 := Tryz.underlying5
  a5 := Tryz.isAgg5
  z5 := Tryz.sizeOf5
  v5 := Tryz.zeroValue5
  t9 := Tryz.underlying9
  a9 := Tryz.isAgg9
  z9 := Tryz.sizeOf9
  v9 := Tryz.zeroValue9
  t22 := Tryz.underlying23
  a22 := Tryz.isAgg23
  z22 := Tryz.sizeOf23
  v22 := Tryz.zeroValue23
  t25 := Tryz.underlying96
  a25 := Tryz.isAgg96
  z25 := Tryz.sizeOf96
  v25 := Tryz.zeroValue96
  t39 := Tryz.underlying145
  a39 := Tryz.isAgg145
  z39 := Tryz.sizeOf145
  v39 := Tryz.zeroValue145
  t45 := Tryz.underlying193
  a45 := Tryz.isAgg193
  z45 := Tryz.sizeOf193
  v45 := Tryz.zeroValue193
  t46 := Tryz.underlying194
  a46 := Tryz.isAgg194
  z46 := Tryz.sizeOf194
  v46 := Tryz.zeroValue194
  t50 := Tryz.underlying97
  a50 := Tryz.isAgg97
  z50 := Tryz.sizeOf97
  v50 := Tryz.zeroValue97
  t53 := Tryz.underlying200
  a53 := Tryz.isAgg200
  z53 := Tryz.sizeOf200
  v53 := Tryz.zeroValue200
  t55 := Tryz.underlying202
  a55 := Tryz.isAgg202
  z55 := Tryz.sizeOf202
  v55 := Tryz.zeroValue202
  t66 := Tryz.underlying208
  a66 := Tryz.isAgg208
  z66 := Tryz.sizeOf208
  v66 := Tryz.zeroValue208
  t70 := Tryz.underlying212
  a70 := Tryz.isAgg212
  z70 := Tryz.sizeOf212
  v70 := Tryz.zeroValue212
  t76 := Tryz.underlying219
  a76 := Tryz.isAgg219
  z76 := Tryz.sizeOf219
  v76 := Tryz.zeroValue219
  t77 := Tryz.underlying220
  a77 := Tryz.isAgg220
  z77 := Tryz.sizeOf220
  v77 := Tryz.zeroValue220 }
def Tryz.lay112_ren : Go.Shelf.Ren := ⟨fun | 5 => 112 | 8 => 142 | 7 => 143 | 19 => 163 | 20 => 164 | 10 => 165 | 11 => 166 | 12 => 167 | 13 => 168 | 14 => 169 | 15 => 170 | 16 => 171 | 17 => 172 | 18 => 173 | 30 => 183 | 31 => 179 | 32 => 180 | 33 => 184 | 34 => 185 | 35 => 186 | 40 => 192 | n => n, fun | 23 => 69 | 25 => 3 | 3 => 3 | 32 => 145 | 22 => 69 | 0 => 0 | 44 => 200 | 46 => 202 | 4 => 4 | 36 => 194 | 35 => 193 | 41 => 97 | 5 => 5 | 9 => 9 | 53 => 208 | 57 => 212 | 63 => 219 | 64 => 220 | n => n, fun | n => n⟩
theorem Tryz.lay112 : Go.Proofs.SlLaysM.n5 Tryz.prog Tryz.lay112_ren := {
  mixed := by kernel_rfl
  f5 := ⟨Tryz.f112.name, by decide, Tryz.func112.trans (congrArg some (by kernel_rfl))⟩
  f7 := ⟨Tryz.f143.name, by decide, Tryz.func143.trans (congrArg some (by kernel_rfl))⟩
  f8 := Tryz.func142.trans (congrArg some (by kernel_rfl))
  f10 := ⟨Tryz.f165.name, by decide, Tryz.func165.trans (congrArg some (by kernel_rfl))⟩
  f11 := ⟨Tryz.f166.name, by decide, Tryz.func166.trans (congrArg some (by kernel_rfl))⟩
  f12 := ⟨Tryz.f167.name, by decide, Tryz.func167.trans (congrArg some (by kernel_rfl))⟩
  f13 := ⟨Tryz.f168.name, by decide, Tryz.func168.trans (congrArg some (by kernel_rfl))⟩
  f14 := ⟨Tryz.f169.name, by decide, Tryz.func169.trans (congrArg some (by kernel_rfl))⟩
  f15 := ⟨Tryz.f170.name, by decide, Tryz.func170.trans (congrArg some (by kernel_rfl))⟩
  f16 := ⟨Tryz.f171.name, by decide, Tryz.func171.trans (congrArg some (by kernel_rfl))⟩
  f17 := ⟨Tryz.f172.name, by decide, Tryz.func172.trans (congrArg some (by kernel_rfl))⟩
  f18 := ⟨Tryz.f173.name, by decide, Tryz.func173.trans (congrArg some (by kernel_rfl))⟩
  f19 := Tryz.func163.trans (congrArg some (by kernel_rfl))
  f20 := Tryz.func164.trans (congrArg some (by kernel_rfl))
  f30 := ⟨Tryz.f183.name, by decide, Tryz.func183.trans (congrArg some (by kernel_rfl))⟩
  f31 := Tryz.func179.trans (congrArg some (by kernel_rfl))
  f32 := Tryz.func180.trans (congrArg some (by kernel_rfl))
  f33 := ⟨Tryz.f184.name, by decide, Tryz.func184.trans (congrArg some (by kernel_rfl))⟩
  f34 := ⟨Tryz.f185.name, by decide, Tryz.func185.trans (congrArg some (by kernel_rfl))⟩
  f35 := ⟨Tryz.f186.name, by decide, Tryz.func186.trans (congrArg some (by kernel_rfl))⟩
  f40 := ⟨Tryz.f192.name, by decide, Tryz.func192.trans (congrArg some (by kernel_rfl))⟩
  t0 := Tryz.underlying0
  a0 := Tryz.isAgg0
  z0 := Tryz.sizeOf0
  v0 := Tryz.zeroValue0
  t3 := Tryz.underlying3
  a3 := Tryz.isAgg3
  z3 := Tryz.sizeOf3
  v3 := Tryz.zeroValue3
  t4 := Tryz.underlying4
  a4 := Tryz.isAgg4
  z4 := Tryz.sizeOf4
  v4 := Tryz.zeroValue4
  t5 := Tryz.underlying5
  a5 := Tryz.isAgg5
  z5 := Tryz.sizeOf5
  v5 := Tryz.zeroValue5
  t9 := Tryz.underlying9
  a9 := Tryz.isAgg9
  z9 := Tryz.sizeOf9
  v9 := Tryz.zeroValue9
  t22 := Tryz.underlying69
  a22 := Tryz.isAgg69
  z22 := Tryz.sizeOf69
  v22 := Tryz.zeroValue69
  t23 := Tryz.underlying69
  a23 := Tryz.isAgg69
  z23 := Tryz.sizeOf69
  v23 := Tryz.zeroValue69
  t25 := Tryz.underlying3
  a25 := Tryz.isAgg3
  z25 := Tryz.sizeOf3
  v25 := Tryz.zeroValue3
  t32 := Tryz.underlying145
  a32 := Tryz.isAgg145
  z32 := Tryz.sizeOf145
  v32 := Tryz.zeroValue145
  t35 := Tryz.underlying193
  a35 := Tryz.isAgg193
  z35 := Tryz.sizeOf193
  v35 := Tryz.zeroValue193
  t36 := Tryz.underlying194
  a36 := Tryz.isAgg194
  z36 := Tryz.sizeOf194
  v36 := Tryz.zeroValue194
  t41 := Tryz.underlying97
  a41 := Tryz.isAgg97
  z41 := Tryz.sizeOf97
  v41 := Tryz.zeroValue97
  t44 := Tryz.underlying200
  a44 := Tryz.isAgg200
  z44 := Tryz.sizeOf200
  v44 := Tryz.zeroValue200
  t46 := Tryz.underlying202
  a46 := Tryz.isAgg202
  z46 := Tryz.sizeOf202
  v46 := Tryz.zeroValue202
  t53 := Tryz.underlying208
  a53 := Tryz.isAgg208
  z53 := Tryz.sizeOf208
  v53 := Tryz.zeroValue208
  t57 := Tryz.underlying212
  a57 := Tryz.isAgg212
  z57 := Tryz.sizeOf212
  v57 := Tryz.zeroValue212
  t63 := Tryz.underlying219
  a63 := Tryz.isAgg219
  z63 := Tryz.sizeOf219
  v63 := Tryz.zeroValue219
  t64 := Tryz.underlying220
  a64 := Tryz.isAgg220
  z64 := Tryz.sizeOf220
  v64 := Tryz.zeroValue220 }
end Go.Proofs
namespace Go.Gk
open Go IntKind Go.Proofs
variable (N:Nat){E w:World}{i0 i1 i2:Nat}{p0 p1 p2 res:Int}{v0 v1 v2:Value}{V:List HP}
theorem Ci{res:Bool}(o:Holds E w V)(j:vK N p0 p1 p2=some res):c_ 150 [vi p0,vi p1,vi p2] w<|aV E V res:=by
 unfold vK at j;refine enter Tryz.func150 zr zr<|w_<|bW false<|OF<|aX p0<|aX p1<|ic p0 p1<|fp (decide<|p0>=p1)<|BY true (decide<|p0>=p1) (vi p0) zr zr zr cD ?_;refine BY true (decide<|p0>=p1) (vi p2) rfl rfl rfl cD<|BY true (decide<|p0>=p1) (vb<|decide<|p0<=p2) rfl rfl rfl (cZ .leq .i64 p0 p2 rfl (by exact z_ (vi p0)) (by exact z_ (vi p2)) rfl)<|Tw (b:=decide<|p0>=p1) (v:=vb<|decide (p0>=p1)&&decide (p0<=p2)) trivial rfl rfl (fA true)<|bW (decide (p0>=p1)&&decide (p0<=p2))<|AI<|S4 ?_;exact oi j▸bT ⟨rfl,o.drop 0⟩
theorem nc{res:Bool}(o:Holds E w V)(j:mA N p0=some res):c_ 123 [vi p0] w<|aV E V res:=by
 unfold mA at j;exact enter Tryz.func123 zr zr<|w_<|bW false<|OF<|aX p0<|q_ j λaa ab j=>SZ (gF Tryz.func150) (Ci N (p0:=p0) (p1:=(-1000000)) (p2:=1000000) o ab) λw o=>bW aa<|AI<|S4<|oi j▸bT ⟨rfl,o.drop 0⟩
theorem wA{p0:aH}{res:Bool}(j:Holds E w V)(h0:V[i0]? =some (rd v0 p0))(hb:oz N p0=some res):c_ 108 [v0] w<|aV E V res:=by
 unfold oz at hb;refine enter Tryz.func108 zr zr ?_;have j:=j.dup (i0+0) h0;refine w_<|Tq 0 v0 j zr λaq w j=>?_;refine bW false<|SU<|q_ hb λaf o hb=>S8 (λ(af:Bool)=>SH E V [(2,vb af)] []) af ?_ ?_;refine IS<|AT zr iU<|SW 0 j zr dZ cB<|q_ o λaj ak o=>SZ EM (nc N (p0:=p0.X0) j ak) λw j=>fp aj<|eD o (λaa o=>?_) λaa o=>?_;refine AT (hg:=cg aa) zr iM<|SW (hg:=cg aa) 0 j zr dR cB<|q_ o λag al o=>SZ (hg:=cg aa) EM (nc N (p0:=p0.Y0) j al) λw j=>eB aa (vb ag)<|fp ag<|eD o (λab o=>?_) λab o=>?_;refine AT (hg:=cg ab) zr jT<|SW (hg:=cg ab) 0 j zr eP cB<|q_ o λah an o=>SZ (hg:=cg ab) EM (nc N (p0:=p0.X1) j an) λw j=>eB ab (vb ah)<|fp ah<|eD o (λad o=>?_) λad o=>?_;exact AT (hg:=cg ad) zr lz<|SW (hg:=cg ad) 0 j zr fZ cB<|q_ o λai ao o=>SZ (hg:=cg ad) EM (nc N (p0:=p0.Y1) j ao) λw j=>eB ad (vb ai)<|bW ai<|By<|oi o▸⟨rfl,j.sp 2 []⟩;exact aW ad<|aW ad<|aW ad<|eB ad (vb false)<|bW false<|By<|oi o▸⟨rfl,j.sp 2 []⟩;refine aW ab<|aW ab<|aW ab<|eB ab (vb false)<|fp false<|kE<|kE<|kE<|Tw (b:=false) (v:=vb false) zt zr zr zr<|bW false<|By ?_;exact oi o▸⟨rfl,j.sp 2 []⟩;refine aW aa<|aW aa<|aW aa<|eB aa (vb false)<|fp false<|kE<|kE<|kE<|Tw (b:=false) (v:=vb false) zt zr zr zr<|fp false<|kE<|kE<|kE<|Tw (b:=false) (v:=vb false) zt zr zr zr<|bW false<|By ?_;exact oi o▸⟨rfl,j.sp 2 []⟩;rintro _ w⟨O,rfl,j⟩;exact aC<|S4<|oi hb▸bT ⟨rfl,j.drop 0⟩
theorem yt{p0:List aH}(o:Holds E w V)(h0:V[i0]? =some (rd v0 p0))(hb:l9 N p0=some res):c_ 72 [v0] w<|aS E V res:=by
 unfold l9 at hb;refine enter Tryz.func72 zr zr ?_;have o:=o.dup (i0+0) h0;refine w_<|aL 0<|SU<|w_<|mv v0<|SY 0 p0 o oU<|ic ((p0.length:Int)) 2000<|AI<|cY hb (λhb=>?_) λhb=>?_;exact w_<|aL 2<|AI<|Tj<|oi hb▸bT ⟨rfl,o.drop 1⟩;refine Tb<|w_<|mv v0<|SY 0 p0 o oU<|aX 0<|AI<|T5 E V (λ(ae:Unit)=>[rd v0 p0]) (λ_=>[]) (λad _=>[(8,v0),(9,vi p0.length),(10,vi ad)]) (λr=>lx bK 30 Tryz.f72 (aS E V r) .ret) hb ?_ ?_ ?_ ?_;exact o.sp 1 [0];rintro hm ad ae fl _ w hk⟨O,rfl,o⟩hb;refine IN<|Tp<|q_ hb λj ah hb=>SV 0 o jJ ah λan o=>Ta 0 j o jk λao o=>TG o qz.z λab w o=>?_;refine TB 0 o 1 zr jk λw o=>?_;refine SU<|w_<|Tz 0 o zr jk λaq o=>?_;refine q_ hb λai aj hb=>SZ Nf (wA N (i0:=0) o zr aj) λw o=>Ty ai<|AI<|cY hb (λhb=>?_) λhb=>?_;exact w_<|aL 1<|AI<|Tj<|jM<|bE<|oi hb▸⟨rfl,bT ⟨rfl,o.drop 5⟩⟩;refine TP<|AT rfl jT<|SW 1 o rfl eP cB<|AT rfl iU<|SW 1 o rfl dZ cB<|ic j.X1 j.X0<|fp (decide<|j.X1<=j.X0)<|BY true (decide<|j.X1<=j.X0) (vp ab 3) rfl rfl rfl (dB lz)<|BY true (decide<|j.X1<=j.X0) (vi j.Y1) rfl rfl rfl (bU 1 rfl o (by exact z_ (vp ab 3)) rfl fZ cB) ?_;refine BY true (decide<|j.X1<=j.X0) (vp ab 1) rfl rfl rfl (dB iM)<|BY true (decide<|j.X1<=j.X0) (vi j.Y0) rfl rfl rfl (bU 1 rfl o (by exact z_ (vp ab 1)) rfl dR cB)<|BY true (decide<|j.X1<=j.X0) (vb<|decide<|j.Y1<=j.Y0) rfl rfl rfl (cZ .leq .i64 j.Y1 j.Y0 rfl (by exact z_ (vi j.Y1)) (by exact z_ (vi j.Y0)) rfl)<|Tw (b:=decide<|j.X1<=j.X0) (v:=vb<|decide (j.X1<=j.X0)||decide (j.Y1<=j.Y0)) trivial rfl rfl (nB true rfl)<|AI<|cY hb (λhb=>?_) λhb=>?_;exact w_<|aL 13<|AI<|TE<|bE<|oi hb▸⟨rfl,bT ⟨rfl,o.drop 5⟩⟩;exact Tr<|bH<|aC<|IS<|TI hk hm<|aX ((ad+1:Nat):Int)<|By<|oi hb▸⟨rfl,o.sp 5 [4]⟩;intro r U w hb hK;exact bE<|oi hb▸hK;rintro ae _ w hb⟨O,rfl,o⟩;exact aC<|w_<|aL 0<|AI<|S4<|oi hb▸bT ⟨rfl,o.drop 1⟩
theorem xk{p0:List aH}{res:List aH}(j:Holds E w V)(h0:V[i0]? =some (rd v0 p0))(o:ki N p0=some res):
    c_ 109 [v0] w<|gz E V res:=by
 unfold ki at o
 refine enter Tryz.func109 zr zr ?_
 have j:=j.dup (i0+0) h0
 refine w_<|dG n_<|SU<|w_<|mv v0<|VB (i:=0) zt zr j zr zr zr oU<|AI<|UH (b:=Mr v0) zr (λhc=>?_)<|λhc=>?_
 ·have hx:=j.Q1 (i:=0) rfl hc
  rw[hx]at o
  replace o:some ([]:List aH)=_:=o
  refine w_<|dG n_<|AI<|Tj ?_
  obtain rfl:=oi o
  have j:=j.cQ aH 54
  exact bT<|j.pk 2 [0]
 refine TP<|TC ([]:List aH) j [] jJ qz (λM hs g=>zt) λae w j=>mv v0 ?_
 obtain⟨af,ab,o⟩:=bd o
 refine TH 0 1 j CY ab λad w j=>?_
 refine dG ad<|AI<|S4 ?_
 obtain rfl:=oi o
 exact bT<|j.pk 2 [0]
theorem Aj{p0 p1:aH}(j:Holds E w V)(h0:V[i0]? =some (rd v0 p0))(h1:V[i1]? =some (rd v1 p1))(o:kY N p0 p1=some res):c_ 111 [v0,v1] w<|aS E V res:=by
 unfold kY at o;refine enter Tryz.func111 zr zr ?_;have j:=(j.dup (i0+0) h0).dup (i1+1) h1;refine w_<|Tq 1 v0 j zr λaa w j=>?_;refine Tq 1 v1 j zr λab w j=>?_;refine aL 0<|OF<|AT zr iM<|SW 1 j zr dR cB<|AT zr iM<|SW 0 j zr dR cB<|SX p0.Y0 p1.Y0<|aL (wrap .i64<|p0.Y0 - p1.Y0)<|AI ?_;exact S4<|oi o▸bT ⟨rfl,j.drop 4⟩
theorem wJ{p0:List Int}{res:List Int}(j:Holds E w (own 3 v0 p0::V))(o:iR N p0=some res):c_ 113 [v0] w<|nW E V res:=by
 unfold iR at o;refine enter Tryz.func113 zr zr<|w_<|dG n_<|SU<|w_<|mv v0<|TV (i:=0) (l:=p0) zt zr j zr zr mj<|ic ((p0.length:Int)) 2<|AI<|cY o (λo=>?_) λo=>?_;refine w_<|mv v0<|dG v0<|AI<|Tj ?_;obtain rfl:=oi o;exact bT<|j.pk 1 [0];refine Tb<|w_<|aL 1<|AI<|TY E V (λ(ab:Int)=>[own 3 v0 p0]) (λ_=>[(0,v0)]) (λab=>[(3,vi ab)]) (λr=>lx bK 61 Tryz.f113 (nW E V r) .ret) o ?_ ?_ ?_ ?_;exact j.sp 1 [0];rintro ab fl _ w⟨O,rfl,j⟩o;refine IN<|w_<|aX ab<|mv v0<|TV (i:=0) (l:=p0) zt zr j zr zr mj<|ic ab ((p0.length:Int))<|AI<|cY o (λo=>?_) λo=>?_;refine Tb<|TF<|IN<|TS mixed ?_;have j:=j.drew;refine TR<|mv v0<|AS<|aX ab<|AS<|q_ o λaq aj o=>Tg 0 j zr zr dM aj<|AS<|TQ 0 j aj cB<|AS<|mv v0<|AS<|aX ab<|AS<|SX ab 1 ?_;refine AS<|q_ o λar ak o=>Tg 0 j zr zr dM ak<|AS<|TQ 0 j ak cB<|AS<|ic aq ar<|TL<|aC<|cY o (λo=>?_) λo=>?_;refine w_<|mv v0<|aX ab<|q_ o λa0 ae o=>U4 0 ab zr j zr zr dM ae<|dG (vw v0 (Int.toNat ab) 1)<|SU<|w_<|aL 1<|AI<|T9 E V (λ(aa:List Int×Int×Int)=>[own 3 v0 aa.1]) (λaa=>[(0,v0),(3,vi aa.2.1)]) (λaa=>[(4,vw v0 (Int.toNat ab) 1),(5,vi aa.2.2)]) o ?_ ?_ ?_;exact j.sp 1 [0];rintro aa fl _ w⟨O,rfl,j⟩o;refine IN<|w_<|aX aa.2.2<|mv (vw v0 (Int.toNat ab) 1)<|VC (i:=0) (l:=aa.1) zt zr j zr zr mj<|ic aa.2.2 ((((aa.1.length - Int.toNat ab):Nat):Int))<|AI<|cY o (λo=>?_) λo=>?_;refine Tb<|TF<|IN<|TS mixed ?_;have j:=j.drew;refine TR<|mv (vw v0 (Int.toNat ab) 1)<|AS<|aX aa.2.2<|AS<|q_ o λau af o=>U5 0 ab zr j zr zr zr dM (Ih ae) (lD af).1 (lD af).2<|AS<|Ud (f:=(λx=>x)) 0 zt j (rn 0 j (lD af).2 0) (fI (lD af).2).2.1 Fd.self cB<|AS<|mv (vw v0 (Int.toNat ab) 1)<|AS<|aX aa.2.2<|AS<|SX aa.2.2 1 ?_;refine AS<|q_ o λav ag o=>U5 0 ab zr j zr zr zr dM (Ih ae) (lD ag).1 (lD ag).2<|AS<|Ud (f:=(λx=>x)) 0 zt j (rn 0 j (lD ag).2 0) (fI (lD ag).2).2.1 Fd.self cB<|AS<|ic au av<|TL<|aC<|q_ o λah hj o=>S8 (λ(ah:List Int×Int)=>SH E V [(0,v0),(3,vi ah.2),(4,vw v0 (Int.toNat ab) 1),(5,vi aa.2.2)] [own 3 v0 ah.1]) ah ?_ ?_;refine cY hj (λhj=>?_) λhj=>?_;refine w_<|mv v0<|aX aa.2.1<|mv (vw v0 (Int.toNat ab) 1)<|aX aa.2.2<|q_ hj λaw ai hj=>U5 0 ab zr j zr zr zr dM (Ih ae) (lD ai).1 (lD ai).2<|Ud (f:=(λx=>x)) 0 zt j (rn 0 j (lD ai).2 0) (fI (lD ai).2).2.1 Fd.self cB<|q_ hj λa1 al hj=>Tg 0 j zr zr dM al ?_;have j:=j.sc Int aw;refine TZ 1 0 j al cB λw j=>?_;refine AI<|IS<|aX aa.2.1<|SX aa.2.1 1<|aL (wrap .i64<|aa.2.1+1)<|By ?_;exact oi hj▸⟨rfl,j.sp 2 [1]⟩;exact Tr<|oi hj▸⟨rfl,j.sp 1 [0]⟩;rintro _ w⟨O,rfl,j⟩;refine bH<|aC<|IS<|aX aa.2.2<|SX aa.2.2 1<|aL (wrap .i64<|aa.2.2+1)<|By ?_;exact oi o▸⟨rfl,j.sp 1 [0]⟩;exact Tm<|oi o▸⟨rfl,j.sp 1 [0]⟩;rintro aa _ w o⟨O,rfl,j⟩;refine aC<|w_<|mv v0<|aX aa.2.1<|q_ o λa2 an o=>U4 0 aa.2.1 zr j zr zr dM an<|Vm 0 zt j zr zr rA Oe (KY an) λw j=>OF<|mv v0<|aX aa.2.1<|q_ o λa3 ax o=>U3 0 zr j zr zr dM (.inr ⟨rfl,zr⟩) ax λay j=>dG ay<|AI<|TE<|bE ?_;obtain rfl:=oi o;exact⟨rfl,bT<|j.pk 1 [0]⟩;refine Tr<|bH<|aC<|IS<|aX ab<|SX ab 1<|aL (wrap .i64<|ab+1)<|By ?_;exact oi o▸⟨rfl,j.sp 1 [0]⟩;exact Tm<|oi o▸⟨rfl,j.sp 1 [0]⟩;intro r U w o hK;exact bE<|oi o▸hK;rintro ab _ w o⟨O,rfl,j⟩;refine aC<|w_<|mv v0<|dG v0<|AI<|S4 ?_;obtain rfl:=oi o;exact bT<|j.pk 1 [0]
theorem Ak{p0:aH}{p1:List Int}{res:Bool}(j:Holds E w V)(h0:V[i0]? =some (rd v0 p0))(h1:V[i1]? =some (pt v1 p1))(h2:V[i2]? =some (pt v2 p2))(o:qp N p0 p1 p2=some res):c_ 115 [v0,v1,v2] w<|aV E V res:=by
 unfold qp at o;refine enter Tryz.func115 zr zr ?_;have j:=((j.dup (i0+0) h0).CJ (i:=i1+1) h1).CJ (i:=i2+2) h2;refine w_<|Tq 2 v0 j zr λad w j=>?_;refine bW false<|SU<|TS mixed ?_;have j:=j.drew;refine TR<|AT zr lz<|AS<|SW 0 j zr fZ cB<|AS<|Ta 2 p1 j fW λae j=>AS<|Te p2 2 j cB<|AS<|q_ o λaa ab o=>SV 0 j dM ab λaf j=>AS<|Te aa 0 j cB<|AS<|ic p0.Y1 aa<|AS<|bW (decide<|p0.Y1<=aa)<|TL<|aC ?_;exact S4<|oi o▸bT ⟨rfl,j.drop 6⟩
theorem ux{p0:List aH}{p1:aH->Option Bool}(o:Holds E w V)(h0:V[i0]? =some (rd v0 p0))(h1:Mc bK E V v1 p1 (λ(r:Bool)=>Value.bool r))(j:ni N p0 p1=some res):c_ 127 [v0,v1] w<|aS E V res:=by
 unfold ni at j;refine enter Tryz.func127 zr zr ?_;have o:=o.dup (i0+0) h0;refine w_<|aL 0<|SU<|w_<|mv v0<|SY 0 p0 o oU<|aX 0<|AI<|T5 E V (λ(ab:Unit)=>[rd v0 p0]) (λ_=>[]) (λaa _=>[(0,v0),(1,v1),(7,vi p0.length),(8,vi aa)]) (λr=>lx bK 19 Tryz.f127 (aS E V r) .ret) j ?_ ?_ ?_ ?_;exact o.sp 1 [0];rintro hm aa ab fl _ w hk⟨O,rfl,o⟩j;refine IN<|Tp<|aX (aa:Int)<|aL (aa:Int)<|OF<|mv v1<|mv v0<|aX (aa:Int)<|q_ j λaf ag j=>SV 0 o jJ ag λak o=>Ta 0 af o jk λal o=>?_;refine q_ j λan ah j=>UL 0 zr o zr h1 3 zr zr zr ah λw o=>AI<|cY j (λj=>?_) λj=>?_;exact w_<|aX (aa:Int)<|aL (aa:Int)<|AI<|TE<|bE<|oi j▸⟨rfl,bT ⟨rfl,o.drop 3⟩⟩;exact Tr<|bH<|aC<|IS<|TI hk hm<|aX ((aa+1:Nat):Int)<|By<|oi j▸⟨rfl,o.sp 3 [2]⟩;intro r U w j hK;exact bE<|oi j▸hK;rintro ab _ w j⟨O,rfl,o⟩;exact aC<|w_<|aL (-1)<|AI<|S4<|oi j▸bT ⟨rfl,o.drop 1⟩
def nY(E:World)(V:List HP)(v0:Value)(p0:List aH)(res:Int)(v:Value)(w:World):Prop:=v= vi res/\Holds E w ([own 54 v0 p0]++V)
theorem sE{p0:List aH}{p1:aH->Option Bool}(o:Holds E w (own 54 v0 p0::V))(h1:Mc bK E V v1 p1 (λ(r:Bool)=>Value.bool r))(j:lW N p0 p1=some res):c_ 127 [v0,v1] w<|nY E V v0 p0 res:=by
 unfold lW at j;refine enter Tryz.func127 zr zr<|w_<|aL 0<|SU<|w_<|mv v0<|TV (i:=0) (l:=p0) zt zr o zr zr oU<|aX 0<|AI<|T5 E V (λ(ab:Unit)=>[own 54 v0 p0]) (λ_=>[(0,v0)]) (λaa _=>[(1,v1),(7,vi p0.length),(8,vi aa)]) (λr=>lx bK 19 Tryz.f127 (nY E V v0 p0 r) .ret) j ?_ ?_ ?_ ?_;exact o.sp 1 [0];rintro hm aa ab fl _ w hk⟨O,rfl,o⟩j;refine IN<|Tp<|aX (aa:Int)<|aL (aa:Int)<|OF<|mv v1<|mv v0<|aX (aa:Int)<|q_ j λaj ad j=>Tg 0 o zr zr jJ ad<|Uj 0 o ad jk λak o=>?_;refine q_ j λal ag j=>UL 0 zr o zr h1 2 zr zr zr ag λw o=>AI<|cY j (λj=>?_) λj=>?_;exact w_<|aX (aa:Int)<|aL (aa:Int)<|AI<|TE<|bE<|oi j▸⟨rfl,bT ⟨rfl,o.pk 2 [1]⟩⟩;exact Tr<|bH<|aC<|IS<|TI hk hm<|aX ((aa+1:Nat):Int)<|By<|oi j▸⟨rfl,o.sp 2 [1]⟩;intro r U w j hK;exact bE<|oi j▸hK;rintro ab _ w j⟨O,rfl,o⟩;exact aC<|w_<|aL (-1)<|AI<|S4<|oi j▸bT ⟨rfl,o.pk 1 [0]⟩
theorem tM{p0:List aH}{p1:aH->Option Bool}{res:List aH}(j:Holds E w (own 54 v0 p0::V))(h1:Mc bK E V v1 p1 (λ(r:Bool)=>Value.bool r))(o:jr N p0 p1=some res):c_ 114 [v0,v1] w<|gz E V res:=by
 unfold jr at o;refine enter Tryz.func114 zr zr<|w_<|dG n_<|OF<|mv v0<|mv v1 ?_;have j:=j.pull 0;refine q_ o λad ai o=>SZ Nh (sE N j (h1.lift 1 zr) ai) λw j=>aL ad<|SU<|w_<|aX ad<|ic ad ((-1))<|AI<|cY o (λo=>?_) λo=>?_;refine w_<|mv v0<|dG v0<|AI<|Tj ?_;obtain rfl:=oi o;exact bT<|j.pk 2 [0];refine Tb<|w_<|aX ad<|SX ad 1<|aL (wrap .i64<|ad+1)<|AI<|T9 E V (λ(aa:List aH×Int×Int)=>[own 54 v0 aa.1]) (λaa=>[(0,v0),(5,vi aa.2.1)]) (λaa=>[(1,v1),(6,vi aa.2.2)]) o ?_ ?_ ?_;exact j.sp 2 [0];rintro aa fl _ w⟨O,rfl,j⟩o;refine IN<|w_<|aX aa.2.2<|mv v0<|TV (i:=0) (l:=aa.1) zt zr j zr zr oU<|ic aa.2.2 ((aa.1.length:Int))<|AI<|cY o (λo=>?_) λo=>?_;refine Tb<|Tp<|mv v0<|aX aa.2.2<|q_ o λaq af o=>Tg 0 j zr zr jJ af<|Uj 0 j af jk λar j=>?_;refine TG j qz.z λau w j=>?_;refine TB 0 j 1 zr jk λw j=>?_;refine OF<|mv v1<|Tz 0 j zr jk λav j=>?_;refine q_ o λaj ak o=>UL 0 zr j zr h1 4 zr zr zr ak λw j=>Ty aj<|AI<|q_ o λae hj o=>S8 (λ(ae:List aH×Int)=>SH E V [(0,v0),(1,v1),(5,vi ae.2),(6,vi aa.2.2)] [own 54 v0 ae.1]) ae ?_ ?_;refine cY hj (λhj=>?_) λhj=>?_;refine w_<|mv v0<|aX aa.2.1<|Tz 1 j zr jk λaw j=>?_;refine q_ hj λax ag hj=>Tg 4 j zr zr jJ ag<|TZ 4 0 j ag jk λw j=>?_;refine AI<|IS<|aX aa.2.1<|SX aa.2.1 1<|aL (wrap .i64<|aa.2.1+1)<|By ?_;exact oi hj▸⟨rfl,j.sp 5 [4]⟩;exact Tr<|oi hj▸⟨rfl,j.sp 4 [3]⟩;rintro _ w⟨O,rfl,j⟩;refine bH<|aC<|IS<|aX aa.2.2<|SX aa.2.2 1<|aL (wrap .i64<|aa.2.2+1)<|By ?_;exact oi o▸⟨rfl,j.sp 1 [0]⟩;exact Tm<|oi o▸⟨rfl,j.sp 1 [0]⟩;rintro aa _ w o⟨O,rfl,j⟩;refine aC<|w_<|mv v0<|aX aa.2.1<|q_ o λay ah o=>U4 0 aa.2.1 zr j zr zr jJ ah<|Vm 0 zt j zr zr CY Q6 (KY ah) λw j=>OF<|mv v0<|aX aa.2.1<|q_ o λaz al o=>U3 0 zr j zr zr jJ (.inr ⟨rfl,zr⟩) al λan j=>dG an<|AI<|S4 ?_;obtain rfl:=oi o;exact bT<|j.pk 1 [0]
theorem wK{p0 p1:aH}(j:Holds E w V)(h0:V[i0]? =some (rd v0 p0))(h1:V[i1]? =some (rd v1 p1))(o:iS N p0 p1=some res):c_ 145 [v0,v1] w<|aS E V res:=by
 unfold iS at o;refine enter Tryz.func145 zr zr ?_;have j:=(j.dup (i0+0) h0).dup (i1+1) h1;refine w_<|Tq 1 v0 j zr λaa w j=>?_;refine Tq 1 v1 j zr λab w j=>?_;refine aL 0<|OF<|AT zr iU<|SW 1 j zr dZ cB<|AT zr iU<|SW 0 j zr dZ cB<|SX p0.X0 p1.X0<|aL (wrap .i64<|p0.X0 - p1.X0)<|AI ?_;exact S4<|oi o▸bT ⟨rfl,j.drop 4⟩
def Al(E:World)(V:List HP)(v0:Value)(res:List Int×List aH)(v:Value)(w:World):Prop:=Holds E w<|[own 3 v res.1,own 54 v0 res.2]++V
theorem zi{p0:List aH}{res:List Int×List aH}(j:Holds E w (own 54 v0 p0::V))(hb:kx N p0=some res):c_ 117 [v0] w<|Al E V v0 res:=by
 unfold kx at hb;refine enter Tryz.func117 zr zr<|w_<|dG n_<|OF<|mv v0 ?_;obtain⟨ag,az,hb⟩:=bd hb;have j:=j.pull 0;refine SZ Ng (Ju Tryz.lay110 aH zr jk.Mb jk.sz (gF Tryz.func145) (λj hi o hr=>wK N j hi o hr) j az) λw j=>OF<|dG n_<|SU<|w_<|mv v0<|TV (i:=0) (l:=ag) zt zr j zr zr oU<|aX 0<|AI ?_;have j:=j.cQ Int 3;refine Ua E V (λ(ad:List Int)(aj:Value)=>[own 54 v0 ag,own 3 aj ad]) (λ_ aj=>[(0,v0),(3,aj)]) (λah _ _=>[(9,v0),(10,vi ag.length),(11,vi ah)]) hb ?_ ?_ ?_;exact⟨n_,j.sp 3 [1,0]⟩;rintro hm ah ad s' _ w hk⟨af,O,rfl,j⟩hb;refine IN<|Tp<|q_ hb λae ao hb=>Tg 0 j zr zr jJ ao<|Uj 0 j ao jk λa3 j=>?_;refine TG j qz.z λaq w j=>?_;refine TB 0 j 1 zr jk λw j=>?_;refine OF<|mv af<|TV (i:=3) (l:=ad) zt zr j zr zr mj<|SX (ad.length:Int) 1<|aL (wrap .i64<|(ad.length:Int) - 1)<|SU<|q_ hb λak o hb=>S8 (λ(ak:Bool)=>SH E V [(0,v0),(3,af),(5,vp aq 0),(6,vi<|wrap .i64<|(ad.length:Int) - 1),(9,v0),(10,vi ag.length),(11,vi ah),(28,vb ak)] [own 54 v0 ag,own 3 af ad,bx 54 aq ae]) ak ?_ ?_;refine TS mixed ?_;have j:=j.drew;refine TR<|aX (wrap .i64<|(ad.length:Int) - 1)<|AS<|ic (wrap .i64<|(ad.length:Int) - 1) 0<|AS<|fp (decide<|wrap .i64 ((ad.length:Int) - 1)>=0)<|eD o (λaa o=>?_) λaa o=>?_;refine AS<|AT (hg:=cg aa) zr iU<|AS<|SW (hg:=cg aa) 0 j zr dZ cB<|AS<|SS af (cg aa)<|AS<|SS (vi<|wrap .i64<|(ad.length:Int) - 1) (cg aa)<|AS ?_;refine q_ o λar au o=>Tg (hg:=cg aa) 3 j zr zr dM au<|AS<|TQ (hg:=cg aa) 3 j au cB<|AS<|TO ae.X0 ar (cg aa)<|AS<|eB aa (vb<|decide<|ae.X0<=ar)<|TL ?_;exact oi o▸⟨rfl,j.sp 4 [2,3,0]⟩;refine AS<|aW aa<|AS<|aW aa<|AS<|aW aa<|AS<|aW aa<|AS<|aW aa<|AS<|aW aa<|AS<|aW aa<|AS<|eB aa (vb false)<|TL ?_;exact oi o▸⟨rfl,j.sp 4 [2,3,0]⟩;rintro _ w⟨O,rfl,j⟩;refine aC<|q_ hb λal o hb=>S8 (λ(al:List Int)U w=>∃ai:Value,SH E V [(0,v0),(3,ai),(9,v0),(10,vi ag.length),(11,vi ah)] [own 54 v0 ag,own 3 ai al] U w) al ?_ ?_;refine cY o (λo=>?_) λo=>?_;refine TK mixed [0,0,0,0,0,0,0,0,0,0,2] [0,1,2,3,4,5,6,7,8,9,10] ?_;have j:=j.drew;refine S5 zr zr<|mv af<|aR zr<|aX (wrap .i64<|(ad.length:Int) - 1)<|aR zr<|mv af<|aR zr<|aX (wrap .i64<|(ad.length:Int) - 1)<|aR zr ?_;refine q_ o λan aw o=>Tg 1 j zr zr dM aw<|aR zr<|TQ 1 j aw cB<|aR zr<|AT zr jT<|aR zr<|SW 2 j zr eP cB<|aR zr<|Ui an ae.X1<|aR zr ?_;refine q_ o λa6 ax o=>Tg 1 j zr zr dM ax<|mP zr ?_;have j:=j.sc Int (if an<ae.X1 then ae.X1 else an);refine TZ 2 0 j ax cB λw j=>?_;exact Tt zt<|Tl<|oi o▸⟨rfl,af,j.sp 4 [1,2]⟩;refine IS<|mv af<|AT zr iU<|SW 2 j zr dZ cB<|AT zr jT<|SW 2 j zr eP cB ?_;have j:=(j.sc Int ae.X0).sc Int ae.X1;refine TC ([ae.X0,ae.X1]:List Int) j [vi ae.X0,vi ae.X1] dM D2 (λM hs g=>⟨(g.sat 1 _ zr).1,⟨(g.sat 0 _ zr).1,zt⟩⟩) λa4 w j=>?_;have j:=j.freeze 0;refine q_ o λa5 a2 o=>TH 4 0 j rA a2 λav w j=>?_;exact dG av<|By<|oi o▸⟨rfl,av,j.sp 6 [3,4]⟩;rintro _ w⟨ai,O,rfl,j⟩;exact bH<|aC<|IS<|TI hk hm<|aX ((ah+1:Nat):Int)<|By<|oi hb▸⟨rfl,ai,j.sp 2 [0,1]⟩;rintro ad _ w hb⟨ay,O,rfl,j⟩;refine aC<|w_<|mv ay<|dG ay<|AI<|S4 ?_;obtain rfl:=oi hb;exact bT<|j.pk 2 [1,0]
theorem yu{p0:List Int}{p1:List Int}{res:Bool}(j:Holds E w V)(h0:V[i0]? =some (rd v0 p0))(h1:V[i1]? =some (rd v1 p1))(o:oA N p0 p1=some res):c_ 144 [v0,v1] w<|aV E V res:=by
 unfold oA at o;refine enter Tryz.func144 zr zr ?_;have j:=(j.dup (i0+0) h0).dup (i1+1) h1;refine w_<|bW false<|SU<|w_<|mv v0<|SY 1 p0 j mj<|mv v1<|SY 0 p1 j mj<|ic ((p0.length:Int)) ((p1.length:Int))<|AI<|cY o (λo=>?_) λo=>?_;exact w_<|bW false<|AI<|Tj<|oi o▸bT ⟨rfl,j.drop 2⟩;refine Tb<|w_<|mv v0<|SY 1 p0 j mj<|aX 0<|AI<|T5 E V (λ(ab:Unit)=>[rd v0 p0,rd v1 p1]) (λ_=>[]) (λaa _=>[(0,v0),(1,v1),(12,vi p0.length),(13,vi aa)]) (λr=>lx bK 26 Tryz.f144 (aV E V r) .ret) o ?_ ?_ ?_ ?_;exact j.sp 2 [1,0];rintro hm aa ab fl _ w hk⟨O,rfl,j⟩o;refine IN<|Tp<|aX (aa:Int)<|aL (aa:Int)<|SU<|TS mixed ?_;have j:=j.drew;refine TR<|mv v0<|AS<|aX (aa:Int)<|AS<|q_ o λad ah o=>SV 0 j dM ah λal j=>AS<|Te ad 0 j cB<|AS<|mv v1<|AS<|aX (aa:Int)<|AS ?_;refine q_ o λae ai o=>SV 2 j dM ai λan j=>AS<|Te ae 0 j cB<|AS<|ic ad ae<|TL<|aC<|cY o (λo=>?_) λo=>?_;exact w_<|bW false<|AI<|TE<|bE<|oi o▸⟨rfl,bT ⟨rfl,j.drop 4⟩⟩;exact Tr<|bH<|aC<|IS<|TI hk hm<|aX ((aa+1:Nat):Int)<|By<|oi o▸⟨rfl,j.sp 4 [2,3]⟩;intro r U w o hK;exact bE<|oi o▸hK;rintro ab _ w o⟨O,rfl,j⟩;exact aC<|w_<|bW true<|AI<|S4<|oi o▸bT ⟨rfl,j.drop 2⟩
theorem tZ{p0:List aA}{p1:aA}{res:List aA}(o:Holds E w (own 168 v0 p0::V))(h1:V[i1]? =some (rd v1 p1))(hb:j8 N p0 p1=some res):c_ 116 [v0,v1] w<|oJ E V res:=by
 unfold j8 at hb;refine enter Tryz.func116 zr zr ?_;have o:=o.dup (i1+1) h1;refine w_<|Tq 0 v1 o zr λaf w o=>?_;refine dG n_<|SU<|w_<|AT zr nC<|Ts 0 o zr eK fW λau o=>SY 0 p1.Xs o mj<|ic ((p1.Xs.length:Int)) 0<|fp ((p1.Xs.length:Int)==0)<|BY true ((p1.Xs.length:Int)==0) (vp af 1) zr zr zr (dB pC) ?_;refine BY true ((p1.Xs.length:Int)==0) (vi p1.Y1) rfl rfl rfl (bU 1 rfl o (by exact z_ (vp af 1)) rfl gq cB)<|BY true ((p1.Xs.length:Int)==0) (vp af 0) rfl rfl rfl (dB sA)<|BY true ((p1.Xs.length:Int)==0) (vi p1.Y0) rfl rfl rfl (bU 1 rfl o (by exact z_ (vp af 0)) rfl iQ cB)<|BY true ((p1.Xs.length:Int)==0) (vb<|decide<|p1.Y1<=p1.Y0) rfl rfl rfl (cZ .leq .i64 p1.Y1 p1.Y0 rfl (by exact z_ (vi p1.Y1)) (by exact z_ (vi p1.Y0)) rfl)<|Tw (b:=(p1.Xs.length:Int)==0) (v:=vb<|((p1.Xs.length:Int)==0)||decide (p1.Y1<=p1.Y0)) trivial rfl rfl (nB true rfl)<|AI<|cY hb (λhb=>?_) λhb=>?_;refine w_<|mv v0<|dG v0<|AI<|Tj ?_;obtain rfl:=oi hb;exact bT<|o.pk 4 [3];refine Tb<|w_<|mv v0<|TV (i:=3) (l:=p0) zt zr o zr zr r9<|SX (p0.length:Int) 1<|aL (wrap .i64<|(p0.length:Int) - 1)<|SU<|q_ hb λaj hj hb=>S8 (λ(aj:Bool)=>SH E V [(0,v0),(3,vp af 0),(5,vi<|wrap .i64<|(p0.length:Int) - 1),(42,vb aj)] [own 168 v0 p0,bx 168 af p1]) aj ?_ ?_;refine TK mixed [0,0,0,0,0,0,0,0,0,0,0,0,0,0,0,0,0,0,0,0,2,0] [0,1,2,3,4,5,6,7,8,9,10,11,12,13,14,15,16,17,18,19,20,21] ?_;have o:=o.drew;refine S5 zr zr<|aX (wrap .i64<|(p0.length:Int) - 1)<|aR zr<|ic (wrap .i64<|(p0.length:Int) - 1) 0<|aR zr<|fp (decide<|wrap .i64 ((p0.length:Int) - 1)>=0)<|S7<|eD hj (λaa hj=>?_) λaa hj=>?_;refine S5 zr zr<|SS v0 (cg aa)<|aR zr<|SS (vi<|wrap .i64<|(p0.length:Int) - 1) (cg aa)<|aR zr<|q_ hj λak ag hj=>Tg (hg:=cg aa) 3 o zr zr mQ ag<|aR zr<|T6 (α:=aA) (cg aa) (rn 3 o ag 0) pC<|aR zr<|Ud 3 (cg aa) o (rn 3 o ag 1) (fI ag).2.1 gq cB<|aR zr<|AT (hg:=cg aa) zr sA<|aR zr<|SW (hg:=cg aa) 1 o zr iQ cB ?_;refine aR zr<|TO ak.Y1 p1.Y0 (cg aa)<|aR zr<|eB aa (vb<|ak.Y1==p1.Y0)<|aR zr<|fp (ak.Y1==p1.Y0)<|S7<|eD hj (λab hj=>?_) λab hj=>?_;refine S5 zr zr<|SS v0 (cg ab)<|aR zr<|SS (vi<|wrap .i64<|(p0.length:Int) - 1) (cg ab)<|aR zr<|q_ hj λav ah hj=>Tg (hg:=cg ab) 3 o zr zr mQ ah<|aR zr<|T6 (α:=aA) (cg ab) (rn 3 o ah 0) nC<|aR zr<|UE (i:=3) (cg ab) zr o zr (rn 3 o ah 2) zr (fI ah).2.1 eK fW λaw o=>?_;exact aR zr<|AT (hg:=cg ab) zr nC<|aR zr<|Ts (hg:=cg ab) 2 o zr eK fW λax o=>mP zr<|q_ hj λal an hj=>SZ (hg:=cg ab) (gF Tryz.func144) (yu N (i0:=1) (i1:=0) o zr zr an) λw o=>pS zr<|eB ab (vb al)<|S7<|Tl<|oi hj▸⟨rfl,o.sp 6 [5,3]⟩;refine S5 zr zr<|aW ab<|aR zr<|aW ab<|aR zr<|aW ab<|aR zr<|aW ab<|aR zr<|aW ab<|aR zr<|aW ab<|aR zr<|aW ab<|mP zr<|aW ab<|pS zr<|eB ab (vb false) ?_;exact S7<|Tl<|oi hj▸⟨rfl,o.sp 4 [3,1]⟩;refine S5 zr zr<|aW aa<|aR zr<|aW aa<|aR zr<|aW aa<|aR zr<|aW aa<|aR zr<|aW aa<|aR zr<|aW aa<|aR zr<|aW aa<|aR zr<|aW aa<|aR zr<|eB aa (vb false) ?_;refine aR zr<|fp false<|aR zr<|kE<|aR zr<|kE<|aR zr<|kE<|aR zr<|kE<|aR zr<|kE<|aR zr<|kE<|aR zr<|kE<|mP zr<|kE ?_;exact pS zr<|Tw (b:=false) (v:=vb false) zt zr zr zr<|S7<|Tl<|oi hj▸⟨rfl,o.sp 4 [3,1]⟩;rintro _ w⟨O,rfl,o⟩;refine aC<|cY hb (λhb=>?_) λhb=>?_;refine w_<|mv v0<|aX (wrap .i64<|(p0.length:Int) - 1)<|AT zr pC<|SW 1 o zr gq cB<|q_ hb λa0 ai hb=>Tg 0 o zr zr mQ ai<|T6 (α:=aA) zt (rn 0 o ai 0) pC ?_;have o:=o.sc Int p1.Y1;refine UN (i:=1) (j:=0) trivial o rfl rfl (rn 1 o ai 1) rfl (fI ai).2.1 rfl rP (by decide) cB λw o=>?_;refine OF<|mv v0<|dG v0<|AI<|Tj ?_;obtain rfl:=oi hb;exact bT<|o.pk 3 [1];refine TP<|mv v0<|Tz 1 o zr Ac λao o=>TC ([p1]:List aA) o [ao] mQ GX (λM hs g=>⟨(g.sat 0 _ zr).1,zt⟩) λay w o=>?_;have o:=o.freeze 0;refine q_ hb λaz aq hb=>TH 2 0 o Pv aq λar w o=>?_;refine dG ar<|AI<|S4 ?_;obtain rfl:=oi hb;exact bT<|o.pk 4 [2]
theorem nZ{p0:List aH}{res:List aA}(o:Holds E w V)(h0:V[i0]? =some (rd v0 p0))(hb:iV N p0=some res):c_ 74 [v0] w<|oJ E V res:=by
 unfold iV at hb;refine enter Tryz.func74 zr zr ?_;have o:=o.dup (i0+0) h0;refine w_<|dG n_<|OF<|mv v0<|q_ hb λcb bh hb=>Td (gF Tryz.func109) (xk N (i0:=0) o zr bh) λae w o=>dG ae<|OF<|mv ae ?_;obtain⟨aj,bj,hb⟩:=bd hb;have o:=o.pull 0;refine SZ Ng (Ju Tryz.lay110 aH zr jk.Mb jk.sz (gF Tryz.func111) (λo hi hj hr=>Aj N o hi hj hr) o bj) λw o=>OF<|Ut o Pl λah w o=>?_;refine SU<|w_<|mv ae<|TV (i:=1) (l:=aj) zt zr o zr zr oU<|aX 0<|AI<|Ua E V (λ(aw:List Int)(a1:Value)=>[own 54 ae aj,bc 69 ah [a1],own 3 a1 aw]) (λ_ _=>[(0,ae),(3,vp ah 0)]) (λax _ _=>[(14,ae),(15,vi aj.length),(16,vi ax)]) hb ?_ ?_ ?_;have o:=o.cQ Int 3;exact⟨n_,o.sp 5 [2,1,0]⟩;rintro hm ax aw s' _ w hk⟨bm,O,rfl,o⟩hb;refine IN<|Tp<|q_ hb λal a2 hb=>Tg 0 o zr zr jJ a2<|Uj 0 o a2 jk λcc o=>?_;refine TG o qz.z λcd w o=>?_;refine TB 0 o 1 zr jk λw o=>?_;refine AI<|IS<|S9 3 bm o fW<|AT zr iM<|SW 0 o zr dR cB<|AT zr lz<|SW 0 o zr fZ cB ?_;have o:=(o.sc Int al.Y0).sc Int al.Y1;refine TC ([al.Y0,al.Y1]:List Int) o [vi al.Y0,vi al.Y1] dM D2 (λM hs g=>⟨(g.sat 1 _ zr).1,⟨(g.sat 0 _ zr).1,zt⟩⟩) λcf w o=>?_;have o:=o.freeze 0;refine q_ hb λch bn hb=>TH 7 0 o rA bn λa3 w o=>?_;refine T3 6 a3 o zr zr (iP 7 o) fW λw o=>?_;exact By<|bH<|aC<|IS<|TI hk hm<|aX ((ax+1:Nat):Int)<|By<|oi hb▸⟨rfl,a3,o.sp 8 [5,6,7]⟩;rintro aw _ w hb⟨a4,O,rfl,o⟩;refine aC<|w_<|S9 1 a4 o fW ?_;obtain⟨cj,bo,hb⟩:=bd hb;have o:=o.pull 2;refine SZ (gF Tryz.func112) (Lx Tryz.lay112 o bo) λw o=>OF<|S9 2 a4 o fW ?_;have o:=o.pull 0;refine q_ hb λai bp hb=>Td (gF Tryz.func113) (wJ N o bp) λbq w o=>T3 3 bq o zr zr (iP 0 o) fW λw o=>?_;refine OF<|dG n_<|OF<|dG n_<|OF<|aL 0<|SU<|w_<|TG o D2.z λbr w o=>?_;have o:=o.sc Int 0;refine TB 1 o 0 zr cB λw o=>?_;refine AI ?_;have o:=((((o.freeze 2).KW (i:=5) (x:=ai) rfl<|λM hs g=>ji (g.sat 2 _ rfl).1).iD (i:=5) rfl).cQ aA 168).cQ aH 54;refine q_ hb λck hN hb=>Uo (λ(ab:List aA×List aH×Int×Int)U w=>∃(a5 a6:Value)(a7:Nat),SH E V [(0,ae),(3,vp ah 0),(6,a5),(7,a6),(8,vi ab.2.2.1),(9,vp a7 0)] [own 54 ae aj,pt (vp ah 0) ai,own 168 a5 ab.1,own 54 a6 ab.2.1,bx 3 a7 ab.2.2.2] U w) (λ(ab:List aA×List aH×Int×Int)U w=>∃ao:Value,SH E V [(6,ao)] [own 54 ae aj,pt (vp ah 0) ai,own 168 ao ab.1] U w) (λ(r:Empty)_ _=>r.elim) hN ?_ ?_ ?_ ?_;exact⟨n_,n_,br,o.sp 9 [6,7,1,0,3]⟩;rintro ab fl _ w⟨ak,bw,an,O,rfl,o⟩hb;refine IN<|w_<|SW (f:=(λx=>x)) 4 o zr Fd.self cB<|SX ab.2.2.2 1<|Ta 1 ai o fW λcm o=>SY 0 ai o mj<|ic (wrap .i64<|ab.2.2.2+1) ((ai.length:Int))<|AI<|cY hb (λhb=>?_) λhb=>?_;refine Tb<|Tp<|mv bw ?_;have o:=o.iD (i:=5) rfl;refine Us [vp ah 0,vp an 0] ?_;have o:=o.pull 4;refine q_ hb λcn bz hb=>Td (gF Tryz.func114) (tM N o ⟨115,[vp ah 0,vp an 0],rfl,(gF Tryz.func115),λw Γl v y0 r i o hi hr=>by exact hZ (Ak N (i0:=i) (i1:=Γl.length+2) (i2:=Γl.length+5) o hi (Fj rfl) (Fj rfl) hr) λ_ _ h=>h⟩ bz) λa8 w o=>dG a8<|SU<|T1 E V (λ(af:List aH×Int)(ay:Value)=>[own 54 ae aj,pt (vp ah 0) ai,own 168 ak ab.1,pt (vp an 0) ab.2.2.2,own 54 ay af.1]) (λaf ay=>[(0,ae),(3,vp ah 0),(6,ak),(7,ay),(8,vi af.2),(9,vp an 0)]) (λ_ _=>[]) hb ?_ ?_ ?_;exact⟨a8,o.sp 7 [2,3,4,6,0]⟩;rintro af fl _ w⟨aq,O,rfl,o⟩hb;refine IN<|IN<|q_ hb λaz hj hb=>S8 (λ(az:Bool)=>SH E V [(0,ae),(3,vp ah 0),(6,ak),(7,aq),(8,vi af.2),(9,vp an 0),(57,vb az)] [own 54 ae aj,pt (vp ah 0) ai,own 168 ak ab.1,own 54 aq af.1,pt (vp an 0) ab.2.2.2]) az ?_ ?_;refine TS mixed ?_;have o:=o.drew;refine TR<|aX af.2<|AS<|mv ae<|AS<|TV (i:=0) (l:=aj) zt zr o zr zr oU<|AS<|ic af.2 ((aj.length:Int))<|AS<|fp (decide<|af.2<(aj.length:Int))<|eD hj (λad hj=>?_) λad hj=>?_;refine AS<|SS ae (cg ad)<|AS<|SS (vi af.2) (cg ad)<|AS<|q_ hj λa9 ar hj=>Tg (hg:=cg ad) 0 o zr zr jJ ar<|AS<|T6 (α:=aH) (cg ad) (rn 0 o ar 0) iM<|AS<|Ud 0 (cg ad) o (rn 0 o ar 1) (fI ar).2.1 dR cB<|AS<|Ta (hg:=cg ad) 1 ai o fW λcp o=>?_;refine AS<|Te (hg:=cg ad) ab.2.2.2 4 o cB<|AS<|q_ hj λa0 b0 hj=>SV (hg:=cg ad) 0 o dM b0 λcq o=>AS<|Te (hg:=cg ad) a0 0 o cB<|AS<|TO a9.Y0 a0 (cg ad)<|AS<|eB ad (vb<|decide<|a9.Y0<=a0)<|TL ?_;exact oi hj▸⟨rfl,o.sp 7 [2,3,4,6,5]⟩;refine AS<|aW ad<|AS<|aW ad<|AS<|aW ad<|AS<|aW ad<|AS<|aW ad<|AS<|aW ad<|AS<|aW ad<|AS<|aW ad<|AS<|aW ad ?_;exact AS<|aW ad<|AS<|eB ad (vb false)<|TL<|oi hj▸⟨rfl,o.sp 5 [0,1,2,4,3]⟩;rintro _ w⟨O,rfl,o⟩;refine aC<|cY hb (λhb=>?_) λhb=>?_;refine T2<|TF<|IS<|mv aq<|mv ae<|aX af.2<|q_ hb λb1 ba hb=>Tg 0 o zr zr jJ ba<|Uj 0 o ba jk λb2 o=>?_;refine TC ([b1]:List aH) o [b2] jJ qz (λM hs g=>⟨(g.sat 0 _ zr).1,zt⟩) λcr w o=>?_;have o:=o.freeze 0;refine q_ hb λct b3 hb=>TH 5 0 o CY b3 λbb w o=>?_;refine aX af.2<|SX af.2 1<|dG bb<|aL (wrap .i64<|af.2+1)<|By<|bH ?_;exact oi hb▸⟨rfl,bb,o.sp 7 [2,3,4,6,5]⟩;exact Tm<|oi hb▸⟨rfl,aq,o.sp 5 [0,1,2,4,3]⟩;rintro af _ w hb⟨bf,O,rfl,o⟩;refine aC<|TK mixed [1,1,1,1,1,1,1,1,1,1,0,2,0,2,0] [0,1,2,3,4,5,6,7,8,9,10,11,12,13,14] ?_;have o:=o.drew;refine Ti ak zr (λw=>SS ak zt Tf)<|T7 ai 1 zr o fW λcu a305 cv o=>Ue ab.2.2.2 5 zr o cB λa307 cw o=>?_;refine q_ hb λau b4 hb=>T8 2 zr o dM b4 λcx o=>Ue au 0 zr o cB λa311 cy o=>T7 ai 6 zr o fW λcz a314 c0 o=>Ue ab.2.2.2 10 zr o cB λa316 c1 o=>Ti (vi<|wrap .i64<|ab.2.2.2+1) zr (λw=>SX ab.2.2.2 1 Tf)<|q_ hb λav b5 hb=>T8 2 zr o dM b5 λc2 o=>Ue av 0 zr o cB λa320 c3 o=>S5 zr zr<|mv bf<|mP zr ?_;have o:=o.pull 14;refine q_ hb λb6 b7 hb=>Td (gF Tryz.func117) (zi N o b7) λb8 w o=>Tt (⟨⟨⟨⟨⟨⟨zt,o.fS 10⟩,o.fS 9⟩,o.fS 7⟩,o.fS 5⟩,o.fS 4⟩,o.fS 2⟩)<|S5 zr zr ?_;have o:=((o.sc Int au).sc Int av).freeze 2;refine TX (⟨au,av,b6.1⟩:aA) trivial rfl o [(0,vi au),(1,vi av),(2,b8)] rfl Ni rfl (λM hs g=>by have h:=Aa M;exact cV.cons (f:=λ(x:aA)y=>{x with Y0:=y}) h wy (g.sat 1 _ rfl).1 λ_ h=>cV.cons (f:=λ(x:aA)y=>{x with Y1:=y}) h rP (g.sat 0 _ rfl).1 λ_ h=>cV.cons (f:=λ(x:aA)y=>{x with Xs:=y}) h wz (g.sat 2 _ rfl).1 λ_ h=>cV.nil h) λc4 o=>?_;refine mP zr ?_;have o:=o.pull 17;refine q_ hb λc5 b9 hb=>Td Nj (tZ N (i1:=0) o zr b9) λbg w o=>Tt (⟨⟨⟨⟨⟨⟨zt,o.fS 14⟩,o.fS 13⟩,o.fS 11⟩,o.fS 9⟩,o.fS 8⟩,o.fS 6⟩)<|S5 zr zr<|dG bg<|S7 ?_;have o:=o.pl 21 [0,1,2,3,4,5,7,10,12,15,16,17,18,19,20] rfl;refine Tl<|bH<|aC<|IN<|w_<|Te ab.2.2.2 13 o cB<|AI<|IS<|TG o D2.z λca w o=>?_;have o:=o.sc Int ab.2.2.2;refine TB 1 o 0 zr cB λw o=>?_;refine AI<|IS<|SW (f:=(λx=>x)) 1 o zr Fd.self cB<|SX ab.2.2.2 1 ?_;have o:=o.sc Int<|wrap .i64<|ab.2.2.2+1;refine Vt (i:=2) (j:=0) zt o zr zr zr zr cB λw o=>?_;exact By<|oi hb▸⟨rfl,bg,bf,ca,o.sp 18 [13,14,3,8,2]⟩;exact Tm<|oi hb▸⟨rfl,ak,o.sp 6 [1,2,3]⟩;intro r _ _ _ _;exact r.elim;rintro ab _ w rfl⟨ao,O,rfl,o⟩;rw[Fo.Ey]at hb;refine aC<|w_<|mv ao<|dG ao<|AI<|S4 ?_;obtain rfl:=oi hb;exact bT<|o.pk 3 [2]
theorem pK{p0:List aA}{res:List aH}(j:Holds E w V)(h0:V[i0]? =some (rd v0 p0))(o:ky N p0=some res):c_ 75 [v0] w<|gz E V res:=by
 unfold ky at o;refine enter Tryz.func75 zr zr ?_;have j:=j.dup (i0+0) h0;refine w_<|dG n_<|OF<|dG n_<|SU<|w_<|mv v0<|SY 0 p0 j r9<|aX 0<|AI<|Ua E V (λ(ag:List aH)(ah:Value)=>[rd v0 p0,own 54 ah ag]) (λ_ ah=>[(3,ah)]) (λaf _ _=>[(7,v0),(8,vi p0.length),(9,vi af)]) o ?_ ?_ ?_;have j:=j.cQ aH 54;exact⟨n_,j.sp 2 [1,0]⟩;rintro hm af ag s' _ w hk⟨ar,O,rfl,j⟩o;refine IN<|Tp<|q_ o λab au o=>SV 0 j mQ au λa0 j=>Ta 0 ab j Ac λa1 j=>TG j GX.z λak w j=>?_;refine TB 0 j 1 zr Ac λw j=>?_;refine OF<|aL 0<|AI<|T1 E V (λ(aa:List aH×Int)(ai:Value)=>[bx 168 ak ab,rd v0 p0,own 54 ai aa.1]) (λ_ ai=>[(3,ai),(7,v0),(8,vi p0.length),(9,vi af)]) (λaa _=>[(5,vp ak 0),(6,vi aa.2)]) o ?_ ?_ ?_;exact⟨ar,j.sp 5 [0,3,4]⟩;rintro aa fl _ w⟨aj,O,rfl,j⟩o;refine IN<|w_<|aX aa.2<|AT zr nC<|Ts 0 j zr eK fW λa3 j=>SY 0 ab.Xs j mj<|ic aa.2 ((ab.Xs.length:Int))<|AI<|cY o (λo=>?_) λo=>?_;refine Tb<|TF<|TK mixed [1,0,0,0,0,0,0,0,0,0,0,0,0,0,0,0,0,2,2,0] [0,1,2,3,4,5,6,7,8,9,10,11,12,13,14,15,16,17,18,19] ?_;have j:=j.drew;refine Ti aj zr (λw=>SS aj zt Tf)<|S5 zr zr<|AT zr nC<|aR zr<|Ts 1 j zr eK fW λa4 j=>aR zr<|aX aa.2<|aR zr<|q_ o λad av o=>SV 0 j dM av λa5 j=>aR zr<|Te ad 0 j cB<|aR zr<|AT zr sA<|aR zr<|SW 3 j zr iQ cB<|aR zr<|AT zr nC ?_;refine aR zr<|Ts 3 j zr eK fW λa6 j=>aR zr<|aX aa.2<|aR zr<|SX aa.2 1<|aR zr<|q_ o λae aw o=>SV 0 j dM aw λa7 j=>aR zr<|Te ae 0 j cB<|aR zr<|AT zr pC<|aR zr<|SW 5 j zr gq cB<|aR zr ?_;have j:=(((j.sc Int ad).sc Int ab.Y0).sc Int ae).sc Int ab.Y1;refine TX (⟨ad,ab.Y0,ae,ab.Y1⟩:aH) trivial rfl j [(0,vi ad),(1,vi ab.Y0),(2,vi ae),(3,vi ab.Y1)] rfl GY rfl (λM hs g=>by have h:=vP M;exact cV.cons (f:=λ(x:aH)y=>{x with X0:=y}) h sS (g.sat 3 _ rfl).1 λ_ h=>cV.cons (f:=λ(x:aH)y=>{x with Y0:=y}) h uP (g.sat 2 _ rfl).1 λ_ h=>cV.cons (f:=λ(x:aH)y=>{x with X1:=y}) h qT (g.sat 1 _ rfl).1 λ_ h=>cV.cons (f:=λ(x:aH)y=>{x with Y1:=y}) h sT (g.sat 0 _ rfl).1 λ_ h=>cV.nil h) λax j=>?_;refine mP zr<|TC ([(⟨ad,ab.Y0,ae,ab.Y1⟩:aH)]:List aH) j [ax] jJ qz (λM hs g=>⟨(g.sat 0 _ zr).1,zt⟩) λa8 w j=>H0 zr ?_;have j:=j.freeze 0;refine q_ o λa9 ay o=>TH 13 0 j CY ay λal w j=>?_;refine pS zr<|dG al<|S7<|Tl<|bH<|aC<|IS<|aX aa.2<|SX aa.2 2<|aL (wrap .i64<|aa.2+2)<|By ?_;exact oi o▸⟨rfl,al,j.sp 14 [11,12,13]⟩;exact Tm<|oi o▸⟨rfl,aj,j.sp 4 [1,2,3]⟩;rintro aa _ w o⟨az,O,rfl,j⟩;exact bH<|aC<|IS<|TI hk hm<|aX ((af+1:Nat):Int)<|By<|oi o▸⟨rfl,az,j.sp 3 [1,2]⟩;rintro ag _ w o⟨an,O,rfl,j⟩;refine aC<|w_<|mv an<|dG an<|AI<|S4 ?_;obtain rfl:=oi o;exact bT<|j.pk 2 [1]
theorem xm{p0:List aH}{p1:List aH}{res:Bool}(j:Holds E w V)(h0:V[i0]? =some (rd v0 p0))(h1:V[i1]? =some (rd v1 p1))(o:lL N p0 p1=some res):c_ 73 [v0,v1] w<|aV E V res:=by
 unfold lL at o;refine enter Tryz.func73 zr zr ?_;have j:=(j.dup (i0+0) h0).dup (i1+1) h1;refine w_<|bW false<|SU<|w_<|mv v0<|SY 1 p0 j oU<|mv v1<|SY 0 p1 j oU<|ic ((p0.length:Int)) ((p1.length:Int))<|AI<|cY o (λo=>?_) λo=>?_;exact w_<|bW false<|AI<|Tj<|oi o▸bT ⟨rfl,j.drop 2⟩;refine Tb<|w_<|mv v0<|SY 1 p0 j oU<|aX 0<|AI<|T5 E V (λ(ab:Unit)=>[rd v0 p0,rd v1 p1]) (λ_=>[]) (λaa _=>[(0,v0),(1,v1),(12,vi p0.length),(13,vi aa)]) (λr=>lx bK 26 Tryz.f73 (aV E V r) .ret) o ?_ ?_ ?_ ?_;exact j.sp 2 [1,0];rintro hm aa ab fl _ w hk⟨O,rfl,j⟩o;refine IN<|Tp<|aX (aa:Int)<|aL (aa:Int)<|SU<|TS mixed ?_;have j:=j.drew;refine TR<|mv v0<|AS<|aX (aa:Int)<|AS<|q_ o λad ah o=>SV 0 j jJ ah λal j=>AS<|Ta 0 ad j jk λan j=>AS<|mv v1<|AS<|aX (aa:Int)<|AS ?_;refine q_ o λae ai o=>SV 3 j jJ ai λao j=>AS<|Ta 0 ae j jk λaq j=>AS<|UD 2 0 ad ae zt zr j zr zr zr zr Nk zr<|TL<|aC<|cY o (λo=>?_) λo=>?_;exact w_<|bW false<|AI<|TE<|bE<|oi o▸⟨rfl,bT ⟨rfl,j.drop 6⟩⟩;exact Tr<|bH<|aC<|IS<|TI hk hm<|aX ((aa+1:Nat):Int)<|By<|oi o▸⟨rfl,j.sp 6 [4,5]⟩;intro r U w o hK;exact bE<|oi o▸hK;rintro ab _ w o⟨O,rfl,j⟩;exact aC<|w_<|bW true<|AI<|S4<|oi o▸bT ⟨rfl,j.drop 2⟩
theorem rD{p0:List aH}(j:Holds E w V)(h0:V[i0]? =some (rd v0 p0))(hb:kj N p0=some res):c_ 39 [v0] w<|aS E V res:=by
 unfold kj at hb;refine enter Tryz.func39 zr zr ?_;have j:=j.dup (i0+0) h0;refine w_<|aL 0<|SU<|w_<|mv v0<|q_ hb λau ax hb=>SZ (gF Tryz.func72) (yt N (i0:=0) j zr ax) λw j=>aL au<|OF<|aX au<|ic au 0<|AI<|cY hb (λhb=>?_) λhb=>?_;exact w_<|aX au<|aL au<|AI<|Tj<|oi hb▸bT ⟨rfl,j.drop 1⟩;refine Tb<|w_<|aL 1<|AI<|TY E V (λ(ao:Int)=>[rd v0 p0]) (λ_=>[(0,v0)]) (λao=>[(4,vi ao)]) (λr=>lx bK 52 Tryz.f39 (aS E V r) .ret) hb ?_ ?_ ?_ ?_;exact j.sp 1 [0];rintro ao fl _ w⟨O,rfl,j⟩hb;refine IN<|w_<|aX ao<|mv v0<|SY 0 p0 j oU<|ic ao ((p0.length:Int))<|AI<|cY hb (λhb=>?_) λhb=>?_;refine Tb<|TF<|IN ?_;obtain⟨o,ay,hb⟩:=bd hb;refine q_ hb λaa az hb=>Uc E V mixed [1,1,1,0,0,1,1,0,0,0,0,0,0] [3,4,7,8,9,10,11,12] (λ(x:Value×Value×Value×Value×Nat×Nat)=>(λah ai aj ak ad ae=>[(0,18,v0),(1,19,vi ao),(2,20,vi<|wrap .i64<|ao - 1),(3,21,ah),(4,22,ai),(5,23,v0),(6,24,vi ao),(7,25,aj),(8,26,ak),(9,5,vp ad 0),(10,6,vp ae 0)]) x.1 x.2.1 x.2.2.1 x.2.2.2.1 x.2.2.2.2.1 x.2.2.2.2.2) [(0,v0),(4,vi ao)] [] (λ(D:Nat->Bool)(x:Value×Value×Value×Value×Nat×Nat)=>(λah ai aj ak ad ae=>[bif D 0 then pt ah o else bM,bif D 1 then rd ai o else bM,bif D 2 then pt aj aa else bM,bif D 3 then rd ak aa else bM,bif D 6 then bx 54 ad o else(bif D 4 then raw 54 ad 4 else bM),bif D 7 then bx 54 ae aa else(bif D 5 then raw 54 ae 4 else bM),rd v0 p0]) x.1 x.2.1 x.2.2.1 x.2.2.2.1 x.2.2.2.2.1 x.2.2.2.2.2) (λx=>by kernel_rfl) ?_ ⟨λ_=>jS gn,λ_=>jS gn,λ_=>Mu gn rfl,?_,?_,λ_=>jS gn,λ_=>jS gn,?_,?_,?_,?_,?_,?_,trivial⟩ ?_;have j:=((((((j.drew).bM).bM).bM).bM).bM).bM;exact⟨(undef,undef,undef,undef,0,0),eH.none,GV zr,zt,j⟩;rintro D U w hD ag aq⟨⟨ah,ai,aj,ak,ad,ae⟩,hv,ha,_,j⟩;obtain⟨O,rfl⟩:=hv.o2 0 2 ag;have j:=j.cE 0 hD;refine SV 6 j jJ ay λa0 j=>?_;have j:=j.nw 0;exact S6 (a0,ai,aj,ak,ad,ae) 3 hv ha j;rintro D U w hD ag aq⟨⟨ah,ai,aj,ak,ad,ae⟩,hv,ha,_,j⟩;obtain⟨O,rfl⟩:=hv.o1 3 ag;have j:=(j.eM 0<|ag.1 rfl).cE 1 hD;refine Ta 0 o j jk λa1 j=>?_;have j:=((j.pl 8 [1,0,3,4,5,6,7] rfl).dF 0 (D 3) (ag.1 rfl) bM).dF 1 true rfl bM;exact S6 (ah,a1,aj,ak,ad,ae) 4 hv ha j;rintro D U w hD ag aq⟨⟨ah,ai,aj,ak,ad,ae⟩,hv,ha,_,j⟩;obtain⟨O,rfl⟩:=hv.o2 5 6 ag;have j:=j.cE 2 hD;refine SV 6 j jJ az λa2 j=>?_;have j:=j.nw 2;exact S6 (ah,ai,a2,ak,ad,ae) 7 hv ha j;rintro D U w hD ag aq⟨⟨ah,ai,aj,ak,ad,ae⟩,hv,ha,_,j⟩;obtain⟨O,rfl⟩:=hv.o1 7 ag;have j:=(j.eM 2<|ag.1 rfl).cE 3 hD;refine Ta 2 aa j jk λa3 j=>?_;have j:=((j.pl 8 [1,2,3,0,5,6,7] rfl).dF 2 (D 7) (ag.1 rfl) bM).dF 3 true rfl bM;exact S6 (ah,ai,aj,a3,ad,ae) 8 hv ha j;rintro D U w hD ag aq⟨⟨ah,ai,aj,ak,ad,ae⟩,hv,ha,_,j⟩;obtain⟨O,rfl⟩:=QT U;have j:=(j.cE 4<|nh aq hD 11).cE 4 hD;refine TG j qz.z λav w j=>?_;have j:=(j.nw 4).fK 4 (D 11) (nh aq hD 11)<|bx 54 av o;exact S6 (ah,ai,aj,ak,av,ae) 9 hv ha j;rintro D U w hD ag aq⟨⟨ah,ai,aj,ak,ad,ae⟩,hv,ha,_,j⟩;obtain⟨O,rfl⟩:=QT U;have j:=(j.cE 5<|nh aq hD 12).cE 5 hD;refine TG j qz.z λaw w j=>?_;have j:=(j.nw 5).fK 5 (D 12) (nh aq hD 12)<|bx 54 aw aa;exact S6 (ah,ai,aj,ak,ad,aw) 10 hv ha j;rintro D U w hD ag aq⟨⟨ah,ai,aj,ak,ad,ae⟩,hv,ha,_,j⟩;obtain⟨O,rfl⟩:=hv.o2 9 4 ag;have j:=((j.eM 1<|ag.2.1 rfl).cE 4 hD).eM 4<|ag.1 rfl;refine TB 4 j 1 zr jk λw j=>?_;have j:=(j.dF 1 (D 4) (ag.2.1 rfl) bM).dF 4 true rfl (bif D 9 then raw 54 ad 4 else bM);exact Uf (ah,ai,aj,ak,ad,ae) hv ha j;rintro D U w hD ag aq⟨⟨ah,ai,aj,ak,ad,ae⟩,hv,ha,_,j⟩;obtain⟨O,rfl⟩:=hv.o2 10 8 ag;have j:=((j.eM 3<|ag.2.1 rfl).cE 5 hD).eM 5<|ag.1 rfl;refine TB 5 j 3 zr jk λw j=>?_;have j:=(j.dF 3 (D 8) (ag.2.1 rfl) bM).dF 5 true rfl (bif D 10 then raw 54 ae 4 else bM);exact Uf (ah,ai,aj,ak,ad,ae) hv ha j;rintro D U w ar⟨⟨ah,ai,aj,ak,ad,ae⟩,hv,ha,_,j⟩;simp only[List.getD_cons_zero,List.getD_cons_succ,ar 3 (by decide),ar 4 (by decide),ar 7 (by decide),ar 8 (by decide),ar 11 (by decide),ar 12 (by decide),aM]at j;obtain⟨O,rfl⟩:=(ac (hv.at 9 rfl<|tV ar 9)<|ac (hv.at 10 rfl<|tV ar 10) ha).ui;refine aC<|w_<|AT zr iM<|SW 5 j zr dR cB<|AT zr iM<|SW 4 j zr dR cB<|ic aa.Y0 o.Y0<|fp (decide<|aa.Y0<o.Y0)<|BY true (decide<|aa.Y0<o.Y0) (vp ae 1) zr zr zr (dB iM) ?_;refine BY true (decide<|aa.Y0<o.Y0) (vi aa.Y0) rfl rfl rfl (bU 5 rfl j (by exact z_ (vp ae 1)) rfl dR cB)<|BY true (decide<|aa.Y0<o.Y0) (vp ad 1) rfl rfl rfl (dB iM)<|BY true (decide<|aa.Y0<o.Y0) (vi o.Y0) rfl rfl rfl (bU 4 rfl j (by exact z_ (vp ad 1)) rfl dR cB)<|BY true (decide<|aa.Y0<o.Y0) (vb<|aa.Y0==o.Y0) rfl rfl rfl (cZ .eql .i64 aa.Y0 o.Y0 rfl (by exact z_ (vi aa.Y0)) (by exact z_ (vi o.Y0)) rfl)<|BY true (decide<|aa.Y0<o.Y0) (vb<|aa.Y0==o.Y0) rfl rfl rfl (cD (hx:=λh=>by exact(cA h:cv (true&&(decide (aa.Y0<o.Y0)==false)) (vb<|aa.Y0==o.Y0)= vb (aa.Y0==o.Y0))))<|BY (true&&(decide (aa.Y0<o.Y0)==false)) (aa.Y0==o.Y0) (vp ae 0) rfl rfl rfl (dB iU)<|BY (true&&(decide (aa.Y0<o.Y0)==false)) (aa.Y0==o.Y0) (vi aa.X0) rfl rfl rfl (bU 5 rfl j (by exact z_ (vp ae 0)) rfl dZ cB)<|BY (true&&(decide (aa.Y0<o.Y0)==false)) (aa.Y0==o.Y0) (vp ad 0) rfl rfl rfl (dB iU)<|BY (true&&(decide (aa.Y0<o.Y0)==false)) (aa.Y0==o.Y0) (vi o.X0) rfl rfl rfl (bU 4 rfl j (by exact z_ (vp ad 0)) rfl dZ cB) ?_;refine BY (true&&(decide (aa.Y0<o.Y0)==false)) (aa.Y0==o.Y0) (vb<|decide<|aa.X0<=o.X0) rfl rfl rfl (cZ .leq .i64 aa.X0 o.X0 rfl (by exact z_ (vi aa.X0)) (by exact z_ (vi o.X0)) rfl)<|BY true (decide<|aa.Y0<o.Y0) (vb<|(aa.Y0==o.Y0)&&decide (aa.X0<=o.X0)) rfl rfl rfl (kh (aa.Y0==o.Y0) rfl (by exact z_ (vb<|aa.Y0==o.Y0)) (λh=>by exact fA (h:=h)<|true&&(decide (aa.Y0<o.Y0)==false)))<|Tw (b:=decide<|aa.Y0<o.Y0) (v:=vb<|decide (aa.Y0<o.Y0)||((aa.Y0==o.Y0)&&decide (aa.X0<=o.X0))) trivial rfl rfl (nB true rfl)<|AI<|cY hb (λhb=>?_) λhb=>?_;exact w_<|aL 8<|AI<|TE<|bE<|oi hb▸⟨rfl,bT ⟨rfl,j.drop 7⟩⟩;refine Tr<|bH<|aC<|IS<|aX ao<|SX ao 1<|aL (wrap .i64<|ao+1)<|By ?_;exact oi hb▸⟨rfl,j.sp 7 [6]⟩;exact Tm<|oi hb▸⟨rfl,j.sp 1 [0]⟩;intro r U w hb hK;exact bE<|oi hb▸hK;rintro ao _ w hb⟨O,rfl,j⟩;refine aC<|IN<|w_<|mv v0<|q_ hb λba a5 hb=>Td K7 (nZ N (i0:=0) j zr a5) λbb w j=>?_;have j:=j.freeze 0;refine q_ hb λbc a6 hb=>Td Of (pK N (i0:=0) j zr a6) λbf w j=>mv v0 ?_;have j:=j.freeze 0;refine q_ hb λa7 a8 hb=>SZ (gF Tryz.func73) (xm N (i0:=0) (i1:=2) j zr zr a8) λw j=>Ty a7<|AI<|cY hb (λhb=>?_) λhb=>?_;exact w_<|aL 3<|AI<|Tj<|oi hb▸bT ⟨rfl,j.drop 3⟩;exact TP<|aL 0<|AI<|S4<|oi hb▸bT ⟨rfl,j.drop 3⟩
theorem oL{res:Bool}(o:Holds E w V)(j:jm N p0 p1 p2=some res):c_ 77 [vi p0,vi p1,vi p2] w<|aV E V res:=by
 unfold jm at j;refine enter Tryz.func77 zr zr<|w_<|bW false<|OF<|aX p0<|aX p1<|ic p0 p1<|fp (decide<|p0>=p1)<|BY true (decide<|p0>=p1) (vi p0) zr zr zr cD ?_;refine BY true (decide<|p0>=p1) (vi p2) rfl rfl rfl cD<|BY true (decide<|p0>=p1) (vb<|decide<|p0<=p2) rfl rfl rfl (cZ .leq .i64 p0 p2 rfl (by exact z_ (vi p0)) (by exact z_ (vi p2)) rfl)<|Tw (b:=decide<|p0>=p1) (v:=vb<|decide (p0>=p1)&&decide (p0<=p2)) trivial rfl rfl (fA true)<|bW (decide (p0>=p1)&&decide (p0<=p2))<|AI<|S4 ?_;exact oi j▸bT ⟨rfl,o.drop 0⟩
theorem uX{p0:jX}{res:Bool}(j:Holds E w V)(h0:V[i0]? =some (rd v0 p0))(hb:kO N p0=some res):c_ 80 [v0] w<|aV E V res:=by
 unfold kO at hb;refine enter Tryz.func80 zr zr ?_;have j:=j.dup (i0+0) h0;refine w_<|Tq 0 v0 j zr λai w j=>?_;refine bW false<|SU<|q_ hb λad o hb=>S8 (λ(ad:Bool)=>SH E V [(2,vb ad)] []) ad ?_ ?_;refine IS<|AT zr za<|SW 0 j zr pG cB<|q_ o λaf ag o=>SZ EM (nc N (p0:=p0.X) j ag) λw j=>fp af<|eD o (λaa o=>?_) λaa o=>?_;exact AT (hg:=cg aa) zr zb<|SW (hg:=cg aa) 0 j zr pH cB<|q_ o λae ah o=>SZ (hg:=cg aa) EM (nc N (p0:=p0.Y) j ah) λw j=>eB aa (vb ae)<|bW ae<|By<|oi o▸⟨rfl,j.sp 2 []⟩;exact aW aa<|aW aa<|aW aa<|eB aa (vb false)<|bW false<|By<|oi o▸⟨rfl,j.sp 2 []⟩;rintro _ w⟨O,rfl,j⟩;exact aC<|S4<|oi hb▸bT ⟨rfl,j.drop 0⟩
theorem jU{p0:bR}{res:aH}(j:Holds E w V)(h0:V[i0]? =some (rd v0 p0))(o:hU N p0=some res):c_ 43 [v0] w<|qD E V res:=by
 unfold hU at o;refine enter Tryz.func43 zr zr ?_;have j:=j.dup (i0+0) h0;refine w_<|Tq 0 v0 j zr λaa w j=>?_;refine TG j qz.z λab w j=>?_;refine SU<|TS mixed ?_;have j:=j.drew;refine TR<|AT zr A5<|AS<|AT zr za<|AS<|SW (f:=(λx=>x.At.X)) 1 j zr (Fd.comp (f:=λ(x:bR)=>x.At) (λ(x:jX)=>x.X) sU pG) cB<|AS<|AT zr um<|AS<|SW 1 j zr na cB<|AS<|Uu p0.dT 2<|AS<|SX p0.At.X (wrap .i64<|Int.tdiv p0.dT 2)<|AS<|AT zr A5<|AS<|AT zr zb ?_;refine AS<|SW (f:=(λx=>x.At.Y)) 1 j zr (Fd.comp (f:=λ(x:bR)=>x.At) (λ(x:jX)=>x.Y) sU pH) cB<|AS<|AT zr um<|AS<|SW 1 j zr na cB<|AS<|Uu p0.dT 2<|AS<|SX p0.At.Y (wrap .i64<|Int.tdiv p0.dT 2)<|AS<|aL (wrap .i64<|p0.At.X -(wrap .i64<|Int.tdiv p0.dT 2))<|AS<|aL (wrap .i64<|p0.At.Y -(wrap .i64<|Int.tdiv p0.dT 2))<|TL<|aC<|w_<|aX (wrap .i64<|p0.At.X -(wrap .i64<|Int.tdiv p0.dT 2)) ?_;refine aX (wrap .i64<|p0.At.Y -(wrap .i64<|Int.tdiv p0.dT 2))<|aX (wrap .i64<|p0.At.X -(wrap .i64<|Int.tdiv p0.dT 2))<|AT zr um<|SW 1 j zr na cB<|SX (wrap .i64<|p0.At.X -(wrap .i64<|Int.tdiv p0.dT 2)) p0.dT<|aX (wrap .i64<|p0.At.Y -(wrap .i64<|Int.tdiv p0.dT 2))<|AT zr um<|SW 1 j zr na cB<|SX (wrap .i64<|p0.At.Y -(wrap .i64<|Int.tdiv p0.dT 2)) p0.dT ?_;have j:=((j.sc Int<|wrap .i64<|p0.At.X -(wrap .i64<|Int.tdiv p0.dT 2)).sc Int<|wrap .i64<|p0.At.Y -(wrap .i64<|Int.tdiv p0.dT 2)).sc Int<|wrap .i64<|wrap .i64 (p0.At.X -(wrap .i64<|Int.tdiv p0.dT 2))+p0.dT;have j:=j.sc Int<|wrap .i64<|wrap .i64 (p0.At.Y -(wrap .i64<|Int.tdiv p0.dT 2))+p0.dT;refine TX (⟨wrap .i64<|p0.At.X -(wrap .i64<|Int.tdiv p0.dT 2),wrap .i64<|p0.At.Y -(wrap .i64<|Int.tdiv p0.dT 2),wrap .i64<|wrap .i64 (p0.At.X -(wrap .i64<|Int.tdiv p0.dT 2))+p0.dT,wrap .i64<|wrap .i64 (p0.At.Y -(wrap .i64<|Int.tdiv p0.dT 2))+p0.dT⟩:aH) trivial rfl j [(0,vi<|wrap .i64<|p0.At.X -(wrap .i64<|Int.tdiv p0.dT 2)),(1,vi<|wrap .i64<|p0.At.Y -(wrap .i64<|Int.tdiv p0.dT 2)),(2,vi<|wrap .i64<|wrap .i64 (p0.At.X -(wrap .i64<|Int.tdiv p0.dT 2))+p0.dT),(3,vi<|wrap .i64<|wrap .i64 (p0.At.Y -(wrap .i64<|Int.tdiv p0.dT 2))+p0.dT)] rfl GY rfl (λM hs g=>by have h:=vP M;exact cV.cons (f:=λ(x:aH)y=>{x with X0:=y}) h sS (g.sat 3 _ rfl).1 λ_ h=>cV.cons (f:=λ(x:aH)y=>{x with Y0:=y}) h uP (g.sat 2 _ rfl).1 λ_ h=>cV.cons (f:=λ(x:aH)y=>{x with X1:=y}) h qT (g.sat 1 _ rfl).1 λ_ h=>cV.cons (f:=λ(x:aH)y=>{x with Y1:=y}) h sT (g.sat 0 _ rfl).1 λ_ h=>cV.nil h) λad j=>?_;refine TB 5 j 0 zr jk λw j=>?_;refine AI<|S4 ?_;obtain rfl:=oi o;exact Ml 5 zr j zr zr jk λae j=>j.pk 9 [0]
end Go.Gk
