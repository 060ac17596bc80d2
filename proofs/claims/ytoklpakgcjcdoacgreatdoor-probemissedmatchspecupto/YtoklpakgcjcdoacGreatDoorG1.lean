/-
  Printed texts: Go functions as plain functions, and that they are. No statement of the seed is proved here.
-/
import Derived.Test.YtoklpakgcjcdoacGreatDoorProg
import Derived.Test.YtoklpakgcjcdoacGreatDoorE1
import Derived.Test.YtoklpakgcjcdoacGreatDoorA1
import Derived.Test.YtoklpakgcjcdoacGreatDoorA2
import Derived.Test.YtoklpakgcjcdoacGreatDoorRows
import Derived.Shelf.SlGeneric
import Derived.Ground.SlsfProg
import Derived.Ground.SlgmProg
set_option linter.unusedVariables false
set_option linter.unusedSimpArgs false
set_option linter.unusedSectionVars false
set_option maxRecDepth 100000
set_option maxHeartbeats 40000000
namespace Go.Gk
open Go IntKind Go.Proofs
noncomputable abbrev bI:=Tryz.prog
abbrev c_(f:Nat)(l:Z aX)(w:aY)(R:aX->aY->Prop):Prop:=Calls bI f l.toArray w (fI R)
def qh(x:aG):=(x.X0,x.Y0,x.X1,x.Y1)
instance instGTRect:GT aG:=GT.via qh
instance instKVRect:KV aG:=instKVvia (λ(x:aG)=>(x.X0,x.Y0,x.X1,x.Y1))
theorem dP:Fd 0 (λx:aG=>x.X0):= .v qh<|.fst .self
theorem qZ:Fs 0 Int (λ(x:aG)y=>{x with X0:=y}):= .v qh<|.fst .self
theorem dL:Fd 1 (λx:aG=>x.Y0):= .v qh<|.snd<|.fst .self
theorem sK:Fs 1 Int (λ(x:aG)y=>{x with Y0:=y}):= .v qh<|.snd<|.fst .self
theorem eK:Fd 2 (λx:aG=>x.X1):= .v qh<|.snd<|.snd<|.fst .self
theorem pI:Fs 2 Int (λ(x:aG)y=>{x with X1:=y}):= .v qh<|.snd<|.snd<|.fst .self
theorem fw:Fd 3 (λx:aG=>x.Y1):= .v qh<|.snd<|.snd<|.snd<|.self
theorem q9:Fs 3 Int (λ(x:aG)y=>{x with Y1:=y}):= .v qh<|.snd<|.snd<|.snd<|.self
def wN(x:dW):=(x.X,x.Y)
instance instGTPoint:GT dW:=GT.via wN
instance instKVPoint:KV dW:=instKVvia (λ(x:dW)=>(x.X,x.Y))
theorem jZ:Fd 0 (λx:dW=>x.X):= .v wN<|.fst .self
theorem Fj:Fs 0 Int (λ(x:dW)y=>{x with X:=y}):= .v wN<|.fst .self
theorem iv:Fd 1 (λx:dW=>x.Y):= .v wN<|.snd<|.self
theorem Fk:Fs 1 Int (λ(x:dW)y=>{x with Y:=y}):= .v wN<|.snd<|.self
def wO(x:bU):=(x.At,x.eJ,x.cO,x.To,x.fJ)
instance instGTBore:GT bU:=GT.via wO
theorem uG:Fd 0 (λx:bU=>x.At):= .v wO<|.fst .self
theorem nY:Fd 2 (λx:bU=>x.eJ):= .v wO<|.snd<|.fst .self
theorem mb:Fd 3 (λx:bU=>x.cO):= .v wO<|.snd<|.snd<|.fst .self
theorem nZ:Fd 4 (λx:bU=>x.To):= .v wO<|.snd<|.snd<|.snd<|.fst .self
theorem rf:Fd 5 (λx:bU=>x.fJ):= .v wO<|.snd<|.snd<|.snd<|.snd<|.self
def uT(x:cX):=(x.Part,x.eG,x.cM,x.At)
instance instGTLand:GT cX:=GT.via uT
theorem pJ:Fd 0 (λx:cX=>x.Part):= .v uT<|.fst .self
theorem M7:Fs 0 eU (λ(x:cX)y=>{x with Part:=y}):= .v uT<|.fst .self
theorem sL:Fd 1 (λx:cX=>x.eG):= .v uT<|.snd<|.fst .self
theorem M8:Fs 1 eU (λ(x:cX)y=>{x with eG:=y}):= .v uT<|.snd<|.fst .self
theorem uH:Fd 2 (λx:cX=>x.cM):= .v uT<|.snd<|.snd<|.fst .self
theorem uI:Fd 3 (λx:cX=>x.At):= .v uT<|.snd<|.snd<|.snd<|.self
def Cf(x:gM):=(x.aL,x.cQ,x.aN,x.bO)
instance instGTArt:GT gM:=GT.via Cf
theorem kf:Fd 0 (λx:gM=>x.aL):= .v Cf<|.fst .self
theorem wP:Fd 1 (λx:gM=>x.cQ):= .v Cf<|.snd<|.fst .self
theorem iQ:Fd 2 (λx:gM=>x.aN):= .v Cf<|.snd<|.snd<|.fst .self
theorem mT:Fd 3 (λx:gM=>x.bO):= .v Cf<|.snd<|.snd<|.snd<|.self
def xM(x:eG):=(x.Part,x.eG)
instance instGTPin:GT eG:=GT.via xM
instance instKVPin:KV eG:=instKVvia (λ(x:eG)=>(x.Part,x.eG))
theorem uU:Fd 0 (λx:eG=>x.Part):= .v xM<|.fst .self
theorem Cg:Fs 0 eU (λ(x:eG)y=>{x with Part:=y}):= .v xM<|.fst .self
theorem zb:Fd 1 (λx:eG=>x.eG):= .v xM<|.snd<|.self
theorem Ch:Fs 1 eU (λ(x:eG)y=>{x with eG:=y}):= .v xM<|.snd<|.self
def Ci(x:Test):=(x.A,x.B,x.Joined)
instance instGTTest:GT Test:=GT.via Ci
theorem kT:Fd 0 (λx:Test=>x.A):= .v Ci<|.fst .self
theorem mc:Fd 2 (λx:Test=>x.B):= .v Ci<|.snd<|.fst .self
def lN(x:aA):=(x.Y0,x.Y1,x.Xs)
instance instGTshape_Band:GT aA:=GT.via lN
theorem je:Fd 0 (λx:aA=>x.Y0):= .v lN<|.fst .self
theorem yu:Fs 0 Int (λ(x:aA)y=>{x with Y0:=y}):= .v lN<|.fst .self
theorem gG:Fd 1 (λx:aA=>x.Y1):= .v lN<|.snd<|.fst .self
theorem tL:Fs 1 Int (λ(x:aA)y=>{x with Y1:=y}):= .v lN<|.snd<|.fst .self
theorem eX:Fd 2 (λx:aA=>x.Xs):= .v lN<|.snd<|.snd<|.self
theorem yv:Fs 2 (Z Int) (λ(x:aA)y=>{x with Xs:=y}):= .v lN<|.snd<|.snd<|.self
def lD(x:aD):=(x.cM,x.Set,x.dY)
instance instGTcopper_Piece:GT aD:=GT.via lD
theorem oy:Fd 0 (λx:aD=>x.cM):= .v lD<|.fst .self
theorem Cj:Fs 0 Int (λ(x:aD)y=>{x with cM:=y}):= .v lD<|.fst .self
theorem Ck:Fs 1 (Z aA) (λ(x:aD)y=>{x with Set:=y}):= .v lD<|.snd<|.fst .self
theorem oz:Fd 2 (λx:aD=>x.dY):= .v lD<|.snd<|.snd<|.self
theorem Cl:Fs 2 (Z aG) (λ(x:aD)y=>{x with dY:=y}):= .v lD<|.snd<|.snd<|.self
def z5(x:bZ):=(x.fN,x.aN,x.fB)
instance instGTGroup:GT bZ:=GT.via z5
theorem xN:Fd 0 (λx:bZ=>x.fN):= .v z5<|.fst .self
theorem Lr:Fd 1 (λx:bZ=>x.aN):= .v z5<|.snd<|.fst .self
theorem Bs:Fd 2 (λx:bZ=>x.fB):= .v z5<|.snd<|.snd<|.self
def xO(x:dZ):=(x.bU,x.Number)
instance instGTHop:GT dZ:=GT.via xO
instance instKVHop:KV dZ:=instKVvia (λ(x:dZ)=>(x.bU,x.Number))
theorem qj:Fd 0 (λx:dZ=>x.bU):= .v xO<|.fst .self
theorem Cm:Fs 0 Bool (λ(x:dZ)y=>{x with bU:=y}):= .v xO<|.fst .self
theorem lO:Fd 1 (λx:dZ=>x.Number):= .v xO<|.snd<|.self
theorem tp:Fs 1 Int (λ(x:dZ)y=>{x with Number:=y}):= .v xO<|.snd<|.self
def ql(x:bL):=(x.Open,x.dZ,x.A,x.B)
instance instGTFlaw:GT bL:=GT.via ql
theorem pK:Fd 0 (λx:bL=>x.Open):= .v ql<|.fst .self
theorem Df:Fs 0 Bool (λ(x:bL)y=>{x with Open:=y}):= .v ql<|.fst .self
theorem sM:Fd 1 (λx:bL=>x.dZ):= .v ql<|.snd<|.fst .self
theorem Dg:Fs 1 dZ (λ(x:bL)y=>{x with dZ:=y}):= .v ql<|.snd<|.fst .self
theorem uJ:Fd 3 (λx:bL=>x.A):= .v ql<|.snd<|.snd<|.fst .self
theorem Hs:Fs 3 Int (λ(x:bL)y=>{x with A:=y}):= .v ql<|.snd<|.snd<|.fst .self
theorem uK:Fd 4 (λx:bL=>x.B):= .v ql<|.snd<|.snd<|.snd<|.self
theorem Ht:Fs 4 Int (λ(x:bL)y=>{x with B:=y}):= .v ql<|.snd<|.snd<|.snd<|.self
def xP(x:we):=(x.A,x.B,x.iX,x.cO,x.To)
instance instGTGap:GT we:=GT.via xP
theorem JP:Fd 2 (λx:we=>x.iX):= .v xP<|.snd<|.snd<|.fst .self
theorem JQ:Fs 2 Int (λ(x:we)y=>{x with iX:=y}):= .v xP<|.snd<|.snd<|.fst .self
theorem zc:Fd 3 (λx:we=>x.cO):= .v xP<|.snd<|.snd<|.snd<|.fst .self
theorem JR:Fs 3 dW (λ(x:we)y=>{x with cO:=y}):= .v xP<|.snd<|.snd<|.snd<|.fst .self
theorem Oi:Fd 5 (λx:we=>x.To):= .v xP<|.snd<|.snd<|.snd<|.snd<|.self
theorem JS:Fs 5 dW (λ(x:we)y=>{x with To:=y}):= .v xP<|.snd<|.snd<|.snd<|.snd<|.self
def oV(x:cL):=(x.Ln,x.AW)
instance instGTprobe_seen:GT cL:=GT.via oV
theorem Es:Fd 0 (λx:cL=>x.Ln):= .v oV<|.fst .self
theorem Et:Fs 0 bL (λ(x:cL)y=>{x with Ln:=y}):= .v oV<|.fst .self
theorem qG:Fd 5 (λx:cL=>x.AW):= .v oV<|.snd<|.self
theorem Eu:Fs 5 (Z Bool) (λ(x:cL)y=>{x with AW:=y}):= .v oV<|.snd<|.self
def iK(x:aI):=(x.from_,x.to)
instance instGTetchhouseref1_span:GT aI:=GT.via iK
instance instKVetchhouseref1_span:KV aI:=instKVvia (λ(x:aI)=>(x.from_,x.to))
theorem fz:Fd 0 (λx:aI=>x.from_):= .v iK<|.fst .self
theorem mU:Fs 0 Int (λ(x:aI)y=>{x with from_:=y}):= .v iK<|.fst .self
theorem fA:Fd 1 (λx:aI=>x.to):= .v iK<|.snd<|.self
theorem mV:Fs 1 Int (λ(x:aI)y=>{x with to:=y}):= .v iK<|.snd<|.self
def gF(x:aQ):=(x.from_,x.to,x.kq)
instance instGTetchhouseref1_band:GT aQ:=GT.via gF
theorem rh:Fd 0 (λx:aQ=>x.from_):= .v gF<|.fst .self
theorem ri:Fs 0 Int (λ(x:aQ)y=>{x with from_:=y}):= .v gF<|.fst .self
theorem mW:Fd 1 (λx:aQ=>x.to):= .v gF<|.snd<|.fst .self
theorem mX:Fs 1 Int (λ(x:aQ)y=>{x with to:=y}):= .v gF<|.snd<|.fst .self
theorem hZ:Fd 2 (λx:aQ=>x.kq):= .v gF<|.snd<|.snd<|.self
theorem rj:Fs 2 (Z aI) (λ(x:aQ)y=>{x with kq:=y}):= .v gF<|.snd<|.snd<|.self
theorem yw(M:eZ):GT.ok M (#[(.bool false),e_]:aZ aX).toList (⟨false,0⟩:dZ):=⟨[(.bool false)],[e_],rfl,(show GT.ok M [(.bool false)] (false:Bool)from rfl),(show GT.ok M [e_] (0:Int)from rfl)⟩
theorem Dh(M:eZ):GT.ok M (#[(.bool false),(.bool false),e_,e_,e_]:aZ aX).toList (⟨false,⟨false,0⟩,0,0⟩:bL):=⟨[(.bool false)],[(.bool false),e_,e_,e_],rfl,(show GT.ok M [(.bool false)] (false:Bool)from rfl),⟨[(.bool false),e_],[e_,e_],rfl,(show GT.ok M [(.bool false),e_] (⟨false,0⟩:dZ)from yw M),⟨[e_],[e_],rfl,(show GT.ok M [e_] (0:Int)from rfl),(show GT.ok M [e_] (0:Int)from rfl)⟩⟩⟩
theorem Mq(M:eZ):GT.ok M (#[(.string ⟨#[]⟩),(.string ⟨#[]⟩)]:aZ aX).toList (⟨⟨[]⟩,⟨[]⟩⟩:eG):=⟨[(.string ⟨#[]⟩)],[(.string ⟨#[]⟩)],rfl,(show GT.ok M [(.string ⟨#[]⟩)] (⟨[]⟩:eU)from rfl),(show GT.ok M [(.string ⟨#[]⟩)] (⟨[]⟩:eU)from rfl)⟩
theorem Im(M:eZ):GT.ok M (#[(.bool false),(.bool false),e_,e_,e_,n_]:aZ aX).toList (⟨⟨false,⟨false,0⟩,0,0⟩,[]⟩:cL):=⟨[(.bool false),(.bool false),e_,e_,e_],[n_],rfl,(show GT.ok M [(.bool false),(.bool false),e_,e_,e_] (⟨false,⟨false,0⟩,0,0⟩:bL)from Dh M),(show GT.ok M [n_] ([]:Z Bool)from⟨_,rfl,none,0,0,rfl,rfl,cJ _,by simp[maxLen],λ_ _ h=>by simp at h⟩)⟩
theorem uV(M:eZ):GT.ok M (#[e_,e_,e_,e_]:aZ aX).toList (⟨0,0,0,0⟩:aG):=⟨[e_],[e_,e_,e_],rfl,(show GT.ok M [e_] (0:Int)from rfl),⟨[e_],[e_,e_],rfl,(show GT.ok M [e_] (0:Int)from rfl),⟨[e_],[e_],rfl,(show GT.ok M [e_] (0:Int)from rfl),(show GT.ok M [e_] (0:Int)from rfl)⟩⟩⟩
theorem z6(M:eZ):GT.ok M (#[e_,e_]:aZ aX).toList (⟨0,0⟩:dW):=⟨[e_],[e_],rfl,(show GT.ok M [e_] (0:Int)from rfl),(show GT.ok M [e_] (0:Int)from rfl)⟩
theorem R4(M:eZ):GT.ok M (#[(.string ⟨#[]⟩),(.string ⟨#[]⟩),e_,e_,e_]:aZ aX).toList (⟨⟨[]⟩,⟨[]⟩,0,⟨0,0⟩⟩:cX):=⟨[(.string ⟨#[]⟩)],[(.string ⟨#[]⟩),e_,e_,e_],rfl,(show GT.ok M [(.string ⟨#[]⟩)] (⟨[]⟩:eU)from rfl),⟨[(.string ⟨#[]⟩)],[e_,e_,e_],rfl,(show GT.ok M [(.string ⟨#[]⟩)] (⟨[]⟩:eU)from rfl),⟨[e_],[e_,e_],rfl,(show GT.ok M [e_] (0:Int)from rfl),(show GT.ok M [e_,e_] (⟨0,0⟩:dW)from z6 M)⟩⟩⟩
theorem Fm(M:eZ):GT.ok M (#[e_,n_,n_]:aZ aX).toList (⟨0,[],[]⟩:aD):=⟨[e_],[n_,n_],rfl,(show GT.ok M [e_] (0:Int)from rfl),⟨[n_],[n_],rfl,(show GT.ok M [n_] ([]:Z aA)from⟨_,rfl,none,0,0,rfl,rfl,cJ _,by simp[maxLen],λ_ _ h=>by simp at h⟩),(show GT.ok M [n_] ([]:Z aG)from⟨_,rfl,none,0,0,rfl,rfl,cJ _,by simp[maxLen],λ_ _ h=>by simp at h⟩)⟩⟩
theorem QV(M:eZ):GT.ok M (#[e_,e_,e_,e_,e_,e_,e_]:aZ aX).toList (⟨0,0,0,⟨0,0⟩,⟨0,0⟩⟩:we):=⟨[e_],[e_,e_,e_,e_,e_,e_],rfl,(show GT.ok M [e_] (0:Int)from rfl),⟨[e_],[e_,e_,e_,e_,e_],rfl,(show GT.ok M [e_] (0:Int)from rfl),⟨[e_],[e_,e_,e_,e_],rfl,(show GT.ok M [e_] (0:Int)from rfl),⟨[e_,e_],[e_,e_],rfl,(show GT.ok M [e_,e_] (⟨0,0⟩:dW)from z6 M),(show GT.ok M [e_,e_] (⟨0,0⟩:dW)from z6 M)⟩⟩⟩⟩
theorem tq(M:eZ):GT.ok M (#[e_,e_,n_]:aZ aX).toList (⟨0,0,[]⟩:aQ):=⟨[e_],[e_,n_],rfl,(show GT.ok M [e_] (0:Int)from rfl),⟨[e_],[n_],rfl,(show GT.ok M [e_] (0:Int)from rfl),(show GT.ok M [n_] ([]:Z aI)from⟨_,rfl,none,0,0,rfl,rfl,cJ _,by simp[maxLen],λ_ _ h=>by simp at h⟩)⟩⟩
theorem Cn(M:eZ):GT.ok M (#[e_,e_,n_]:aZ aX).toList (⟨0,0,[]⟩:aA):=⟨[e_],[e_,n_],rfl,(show GT.ok M [e_] (0:Int)from rfl),⟨[e_],[n_],rfl,(show GT.ok M [e_] (0:Int)from rfl),(show GT.ok M [n_] ([]:Z Int)from⟨_,rfl,none,0,0,rfl,rfl,cJ _,by simp[maxLen],λ_ _ h=>by simp at h⟩)⟩⟩
theorem tr(M:eZ):GT.ok M (#[e_,e_]:aZ aX).toList (⟨0,0⟩:aI):=⟨[e_],[e_],rfl,(show GT.ok M [e_] (0:Int)from rfl),(show GT.ok M [e_] (0:Int)from rfl)⟩
structure bD where
  fN:Z Int
  aN:Z Int
  fB:RV
  deriving Inhabited
def rN(x:bD):=(x.fN,x.aN,x.fB)
instance instGTGroup_r2:GT bD:=GT.via rN
theorem AY:Fd 0 (λx:bD=>x.fN):= .v rN<|.fst .self
theorem GR:Fd 1 (λx:bD=>x.aN):= .v rN<|.snd<|.fst .self
theorem GS:Fd 2 (λx:bD=>x.fB):= .v rN<|.snd<|.snd<|.self
theorem GU:Fs 2 RV (λ(x:bD)y=>{x with fB:=y}):= .v rN<|.snd<|.snd<|.self
def bH:XT bD bZ:=⟨λu x=>u.fN=x.fN/\u.aN=x.aN,λM h u x=>(u.fN=x.fN/\u.aN=x.aN)/\Bj 42 M h u.fB.v x.fB,λ{M M' h u x}hk hh=>⟨hh.1,(own 42 u.fB.v x.fB).mono hk hh.2⟩,λh=>h.1⟩
theorem rk:XO bH 42 2 (λu=>u.fB) (λu r=>{u with fB:=r}) (λx=>x.fB) (λx y=>{x with fB:=y}):=⟨GS,GU,by decide,λh=>h.2,λhr ho=>⟨hr,ho⟩⟩
theorem Co(M h:eZ)(u:bD)(x:bZ)(cs:Z aX)(hd:∀b o,h b=some o->M b=none)(hx:bH.ok M h u x)(hc:GT.ok M cs u):GT.ok (vD M h) cs x:=by
 obtain⟨⟨e0,e1⟩,ho⟩:=hx;obtain⟨c0,d0,hd0,a0,c1,d1,hd1,a1,a2⟩:=hc;exact⟨c0,d0,hd0,GT.mono (zY M h) (show GT.ok M c0 x.fN from e0▸(show GT.ok M c0 u.fN from a0)),⟨c1,d1,hd1,GT.mono (zY M h) (show GT.ok M c1 x.aN from e1▸(show GT.ok M c1 u.aN from a1)),⟨u.fB.v,a2,Bj.sl hd ho⟩⟩⟩
theorem oe:nH bI 27 true 4:=yD
theorem oW:pz bI 27 0 0:=rA
theorem pX:nH bI 22 false 1:=yD
theorem rO:Tryz.prog.underlying 22=some (.slice 23):=by kernel_rfl
theorem Io:pz bI 27 1 1:=rA
theorem vE:nH bI 23 false 1:=yD
theorem mI:Tryz.prog.underlying 23=some (.slice 63):=by kernel_rfl
theorem wQ:Aw bI 22 23 1:=Il
theorem gZ:Aw bI 23 63 4:=Il
theorem gj:nH bI 63 true 4:=yD
theorem oI:E2 bI 63 4:=GP<|.agg #[e_,e_,e_,e_]
theorem gU:pz bI 63 0 0:=rA
theorem cD:nH bI 3 false 1:=yD
theorem Hu:fR bI 147:=gr Tryz.func147
theorem gH:pz bI 63 1 1:=rA
theorem jm:pz bI 63 2 2:=rA
theorem kJ:pz bI 63 3 3:=rA
theorem QW:fR bI 132:=gr Tryz.func132
theorem mixed:Tryz.prog.follows .mixedOrders=true:=by kernel_rfl
theorem Fp:wE bI 23 63 4 32:=wE.of<|.agg #[e_,e_,e_,e_]
theorem QX:fR bI 134:=gr Tryz.func134
theorem Tf:SM bI 60 [n_]:=⟨n_,λ_=>by kernel_rfl,rfl⟩
theorem fK:nH bI 60 false 1:=yD
theorem dK:Aw bI 60 3 1:=Il
theorem GJ:E2 bI 3 1:=GP<|.int .i64 0
theorem sw:wE bI 60 3 1 8:=wE.of<|.int .i64 0
theorem l3:Tryz.prog.underlying 60=some (.slice 3):=by kernel_rfl
theorem P6:NW bI 3 (0:Int):=NW.of e_<|λM=>rfl
theorem QY:fR bI 151:=gr Tryz.func151
theorem U9:NW bI 63 (⟨0,0,0,0⟩:aG):=NW.of (.agg #[e_,e_,e_,e_])<|λM=>uV M
theorem QZ:xE bI 192 [(0,1),(1,1),(2,1)] #[e_,e_,n_]:=xE.of (.agg #[e_,e_,n_]) Tryz.underlying192
theorem oA:pz bI 192 2 2:=rA
theorem qH:pz bI 192 1 1:=rA
theorem uh:pz bI 192 0 0:=rA
theorem tX:Tryz.prog.underlying 102=some (.slice 192):=by kernel_rfl
theorem nK:Aw bI 102 192 3:=Il
theorem Cp:nH bI 192 true 3:=yD
theorem JT:E2 bI 192 3:=GP<|.agg #[e_,e_,n_]
theorem Tn:wE bI 102 192 3 40:=wE.of<|.agg #[e_,e_,n_]
theorem Q0:fR bI 140:=gr Tryz.func140
theorem Oj:fR bI 97:=gr Tryz.func97
theorem GV:xE bI 63 [(0,1),(1,1),(2,1),(3,1)] #[e_,e_,e_,e_]:=xE.of (.agg #[e_,e_,e_,e_]) Tryz.underlying63
theorem R5:fR bI 98:=gr Tryz.func98
theorem Mr:Tryz.prog.underlying 3=some (.int .i64):=by kernel_rfl
theorem Q1:PH bI 63 aG:=⟨λM cs ds a b w ha hb=>by
  obtain⟨_,_,rfl,rfl,⟨_,_,rfl,rfl,⟨_,_,rfl,rfl,rfl⟩⟩⟩:=ha
  obtain⟨_,_,rfl,rfl,⟨_,_,rfl,rfl,⟨_,_,rfl,rfl,rfl⟩⟩⟩:=hb
  refine(iF 9999 Tryz.underlying63<|yV.cons (by decide) (dC cD _) (dC cD _) (lH Mr _ _ w)<|yV.cons (by decide) (dC cD _) (dC cD _) (lH Mr _ _ w)<|yV.cons (by decide) (dC cD _) (dC cD _) (lH Mr _ _ w)<|yV.cons (by decide) (dC cD _) (dC cD _) (lH Mr _ _ w) yV.nil).trans ?_
  congr 1
  cases a;cases b;unfold qh
  rw[jd]
  simp,by kernel_rfl⟩
theorem Tp:fR bI 61:=gr Tryz.func61
theorem gI:pz bI 27 2 2:=rA
theorem nL:nH bI 24 false 1:=yD
theorem wR:Tryz.prog.underlying 24=some (.slice 121):=by kernel_rfl
theorem tM:Aw bI 24 121 6:=Il
theorem kg:nH bI 121 true 6:=yD
theorem Fq:E2 bI 121 6:=GP<|.agg #[e_,e_,e_,e_,e_,(.bool false)]
theorem sZ:pz bI 121 1 2:=rA
theorem Ms:fR bI 100:=gr Tryz.func100
theorem z7:pz bI 121 0 0:=rA
theorem rP:nH bI 65 true 2:=yD
theorem rQ:pz bI 65 0 0:=rA
theorem oX:pz bI 65 1 1:=rA
theorem Q2:fR bI 103:=gr Tryz.func103
theorem M9:fR bI 65:=gr Tryz.func65
theorem qI:pz bI 121 2 3:=rA
theorem s8:pz bI 121 3 4:=rA
theorem oY:pz bI 27 3 3:=rA
theorem zd:nH bI 25 false 1:=yD
theorem GW:Tryz.prog.underlying 25=some (.slice 67):=by kernel_rfl
theorem Ev:Aw bI 25 67 5:=Il
theorem wS:nH bI 67 true 5:=yD
theorem Na:E2 bI 67 5:=GP<|.agg #[(.string ⟨#[]⟩),(.string ⟨#[]⟩),e_,e_,e_]
theorem xQ:pz bI 67 0 0:=rA
theorem vS:nH bI 9 false 1:=yD
theorem Di:Tryz.prog.underlying 9=some (.string):=by kernel_rfl
theorem Fb(a:eU)(b:Int)(w:aY):(callFunc 208 [str a,(.int .u8 b)].toArray).run bI w = .ok (.value<|vi ((Lib.countByte a.dV (nq b).toUInt8:Nat):Int)) w:=E6 Extern.BytealgCount.count Tryz.func208<|Lib.run_countString _ _ w
theorem y7(a:eU)(b:Int)(w:aY):(callFunc 196 [str a,(.int .u8 b)].toArray).run bI w = .ok (.value<|vi<|Lib.indexByte a.dV (nq b).toUInt8) w:=E6 Extern.BytealgIndexByte.indexByte Tryz.func196<|Lib.run_indexByteString _ _ w
theorem Q3:fR bI 169:=gr Tryz.func169
theorem Q4:fR bI 195:=gr Tryz.func195
theorem Tu:wE bI 194 9 1 16:=wE.of<|.string ⟨#[]⟩
theorem Ww:NW bI 9 (⟨[]⟩:eU):=NW.of (.string ⟨#[]⟩)<|λM=>rfl
theorem JU:Aw bI 194 9 1:=Il
theorem Q5:fR bI 144:=gr Tryz.func144
theorem Q6:Tryz.prog.underlying 194=some (.slice 9):=by kernel_rfl
theorem Q7:fR bI 146:=gr Tryz.func146
theorem Q8:fR bI 102:=gr Tryz.func102
theorem Bt:pz bI 67 1 1:=rA
theorem Dj:pz bI 67 2 2:=rA
theorem Dk:pz bI 67 3 3:=rA
theorem R6:E2 bI 42 2:=GP<|.agg #[(.string ⟨#[]⟩),(.string ⟨#[]⟩)]
theorem P7:xE bI 42 [(0,1),(1,1)] #[(.string ⟨#[]⟩),(.string ⟨#[]⟩)]:=xE.of (.agg #[(.string ⟨#[]⟩),(.string ⟨#[]⟩)]) Tryz.underlying42
theorem nM:nH bI 42 true 2:=yD
theorem P8:fR bI 73:=gr Tryz.func73
theorem Bu:pz bI 42 0 0:=rA
theorem Dd(a b:eU)(w:aY):(callFunc 153 [str a,str b].toArray).run bI w = .ok (.value<|vi<|Lib.compareBytes a.dV b.dV) w:=E6 Extern.BytealgCompare.compare Tryz.func153<|Lib.run_compareString _ _ w
theorem TB:fR bI 74:=gr Tryz.func74
theorem Ft:pz bI 42 1 1:=rA
theorem Nb:fR bI 37:=gr Tryz.func37
theorem Q9:fR bI 104:=gr Tryz.func104
theorem P9:fR bI 64:=gr Tryz.func64
theorem Ve:xE bI 99 [(0,4),(4,1),(5,1),(6,1),(7,1),(8,1),(9,1),(10,1),(11,1)] #[n_,n_,n_,n_,n_,n_,n_,n_,n_,n_,n_,n_]:=xE.of (.agg #[n_,n_,n_,n_,n_,n_,n_,n_,n_,n_,n_,n_]) Tryz.underlying99
theorem rR:pz bI 99 0 0:=rA
theorem Ol:fR bI 105:=gr Tryz.func105
theorem Om:Aw bI 93 102 1:=Il
theorem On:E2 bI 102 1:=GP<|.slice none 0 0
theorem TC:Tryz.prog.underlying 93=some (.slice 102):=by kernel_rfl
theorem Ra:nH bI 102 false 1:=yD
theorem Rb:fR bI 171:=gr Tryz.func171
theorem Oo:Tryz.prog.underlying 4=some (.bool):=by kernel_rfl
theorem Oq:pz bI 99 1 4:=rA
theorem TI:nH bI 93 false 1:=yD
theorem TJ:wE bI 93 102 1 24:=wE.of<|.slice none 0 0
theorem Ot:fR bI 150:=gr Tryz.func150
theorem DZ:Li bI 113 3 3 Int Int (0:Int):=⟨by kernel_rfl,E7.int Mr,Mj e_<|λM=>⟨_,rfl,rfl⟩⟩
theorem Qa:E2 bI 23 1:=GP<|.slice none 0 0
theorem Ou:wE bI 22 23 1 24:=wE.of<|.slice none 0 0
theorem tN:pz bI 99 2 5:=rA
theorem Ew:nH bI 94 false 1:=yD
theorem TL:xE bI 104 [(0,1),(1,1),(2,1)] #[e_,n_,n_]:=xE.of (.agg #[e_,n_,n_]) Tryz.underlying104
theorem Nc:Aw bI 94 104 3:=Il
theorem Mt:E2 bI 104 3:=GP<|.agg #[e_,n_,n_]
theorem Vf:wE bI 94 104 3 56:=wE.of<|.agg #[e_,n_,n_]
theorem JV:Tryz.prog.underlying 94=some (.slice 104):=by kernel_rfl
theorem Hv:nH bI 104 true 3:=yD
theorem vT:pz bI 121 4 5:=rA
theorem rB:nH bI 4 false 1:=yD
theorem EO:pz bI 104 0 0:=rA
theorem EP:pz bI 104 2 2:=rA
theorem Rc:fR bI 109:=gr Tryz.func109
theorem Ip:pz bI 99 3 6:=rA
theorem Cq:nH bI 95 false 1:=yD
theorem Dl:Aw bI 95 60 1:=Il
theorem R7:E2 bI 60 1:=GP<|.slice none 0 0
theorem R8:wE bI 95 60 1 24:=wE.of<|.slice none 0 0
theorem TO:xE bI 142 [(0,1)] #[n_]:=xE.of (.agg #[n_]) Tryz.underlying142
theorem ui:pz bI 142 0 0:=rA
theorem TP:fR bI 43:=gr Tryz.func43
theorem Ls:Tryz.prog.underlying 95=some (.slice 60):=by kernel_rfl
theorem Nd:fR bI 46:=gr Tryz.func46
theorem TQ:fR bI 45:=gr Tryz.func45
theorem Dm:pz bI 99 5 8:=rA
theorem Fu:pz bI 99 6 9:=rA
theorem R9:SM bI 92 [n_,n_,n_]:=⟨(.agg #[n_,n_,n_]),λ_=>by kernel_rfl,rfl⟩
theorem Bv:pz bI 99 4 7:=rA
theorem tu:nH bI 96 false 1:=yD
theorem Ov:Tryz.prog.underlying 96=some (.slice 92):=by kernel_rfl
theorem uW:pz bI 92 0 0:=rA
theorem Bw:pz bI 92 1 1:=rA
theorem Ow:nH bI 92 true 3:=yD
theorem yE:Aw bI 96 92 3:=Il
theorem Sa:E2 bI 92 3:=GP<|.agg #[n_,n_,n_]
theorem Sb:wE bI 96 92 3 72:=wE.of<|.agg #[n_,n_,n_]
theorem JW:E2 bI 37 2:=GP<|.agg #[(.bool false),e_]
theorem Rd:fR bI 152:=gr Tryz.func152
theorem Fv:xE bI 37 [(0,1),(1,1)] #[(.bool false),e_]:=xE.of (.agg #[(.bool false),e_]) Tryz.underlying37
theorem qm:nH bI 37 true 2:=yD
theorem wi:pz bI 37 0 0:=rA
theorem qN:pz bI 37 1 1:=rA
theorem Bx:pz bI 92 2 2:=rA
theorem Lt:nH bI 90 false 1:=yD
theorem TV:Aw bI 90 42 2:=Il
theorem TW:wE bI 90 42 2 32:=wE.of<|.agg #[(.string ⟨#[]⟩),(.string ⟨#[]⟩)]
theorem Lu:pz bI 99 7 10:=rA
theorem Lv:pz bI 99 8 11:=rA
theorem Sd:nH bI 97 false 1:=yD
theorem TX:Aw bI 97 37 2:=Il
theorem Vi:wE bI 97 37 2 16:=wE.of<|.agg #[(.bool false),e_]
theorem TY:fR bI 34:=gr Tryz.func34
theorem Bz:Tryz.prog.underlying 28=some (.slice 44):=by kernel_rfl
theorem uX:Aw bI 28 44 5:=Il
theorem xR:nH bI 44 true 5:=yD
theorem Qb:E2 bI 44 5:=GP<|.agg #[(.string ⟨#[]⟩),(.string ⟨#[]⟩),(.string ⟨#[]⟩),(.string ⟨#[]⟩),(.bool false)]
theorem rS:pz bI 44 0 0:=rA
theorem Rf:Tryz.prog.underlying 174=some (.int .u64):=by kernel_rfl
theorem JX:fR bI 36:=gr Tryz.func36
theorem tO:pz bI 44 1 2:=rA
theorem TZ:fR bI 38:=gr Tryz.func38
theorem Se:fR bI 39:=gr Tryz.func39
theorem Vo:SM bI 29 [n_]:=⟨n_,λ_=>by kernel_rfl,rfl⟩
theorem Ex:nH bI 70 false 1:=yD
theorem Sf:Tryz.prog.underlying 90=some (.slice 42):=by kernel_rfl
theorem Nf:nH bI 29 false 1:=yD
theorem Ox:xE bI 39 [(0,1),(1,2),(3,1),(4,1)] #[(.bool false),(.bool false),e_,e_,e_]:=xE.of (.agg #[(.bool false),(.bool false),e_,e_,e_]) Tryz.underlying39
theorem rT:Aw bI 29 39 5:=Il
theorem Cr:E2 bI 39 5:=GP<|.agg #[(.bool false),(.bool false),e_,e_,e_]
theorem JY:wE bI 29 39 5 40:=wE.of<|.agg #[(.bool false),(.bool false),e_,e_,e_]
theorem T0:fR bI 40:=gr Tryz.func40
theorem Oy:E2 bI 106 7:=GP<|.agg #[e_,e_,e_,e_,e_,e_,e_]
theorem Rg:xE bI 106 [(0,1),(1,1),(2,1),(3,2),(5,2)] #[e_,e_,e_,e_,e_,e_,e_]:=xE.of (.agg #[e_,e_,e_,e_,e_,e_,e_]) Tryz.underlying106
theorem Hx:nH bI 106 true 7:=yD
theorem Lw:E2 bI 65 2:=GP<|.agg #[e_,e_]
theorem Sg:xE bI 65 [(0,1),(1,1)] #[e_,e_]:=xE.of (.agg #[e_,e_]) Tryz.underlying65
theorem T1:fR bI 76:=gr Tryz.func76
theorem z8:pz bI 106 3 3:=rA
theorem T2:fR bI 77:=gr Tryz.func77
theorem Mu:pz bI 106 4 5:=rA
theorem Mv:U7 bI 106 2 3 2:=⟨λ_ _=>by kernel_rfl⟩
theorem ze:Tryz.prog.underlying 29=some (.slice 39):=by kernel_rfl
theorem T3:SM bI 109 [(.map none)]:=⟨(.map none),λ_=>by kernel_rfl,rfl⟩
theorem JZ:nH bI 109 false 1:=yD
theorem wj:nH bI 39 true 5:=yD
theorem xS:pz bI 39 0 0:=rA
theorem BA:pz bI 39 1 1:=rA
theorem T4:fR bI 42:=gr Tryz.func42
theorem Mw:Li bI 109 3 4 Int Bool (false:Bool):=⟨by kernel_rfl,E7.int Mr,Mj (.bool false)<|λM=>⟨_,rfl,rfl⟩⟩
theorem T5:SM bI 110 [(.pointer none)]:=⟨(.pointer none),λ_=>by kernel_rfl,rfl⟩
theorem J0:nH bI 110 false 1:=yD
theorem T6:fR bI 44:=gr Tryz.func44
theorem Dn:pz bI 39 2 3:=rA
theorem Dp:pz bI 39 3 4:=rA
theorem Vr:Tryz.prog.underlying 97=some (.slice 37):=by kernel_rfl
theorem Qc:fR bI 21:=gr Tryz.func21
theorem rU:Aw bI 48 4 1:=Il
theorem Vt:E2 bI 4 1:=GP<|.bool false
theorem Lx:wE bI 48 4 1 1:=wE.of<|.bool false
theorem T7:fR bI 23:=gr Tryz.func23
theorem Vu:xE bI 52 [(0,5),(5,1)] #[(.bool false),(.bool false),e_,e_,e_,n_]:=xE.of (.agg #[(.bool false),(.bool false),e_,e_,e_,n_]) Tryz.underlying52
theorem Oz:Aw bI 47 52 6:=Il
theorem OA:E2 bI 52 6:=GP<|.agg #[(.bool false),(.bool false),e_,e_,e_,n_]
theorem Vv:wE bI 47 52 6 64:=wE.of<|.agg #[(.bool false),(.bool false),e_,e_,e_,n_]
theorem T8:fR bI 11:=gr Tryz.func11
theorem OB:Tryz.prog.underlying 47=some (.slice 52):=by kernel_rfl
theorem J3:nH bI 52 true 6:=yD
theorem Iq:pz bI 52 1 5:=rA
theorem Qd:nH bI 48 false 1:=yD
theorem Ly:Tryz.prog.underlying 48=some (.slice 4):=by kernel_rfl
theorem Sh:pz bI 52 0 0:=rA
theorem AZ:fR bI 128:=gr Tryz.func128
theorem Rh:fR bI 117:=gr Tryz.func117
theorem Hy:fR bI 154:=gr Tryz.func154
theorem Ri:fR bI 118:=gr Tryz.func118
theorem Rj:xE bI 203 [(0,1),(1,1)] #[e_,e_]:=xE.of (.agg #[e_,e_]) Tryz.underlying203
theorem A0:Tryz.prog.underlying 178=some (.slice 203):=by kernel_rfl
theorem sE:Aw bI 178 203 2:=Il
theorem uj:pz bI 203 1 1:=rA
theorem uk:pz bI 203 0 0:=rA
theorem Mx:nH bI 203 true 2:=yD
theorem Rk:E2 bI 203 2:=GP<|.agg #[e_,e_]
theorem OC:wE bI 178 203 2 16:=wE.of<|.agg #[e_,e_]
theorem Rl:fR bI 156:=gr Tryz.func156
theorem My:fR bI 120:=gr Tryz.func120
theorem Rm:xE bI 181 [(0,1),(1,1),(2,1)] #[e_,e_,n_]:=xE.of (.agg #[e_,e_,n_]) Tryz.underlying181
theorem z9:pz bI 181 2 2:=rA
theorem Hz:nH bI 178 false 1:=yD
theorem Rn:Tryz.prog.underlying 176=some (.slice 181):=by kernel_rfl
theorem Cs:Aw bI 176 181 3:=Il
theorem ER:pz bI 181 1 1:=rA
theorem Mz:pz bI 181 0 0:=rA
theorem Si:PH bI 203 aI:=⟨λM cs ds a b w ha hb=>by
  obtain⟨_,_,rfl,rfl,rfl⟩:=ha
  obtain⟨_,_,rfl,rfl,rfl⟩:=hb
  refine(iF 9999 Tryz.underlying203<|yV.cons (by decide) (dC cD _) (dC cD _) (lH Mr _ _ w)<|yV.cons (by decide) (dC cD _) (dC cD _) (lH Mr _ _ w) yV.nil).trans ?_
  congr 1
  cases a;cases b;unfold iK
  rw[jd]
  simp,by kernel_rfl⟩
theorem Uc:nH bI 181 true 3:=yD
theorem Ud:E2 bI 181 3:=GP<|.agg #[e_,e_,n_]
theorem Ue:wE bI 176 181 3 40:=wE.of<|.agg #[e_,e_,n_]
theorem Ro:fR bI 119:=gr Tryz.func119
theorem Rp:fR bI 121:=gr Tryz.func121
theorem Sj:fR bI 80:=gr Tryz.func80
theorem Ug:fR bI 87:=gr Tryz.func87
theorem OD:fR bI 89:=gr Tryz.func89
theorem Rq:fR bI 127:=gr Tryz.func127
theorem Ng:fR bI 51:=gr Tryz.func51
theorem Rr:fR bI 130:=gr Tryz.func130
theorem Qe:fR bI 49:=gr Tryz.func49
theorem OE:fR bI 160:=gr Tryz.func160
theorem Uk:fR bI 48:=gr Tryz.func48
theorem UX:NW bI 4 (false:Bool):=NW.of (.bool false)<|λM=>rfl
theorem Ul:fR bI 47:=gr Tryz.func47
theorem Qg:fR bI 28:=gr Tryz.func28
theorem Sk:fR bI 29:=gr Tryz.func29
theorem Um:PH bI 42 eG:=⟨λM cs ds a b w ha hb=>by
  obtain⟨_,_,rfl,rfl,rfl⟩:=ha
  obtain⟨_,_,rfl,rfl,rfl⟩:=hb
  refine(iF 9999 Tryz.underlying42<|yV.cons (by decide) (dC vS _) (dC vS _) (qM Di _ _ w)<|yV.cons (by decide) (dC vS _) (dC vS _) (qM Di _ _ w) yV.nil).trans ?_
  congr 1
  cases a;cases b;unfold xM
  rw[jd]
  simp,by kernel_rfl⟩
theorem Un:fR bI 14:=gr Tryz.func14
theorem Uo:xE bI 117 [(0,4),(4,1),(5,1),(6,1),(7,1)] #[n_,n_,n_,n_,n_,n_,n_,n_]:=xE.of (.agg #[n_,n_,n_,n_,n_,n_,n_,n_]) Tryz.underlying117
theorem xT:pz bI 117 1 4:=rA
theorem mK:pz bI 117 2 5:=rA
theorem s9:pz bI 117 4 7:=rA
theorem lr:pz bI 117 3 6:=rA
theorem Up:xE bI 92 [(0,1),(1,1),(2,1)] #[n_,n_,n_]:=xE.of (.agg #[n_,n_,n_]) Tryz.underlying92
theorem Lz:fR bI 84:=gr Tryz.func84
theorem Rs:fR bI 123:=gr Tryz.func123
theorem nn:pz bI 117 0 0:=rA
theorem Ru:fR bI 131:=gr Tryz.func131
theorem Uq:fR bI 94:=gr Tryz.func94
theorem Ur:fR bI 54:=gr Tryz.func54
theorem Rv:fR bI 158:=gr Tryz.func158
theorem Rw:fR bI 124:=gr Tryz.func124
theorem Us:fR bI 86:=gr Tryz.func86
theorem Ut:fR bI 13:=gr Tryz.func13
theorem Sm:fR bI 91:=gr Tryz.func91
theorem Uu:fR bI 93:=gr Tryz.func93
theorem Sn:fR bI 59:=gr Tryz.func59
theorem So:fR bI 60:=gr Tryz.func60
theorem Uv:fR bI 16:=gr Tryz.func16
theorem Uw:fR bI 31:=gr Tryz.func31
theorem Sp:fR bI 15:=gr Tryz.func15
theorem Qh:wE bI 28 44 5 72:=wE.of<|.agg #[(.string ⟨#[]⟩),(.string ⟨#[]⟩),(.string ⟨#[]⟩),(.string ⟨#[]⟩),(.bool false)]
theorem Rx:PH bI 39 bL:=⟨λM cs ds a b w ha hb=>by
  obtain⟨_,_,rfl,rfl,⟨_,_,rfl,⟨_,_,rfl,rfl,rfl⟩,⟨_,_,rfl,rfl,rfl⟩⟩⟩:=ha
  obtain⟨_,_,rfl,rfl,⟨_,_,rfl,⟨_,_,rfl,rfl,rfl⟩,⟨_,_,rfl,rfl,rfl⟩⟩⟩:=hb
  refine(iF 9999 Tryz.underlying39<|yV.cons (by decide) (dC rB _) (dC rB _) (th Oo _ _ w)<|yV.cons (by decide) (sJ qm rfl _) (sJ qm rfl _) (iF 9998 Tryz.underlying36<|yV.cons (by decide) (dC rB _) (dC rB _) (th Oo _ _ w)<|yV.cons (by decide) (dC cD _) (dC cD _) (lH Mr _ _ w) yV.nil)<|yV.cons (by decide) (dC cD _) (dC cD _) (lH Mr _ _ w)<|yV.cons (by decide) (dC cD _) (dC cD _) (lH Mr _ _ w) yV.nil).trans ?_
  congr 1
  obtain⟨_,⟨_,_⟩,_,_⟩:=a;obtain⟨_,⟨_,_⟩,_,_⟩:=b;unfold ql xO
  rw[jd]
  simp,by kernel_rfl⟩
theorem Ux:PH bI 44 Test:=⟨λM cs ds a b w ha hb=>by
  obtain⟨_,_,rfl,⟨_,_,rfl,rfl,rfl⟩,⟨_,_,rfl,⟨_,_,rfl,rfl,rfl⟩,rfl⟩⟩:=ha
  obtain⟨_,_,rfl,⟨_,_,rfl,rfl,rfl⟩,⟨_,_,rfl,⟨_,_,rfl,rfl,rfl⟩,rfl⟩⟩:=hb
  refine(iF 9999 Tryz.underlying44<|yV.cons (by decide) (sJ nM rfl _) (sJ nM rfl _) (iF 9998 Tryz.underlying41<|yV.cons (by decide) (dC vS _) (dC vS _) (qM Di _ _ w)<|yV.cons (by decide) (dC vS _) (dC vS _) (qM Di _ _ w) yV.nil)<|yV.cons (by decide) (sJ nM rfl _) (sJ nM rfl _) (iF 9998 Tryz.underlying41<|yV.cons (by decide) (dC vS _) (dC vS _) (qM Di _ _ w)<|yV.cons (by decide) (dC vS _) (dC vS _) (qM Di _ _ w) yV.nil)<|yV.cons (by decide) (dC rB _) (dC rB _) (th Oo _ _ w) yV.nil).trans ?_
  congr 1
  obtain⟨⟨_,_⟩,⟨_,_⟩,_⟩:=a;obtain⟨⟨_,_⟩,⟨_,_⟩,_⟩:=b;unfold xM Ci
  rw[jd]
  simp,by kernel_rfl⟩
theorem VV:xE bI 67 [(0,1),(1,1),(2,1),(3,2)] #[(.string ⟨#[]⟩),(.string ⟨#[]⟩),e_,e_,e_]:=xE.of (.agg #[(.string ⟨#[]⟩),(.string ⟨#[]⟩),e_,e_,e_]) Tryz.underlying67
theorem VW:xE bI 27 [(0,1),(1,1),(2,1),(3,1)] #[n_,n_,n_,n_]:=xE.of (.agg #[n_,n_,n_,n_]) Tryz.underlying27
theorem VX:E2 bI 27 4:=GP<|.agg #[n_,n_,n_,n_]
theorem Uy:PH bI 37 dZ:=⟨λM cs ds a b w ha hb=>by
  obtain⟨_,_,rfl,rfl,rfl⟩:=ha
  obtain⟨_,_,rfl,rfl,rfl⟩:=hb
  refine(iF 9999 Tryz.underlying37<|yV.cons (by decide) (dC rB _) (dC rB _) (th Oo _ _ w)<|yV.cons (by decide) (dC cD _) (dC cD _) (lH Mr _ _ w) yV.nil).trans ?_
  congr 1
  cases a;cases b;unfold xO
  rw[jd]
  simp,by kernel_rfl⟩
theorem Sq:fR bI 69:=gr Tryz.func69
def zf(E:aY)(V:Z HP)(res:Z bL×Int)(v:aX)(w:aY):Prop:=∃u0:aX,v = .tuple #[u0,vi res.2]/\Holds E w ([own 39 u0 res.1]++V)
def pY(E:aY)(V:Z HP)(res:Z Int)(v:aX)(w:aY):Prop:=Holds E w<|[rd v res]++V
def np(E:aY)(V:Z HP)(res:Z aI)(v:aX)(w:aY):Prop:=Holds E w<|[own 203 v res]++V
def l6(E:aY)(V:Z HP)(b0:Nat)(e_ h_:aX)(a_ d_:aX)(g_ b_:aX)(f_ i_:aX)(r_ p_:aX)(m_ l_:aX)(res:Int)(v:aX)(w:aY):Prop:=v= vi res/\Holds E w ([bc 99 b0 [e_,h_,a_,d_,g_,b_,f_,i_,r_,p_,m_,l_]]++V)
def tc(E:aY)(V:Z HP)(res:aT (Z (Z aG)×Z aG×Z bU×Z cX×Z (Z aA)×Z aD×Z (Z Int)×Z bZ×Z Int×Z Int×Z Int×Z dZ)×Int)(v:aX)(w:aY):Prop:=Hi res.1 (v = .tuple #[(.pointer none),vi res.2]/\Holds E w V) (λy=>∃(ub0:Nat)(D_ G_:aX)(H_ O_:aX)(I_ J_:aX)(E_ K_:aX)(a2_ a3_:aX)(a4_ a5_:aX),v = .tuple #[vp ub0 0,vi res.2]/\Holds E w ([bc 99 ub0 [D_,G_,H_,O_,I_,J_,E_,K_,a2_,a3_,a4_,a5_],rd D_ y.1,rd G_ y.2.1,rd H_ y.2.2.1,rd O_ y.2.2.2.1,own 102 I_ y.2.2.2.2.1,rd J_ y.2.2.2.2.2.1,rd E_ y.2.2.2.2.2.2.1,own 92 K_ y.2.2.2.2.2.2.2.1,rd a2_ y.2.2.2.2.2.2.2.2.1,rd a3_ y.2.2.2.2.2.2.2.2.2.1,own 3 a4_ y.2.2.2.2.2.2.2.2.2.2.1,own 37 a5_ y.2.2.2.2.2.2.2.2.2.2.2]++V))
def A1(E:aY)(V:Z HP)(res:we)(v:aX)(w:aY):Prop:=Holds E w<|[rd v res]++V
def iw(E:aY)(V:Z HP)(b0:Nat)(e_ h_:aX)(a_ d_:aX)(g_ b_ f_:aX)(us0_6:Z bD)(s_:Z bZ)(i_:aX)(res:Int)(v:aX)(w:aY):Prop:=v= vi res/\Holds E w ([bc 117 b0 [e_,h_,a_,d_,g_,b_,f_,i_],own 92 f_ us0_6,jP bH us0_6 s_ none]++V)
def uY(E:aY)(V:Z HP)(res:Z eU)(v:aX)(w:aY):Prop:=Holds E w<|[own 9 v res]++V
def aV(E:aY)(V:Z HP)(res:Bool)(v:aX)(w:aY):Prop:=v= vb res/\Holds E w V
def aU(E:aY)(V:Z HP)(res:Int)(v:aX)(w:aY):Prop:=v= vi res/\Holds E w V
def gQ(E:aY)(V:Z HP)(res:Z aG)(v:aX)(w:aY):Prop:=Holds E w<|[own 63 v res]++V
def oZ(E:aY)(V:Z HP)(res:Z Int)(v:aX)(w:aY):Prop:=Holds E w<|[own 3 v res]++V
def pL(E:aY)(V:Z HP)(res:Z aA)(v:aX)(w:aY):Prop:=Holds E w<|[own 192 v res]++V
def rV(E:aY)(V:Z HP)(res:aG)(v:aX)(w:aY):Prop:=Holds E w<|[rd v res]++V
def rX(E:aY)(V:Z HP)(res:Z (Z aG))(v:aX)(w:aY):Prop:=Holds E w<|[own 23 v res]++V
def qo(E:aY)(V:Z HP)(b0:Nat)(e_ h_:aX)(a_ d_:aX)(g_ b_:aX)(f_ i_:aX)(res:Z Int)(v:aX)(w:aY):Prop:=Holds E w<|[own 3 v res,bc 117 b0 [e_,h_,a_,d_,g_,b_,f_,i_]]++V
def j3(E:aY)(V:Z HP)(b0:Nat)(e_ h_:aX)(a_ d_:aX)(g_ b_:aX)(f_ i_:aX)(res:Int)(v:aX)(w:aY):Prop:=v= vi res/\Holds E w ([bc 117 b0 [e_,h_,a_,d_,g_,b_,f_,i_]]++V)
def mY(E:aY)(V:Z HP)(b0:Nat)(e_ h_:aX)(a_ d_:aX)(g_ b_:aX)(f_ i_:aX)(res:Z bL)(v:aX)(w:aY):Prop:=Holds E w<|[own 39 v res,bc 117 b0 [e_,h_,a_,d_,g_,b_,f_,i_]]++V
def ET(H:Type)(d:DataW H):Nat:=YtoklpakgcjcdoacGreatDoor.Rows.uptoBulk d
def UC(H:Type)(d:List (DataW H)):Nat:=YtoklpakgcjcdoacGreatDoor.Rows.uptoBulkAll d
theorem j5:UB ET UC where
  str:=λH b=>by simp[ET,YtoklpakgcjcdoacGreatDoor.Rows.uptoBulk]
  pos:=λH d=>by
    unfold ET
    cases d with
    |lit l=>cases l <;> simp[YtoklpakgcjcdoacGreatDoor.Rows.uptoBulk]
    |nil=>simp[YtoklpakgcjcdoacGreatDoor.Rows.uptoBulk]
    |ptr d=>simp[YtoklpakgcjcdoacGreatDoor.Rows.uptoBulk]
    |slice elems spare=>simp[YtoklpakgcjcdoacGreatDoor.Rows.uptoBulk]
    |agg parts=>simp[YtoklpakgcjcdoacGreatDoor.Rows.uptoBulk]
    |iface t d=>simp[YtoklpakgcjcdoacGreatDoor.Rows.uptoBulk]
    |map entries=>simp[YtoklpakgcjcdoacGreatDoor.Rows.uptoBulk]
    |held h=>simp[YtoklpakgcjcdoacGreatDoor.Rows.uptoBulk]
  sl:=λH e s=>by simp[ET,UC,YtoklpakgcjcdoacGreatDoor.Rows.uptoBulk]
  ag:=λH l=>by simp[ET,UC,YtoklpakgcjcdoacGreatDoor.Rows.uptoBulk]
  nil:=λH=>by simp[UC,YtoklpakgcjcdoacGreatDoor.Rows.uptoBulkAll]
  cons:=λH x l=>by simp[ET,UC,YtoklpakgcjcdoacGreatDoor.Rows.uptoBulkAll]
theorem ON:lP ET Tryz.prog 3 Int:=Nl j5 (by kernel_rfl)
theorem V3:lP ET Tryz.prog 63 aG:=nv j5 (λ(x:aG)=>(x.X0,x.Y0,x.X1,x.Y1)) (λb=>⟨b.1,b.2.1,b.2.2.1,b.2.2.2⟩) (λb=>rfl) Tryz.underlying63 (iz j5 ON<|iz j5 ON<|iz j5 ON<|sN j5 ON) (λb=>by simp only[Qm];omega)
theorem UD:lP ET Tryz.prog 23 (Z aG):=uZ (e:=63) j5 V3
theorem V4:lP ET Tryz.prog 22 (Z<|Z aG):=uZ (e:=23) j5 UD
theorem UE:lP ET Tryz.prog 65 dW:=nv j5 (λ(x:dW)=>(x.X,x.Y)) (λb=>⟨b.1,b.2⟩) (λb=>rfl) Tryz.underlying65 (iz j5 ON<|sN j5 ON) (λb=>by simp only[OL];omega)
theorem Wm:lP ET Tryz.prog 4 Bool:=LD j5 (by kernel_rfl)
theorem UG:lP ET Tryz.prog 121 bU:=nv j5 (λ(x:bU)=>(x.At,x.eJ,x.cO,x.To,x.fJ)) (λb=>⟨b.1,b.2.1,b.2.2.1,b.2.2.2.1,b.2.2.2.2⟩) (λb=>rfl) Tryz.underlying121 (iz j5 UE<|iz j5 ON<|iz j5 ON<|iz j5 ON<|sN j5 Wm) (λb=>by simp only[Qn];omega)
theorem V5:lP ET Tryz.prog 24 (Z bU):=uZ (e:=121) j5 UG
theorem UY:lP ET Tryz.prog 9 eU:=Nm j5 (by kernel_rfl)
theorem V6:lP ET Tryz.prog 67 cX:=nv j5 (λ(x:cX)=>(x.Part,x.eG,x.cM,x.At)) (λb=>⟨b.1,b.2.1,b.2.2.1,b.2.2.2⟩) (λb=>rfl) Tryz.underlying67 (iz j5 UY<|iz j5 UY<|iz j5 ON<|sN j5 UE) (λb=>by simp only[MC];omega)
theorem V7:lP ET Tryz.prog 25 (Z cX):=uZ (e:=67) j5 V6
theorem V8:lP ET Tryz.prog 27 gM:=nv j5 (λ(x:gM)=>(x.aL,x.cQ,x.aN,x.bO)) (λb=>⟨b.1,b.2.1,b.2.2.1,b.2.2.2⟩) (λb=>rfl) Tryz.underlying27 (iz j5 V4<|iz j5 UD<|iz j5 V5<|sN j5 V7) (λb=>by simp only[OM];omega)
theorem UH:lP ET Tryz.prog 42 eG:=nv j5 (λ(x:eG)=>(x.Part,x.eG)) (λb=>⟨b.1,b.2⟩) (λb=>rfl) Tryz.underlying42 (iz j5 UY<|sN j5 UY) (λb=>by simp only[St];omega)
theorem V9:lP ET Tryz.prog 44 Test:=nv j5 (λ(x:Test)=>(x.A,x.B,x.Joined)) (λb=>⟨b.1,b.2.1,b.2.2⟩) (λb=>rfl) Tryz.underlying44 (iz j5 UH<|iz j5 UH<|sN j5 Wm) (λb=>by simp only[Qo];omega)
theorem Wa:lP ET Tryz.prog 28 (Z Test):=uZ (e:=44) j5 V9
end Go.Gk
namespace Go.Proofs
open Go.Shelf Go.RowKit Go.Lib Go.Sort
theorem layq{α:Type _}{a b:α}(h:a=b:=by kernel_rfl):some a=some b:=congrArg some h
def Tryz.lay134_ren : Go.Shelf.Ren := ⟨fun|6=>134|15=>162|14=>161|28=>182|29=>183|20=>174|21=>175|22=>176|23=>177|24=>178|25=>179|26=>180|27=>181|46=>197|47=>198|48=>199|49=>200|50=>201|57=>210|n=>n,fun|22=>23|24=>63|25=>131|3=>3|39=>174|0=>0|53=>223|55=>225|4=>4|46=>217|45=>216|50=>114|5=>5|9=>9|66=>231|70=>235|76=>242|77=>243|n=>n,fun|n=>n⟩
section open Tryz
theorem Tryz.lay134:Go.Proofs.SlLaysF0.n6 Tryz.prog Tryz.lay134_ren:=⟨by kernel_rfl,⟨f134.name,by decide,func134.trans layq⟩,⟨f161.name,by decide,func161.trans layq⟩,func162.trans layq,⟨f174.name,by decide,func174.trans layq⟩,⟨f175.name,by decide,func175.trans layq⟩,⟨f176.name,by decide,func176.trans layq⟩,⟨f177.name,by decide,func177.trans layq⟩,⟨f178.name,by decide,func178.trans layq⟩,⟨f179.name,by decide,func179.trans layq⟩,⟨f180.name,by decide,func180.trans layq⟩,⟨f181.name,by decide,func181.trans layq⟩,func182.trans layq,func183.trans layq,⟨f197.name,by decide,func197.trans layq⟩,func198.trans layq,func199.trans layq,⟨f200.name,by decide,func200.trans layq⟩,⟨f201.name,by decide,func201.trans layq⟩,⟨f210.name,by decide,func210.trans layq⟩,underlying0,isAgg0,sizeOf0,zeroValue0,underlying3,isAgg3,sizeOf3,zeroValue3,underlying4,isAgg4,sizeOf4,zeroValue4,underlying5,isAgg5,sizeOf5,zeroValue5,underlying9,isAgg9,sizeOf9,zeroValue9,underlying23,isAgg23,sizeOf23,zeroValue23,underlying131,isAgg131,sizeOf131,zeroValue131,underlying174,isAgg174,sizeOf174,zeroValue174,underlying216,isAgg216,sizeOf216,zeroValue216,underlying217,isAgg217,sizeOf217,zeroValue217,underlying114,isAgg114,sizeOf114,zeroValue114,underlying223,isAgg223,sizeOf223,zeroValue223,underlying225,isAgg225,sizeOf225,zeroValue225,underlying231,isAgg231,sizeOf231,zeroValue231,underlying235,isAgg235,sizeOf235,zeroValue235,underlying242,isAgg242,sizeOf242,zeroValue242,underlying243,isAgg243,sizeOf243,zeroValue243⟩
end
def Tryz.lay136_ren : Go.Shelf.Ren := ⟨fun|5=>136|8=>162|7=>163|19=>182|20=>183|10=>184|11=>185|12=>186|13=>187|14=>188|15=>189|16=>190|17=>191|18=>192|30=>202|31=>198|32=>199|33=>203|34=>204|35=>205|40=>211|n=>n,fun|23=>60|25=>3|3=>3|32=>174|22=>60|0=>0|44=>223|46=>225|4=>4|36=>217|35=>216|41=>114|5=>5|9=>9|53=>231|57=>235|63=>242|64=>243|n=>n,fun|n=>n⟩
section open Tryz
theorem Tryz.lay136:Go.Proofs.SlLaysM.n5 Tryz.prog Tryz.lay136_ren:=⟨by kernel_rfl,⟨f136.name,by decide,func136.trans layq⟩,⟨f163.name,by decide,func163.trans layq⟩,func162.trans layq,⟨f184.name,by decide,func184.trans layq⟩,⟨f185.name,by decide,func185.trans layq⟩,⟨f186.name,by decide,func186.trans layq⟩,⟨f187.name,by decide,func187.trans layq⟩,⟨f188.name,by decide,func188.trans layq⟩,⟨f189.name,by decide,func189.trans layq⟩,⟨f190.name,by decide,func190.trans layq⟩,⟨f191.name,by decide,func191.trans layq⟩,⟨f192.name,by decide,func192.trans layq⟩,func182.trans layq,func183.trans layq,⟨f202.name,by decide,func202.trans layq⟩,func198.trans layq,func199.trans layq,⟨f203.name,by decide,func203.trans layq⟩,⟨f204.name,by decide,func204.trans layq⟩,⟨f205.name,by decide,func205.trans layq⟩,⟨f211.name,by decide,func211.trans layq⟩,underlying0,isAgg0,sizeOf0,zeroValue0,underlying3,isAgg3,sizeOf3,zeroValue3,underlying4,isAgg4,sizeOf4,zeroValue4,underlying5,isAgg5,sizeOf5,zeroValue5,underlying9,isAgg9,sizeOf9,zeroValue9,underlying60,isAgg60,sizeOf60,zeroValue60,underlying60,isAgg60,sizeOf60,zeroValue60,underlying3,isAgg3,sizeOf3,zeroValue3,underlying174,isAgg174,sizeOf174,zeroValue174,underlying216,isAgg216,sizeOf216,zeroValue216,underlying217,isAgg217,sizeOf217,zeroValue217,underlying114,isAgg114,sizeOf114,zeroValue114,underlying223,isAgg223,sizeOf223,zeroValue223,underlying225,isAgg225,sizeOf225,zeroValue225,underlying231,isAgg231,sizeOf231,zeroValue231,underlying235,isAgg235,sizeOf235,zeroValue235,underlying242,isAgg242,sizeOf242,zeroValue242,underlying243,isAgg243,sizeOf243,zeroValue243⟩
end
end Go.Proofs
namespace Go.Gk
open Go IntKind Go.Proofs
variable (N:Nat){E w:aY}{i0 i1 i2:Nat}{p0 p1 p2 res:Int}{v0 v1 v2:aX}{V:Z HP}
theorem Ey{res:Bool}(o:Holds E w V)(j:xI N p0 p1 p2=some res):c_ 170 [vi p0,vi p1,vi p2] w<|aV E V res:=by
 unfold xI at j;refine enter Tryz.func170 zr zr<|w_<|bX false<|OF<|aS p0<|aS p1<|ic p0 p1<|eR (mM<|p0>=p1)<|WZ (vi p0) zr zr nI ?_;exact WZ (vi p2) zr zr nI<|WZ (vb<|p0<=p2) zr zr (sD .leq)<|Xl (b:=mM<|p0>=p1) (v:=vb<|mM (p0>=p1)&&mM (p0<=p2)) zt zr zr (jK true)<|bX (mM (p0>=p1)&&mM (p0<=p2))<|AS<|WS<|oi j▸bT ⟨rfl,o.drop 0⟩
theorem n0{res:Bool}(o:Holds E w V)(j:ni N p0=some res):c_ 147 [vi p0] w<|aV E V res:=by
 unfold ni at j;exact enter Tryz.func147 zr zr<|w_<|bX false<|OF<|aS p0<|q_ j λaa ab j=>WQ (gr Tryz.func170) (Ey N (p0:=p0) (p1:=(-1000000)) (p2:=1000000) o ab) λw o=>bX aa<|AS<|WS<|oi j▸bT ⟨rfl,o.drop 0⟩
theorem yx{p0:aG}{res:Bool}(j:Holds E w V)(h0:eo V i0 v0 p0)(hb:pB N p0=some res):c_ 132 [v0] w<|aV E V res:=by
 unfold pB at hb;refine enter Tryz.func132 zr zr ?_;have j:=j.dup (i0+0) h0;refine w_<|Xg 0 v0 j zr λaq w j=>?_;refine bX false<|WK<|q_ hb λaf o hb=>WW (λ(af:Bool)=>SH E V [(2,vb af)] []) af ?_ ?_;refine IN<|AT zr gU<|WM 0 j zr dP cD<|q_ o λaj ak o=>WQ Hu (n0 N (p0:=p0.X0) j ak) λw j=>eR aj<|dT o (λaa o=>?_) λaa o=>?_;refine AT zr gH<|WM 0 j zr dL cD<|q_ o λag al o=>WQ Hu (n0 N (p0:=p0.Y0) j al) λw j=>dR aa (vb ag)<|eR ag<|dT o (λab o=>?_) λab o=>?_;refine AT zr jm<|WM 0 j zr eK cD<|q_ o λah an o=>WQ Hu (n0 N (p0:=p0.X1) j an) λw j=>dR ab (vb ah)<|eR ah<|dT o (λad o=>?_) λad o=>?_;exact AT zr kJ<|WM 0 j zr fw cD<|q_ o λai ao o=>WQ Hu (n0 N (p0:=p0.Y1) j ao) λw j=>dR ad (vb ai)<|bX ai<|By<|oi o▸⟨rfl,j.sp 2 []⟩;exact aW ad<|aW ad<|aW ad<|dR ad (vb false)<|bX false<|By<|oi o▸⟨rfl,j.sp 2 []⟩;refine aW ab<|aW ab<|aW ab<|dR ab (vb false)<|eR false<|jY<|jY<|jY<|Xl (b:=false) (v:=vb false) zt zr zr zr<|bX false<|By ?_;exact oi o▸⟨rfl,j.sp 2 []⟩;refine aW aa<|aW aa<|aW aa<|dR aa (vb false)<|eR false<|jY<|jY<|jY<|Xl (b:=false) (v:=vb false) zt zr zr zr<|eR false<|jY<|jY<|jY<|Xl (b:=false) (v:=vb false) zt zr zr zr<|bX false<|By ?_;exact oi o▸⟨rfl,j.sp 2 []⟩;rintro _ w⟨O,rfl,j⟩;exact aC<|WS<|oi hb▸bT ⟨rfl,j.drop 0⟩
theorem Az{p0:Z aG}(j:Holds E w V)(h0:eo V i0 v0 p0)(hb:mN N p0=some res):c_ 95 [v0] w<|aU E V res:=by
 unfold mN at hb;refine enter Tryz.func95 zr zr ?_;have j:=j.dup (i0+0) h0;refine w_<|aK 0<|WK<|w_<|mv v0<|WN 0 p0 j mI<|ic ((p0.length:Int)) 2000<|AS<|cY hb (λhb=>?_) λhb=>?_;exact w_<|aK 2<|AS<|Xe<|oi hb▸bT ⟨rfl,j.drop 1⟩;refine W1<|w_<|mv v0<|WN 0 p0 j mI<|aS 0<|AS<|XX E V (λ(ae:Unit)=>[rd v0 p0]) (λ_=>[]) (λad _=>[(8,v0),(9,vi p0.length),(10,vi ad)]) (λr=>k7 bI 30 Tryz.f95 (aU E V r) .ret) hb ?_ ?_ ?_ ?_;exact j.sp 1 [0];rintro hm ad ae fl _ w hk⟨O,rfl,j⟩hb;refine BY<|W7<|q_ hb λo ah hb=>WI 0 j gZ ah λan j=>WX 0 o j gj λao j=>Xo j oI.z λab w j=>?_;refine Xk 0 j 1 zr gj λw j=>?_;refine WK<|w_<|Xi 0 j zr gj λaq j=>?_;refine q_ hb λai aj hb=>WQ QW (yx N (i0:=0) j zr aj) λw j=>Xp ai<|AS<|cY hb (λhb=>?_) λhb=>?_;exact w_<|aK 1<|AS<|Xe<|kD<|bJ<|oi hb▸⟨rfl,bT ⟨rfl,j.drop 5⟩⟩;refine XF<|AT rfl jm<|WM 1 j rfl eK cD<|AT rfl gU<|WM 1 j rfl dP cD<|ic o.X1 o.X0<|eR (mM<|o.X1<=o.X0)<|Xm true (o.X1<=o.X0) (vp ab 3) rfl rfl rfl (dG kJ)<|Xm true (o.X1<=o.X0) (vi o.Y1) rfl rfl rfl (bQ 1 rfl j (by exact z_ (vp ab 3)) rfl fw cD) ?_;refine Xm true (o.X1<=o.X0) (vp ab 1) rfl rfl rfl (dG gH)<|Xm true (o.X1<=o.X0) (vi o.Y0) rfl rfl rfl (bQ 1 rfl j (by exact z_ (vp ab 1)) rfl dL cD)<|WZ (vb<|o.Y1<=o.Y0) rfl rfl (sD .leq)<|Xl (b:=mM<|o.X1<=o.X0) (v:=vb<|mM (o.X1<=o.X0)||mM (o.Y1<=o.Y0)) trivial rfl rfl (pQ true)<|AS<|cY hb (λhb=>?_) λhb=>?_;exact w_<|aK 13<|AS<|XB<|bJ<|oi hb▸⟨rfl,bT ⟨rfl,j.drop 5⟩⟩;exact Xb<|bE<|aC<|IN<|Xu hk hm<|aS ((ad+1:Nat):Int)<|By<|oi hb▸⟨rfl,j.sp 5 [4]⟩;intro r U w hb hK;exact bJ<|oi hb▸hK;rintro ae _ w hb⟨O,rfl,j⟩;exact aC<|w_<|aK 0<|AS<|WS<|oi hb▸bT ⟨rfl,j.drop 1⟩
theorem zg{p0:Z aG}{res:Z aG}(j:Holds E w V)(h0:eo V i0 v0 p0)(o:kO N p0=some res):
    c_ 133 [v0] w<|gQ E V res:=by
 unfold kO at o
 refine enter Tryz.func133 zr zr ?_
 have j:=j.dup (i0+0) h0
 refine w_<|cT n_<|WK<|w_<|mv v0<|Zx (i:=0) zt zr j zr zr zr mI<|AS<|YD (b:=PZ v0) zr (λhc=>?_)<|λhc=>?_
 ·have hx:=j.U3 (i:=0) rfl hc
  rw[hx]at o
  replace o:some ([]:Z aG)=_:=o
  refine w_<|cT n_<|AS<|Xe ?_
  obtain rfl:=oi o
  have j:=j.cG aG 63
  exact bT<|j.pk 2 [0]
 refine XF<|Xq ([]:Z aG) j [] gZ oI (λM hs g=>zt) λae w j=>mv v0 ?_
 obtain⟨af,ab,o⟩:=bd o
 refine Xx 0 1 j Fp ab λad w j=>?_
 refine cT ad<|AS<|WS ?_
 obtain rfl:=oi o
 exact bT<|j.pk 2 [0]
theorem Cw{p0 p1:aG}(j:Holds E w V)(h0:eo V i0 v0 p0)(h1:eo V i1 v1 p1)(o:lI N p0 p1=some res):c_ 135 [v0,v1] w<|aU E V res:=by
 unfold lI at o;refine enter Tryz.func135 zr zr ?_;have j:=(j.dup (i0+0) h0).dup (i1+1) h1;refine w_<|Xg 1 v0 j zr λaa w j=>?_;refine Xg 1 v1 j zr λab w j=>?_;refine aK 0<|OF<|AT zr gH<|WM 1 j zr dL cD<|AT zr gH<|WM 0 j zr dL cD<|WL p0.Y0 p1.Y0<|aK (cE<|p0.Y0 - p1.Y0)<|AS ?_;exact WS<|oi o▸bT ⟨rfl,j.drop 4⟩
theorem yF{p0:Z Int}{res:Z Int}(j:Holds E w (own 3 v0 p0::V))(o:ji N p0=some res):c_ 137 [v0] w<|oZ E V res:=by
 unfold ji at o;refine enter Tryz.func137 zr zr<|w_<|cT n_<|WK<|w_<|mv v0<|XI (i:=0) (l:=p0) zt zr j zr zr l3<|ic ((p0.length:Int)) 2<|AS<|cY o (λo=>?_) λo=>?_;refine w_<|mv v0<|cT v0<|AS<|Xe ?_;obtain rfl:=oi o;exact bT<|j.pk 1 [0];refine W1<|w_<|aK 1<|AS<|XV E V (λ(ab:Int)=>[own 3 v0 p0]) (λ_=>[(0,v0)]) (λab=>[(3,vi ab)]) (λr=>k7 bI 61 Tryz.f137 (oZ E V r) .ret) o ?_ ?_ ?_ ?_;exact j.sp 1 [0];rintro ab fl _ w⟨O,rfl,j⟩o;refine BY<|w_<|aS ab<|mv v0<|XI (i:=0) (l:=p0) zt zr j zr zr l3<|ic ab ((p0.length:Int))<|AS<|cY o (λo=>?_) λo=>?_;refine W1<|Xz<|BY<|XK mixed ?_;have j:=j.drew;refine XJ<|mv v0<|AI<|aS ab<|AI<|q_ o λaq aj o=>W4 0 j zr zr dK aj<|AI<|XG 0 j aj cD<|AI<|mv v0<|AI<|aS ab<|AI<|WL ab 1 ?_;refine AI<|q_ o λar ak o=>W4 0 j zr zr dK ak<|AI<|XG 0 j ak cD<|AI<|ic aq ar<|XA<|aC<|cY o (λo=>?_) λo=>?_;refine w_<|mv v0<|aS ab<|q_ o λaz ae o=>YW 0 ab zr j zr zr dK ae<|cT (vw v0 (nq ab) 1)<|WK<|w_<|aK 1<|AS<|XY E V (λ(aa:Z Int×Int×Int)=>[own 3 v0 aa.1]) (λaa=>[(0,v0),(3,vi aa.2.1)]) (λaa=>[(4,vw v0 (nq ab) 1),(5,vi aa.2.2)]) o ?_ ?_ ?_;exact j.sp 1 [0];rintro aa fl _ w⟨O,rfl,j⟩o;refine BY<|w_<|aS aa.2.2<|mv (vw v0 (nq ab) 1)<|Zy (i:=0) (l:=aa.1) zt zr j zr zr l3<|ic aa.2.2 ((((aa.1.length - nq ab):Nat):Int))<|AS<|cY o (λo=>?_) λo=>?_;refine W1<|Xz<|BY<|XK mixed ?_;have j:=j.drew;refine XJ<|mv (vw v0 (nq ab) 1)<|AI<|aS aa.2.2<|AI<|q_ o λy7 af o=>YX 0 ab zr j zr zr zr dK (Lm ae) (l9 af).1 (l9 af).2<|AI<|Yf (f:=(λx=>x)) 0 zt j (ti 0 j (l9 af).2 0) (fZ (l9 af).2).2.1 Fd.self cD<|AI<|mv (vw v0 (nq ab) 1)<|AI<|aS aa.2.2<|AI<|WL aa.2.2 1 ?_;refine AI<|q_ o λau ag o=>YX 0 ab zr j zr zr zr dK (Lm ae) (l9 ag).1 (l9 ag).2<|AI<|Yf (f:=(λx=>x)) 0 zt j (ti 0 j (l9 ag).2 0) (fZ (l9 ag).2).2.1 Fd.self cD<|AI<|ic y7 au<|XA<|aC<|q_ o λah hj o=>WW (λ(ah:Z Int×Int)=>SH E V [(0,v0),(3,vi ah.2),(4,vw v0 (nq ab) 1),(5,vi aa.2.2)] [own 3 v0 ah.1]) ah ?_ ?_;refine cY hj (λhj=>?_) λhj=>?_;refine w_<|mv v0<|aS aa.2.1<|mv (vw v0 (nq ab) 1)<|aS aa.2.2<|q_ hj λav ai hj=>YX 0 ab zr j zr zr zr dK (Lm ae) (l9 ai).1 (l9 ai).2<|Yf (f:=(λx=>x)) 0 zt j (ti 0 j (l9 ai).2 0) (fZ (l9 ai).2).2.1 Fd.self cD<|q_ hj λa0 al hj=>W4 0 j zr zr dK al ?_;have j:=j.sc Int av;refine XU 1 0 j al cD λw j=>?_;refine AS<|IN<|aS aa.2.1<|WL aa.2.1 1<|aK (cE<|aa.2.1+1)<|By ?_;exact oi hj▸⟨rfl,j.sp 2 [1]⟩;exact Xb<|oi hj▸⟨rfl,j.sp 1 [0]⟩;rintro _ w⟨O,rfl,j⟩;refine bE<|aC<|IN<|aS aa.2.2<|WL aa.2.2 1<|aK (cE<|aa.2.2+1)<|By ?_;exact oi o▸⟨rfl,j.sp 1 [0]⟩;exact W9<|oi o▸⟨rfl,j.sp 1 [0]⟩;rintro aa _ w o⟨O,rfl,j⟩;refine aC<|w_<|mv v0<|aS aa.2.1<|q_ o λa1 an o=>YW 0 aa.2.1 zr j zr zr dK an<|Zj 0 zt j zr zr sw P6 (N8 an) λw j=>OF<|mv v0<|aS aa.2.1<|q_ o λa2 aw o=>YV 0 zr j zr zr dK (.inr ⟨rfl,zr⟩) aw λax j=>cT ax<|AS<|XB<|bJ ?_;obtain rfl:=oi o;exact⟨rfl,bT<|j.pk 1 [0]⟩;refine Xb<|bE<|aC<|IN<|aS ab<|WL ab 1<|aK (cE<|ab+1)<|By ?_;exact oi o▸⟨rfl,j.sp 1 [0]⟩;exact W9<|oi o▸⟨rfl,j.sp 1 [0]⟩;intro r U w o hK;exact bJ<|oi o▸hK;rintro ab _ w o⟨O,rfl,j⟩;refine aC<|w_<|mv v0<|cT v0<|AS<|WS ?_;obtain rfl:=oi o;exact bT<|j.pk 1 [0]
theorem Cx{p0:aG}{p1:Z Int}{res:Bool}(j:Holds E w V)(h0:eo V i0 v0 p0)(h1:eF V i1 v1 p1)(h2:eF V i2 v2 p2)(o:rI N p0 p1 p2=some res):c_ 139 [v0,v1,v2] w<|aV E V res:=by
 unfold rI at o;refine enter Tryz.func139 zr zr ?_;have j:=((j.dup (i0+0) h0).E3 (i:=i1+1) h1).E3 (i:=i2+2) h2;refine w_<|Xg 2 v0 j zr λad w j=>?_;refine bX false<|WK<|XK mixed ?_;have j:=j.drew;refine XJ<|AT zr kJ<|AI<|WM 0 j zr fw cD<|AI<|WX 2 p1 j fK λae j=>AI<|W2 p2 2 j cD<|AI<|q_ o λaa ab o=>WI 0 j dK ab λaf j=>AI<|W2 aa 0 j cD<|AI<|ic p0.Y1 aa<|AI<|bX (mM<|p0.Y1<=aa)<|XA<|aC ?_;exact WS<|oi o▸bT ⟨rfl,j.drop 6⟩
theorem wm{p0:Z aG}{p1:aG->aT Bool}(o:Holds E w V)(h0:eo V i0 v0 p0)(h1:PF bI E V v1 p1 (λ(r:Bool)=>Value.bool r))(j:n8 N p0 p1=some res):c_ 151 [v0,v1] w<|aU E V res:=by
 unfold n8 at j;refine enter Tryz.func151 zr zr ?_;have o:=o.dup (i0+0) h0;refine w_<|aK 0<|WK<|w_<|mv v0<|WN 0 p0 o mI<|aS 0<|AS<|XX E V (λ(ab:Unit)=>[rd v0 p0]) (λ_=>[]) (λaa _=>[(0,v0),(1,v1),(7,vi p0.length),(8,vi aa)]) (λr=>k7 bI 19 Tryz.f151 (aU E V r) .ret) j ?_ ?_ ?_ ?_;exact o.sp 1 [0];rintro hm aa ab fl _ w hk⟨O,rfl,o⟩j;refine BY<|W7<|aS (aa:Int)<|aK (aa:Int)<|OF<|mv v1<|mv v0<|aS (aa:Int)<|q_ j λaf ag j=>WI 0 o gZ ag λak o=>WX 0 af o gj λal o=>?_;refine q_ j λan ah j=>YG 0 zr o zr h1 3 zr zr zr ah λw o=>AS<|cY j (λj=>?_) λj=>?_;exact w_<|aS (aa:Int)<|aK (aa:Int)<|AS<|XB<|bJ<|oi j▸⟨rfl,bT ⟨rfl,o.drop 3⟩⟩;exact Xb<|bE<|aC<|IN<|Xu hk hm<|aS ((aa+1:Nat):Int)<|By<|oi j▸⟨rfl,o.sp 3 [2]⟩;intro r U w j hK;exact bJ<|oi j▸hK;rintro ab _ w j⟨O,rfl,o⟩;exact aC<|w_<|aK (-1)<|AS<|WS<|oi j▸bT ⟨rfl,o.drop 1⟩
def o4(E:aY)(V:Z HP)(v0:aX)(p0:Z aG)(res:Int)(v:aX)(w:aY):Prop:=v= vi res/\Holds E w ([own 63 v0 p0]++V)
theorem um{p0:Z aG}{p1:aG->aT Bool}(o:Holds E w (own 63 v0 p0::V))(h1:PF bI E V v1 p1 (λ(r:Bool)=>Value.bool r))(j:mD N p0 p1=some res):c_ 151 [v0,v1] w<|o4 E V v0 p0 res:=by
 unfold mD at j;refine enter Tryz.func151 zr zr<|w_<|aK 0<|WK<|w_<|mv v0<|XI (i:=0) (l:=p0) zt zr o zr zr mI<|aS 0<|AS<|XX E V (λ(ab:Unit)=>[own 63 v0 p0]) (λ_=>[(0,v0)]) (λaa _=>[(1,v1),(7,vi p0.length),(8,vi aa)]) (λr=>k7 bI 19 Tryz.f151 (o4 E V v0 p0 r) .ret) j ?_ ?_ ?_ ?_;exact o.sp 1 [0];rintro hm aa ab fl _ w hk⟨O,rfl,o⟩j;refine BY<|W7<|aS (aa:Int)<|aK (aa:Int)<|OF<|mv v1<|mv v0<|aS (aa:Int)<|q_ j λaj ad j=>W4 0 o zr zr gZ ad<|X5 0 o ad gj λak o=>?_;refine q_ j λal ag j=>YG 0 zr o zr h1 2 zr zr zr ag λw o=>AS<|cY j (λj=>?_) λj=>?_;exact w_<|aS (aa:Int)<|aK (aa:Int)<|AS<|XB<|bJ<|oi j▸⟨rfl,bT ⟨rfl,o.pk 2 [1]⟩⟩;exact Xb<|bE<|aC<|IN<|Xu hk hm<|aS ((aa+1:Nat):Int)<|By<|oi j▸⟨rfl,o.sp 2 [1]⟩;intro r U w j hK;exact bJ<|oi j▸hK;rintro ab _ w j⟨O,rfl,o⟩;exact aC<|w_<|aK (-1)<|AS<|WS<|oi j▸bT ⟨rfl,o.pk 1 [0]⟩
theorem vF{p0:Z aG}{p1:aG->aT Bool}{res:Z aG}(j:Holds E w (own 63 v0 p0::V))(h1:PF bI E V v1 p1 (λ(r:Bool)=>Value.bool r))(o:jU N p0 p1=some res):c_ 138 [v0,v1] w<|gQ E V res:=by
 unfold jU at o;refine enter Tryz.func138 zr zr<|w_<|cT n_<|OF<|mv v0<|mv v1 ?_;have j:=j.pull 0;refine q_ o λad ai o=>WQ QY (um N j (h1.lift 1 zr) ai) λw j=>aK ad<|WK<|w_<|aS ad<|ic ad ((-1))<|AS<|cY o (λo=>?_) λo=>?_;refine w_<|mv v0<|cT v0<|AS<|Xe ?_;obtain rfl:=oi o;exact bT<|j.pk 2 [0];refine W1<|w_<|aS ad<|WL ad 1<|aK (cE<|ad+1)<|AS<|XY E V (λ(aa:Z aG×Int×Int)=>[own 63 v0 aa.1]) (λaa=>[(0,v0),(5,vi aa.2.1)]) (λaa=>[(1,v1),(6,vi aa.2.2)]) o ?_ ?_ ?_;exact j.sp 2 [0];rintro aa fl _ w⟨O,rfl,j⟩o;refine BY<|w_<|aS aa.2.2<|mv v0<|XI (i:=0) (l:=aa.1) zt zr j zr zr mI<|ic aa.2.2 ((aa.1.length:Int))<|AS<|cY o (λo=>?_) λo=>?_;refine W1<|W7<|mv v0<|aS aa.2.2<|q_ o λaq af o=>W4 0 j zr zr gZ af<|X5 0 j af gj λar j=>?_;refine Xo j oI.z λau w j=>?_;refine Xk 0 j 1 zr gj λw j=>?_;refine OF<|mv v1<|Xi 0 j zr gj λav j=>?_;refine q_ o λaj ak o=>YG 0 zr j zr h1 4 zr zr zr ak λw j=>Xp aj<|AS<|q_ o λae hj o=>WW (λ(ae:Z aG×Int)=>SH E V [(0,v0),(1,v1),(5,vi ae.2),(6,vi aa.2.2)] [own 63 v0 ae.1]) ae ?_ ?_;refine cY hj (λhj=>?_) λhj=>?_;refine w_<|mv v0<|aS aa.2.1<|Xi 1 j zr gj λaw j=>?_;refine q_ hj λax ag hj=>W4 4 j zr zr gZ ag<|XU 4 0 j ag gj λw j=>?_;refine AS<|IN<|aS aa.2.1<|WL aa.2.1 1<|aK (cE<|aa.2.1+1)<|By ?_;exact oi hj▸⟨rfl,j.sp 5 [4]⟩;exact Xb<|oi hj▸⟨rfl,j.sp 4 [3]⟩;rintro _ w⟨O,rfl,j⟩;refine bE<|aC<|IN<|aS aa.2.2<|WL aa.2.2 1<|aK (cE<|aa.2.2+1)<|By ?_;exact oi o▸⟨rfl,j.sp 1 [0]⟩;exact W9<|oi o▸⟨rfl,j.sp 1 [0]⟩;rintro aa _ w o⟨O,rfl,j⟩;refine aC<|w_<|mv v0<|aS aa.2.1<|q_ o λay ah o=>YW 0 aa.2.1 zr j zr zr gZ ah<|Zj 0 zt j zr zr Fp U9 (N8 ah) λw j=>OF<|mv v0<|aS aa.2.1<|q_ o λaz al o=>YV 0 zr j zr zr gZ (.inr ⟨rfl,zr⟩) al λan j=>cT an<|AS<|WS ?_;obtain rfl:=oi o;exact bT<|j.pk 1 [0]
theorem yG{p0 p1:aG}(j:Holds E w V)(h0:eo V i0 v0 p0)(h1:eo V i1 v1 p1)(o:jk N p0 p1=some res):c_ 165 [v0,v1] w<|aU E V res:=by
 unfold jk at o;refine enter Tryz.func165 zr zr ?_;have j:=(j.dup (i0+0) h0).dup (i1+1) h1;refine w_<|Xg 1 v0 j zr λaa w j=>?_;refine Xg 1 v1 j zr λab w j=>?_;refine aK 0<|OF<|AT zr gU<|WM 1 j zr dP cD<|AT zr gU<|WM 0 j zr dP cD<|WL p0.X0 p1.X0<|aK (cE<|p0.X0 - p1.X0)<|AS ?_;exact WS<|oi o▸bT ⟨rfl,j.drop 4⟩
def Cy(E:aY)(V:Z HP)(v0:aX)(res:Z Int×Z aG)(v:aX)(w:aY):Prop:=Holds E w<|[own 3 v res.1,own 63 v0 res.2]++V
theorem BE{p0:Z aG}{res:Z Int×Z aG}(j:Holds E w (own 63 v0 p0::V))(hb:kX N p0=some res):c_ 141 [v0] w<|Cy E V v0 res:=by
 unfold kX at hb;refine enter Tryz.func141 zr zr<|w_<|cT n_<|OF<|mv v0 ?_;obtain⟨ag,az,hb⟩:=bd hb;have j:=j.pull 0;refine WQ QX (MD Tryz.lay134 aG zr gj.PE gj.sz (gr Tryz.func165) (λj hi o hr=>yG N j hi o hr) j az) λw j=>OF<|cT n_<|WK<|w_<|mv v0<|XI (i:=0) (l:=ag) zt zr j zr zr mI<|aS 0<|AS ?_;have j:=j.cG Int 3;refine X6 E V (λ(ad:Z Int)(aj:aX)=>[own 63 v0 ag,own 3 aj ad]) (λ_ aj=>[(0,v0),(3,aj)]) (λah _ _=>[(9,v0),(10,vi ag.length),(11,vi ah)]) hb ?_ ?_ ?_;exact⟨n_,j.sp 3 [1,0]⟩;rintro hm ah ad s' _ w hk⟨af,O,rfl,j⟩hb;refine BY<|W7<|q_ hb λae ao hb=>W4 0 j zr zr gZ ao<|X5 0 j ao gj λa3 j=>?_;refine Xo j oI.z λaq w j=>?_;refine Xk 0 j 1 zr gj λw j=>?_;refine OF<|mv af<|XI (i:=3) (l:=ad) zt zr j zr zr l3<|WL (ad.length:Int) 1<|aK (cE<|(ad.length:Int) - 1)<|WK<|q_ hb λak o hb=>WW (λ(ak:Bool)=>SH E V [(0,v0),(3,af),(5,vp aq 0),(6,vi<|cE<|(ad.length:Int) - 1),(9,v0),(10,vi ag.length),(11,vi ah),(28,vb ak)] [own 63 v0 ag,own 3 af ad,bx 63 aq ae]) ak ?_ ?_;refine XK mixed ?_;have j:=j.drew;refine XJ<|aS (cE<|(ad.length:Int) - 1)<|AI<|ic (cE<|(ad.length:Int) - 1) 0<|AI<|eR (mM<|cE ((ad.length:Int) - 1)>=0)<|dT o (λaa o=>?_) λaa o=>?_;refine AI<|AT zr gU<|AI<|WM 0 j zr dP cD<|AI<|WJ af (cg aa)<|AI<|WJ (vi<|cE<|(ad.length:Int) - 1) (cg aa)<|AI ?_;refine q_ o λar au o=>W4 3 j zr zr dK au<|AI<|XG 3 j au cD<|AI<|XD ae.X0 ar (cg aa)<|AI<|dR aa (vb<|ae.X0<=ar)<|XA ?_;exact oi o▸⟨rfl,j.sp 4 [2,3,0]⟩;refine AI<|aW aa<|AI<|aW aa<|AI<|aW aa<|AI<|aW aa<|AI<|aW aa<|AI<|aW aa<|AI<|aW aa<|AI<|dR aa (vb false)<|XA ?_;exact oi o▸⟨rfl,j.sp 4 [2,3,0]⟩;rintro _ w⟨O,rfl,j⟩;refine aC<|q_ hb λal o hb=>WW (λ(al:Z Int)U w=>∃ai:aX,SH E V [(0,v0),(3,ai),(9,v0),(10,vi ag.length),(11,vi ah)] [own 63 v0 ag,own 3 ai al] U w) al ?_ ?_;refine cY o (λo=>?_) λo=>?_;refine XE mixed (jn 11 20000000000) (f0 0 11 []) ?_;have j:=j.drew;refine WR zr zr<|mv af<|aO zr<|aS (cE<|(ad.length:Int) - 1)<|aO zr<|mv af<|aO zr<|aS (cE<|(ad.length:Int) - 1)<|aO zr ?_;refine q_ o λan aw o=>W4 1 j zr zr dK aw<|aO zr<|XG 1 j aw cD<|aO zr<|AT zr jm<|aO zr<|WM 2 j zr eK cD<|aO zr<|X8 an ae.X1<|aO zr ?_;refine q_ o λa6 ax o=>W4 1 j zr zr dK ax<|mS zr ?_;have j:=j.sc Int (cZ an ae.X1);refine XU 2 0 j ax cD λw j=>?_;exact Xh zt<|Xc<|oi o▸⟨rfl,af,j.sp 4 [1,2]⟩;refine IN<|mv af<|AT zr gU<|WM 2 j zr dP cD<|AT zr jm<|WM 2 j zr eK cD ?_;have j:=(j.sc Int ae.X0).sc Int ae.X1;refine Xq ([ae.X0,ae.X1]:Z Int) j [vi ae.X0,vi ae.X1] dK GJ (λM hs g=>⟨(g.sat 1 _ zr).1,⟨(g.sat 0 _ zr).1,zt⟩⟩) λa4 w j=>?_;have j:=j.freeze 0;refine q_ o λa5 a2 o=>Xx 4 0 j sw a2 λav w j=>?_;exact cT av<|By<|oi o▸⟨rfl,av,j.sp 6 [3,4]⟩;rintro _ w⟨ai,O,rfl,j⟩;exact bE<|aC<|IN<|Xu hk hm<|aS ((ah+1:Nat):Int)<|By<|oi hb▸⟨rfl,ai,j.sp 2 [0,1]⟩;rintro ad _ w hb⟨ay,O,rfl,j⟩;refine aC<|w_<|mv ay<|cT ay<|AS<|WS ?_;obtain rfl:=oi hb;exact bT<|j.pk 2 [1,0]
theorem AA{p0:Z Int}{p1:Z Int}{res:Bool}(j:Holds E w V)(h0:eo V i0 v0 p0)(h1:eo V i1 v1 p1)(o:pC N p0 p1=some res):c_ 164 [v0,v1] w<|aV E V res:=by
 unfold pC at o;refine enter Tryz.func164 zr zr ?_;have j:=(j.dup (i0+0) h0).dup (i1+1) h1;refine w_<|bX false<|WK<|w_<|mv v0<|WN 1 p0 j l3<|mv v1<|WN 0 p1 j l3<|ic ((p0.length:Int)) ((p1.length:Int))<|AS<|cY o (λo=>?_) λo=>?_;exact w_<|bX false<|AS<|Xe<|oi o▸bT ⟨rfl,j.drop 2⟩;refine W1<|w_<|mv v0<|WN 1 p0 j l3<|aS 0<|AS<|XX E V (λ(ab:Unit)=>[rd v0 p0,rd v1 p1]) (λ_=>[]) (λaa _=>[(0,v0),(1,v1),(12,vi p0.length),(13,vi aa)]) (λr=>k7 bI 26 Tryz.f164 (aV E V r) .ret) o ?_ ?_ ?_ ?_;exact j.sp 2 [1,0];rintro hm aa ab fl _ w hk⟨O,rfl,j⟩o;refine BY<|W7<|aS (aa:Int)<|aK (aa:Int)<|WK<|XK mixed ?_;have j:=j.drew;refine XJ<|mv v0<|AI<|aS (aa:Int)<|AI<|q_ o λad ah o=>WI 0 j dK ah λal j=>AI<|W2 ad 0 j cD<|AI<|mv v1<|AI<|aS (aa:Int)<|AI ?_;refine q_ o λae ai o=>WI 2 j dK ai λan j=>AI<|W2 ae 0 j cD<|AI<|ic ad ae<|XA<|aC<|cY o (λo=>?_) λo=>?_;exact w_<|bX false<|AS<|XB<|bJ<|oi o▸⟨rfl,bT ⟨rfl,j.drop 4⟩⟩;exact Xb<|bE<|aC<|IN<|Xu hk hm<|aS ((aa+1:Nat):Int)<|By<|oi o▸⟨rfl,j.sp 4 [2,3]⟩;intro r U w o hK;exact bJ<|oi o▸hK;rintro ab _ w o⟨O,rfl,j⟩;exact aC<|w_<|bX true<|AS<|WS<|oi o▸bT ⟨rfl,j.drop 2⟩
theorem vU{p0:Z aA}{p1:aA}{res:Z aA}(o:Holds E w (own 192 v0 p0::V))(h1:eo V i1 v1 p1)(hb:kE N p0 p1=some res):c_ 140 [v0,v1] w<|pL E V res:=by
 unfold kE at hb;refine enter Tryz.func140 zr zr ?_;have o:=o.dup (i1+1) h1;refine w_<|Xg 0 v1 o zr λaf w o=>?_;refine cT n_<|WK<|w_<|AT zr oA<|Xj 0 o zr eX fK λau o=>WN 0 p1.Xs o l3<|ic ((p1.Xs.length:Int)) 0<|eR ((p1.Xs.length:Int)==0)<|Xm true ((p1.Xs.length:Int)==0) (vp af 1) zr zr zr (dG qH) ?_;refine Xm true ((p1.Xs.length:Int)==0) (vi p1.Y1) rfl rfl rfl (bQ 1 rfl o (by exact z_ (vp af 1)) rfl gG cD)<|Xm true ((p1.Xs.length:Int)==0) (vp af 0) rfl rfl rfl (dG uh)<|Xm true ((p1.Xs.length:Int)==0) (vi p1.Y0) rfl rfl rfl (bQ 1 rfl o (by exact z_ (vp af 0)) rfl je cD)<|WZ (vb<|p1.Y1<=p1.Y0) rfl rfl (sD .leq)<|Xl (b:=(p1.Xs.length:Int)==0) (v:=vb<|((p1.Xs.length:Int)==0)||mM (p1.Y1<=p1.Y0)) trivial rfl rfl (pQ true)<|AS<|cY hb (λhb=>?_) λhb=>?_;refine w_<|mv v0<|cT v0<|AS<|Xe ?_;obtain rfl:=oi hb;exact bT<|o.pk 4 [3];refine W1<|w_<|mv v0<|XI (i:=3) (l:=p0) zt zr o zr zr tX<|WL (p0.length:Int) 1<|aK (cE<|(p0.length:Int) - 1)<|WK<|q_ hb λaj hj hb=>WW (λ(aj:Bool)=>SH E V [(0,v0),(3,vp af 0),(5,vi<|cE<|(p0.length:Int) - 1),(42,vb aj)] [own 192 v0 p0,bx 192 af p1]) aj ?_ ?_;refine XE mixed (jn 22 200000000000000000000) (f0 0 22 []) ?_;have o:=o.drew;refine WR zr zr<|aS (cE<|(p0.length:Int) - 1)<|aO zr<|ic (cE<|(p0.length:Int) - 1) 0<|aO zr<|eR (mM<|cE ((p0.length:Int) - 1)>=0)<|WU<|dT hj (λaa hj=>?_) λaa hj=>?_;refine WR zr zr<|WJ v0 (cg aa)<|aO zr<|WJ (vi<|cE<|(p0.length:Int) - 1) (cg aa)<|aO zr<|q_ hj λak ag hj=>W4 3 o zr zr nK ag<|aO zr<|X3 (α:=aA) (cg aa) (ti 3 o ag 0) qH<|aO zr<|Yf 3 (cg aa) o (ti 3 o ag 1) (fZ ag).2.1 gG cD<|aO zr<|AT zr uh<|aO zr<|WM 1 o zr je cD ?_;refine aO zr<|XD ak.Y1 p1.Y0 (cg aa)<|aO zr<|dR aa (vb<|ak.Y1==p1.Y0)<|aO zr<|eR (ak.Y1==p1.Y0)<|WU<|dT hj (λab hj=>?_) λab hj=>?_;refine WR zr zr<|WJ v0 (cg ab)<|aO zr<|WJ (vi<|cE<|(p0.length:Int) - 1) (cg ab)<|aO zr<|q_ hj λav ah hj=>W4 3 o zr zr nK ah<|aO zr<|X3 (α:=aA) (cg ab) (ti 3 o ah 0) oA<|aO zr<|YB (i:=3) (cg ab) zr o zr (ti 3 o ah 2) zr (fZ ah).2.1 eX fK λaw o=>?_;exact aO zr<|AT zr oA<|aO zr<|Xj 2 o zr eX fK λax o=>mS zr<|q_ hj λal an hj=>WQ (gr Tryz.func164) (AA N (i0:=1) (i1:=0) o zr zr an) λw o=>pw zr<|dR ab (vb al)<|WU<|Xc<|oi hj▸⟨rfl,o.sp 6 [5,3]⟩;refine WR zr zr<|aW ab<|aO zr<|aW ab<|aO zr<|aW ab<|aO zr<|aW ab<|aO zr<|aW ab<|aO zr<|aW ab<|aO zr<|aW ab<|mS zr<|aW ab<|pw zr<|dR ab (vb false) ?_;exact WU<|Xc<|oi hj▸⟨rfl,o.sp 4 [3,1]⟩;refine WR zr zr<|aW aa<|aO zr<|aW aa<|aO zr<|aW aa<|aO zr<|aW aa<|aO zr<|aW aa<|aO zr<|aW aa<|aO zr<|aW aa<|aO zr<|aW aa<|aO zr<|dR aa (vb false) ?_;refine aO zr<|eR false<|aO zr<|jY<|aO zr<|jY<|aO zr<|jY<|aO zr<|jY<|aO zr<|jY<|aO zr<|jY<|aO zr<|jY<|mS zr<|jY ?_;exact pw zr<|Xl (b:=false) (v:=vb false) zt zr zr zr<|WU<|Xc<|oi hj▸⟨rfl,o.sp 4 [3,1]⟩;rintro _ w⟨O,rfl,o⟩;refine aC<|cY hb (λhb=>?_) λhb=>?_;refine w_<|mv v0<|aS (cE<|(p0.length:Int) - 1)<|AT zr qH<|WM 1 o zr gG cD<|q_ hb λa0 ai hb=>W4 0 o zr zr nK ai<|X3 (α:=aA) zt (ti 0 o ai 0) qH ?_;have o:=o.sc Int p1.Y1;refine YH (i:=1) (j:=0) trivial o rfl rfl (ti 1 o ai 1) rfl (fZ ai).2.1 rfl tL (by decide) cD λw o=>?_;refine OF<|mv v0<|cT v0<|AS<|Xe ?_;obtain rfl:=oi hb;exact bT<|o.pk 3 [1];refine XF<|mv v0<|Xi 1 o zr Cp λao o=>Xq ([p1]:Z aA) o [ao] nK JT (λ_ _=>mj) λay w o=>?_;have o:=o.freeze 0;refine q_ hb λaz aq hb=>Xx 2 0 o Tn aq λar w o=>?_;refine cT ar<|AS<|WS ?_;obtain rfl:=oi hb;exact bT<|o.pk 4 [2]
theorem o5{p0:Z aG}{res:Z aA}(j:Holds E w V)(h0:eo V i0 v0 p0)(o:jq N p0=some res):c_ 97 [v0] w<|pL E V res:=by
 unfold jq at o;refine enter Tryz.func97 zr zr ?_;have j:=j.dup (i0+0) h0;refine w_<|cT n_<|OF<|mv v0<|q_ o λca bg o=>W0 (gr Tryz.func133) (zg N (i0:=0) j zr bg) λad w j=>cT ad<|OF<|mv ad ?_;obtain⟨ai,bh,o⟩:=bd o;have j:=j.pull 0;refine WQ QX (MD Tryz.lay134 aG zr gj.PE gj.sz (gr Tryz.func135) (λj hi hj hr=>Cw N j hi hj hr) j bh) λw j=>OF<|Yq j Tf λag w j=>?_;refine WK<|w_<|mv ad<|XI (i:=1) (l:=ai) zt zr j zr zr mI<|aS 0<|AS<|X6 E V (λ(av:Z Int)(a0:aX)=>[own 63 ad ai,bc 60 ag [a0],own 3 a0 av]) (λ_ _=>[(0,ad),(3,vp ag 0)]) (λaw _ _=>[(14,ad),(15,vi ai.length),(16,vi aw)]) o ?_ ?_ ?_;exact⟨n_,(j.cG Int 3).sp 5 [2,1,0]⟩;rintro hm aw av s' _ w hk⟨bl,O,rfl,j⟩o;refine BY<|W7<|q_ o λak a1 o=>W4 0 j zr zr gZ a1<|X5 0 j a1 gj λcb j=>?_;refine Xo j oI.z λcc w j=>?_;refine Xk 0 j 1 zr gj λw j=>?_;refine AS<|IN<|WT 3 bl j fK<|AT zr gH<|WM 0 j zr dL cD<|AT zr kJ<|WM 0 j zr fw cD ?_;have j:=(j.sc Int ak.Y0).sc Int ak.Y1;refine Xq ([ak.Y0,ak.Y1]:Z Int) j [vi ak.Y0,vi ak.Y1] dK GJ (λM hs g=>⟨(g.sat 1 _ zr).1,⟨(g.sat 0 _ zr).1,zt⟩⟩) λcd w j=>?_;have j:=j.freeze 0;refine q_ o λcf bm o=>Xx 7 0 j sw bm λa2 w j=>?_;refine XW 6 a2 j zr zr (iG 7 j) fK λw j=>?_;exact By<|bE<|aC<|IN<|Xu hk hm<|aS ((aw+1:Nat):Int)<|By<|oi o▸⟨rfl,a2,j.sp 8 [5,6,7]⟩;rintro av _ w o⟨a3,O,rfl,j⟩;refine aC<|w_<|WT 1 a3 j fK ?_;obtain⟨ch,bn,o⟩:=bd o;have j:=j.pull 2;refine WQ (gr Tryz.func136) (OP Tryz.lay136 j bn) λw j=>OF<|WT 2 a3 j fK ?_;have j:=j.pull 0;refine q_ o λah bo o=>W0 (gr Tryz.func137) (yF N j bo) λbp w j=>XW 3 bp j zr zr (iG 0 j) fK λw j=>?_;refine OF<|cT n_<|OF<|cT n_<|OF<|aK 0<|WK<|w_<|Xo j GJ.z λbq w j=>?_;have j:=j.sc Int 0;refine Xk 1 j 0 zr cD λw j=>?_;refine AS ?_;have j:=((((j.freeze 2).N5 (i:=5) (x:=ah) rfl<|λM hs g=>jL (g.sat 2 _ rfl).1).g9 (i:=5) rfl).cG aA 192).cG aG 63;refine q_ o λcj hN o=>Yl (λ(aa:Z aA×Z aG×Int×Int)U w=>∃(a4 a5:aX)(a6:Nat),SH E V [(0,ad),(3,vp ag 0),(6,a4),(7,a5),(8,vi aa.2.2.1),(9,vp a6 0)] [own 63 ad ai,pt (vp ag 0) ah,own 192 a4 aa.1,own 63 a5 aa.2.1,bx 3 a6 aa.2.2.2] U w) (λ(aa:Z aA×Z aG×Int×Int)U w=>∃an:aX,SH E V [(6,an)] [own 63 ad ai,pt (vp ag 0) ah,own 192 an aa.1] U w) (λ(r:Empty)_ _=>r.elim) hN ?_ ?_ ?_ ?_;exact⟨n_,n_,bq,j.sp 9 [6,7,1,0,3]⟩;rintro aa fl _ w⟨aj,bu,al,O,rfl,j⟩o;refine BY<|w_<|WM (f:=(λx=>x)) 4 j zr Fd.self cD<|WL aa.2.2.2 1<|WX 1 ah j fK λck j=>WN 0 ah j l3<|ic (cE<|aa.2.2.2+1) ((ah.length:Int))<|AS<|cY o (λo=>?_) λo=>?_;refine W1<|W7<|mv bu ?_;have j:=j.g9 (i:=5) rfl;refine Yp [vp ag 0,vp al 0] ?_;have j:=j.pull 4;refine q_ o λcm bw o=>W0 (gr Tryz.func138) (vF N j ⟨139,[vp ag 0,vp al 0],rfl,(gr Tryz.func139),λw Γl v y0 r i j hi hr=>by exact gK (Cx N (i0:=i) (i1:=Γl.length+2) (i2:=Γl.length+5) j hi (H6 rfl) (H6 rfl) hr) λ_ _ h=>h⟩ bw) λa7 w j=>cT a7<|WK<|XQ E V (λ(ae:Z aG×Int)(ax:aX)=>[own 63 ad ai,pt (vp ag 0) ah,own 192 aj aa.1,pt (vp al 0) aa.2.2.2,own 63 ax ae.1]) (λae ax=>[(0,ad),(3,vp ag 0),(6,aj),(7,ax),(8,vi ae.2),(9,vp al 0)]) (λ_ _=>[]) o ?_ ?_ ?_;exact⟨a7,j.sp 7 [2,3,4,6,0]⟩;rintro ae fl _ w⟨ao,O,rfl,j⟩o;refine BY<|BY<|q_ o λay hj o=>WW (λ(ay:Bool)=>SH E V [(0,ad),(3,vp ag 0),(6,aj),(7,ao),(8,vi ae.2),(9,vp al 0),(57,vb ay)] [own 63 ad ai,pt (vp ag 0) ah,own 192 aj aa.1,own 63 ao ae.1,pt (vp al 0) aa.2.2.2]) ay ?_ ?_;refine XK mixed ?_;have j:=j.drew;refine XJ<|aS ae.2<|AI<|mv ad<|AI<|XI (i:=0) (l:=ai) zt zr j zr zr mI<|AI<|ic ae.2 ((ai.length:Int))<|AI<|eR (mM<|ae.2<(ai.length:Int))<|dT hj (λab hj=>?_) λab hj=>?_;refine AI<|WJ ad (cg ab)<|AI<|WJ (vi ae.2) (cg ab)<|AI<|q_ hj λa8 aq hj=>W4 0 j zr zr gZ aq<|AI<|X3 (α:=aG) (cg ab) (ti 0 j aq 0) gH<|AI<|Yf 0 (cg ab) j (ti 0 j aq 1) (fZ aq).2.1 dL cD<|AI<|WX 1 ah j fK λcn j=>?_;refine AI<|W2 aa.2.2.2 4 j cD<|AI<|q_ hj λaz bz hj=>WI 0 j dK bz λcp j=>AI<|W2 az 0 j cD<|AI<|XD a8.Y0 az (cg ab)<|AI<|dR ab (vb<|a8.Y0<=az)<|XA ?_;exact oi hj▸⟨rfl,j.sp 7 [2,3,4,6,5]⟩;refine AI<|aW ab<|AI<|aW ab<|AI<|aW ab<|AI<|aW ab<|AI<|aW ab<|AI<|aW ab<|AI<|aW ab<|AI<|aW ab<|AI<|aW ab ?_;exact AI<|aW ab<|AI<|dR ab (vb false)<|XA<|oi hj▸⟨rfl,j.sp 5 [0,1,2,4,3]⟩;rintro _ w⟨O,rfl,j⟩;refine aC<|cY o (λo=>?_) λo=>?_;refine XZ<|Xz<|IN<|mv ao<|mv ad<|aS ae.2<|q_ o λb0 a9 o=>W4 0 j zr zr gZ a9<|X5 0 j a9 gj λb1 j=>?_;refine Xq ([b0]:Z aG) j [b1] gZ oI (λ_ _=>mj) λcq w j=>?_;have j:=j.freeze 0;refine q_ o λcr b2 o=>Xx 5 0 j Fp b2 λba w j=>?_;refine aS ae.2<|WL ae.2 1<|cT ba<|aK (cE<|ae.2+1)<|By<|bE ?_;exact oi o▸⟨rfl,ba,j.sp 7 [2,3,4,6,5]⟩;exact W9<|oi o▸⟨rfl,ao,j.sp 5 [0,1,2,4,3]⟩;rintro ae _ w o⟨bb,O,rfl,j⟩;refine aC<|XE mixed (jn 15 20201111111111) (f0 0 15 []) ?_;have j:=j.drew;refine W6 aj zr (λw=>WJ aj zt W3)<|X4 ah 1 zr j fK λct a305 cu j=>Yg aa.2.2.2 5 zr j cD λa307 cv j=>?_;refine q_ o λar b3 o=>Yc 2 zr j dK b3 λcw j=>Yg ar 0 zr j cD λa311 cx j=>X4 ah 6 zr j fK λcy a314 cz j=>Yg aa.2.2.2 10 zr j cD λa316 c0 j=>W6 (vi<|cE<|aa.2.2.2+1) zr (λw=>WL aa.2.2.2 1 W3)<|q_ o λau b4 o=>Yc 2 zr j dK b4 λc1 j=>Yg au 0 zr j cD λa320 c2 j=>WR zr zr<|mv bb<|mS zr ?_;have j:=j.pull 14;refine q_ o λb5 b6 o=>W0 (gr Tryz.func141) (BE N j b6) λb7 w j=>Xh (⟨⟨⟨⟨⟨⟨zt,j.fT 10⟩,j.fT 9⟩,j.fT 7⟩,j.fT 5⟩,j.fT 4⟩,j.fT 2⟩)<|WR zr zr ?_;have j:=((j.sc Int ar).sc Int au).freeze 2;refine XH (⟨ar,au,b5.1⟩:aA) trivial rfl j [(0,vi ar),(1,vi au),(2,b7)] rfl QZ rfl (λM hs g=>by have h:=Cn M;exact cC.cons (f:=λ(x:aA)y=>{x with Y0:=y}) h yu (g.sat 1 _ rfl).1 λ_ h=>cC.cons (f:=λ(x:aA)y=>{x with Y1:=y}) h tL (g.sat 0 _ rfl).1 λ_ h=>cC.cons (f:=λ(x:aA)y=>{x with Xs:=y}) h yv (g.sat 2 _ rfl).1 λ_ h=>cC.nil h) λc3 j=>?_;refine mS zr ?_;have j:=j.pull 17;refine q_ o λc4 b8 o=>W0 Q0 (vU N (i1:=0) j zr b8) λbf w j=>Xh (⟨⟨⟨⟨⟨⟨zt,j.fT 14⟩,j.fT 13⟩,j.fT 11⟩,j.fT 9⟩,j.fT 8⟩,j.fT 6⟩)<|WR zr zr<|cT bf<|WU ?_;have j:=j.pl 21 [0,1,2,3,4,5,7,10,12,15,16,17,18,19,20] rfl;refine Xc<|bE<|aC<|BY<|w_<|W2 aa.2.2.2 13 j cD<|AS<|IN<|Xo j GJ.z λb9 w j=>?_;have j:=j.sc Int aa.2.2.2;refine Xk 1 j 0 zr cD λw j=>?_;refine AS<|IN<|WM (f:=(λx=>x)) 1 j zr Fd.self cD<|WL aa.2.2.2 1 ?_;have j:=j.sc Int<|cE<|aa.2.2.2+1;refine Za 2 zt j zr zr zr 0 zr cD λw j=>?_;exact By<|oi o▸⟨rfl,bf,bb,b9,j.sp 18 [13,14,3,8,2]⟩;exact W9<|oi o▸⟨rfl,aj,j.sp 6 [1,2,3]⟩;intro r _ _ _ _;exact r.elim;rintro aa _ w rfl⟨an,O,rfl,j⟩;rw[Fo.DX]at o;refine aC<|w_<|mv an<|cT an<|AS<|WS ?_;obtain rfl:=oi o;exact bT<|j.pk 3 [2]
theorem qO{p0:Z aA}{res:Z aG}(j:Holds E w V)(h0:eo V i0 v0 p0)(o:kY N p0=some res):c_ 98 [v0] w<|gQ E V res:=by
 unfold kY at o;refine enter Tryz.func98 zr zr ?_;have j:=j.dup (i0+0) h0;refine w_<|cT n_<|OF<|cT n_<|WK<|w_<|mv v0<|WN 0 p0 j tX<|aS 0<|AS<|X6 E V (λ(ag:Z aG)(ah:aX)=>[rd v0 p0,own 63 ah ag]) (λ_ ah=>[(3,ah)]) (λaf _ _=>[(7,v0),(8,vi p0.length),(9,vi af)]) o ?_ ?_ ?_;exact⟨n_,(j.cG aG 63).sp 2 [1,0]⟩;rintro hm af ag s' _ w hk⟨ar,O,rfl,j⟩o;refine BY<|W7<|q_ o λab au o=>WI 0 j nK au λa0 j=>WX 0 ab j Cp λa1 j=>Xo j JT.z λak w j=>?_;refine Xk 0 j 1 zr Cp λw j=>?_;refine OF<|aK 0<|AS<|XQ E V (λ(aa:Z aG×Int)(ai:aX)=>[bx 192 ak ab,rd v0 p0,own 63 ai aa.1]) (λ_ ai=>[(3,ai),(7,v0),(8,vi p0.length),(9,vi af)]) (λaa _=>[(5,vp ak 0),(6,vi aa.2)]) o ?_ ?_ ?_;exact⟨ar,j.sp 5 [0,3,4]⟩;rintro aa fl _ w⟨aj,O,rfl,j⟩o;refine BY<|w_<|aS aa.2<|AT zr oA<|Xj 0 j zr eX fK λa3 j=>WN 0 ab.Xs j l3<|ic aa.2 ((ab.Xs.length:Int))<|AS<|cY o (λo=>?_) λo=>?_;refine W1<|Xz<|XE mixed (jn 20 2200000000000000001) (f0 0 20 []) ?_;have j:=j.drew;refine W6 aj zr (λw=>WJ aj zt W3)<|WR zr zr<|AT zr oA<|aO zr<|Xj 1 j zr eX fK λa4 j=>aO zr<|aS aa.2<|aO zr<|q_ o λad av o=>WI 0 j dK av λa5 j=>aO zr<|W2 ad 0 j cD<|aO zr<|AT zr uh<|aO zr<|WM 3 j zr je cD<|aO zr<|AT zr oA ?_;refine aO zr<|Xj 3 j zr eX fK λa6 j=>aO zr<|aS aa.2<|aO zr<|WL aa.2 1<|aO zr<|q_ o λae aw o=>WI 0 j dK aw λa7 j=>aO zr<|W2 ae 0 j cD<|aO zr<|AT zr qH<|aO zr<|WM 5 j zr gG cD<|aO zr ?_;have j:=(((j.sc Int ad).sc Int ab.Y0).sc Int ae).sc Int ab.Y1;refine XH (⟨ad,ab.Y0,ae,ab.Y1⟩:aG) trivial rfl j [(0,vi ad),(1,vi ab.Y0),(2,vi ae),(3,vi ab.Y1)] rfl GV rfl (λM hs g=>by have h:=uV M;exact cC.cons (f:=λ(x:aG)y=>{x with X0:=y}) h qZ (g.sat 3 _ rfl).1 λ_ h=>cC.cons (f:=λ(x:aG)y=>{x with Y0:=y}) h sK (g.sat 2 _ rfl).1 λ_ h=>cC.cons (f:=λ(x:aG)y=>{x with X1:=y}) h pI (g.sat 1 _ rfl).1 λ_ h=>cC.cons (f:=λ(x:aG)y=>{x with Y1:=y}) h q9 (g.sat 0 _ rfl).1 λ_ h=>cC.nil h) λax j=>?_;refine mS zr<|Xq ([(⟨ad,ab.Y0,ae,ab.Y1⟩:aG)]:Z aG) j [ax] gZ oI (λ_ _=>mj) λa8 w j=>K6 zr ?_;have j:=j.freeze 0;refine q_ o λa9 ay o=>Xx 13 0 j Fp ay λal w j=>?_;refine pw zr<|cT al<|WU<|Xc<|bE<|aC<|IN<|aS aa.2<|WL aa.2 2<|aK (cE<|aa.2+2)<|By ?_;exact oi o▸⟨rfl,al,j.sp 14 [11,12,13]⟩;exact W9<|oi o▸⟨rfl,aj,j.sp 4 [1,2,3]⟩;rintro aa _ w o⟨az,O,rfl,j⟩;exact bE<|aC<|IN<|Xu hk hm<|aS ((af+1:Nat):Int)<|By<|oi o▸⟨rfl,az,j.sp 3 [1,2]⟩;rintro ag _ w o⟨an,O,rfl,j⟩;refine aC<|w_<|mv an<|cT an<|AS<|WS ?_;obtain rfl:=oi o;exact bT<|j.pk 2 [1]
theorem zi{p0:Z aG}{p1:Z aG}{res:Bool}(j:Holds E w V)(h0:eo V i0 v0 p0)(h1:eo V i1 v1 p1)(o:ml N p0 p1=some res):c_ 96 [v0,v1] w<|aV E V res:=by
 unfold ml at o;refine enter Tryz.func96 zr zr ?_;have j:=(j.dup (i0+0) h0).dup (i1+1) h1;refine w_<|bX false<|WK<|w_<|mv v0<|WN 1 p0 j mI<|mv v1<|WN 0 p1 j mI<|ic ((p0.length:Int)) ((p1.length:Int))<|AS<|cY o (λo=>?_) λo=>?_;exact w_<|bX false<|AS<|Xe<|oi o▸bT ⟨rfl,j.drop 2⟩;refine W1<|w_<|mv v0<|WN 1 p0 j mI<|aS 0<|AS<|XX E V (λ(ab:Unit)=>[rd v0 p0,rd v1 p1]) (λ_=>[]) (λaa _=>[(0,v0),(1,v1),(12,vi p0.length),(13,vi aa)]) (λr=>k7 bI 26 Tryz.f96 (aV E V r) .ret) o ?_ ?_ ?_ ?_;exact j.sp 2 [1,0];rintro hm aa ab fl _ w hk⟨O,rfl,j⟩o;refine BY<|W7<|aS (aa:Int)<|aK (aa:Int)<|WK<|XK mixed ?_;have j:=j.drew;refine XJ<|mv v0<|AI<|aS (aa:Int)<|AI<|q_ o λad ah o=>WI 0 j gZ ah λal j=>AI<|WX 0 ad j gj λan j=>AI<|mv v1<|AI<|aS (aa:Int)<|AI ?_;refine q_ o λae ai o=>WI 3 j gZ ai λao j=>AI<|WX 0 ae j gj λaq j=>AI<|Yx 2 0 ad ae j Q1<|XA<|aC<|cY o (λo=>?_) λo=>?_;exact w_<|bX false<|AS<|XB<|bJ<|oi o▸⟨rfl,bT ⟨rfl,j.drop 6⟩⟩;exact Xb<|bE<|aC<|IN<|Xu hk hm<|aS ((aa+1:Nat):Int)<|By<|oi o▸⟨rfl,j.sp 6 [4,5]⟩;intro r U w o hK;exact bJ<|oi o▸hK;rintro ab _ w o⟨O,rfl,j⟩;exact aC<|w_<|bX true<|AS<|WS<|oi o▸bT ⟨rfl,j.drop 2⟩
theorem tw{p0:Z aG}(j:Holds E w V)(h0:eo V i0 v0 p0)(o:kP N p0=some res):c_ 61 [v0] w<|aU E V res:=by
 unfold kP at o;refine enter Tryz.func61 zr zr ?_;have j:=j.dup (i0+0) h0;refine w_<|aK 0<|WK<|w_<|mv v0<|q_ o λau ax o=>WQ (gr Tryz.func95) (Az N (i0:=0) j zr ax) λw j=>aK au<|OF<|aS au<|ic au 0<|AS<|cY o (λo=>?_) λo=>?_;exact w_<|aS au<|aK au<|AS<|Xe<|oi o▸bT ⟨rfl,j.drop 1⟩;refine W1<|w_<|aK 1<|AS<|XV E V (λ(ao:Int)=>[rd v0 p0]) (λ_=>[(0,v0)]) (λao=>[(4,vi ao)]) (λr=>k7 bI 52 Tryz.f61 (aU E V r) .ret) o ?_ ?_ ?_ ?_;exact j.sp 1 [0];rintro ao fl _ w⟨O,rfl,j⟩o;refine BY<|w_<|aS ao<|mv v0<|WN 0 p0 j mI<|ic ao ((p0.length:Int))<|AS<|cY o (λo=>?_) λo=>?_;refine W1<|Xz<|BY ?_;obtain⟨aa,ay,o⟩:=bd o;refine q_ o λab az o=>X9 E V mixed [1,1,1,0,0,1,1,0,0,0,0,0,0] [3,4,7,8,9,10,11,12] (λ(x:aX×aX×aX×aX×Nat×Nat)=>(λah ai aj ak ad ae=>[(0,18,v0),(1,19,vi ao),(2,20,vi<|cE<|ao - 1),(3,21,ah),(4,22,ai),(5,23,v0),(6,24,vi ao),(7,25,aj),(8,26,ak),(9,5,vp ad 0),(10,6,vp ae 0)]) x.1 x.2.1 x.2.2.1 x.2.2.2.1 x.2.2.2.2.1 x.2.2.2.2.2) [(0,v0),(4,vi ao)] [] (λ(D:Nat->Bool)(x:aX×aX×aX×aX×Nat×Nat)=>(λah ai aj ak ad ae=>[bif D 0 then pt ah aa else bM,bif D 1 then rd ai aa else bM,bif D 2 then pt aj ab else bM,bif D 3 then rd ak ab else bM,bif D 6 then bx 63 ad aa else(bif D 4 then raw 63 ad 4 else bM),bif D 7 then bx 63 ae ab else(bif D 5 then raw 63 ae 4 else bM),rd v0 p0]) x.1 x.2.1 x.2.2.1 x.2.2.2.1 x.2.2.2.2.1 x.2.2.2.2.2) (λx=>by kernel_rfl) ?_ ⟨λ_=>jO gn,λ_=>jO gn,λ_=>P4 gn rfl,?_,?_,λ_=>jO gn,λ_=>jO gn,?_,?_,?_,?_,?_,?_,trivial⟩ ?_;exact⟨(undef,undef,undef,undef,0,0),eM.none,Ik zr,zt,((((((j.drew).bM).bM).bM).bM).bM).bM⟩;rintro D U w hD ag aq⟨⟨ah,ai,aj,ak,ad,ae⟩,hv,ha,_,j⟩;obtain⟨O,rfl⟩:=hv.o2 0 2 ag;have j:=j.cF 0 hD;refine WI 6 j gZ ay λa0 j=>?_;exact WY (a0,ai,aj,ak,ad,ae) 3 hv ha (j.nw 0);rintro D U w hD ag aq⟨⟨ah,ai,aj,ak,ad,ae⟩,hv,ha,_,j⟩;obtain⟨O,rfl⟩:=hv.o1 3 ag;have j:=(j.eO 0<|ag.1 rfl).cF 1 hD;refine WX 0 aa j gj λa1 j=>?_;exact WY (ah,a1,aj,ak,ad,ae) 4 hv ha (((j.pl 8 [1,0,3,4,5,6,7] rfl).dI 0 (D 3) (ag.1 rfl) bM).dI 1 true rfl bM);rintro D U w hD ag aq⟨⟨ah,ai,aj,ak,ad,ae⟩,hv,ha,_,j⟩;obtain⟨O,rfl⟩:=hv.o2 5 6 ag;have j:=j.cF 2 hD;refine WI 6 j gZ az λa2 j=>?_;exact WY (ah,ai,a2,ak,ad,ae) 7 hv ha (j.nw 2);rintro D U w hD ag aq⟨⟨ah,ai,aj,ak,ad,ae⟩,hv,ha,_,j⟩;obtain⟨O,rfl⟩:=hv.o1 7 ag;have j:=(j.eO 2<|ag.1 rfl).cF 3 hD;refine WX 2 ab j gj λa3 j=>?_;exact WY (ah,ai,aj,a3,ad,ae) 8 hv ha (((j.pl 8 [1,2,3,0,5,6,7] rfl).dI 2 (D 7) (ag.1 rfl) bM).dI 3 true rfl bM);rintro D U w hD ag aq⟨⟨ah,ai,aj,ak,ad,ae⟩,hv,ha,_,j⟩;obtain⟨O,rfl⟩:=UW U;have j:=(j.cF 4<|nh aq hD 11).cF 4 hD;refine Xo j oI.z λav w j=>?_;exact WY (ah,ai,aj,ak,av,ae) 9 hv ha ((j.nw 4).fS 4 (D 11) (nh aq hD 11)<|bx 63 av aa);rintro D U w hD ag aq⟨⟨ah,ai,aj,ak,ad,ae⟩,hv,ha,_,j⟩;obtain⟨O,rfl⟩:=UW U;have j:=(j.cF 5<|nh aq hD 12).cF 5 hD;refine Xo j oI.z λaw w j=>?_;exact WY (ah,ai,aj,ak,ad,aw) 10 hv ha ((j.nw 5).fS 5 (D 12) (nh aq hD 12)<|bx 63 aw ab);rintro D U w hD ag aq⟨⟨ah,ai,aj,ak,ad,ae⟩,hv,ha,_,j⟩;obtain⟨O,rfl⟩:=hv.o2 9 4 ag;have j:=((j.eO 1<|ag.2.1 rfl).cF 4 hD).eO 4<|ag.1 rfl;refine Xk 4 j 1 zr gj λw j=>?_;exact Yh (ah,ai,aj,ak,ad,ae) hv ha ((j.dI 1 (D 4) (ag.2.1 rfl) bM).dI 4 true rfl (bif D 9 then raw 63 ad 4 else bM));rintro D U w hD ag aq⟨⟨ah,ai,aj,ak,ad,ae⟩,hv,ha,_,j⟩;obtain⟨O,rfl⟩:=hv.o2 10 8 ag;have j:=((j.eO 3<|ag.2.1 rfl).cF 5 hD).eO 5<|ag.1 rfl;refine Xk 5 j 3 zr gj λw j=>?_;exact Yh (ah,ai,aj,ak,ad,ae) hv ha ((j.dI 3 (D 8) (ag.2.1 rfl) bM).dI 5 true rfl (bif D 10 then raw 63 ae 4 else bM));rintro D U w ar⟨⟨ah,ai,aj,ak,ad,ae⟩,hv,ha,_,j⟩;simp only[List.getD_cons_zero,List.getD_cons_succ,ar 3 (by decide),ar 4 (by decide),ar 7 (by decide),ar 8 (by decide),ar 11 (by decide),ar 12 (by decide),aP]at j;obtain⟨O,rfl⟩:=(ac (hv.at 9 rfl<|rG ar 9)<|ac (hv.at 10 rfl<|rG ar 10) ha).ue;refine aC<|w_<|AT zr gH<|WM 5 j zr dL cD<|AT zr gH<|WM 4 j zr dL cD<|ic ab.Y0 aa.Y0<|eR (mM<|ab.Y0<aa.Y0)<|Xm true (ab.Y0<aa.Y0) (vp ae 1) zr zr zr (dG gH) ?_;refine Xm true (ab.Y0<aa.Y0) (vi ab.Y0) rfl rfl rfl (bQ 5 rfl j (by exact z_ (vp ae 1)) rfl dL cD)<|Xm true (ab.Y0<aa.Y0) (vp ad 1) rfl rfl rfl (dG gH)<|Xm true (ab.Y0<aa.Y0) (vi aa.Y0) rfl rfl rfl (bQ 4 rfl j (by exact z_ (vp ad 1)) rfl dL cD)<|WZ (vb<|ab.Y0==aa.Y0) rfl rfl (sD .eql)<|WZ (vb<|ab.Y0==aa.Y0) rfl rfl nI<|Xt (vp ae 0) rfl rfl (dG gU)<|Xt (vi ab.X0) rfl rfl (bQ 5 rfl j (by exact z_ (vp ae 0)) rfl dP cD)<|Xt (vp ad 0) rfl rfl (dG gU)<|Xt (vi aa.X0) rfl rfl (bQ 4 rfl j (by exact z_ (vp ad 0)) rfl dP cD) ?_;refine Xt (vb<|ab.X0<=aa.X0) zr zr (sD .leq)<|WZ (vb<|(ab.Y0==aa.Y0)&&mM (ab.X0<=aa.X0)) zr zr Lq<|Xl (b:=mM<|ab.Y0<aa.Y0) (v:=vb<|mM (ab.Y0<aa.Y0)||((ab.Y0==aa.Y0)&&mM (ab.X0<=aa.X0))) zt zr zr (pQ true)<|AS<|cY o (λo=>?_) λo=>?_;exact w_<|aK 8<|AS<|XB<|bJ<|oi o▸⟨rfl,bT ⟨rfl,j.drop 7⟩⟩;refine Xb<|bE<|aC<|IN<|aS ao<|WL ao 1<|aK (cE<|ao+1)<|By ?_;exact oi o▸⟨rfl,j.sp 7 [6]⟩;exact W9<|oi o▸⟨rfl,j.sp 1 [0]⟩;intro r U w o hK;exact bJ<|oi o▸hK;rintro ao _ w o⟨O,rfl,j⟩;refine aC<|BY<|w_<|mv v0<|q_ o λba a5 o=>W0 Oj (o5 N (i0:=0) j zr a5) λbb w j=>?_;have j:=j.freeze 0;refine q_ o λbc a6 o=>W0 R5 (qO N (i0:=0) j zr a6) λbf w j=>mv v0 ?_;have j:=j.freeze 0;refine q_ o λa7 a8 o=>WQ (gr Tryz.func96) (zi N (i0:=0) (i1:=2) j zr zr a8) λw j=>Xp a7<|AS<|cY o (λo=>?_) λo=>?_;exact w_<|aK 3<|AS<|Xe<|oi o▸bT ⟨rfl,j.drop 3⟩;exact XF<|aK 0<|AS<|WS<|oi o▸bT ⟨rfl,j.drop 3⟩
theorem pM{res:Bool}(o:Holds E w V)(j:jQ N p0 p1 p2=some res):c_ 100 [vi p0,vi p1,vi p2] w<|aV E V res:=by
 unfold jQ at j;refine enter Tryz.func100 zr zr<|w_<|bX false<|OF<|aS p0<|aS p1<|ic p0 p1<|eR (mM<|p0>=p1)<|WZ (vi p0) zr zr nI ?_;exact WZ (vi p2) zr zr nI<|WZ (vb<|p0<=p2) zr zr (sD .leq)<|Xl (b:=mM<|p0>=p1) (v:=vb<|mM (p0>=p1)&&mM (p0<=p2)) zt zr zr (jK true)<|bX (mM (p0>=p1)&&mM (p0<=p2))<|AS<|WS<|oi j▸bT ⟨rfl,o.drop 0⟩
theorem wV{p0:dW}{res:Bool}(j:Holds E w V)(h0:eo V i0 v0 p0)(hb:ly N p0=some res):c_ 103 [v0] w<|aV E V res:=by
 unfold ly at hb;refine enter Tryz.func103 zr zr ?_;have j:=j.dup (i0+0) h0;refine w_<|Xg 0 v0 j zr λai w j=>?_;refine bX false<|WK<|q_ hb λad o hb=>WW (λ(ad:Bool)=>SH E V [(2,vb ad)] []) ad ?_ ?_;refine IN<|AT zr rQ<|WM 0 j zr jZ cD<|q_ o λaf ag o=>WQ Hu (n0 N (p0:=p0.X) j ag) λw j=>eR af<|dT o (λaa o=>?_) λaa o=>?_;exact AT zr oX<|WM 0 j zr iv cD<|q_ o λae ah o=>WQ Hu (n0 N (p0:=p0.Y) j ah) λw j=>dR aa (vb ae)<|bX ae<|By<|oi o▸⟨rfl,j.sp 2 []⟩;exact aW aa<|aW aa<|aW aa<|dR aa (vb false)<|bX false<|By<|oi o▸⟨rfl,j.sp 2 []⟩;rintro _ w⟨O,rfl,j⟩;exact aC<|WS<|oi hb▸bT ⟨rfl,j.drop 0⟩
theorem ko{p0:bU}{res:aG}(j:Holds E w V)(h0:eo V i0 v0 p0)(o:iC N p0=some res):c_ 65 [v0] w<|rV E V res:=by
 unfold iC at o;refine enter Tryz.func65 zr zr ?_;have j:=j.dup (i0+0) h0;refine w_<|Xg 0 v0 j zr λaa w j=>?_;refine Xo j oI.z λab w j=>?_;refine WK<|XK mixed ?_;have j:=j.drew;refine XJ<|AT zr z7<|AI<|AT zr rQ<|AI<|WM (f:=(λx=>x.At.X)) 1 j zr (Fd.comp (f:=λ(x:bU)=>x.At) (λ(x:dW)=>x.X) uG jZ) cD<|AI<|AT zr sZ<|AI<|WM 1 j zr nY cD<|AI<|Yu p0.eJ 2<|AI<|WL p0.At.X (cE<|Int.tdiv p0.eJ 2)<|AI<|AT zr z7<|AI<|AT zr oX ?_;refine AI<|WM (f:=(λx=>x.At.Y)) 1 j zr (Fd.comp (f:=λ(x:bU)=>x.At) (λ(x:dW)=>x.Y) uG iv) cD<|AI<|AT zr sZ<|AI<|WM 1 j zr nY cD<|AI<|Yu p0.eJ 2<|AI<|WL p0.At.Y (cE<|Int.tdiv p0.eJ 2)<|AI<|aK (cE<|p0.At.X -(cE<|Int.tdiv p0.eJ 2))<|AI<|aK (cE<|p0.At.Y -(cE<|Int.tdiv p0.eJ 2))<|XA<|aC<|w_<|aS (cE<|p0.At.X -(cE<|Int.tdiv p0.eJ 2)) ?_;refine aS (cE<|p0.At.Y -(cE<|Int.tdiv p0.eJ 2))<|aS (cE<|p0.At.X -(cE<|Int.tdiv p0.eJ 2))<|AT zr sZ<|WM 1 j zr nY cD<|WL (cE<|p0.At.X -(cE<|Int.tdiv p0.eJ 2)) p0.eJ<|aS (cE<|p0.At.Y -(cE<|Int.tdiv p0.eJ 2))<|AT zr sZ<|WM 1 j zr nY cD<|WL (cE<|p0.At.Y -(cE<|Int.tdiv p0.eJ 2)) p0.eJ ?_;have j:=((j.sc Int<|cE<|p0.At.X -(cE<|Int.tdiv p0.eJ 2)).sc Int<|cE<|p0.At.Y -(cE<|Int.tdiv p0.eJ 2)).sc Int<|cE<|cE (p0.At.X -(cE<|Int.tdiv p0.eJ 2))+p0.eJ;have j:=j.sc Int<|cE<|cE (p0.At.Y -(cE<|Int.tdiv p0.eJ 2))+p0.eJ;refine XH (⟨cE<|p0.At.X -(cE<|Int.tdiv p0.eJ 2),cE<|p0.At.Y -(cE<|Int.tdiv p0.eJ 2),cE<|cE (p0.At.X -(cE<|Int.tdiv p0.eJ 2))+p0.eJ,cE<|cE (p0.At.Y -(cE<|Int.tdiv p0.eJ 2))+p0.eJ⟩:aG) trivial rfl j [(0,vi<|cE<|p0.At.X -(cE<|Int.tdiv p0.eJ 2)),(1,vi<|cE<|p0.At.Y -(cE<|Int.tdiv p0.eJ 2)),(2,vi<|cE<|cE (p0.At.X -(cE<|Int.tdiv p0.eJ 2))+p0.eJ),(3,vi<|cE<|cE (p0.At.Y -(cE<|Int.tdiv p0.eJ 2))+p0.eJ)] rfl GV rfl (λM hs g=>by have h:=uV M;exact cC.cons (f:=λ(x:aG)y=>{x with X0:=y}) h qZ (g.sat 3 _ rfl).1 λ_ h=>cC.cons (f:=λ(x:aG)y=>{x with Y0:=y}) h sK (g.sat 2 _ rfl).1 λ_ h=>cC.cons (f:=λ(x:aG)y=>{x with X1:=y}) h pI (g.sat 1 _ rfl).1 λ_ h=>cC.cons (f:=λ(x:aG)y=>{x with Y1:=y}) h q9 (g.sat 0 _ rfl).1 λ_ h=>cC.nil h) λad j=>?_;refine Xk 5 j 0 zr gj λw j=>?_;refine AS<|WS ?_;obtain rfl:=oi o;exact Lg 5 j gj λae j=>j.pk 9 [0]
end Go.Gk
