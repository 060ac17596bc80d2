/-
  Printed texts: Go functions as plain functions, and that they are. No statement of the seed is proved here.
-/
import Derived.Test.YtlffnmkhgkppkaaGreatDoorProg
import Derived.Test.YtlffnmkhgkppkaaGreatDoorE1
import Derived.Test.YtlffnmkhgkppkaaGreatDoorA1
import Derived.Test.YtlffnmkhgkppkaaGreatDoorA2
import Derived.Test.YtlffnmkhgkppkaaGreatDoorRows
import Derived.Shelf.SlGeneric
import Derived.Ground.SlsfProg
import Derived.Ground.SlgmProg
set_option linter.unusedVariables false
set_option linter.unusedSimpArgs false
set_option linter.unusedSectionVars false
set_option maxRecDepth 100000
set_option maxHeartbeats 40000000
namespace Go.Gk
open Go IntKind Go.Proofs
noncomputable abbrev bH:=Tryz.prog
abbrev c_(f:Nat)(l:List Value)(w:World)(R:Value->World->Prop):Prop:=Calls bH f l.toArray w (gu R)
def oq(x:aI):=(x.X0,x.Y0,x.X1,x.Y1)
instance instGTRect:GT aI:=GT.via oq
instance instKVRect:KV aI:=instKVvia (λ(x:aI)=>(x.X0,x.Y0,x.X1,x.Y1))
theorem eF:Fd 0 (λx:aI=>x.X0):= .v oq<|.fst .self
theorem rY:Fs 0 Int (λ(x:aI)y=>{x with X0:=y}):= .v oq<|.fst .self
theorem dX:Fd 1 (λx:aI=>x.Y0):= .v oq<|.snd<|.fst .self
theorem tX:Fs 1 Int (λ(x:aI)y=>{x with Y0:=y}):= .v oq<|.snd<|.fst .self
theorem fF:Fd 2 (λx:aI=>x.X1):= .v oq<|.snd<|.snd<|.fst .self
theorem qf:Fs 2 Int (λ(x:aI)y=>{x with X1:=y}):= .v oq<|.snd<|.snd<|.fst .self
theorem gz:Fd 3 (λx:aI=>x.Y1):= .v oq<|.snd<|.snd<|.snd<|.self
theorem rZ:Fs 3 Int (λ(x:aI)y=>{x with Y1:=y}):= .v oq<|.snd<|.snd<|.snd<|.self
def Ao(x:bL):=(x.X,x.Y)
instance instGTPoint:GT bL:=GT.via Ao
instance instKVPoint:KV bL:=instKVvia (λ(x:bL)=>(x.X,x.Y))
theorem g9:Fd 0 (λx:bL=>x.X):= .v Ao<|.fst .self
theorem hG:Fd 1 (λx:bL=>x.Y):= .v Ao<|.snd<|.self
def tY(x:cP):=(x.At,x.dQ,x.cR,x.To,x.jX)
instance instGTBore:GT cP:=GT.via tY
theorem r5:Fd 0 (λx:cP=>x.At):= .v tY<|.fst .self
theorem mI:Fd 2 (λx:cP=>x.dQ):= .v tY<|.snd<|.fst .self
theorem k6:Fd 3 (λx:cP=>x.cR):= .v tY<|.snd<|.snd<|.fst .self
theorem mJ:Fd 4 (λx:cP=>x.To):= .v tY<|.snd<|.snd<|.snd<|.fst .self
theorem xg:Fd 5 (λx:cP=>x.jX):= .v tY<|.snd<|.snd<|.snd<|.snd<|.self
def si(x:dV):=(x.Part,x.eE,x.fP,x.At)
instance instGTLand:GT dV:=GT.via si
theorem o6:Fd 0 (λx:dV=>x.Part):= .v si<|.fst .self
theorem Jl:Fs 0 eJ (λ(x:dV)y=>{x with Part:=y}):= .v si<|.fst .self
theorem r6:Fd 1 (λx:dV=>x.eE):= .v si<|.snd<|.fst .self
theorem Jm:Fs 1 eJ (λ(x:dV)y=>{x with eE:=y}):= .v si<|.snd<|.fst .self
theorem xh:Fd 2 (λx:dV=>x.fP):= .v si<|.snd<|.snd<|.fst .self
theorem o7:Fd 3 (λx:dV=>x.At):= .v si<|.snd<|.snd<|.snd<|.self
def ze(x:fE):=(x.aL,x.dC,x.aV,x.bN)
instance instGTArt:GT fE:=GT.via ze
theorem j8:Fd 0 (λx:fE=>x.aL):= .v ze<|.fst .self
theorem wh:Fd 1 (λx:fE=>x.dC):= .v ze<|.snd<|.fst .self
theorem j9:Fd 2 (λx:fE=>x.aV):= .v ze<|.snd<|.snd<|.fst .self
theorem ka:Fd 3 (λx:fE=>x.bN):= .v ze<|.snd<|.snd<|.snd<|.self
def xk(x:eE):=(x.Part,x.eE)
instance instGTPin:GT eE:=GT.via xk
instance instKVPin:KV eE:=instKVvia (λ(x:eE)=>(x.Part,x.eE))
theorem sj:Fd 0 (λx:eE=>x.Part):= .v xk<|.fst .self
theorem Ce:Fs 0 eJ (λ(x:eE)y=>{x with Part:=y}):= .v xk<|.fst .self
theorem wi:Fd 1 (λx:eE=>x.eE):= .v xk<|.snd<|.self
theorem Cf:Fs 1 eJ (λ(x:eE)y=>{x with eE:=y}):= .v xk<|.snd<|.self
def Cg(x:Test):=(x.A,x.B,x.Joined)
instance instGTTest:GT Test:=GT.via Cg
theorem jR:Fd 0 (λx:Test=>x.A):= .v Cg<|.fst .self
theorem k7:Fd 2 (λx:Test=>x.B):= .v Cg<|.snd<|.fst .self
def kJ(x:aA):=(x.Y0,x.Y1,x.Xs)
instance instGTshape_Band:GT aA:=GT.via kJ
theorem iw:Fd 0 (λx:aA=>x.Y0):= .v kJ<|.fst .self
theorem vz:Fs 0 Int (λ(x:aA)y=>{x with Y0:=y}):= .v kJ<|.fst .self
theorem f9:Fd 1 (λx:aA=>x.Y1):= .v kJ<|.snd<|.fst .self
theorem qU:Fs 1 Int (λ(x:aA)y=>{x with Y1:=y}):= .v kJ<|.snd<|.fst .self
theorem eO:Fd 2 (λx:aA=>x.Xs):= .v kJ<|.snd<|.snd<|.self
theorem vA:Fs 2 (List Int) (λ(x:aA)y=>{x with Xs:=y}):= .v kJ<|.snd<|.snd<|.self
def kx(x:aO):=(x.fP,x.Set,x.ri)
instance instGTcopper_Piece:GT aO:=GT.via kx
theorem tp:Fd 0 (λx:aO=>x.fP):= .v kx<|.fst .self
theorem zf:Fs 0 Int (λ(x:aO)y=>{x with fP:=y}):= .v kx<|.fst .self
theorem zg:Fs 1 (List aA) (λ(x:aO)y=>{x with Set:=y}):= .v kx<|.snd<|.fst .self
theorem tq:Fd 2 (λx:aO=>x.ri):= .v kx<|.snd<|.snd<|.self
theorem zh:Fs 2 (List aI) (λ(x:aO)y=>{x with ri:=y}):= .v kx<|.snd<|.snd<|.self
def Jn(x:dL):=(x.qS,x.aV,x.kV)
instance instGTGroup:GT dL:=GT.via Jn
def uX(x:gM):=(x.cP,x.Number)
instance instGTHop:GT gM:=GT.via uX
instance instKVHop:KV gM:=instKVvia (λ(x:gM)=>(x.cP,x.Number))
theorem Ch:Fd 0 (λx:gM=>x.cP):= .v uX<|.fst .self
theorem Kx:Fs 0 Bool (λ(x:gM)y=>{x with cP:=y}):= .v uX<|.fst .self
theorem sm:Fd 1 (λx:gM=>x.Number):= .v uX<|.snd<|.self
theorem Gc:Fs 1 Int (λ(x:gM)y=>{x with Number:=y}):= .v uX<|.snd<|.self
def pE(x:cB):=(x.e0,x.e1)
instance instGTArr2_Int:GT cB:=GT.via pE
instance instKVArr2_Int:KV cB:=instKVvia (λ(x:cB)=>(x.e0,x.e1))
theorem qs:Fd 0 (λx:cB=>x.e0):= .v pE<|.fst .self
theorem Dn:Fs 0 Int (λ(x:cB)y=>{x with e0:=y}):= .v pE<|.fst .self
theorem qt:Fd 1 (λx:cB=>x.e1):= .v pE<|.snd<|.self
theorem Dp:Fs 1 Int (λ(x:cB)y=>{x with e1:=y}):= .v pE<|.snd<|.self
theorem zi:∀k:Fin 2,Fs (k.val*1) Int (λ(x:cB)y=>x.st k y)
  |⟨0,_⟩=>Dn
  |⟨1,_⟩=>Dp
theorem zj(k:Fin 2):k.val*1+1<=2:=by have:=k.isLt;omega
def mo(x:bT):=(x.e0,x.e1)
instance instGTprobe_spots:GT bT:=GT.via mo
theorem Ap:Fd 0 (λx:bT=>x.e0):= .v mo<|.fst .self
theorem Aq:Fs 0 bL (λ(x:bT)y=>{x with e0:=y}):= .v mo<|.fst .self
theorem Ar:Fd 2 (λx:bT=>x.e1):= .v mo<|.snd<|.self
theorem As:Fs 2 bL (λ(x:bT)y=>{x with e1:=y}):= .v mo<|.snd<|.self
theorem qV:∀k:Fin 2,Fd (k.val*2) (λx:bT=>x.gt k)
  |⟨0,_⟩=>Ap
  |⟨1,_⟩=>Ar
def tZ(x:Touch):=(x.Test,x.FZ,x.A0)
instance instGTTouch:GT Touch:=GT.via tZ
instance instKVTouch:KV Touch:=instKVvia (λ(x:Touch)=>(x.Test,x.FZ,x.A0))
theorem uY:Fs 0 Int (λ(x:Touch)y=>{x with Test:=y}):= .v tZ<|.fst .self
theorem uZ:Fs 1 Bool (λ(x:Touch)y=>{x with FZ:=y}):= .v tZ<|.snd<|.fst .self
theorem u3:Fs 2 Int (λ(x:Touch)y=>{x with A0:=y}):= .v tZ<|.snd<|.snd<|.self
def gV(x:aH):=(x.from_,x.to)
instance instGTetchhouseref1_span:GT aH:=GT.via gV
instance instKVetchhouseref1_span:KV aH:=instKVvia (λ(x:aH)=>(x.from_,x.to))
theorem eT:Fd 0 (λx:aH=>x.from_):= .v gV<|.fst .self
theorem lP:Fs 0 Int (λ(x:aH)y=>{x with from_:=y}):= .v gV<|.fst .self
theorem eU:Fd 1 (λx:aH=>x.to):= .v gV<|.snd<|.self
theorem lQ:Fs 1 Int (λ(x:aH)y=>{x with to:=y}):= .v gV<|.snd<|.self
def fY(x:aM):=(x.from_,x.to,x.ji)
instance instGTetchhouseref1_band:GT aM:=GT.via fY
theorem o8:Fd 0 (λx:aM=>x.from_):= .v fY<|.fst .self
theorem o9:Fs 0 Int (λ(x:aM)y=>{x with from_:=y}):= .v fY<|.fst .self
theorem lR:Fd 1 (λx:aM=>x.to):= .v fY<|.snd<|.fst .self
theorem lS:Fs 1 Int (λ(x:aM)y=>{x with to:=y}):= .v fY<|.snd<|.fst .self
theorem gA:Fd 2 (λx:aM=>x.ji):= .v fY<|.snd<|.snd<|.self
theorem pd:Fs 2 (List aH) (λ(x:aM)y=>{x with ji:=y}):= .v fY<|.snd<|.snd<|.self
def dJ(x:aW):=(x.Bv,x.tU,x.speed,x.A1)
instance instGTetchhouseref11_machine:GT aW:=GT.via dJ
theorem iU:Fd 0 (λx:aW=>x.Bv):= .v dJ<|.fst .self
theorem rE:Fs 0 fE (λ(x:aW)y=>{x with Bv:=y}):= .v dJ<|.fst .self
theorem mV:Fd 4 (λx:aW=>x.tU):= .v dJ<|.snd<|.fst .self
theorem rF:Fs 4 (List Test) (λ(x:aW)y=>{x with tU:=y}):= .v dJ<|.snd<|.fst .self
theorem mW:Fd 5 (λx:aW=>x.speed):= .v dJ<|.snd<|.snd<|.fst .self
theorem rG:Fs 5 Int (λ(x:aW)y=>{x with speed:=y}):= .v dJ<|.snd<|.snd<|.fst .self
theorem rH:Fd 6 (λx:aW=>x.A1):= .v dJ<|.snd<|.snd<|.snd<|.self
theorem rI:Fs 6 Int (λ(x:aW)y=>{x with A1:=y}):= .v dJ<|.snd<|.snd<|.snd<|.self
def jL(x:bW):=(x.e0,x.e1)
instance instGTArr2_probe_spots:GT bW:=GT.via jL
theorem vH:Fd 0 (λx:bW=>x.e0):= .v jL<|.fst .self
theorem vI:Fs 0 bT (λ(x:bW)y=>{x with e0:=y}):= .v jL<|.fst .self
theorem vJ:Fd 4 (λx:bW=>x.e1):= .v jL<|.snd<|.self
theorem vK:Fs 4 bT (λ(x:bW)y=>{x with e1:=y}):= .v jL<|.snd<|.self
theorem qH:∀k:Fin 2,Fd (k.val*4) (λx:bW=>x.gt k)
  |⟨0,_⟩=>vH
  |⟨1,_⟩=>vJ
def t7(x:m7):=(x.Open,x.gM,x.A,x.B)
instance instGTFlaw:GT m7:=GT.via t7
theorem qg:Fd 0 (λx:m7=>x.Open):= .v t7<|.fst .self
theorem r7:Fd 1 (λx:m7=>x.gM):= .v t7<|.snd<|.fst .self
theorem xl:Fd 3 (λx:m7=>x.A):= .v t7<|.snd<|.snd<|.fst .self
theorem xm:Fd 4 (λx:m7=>x.B):= .v t7<|.snd<|.snd<|.snd<|.self
theorem BN(M:eI):GT.ok M (#[(.int .i64 0),(.bool false),(.int .i64 0)]:Array Value).toList (⟨0,false,0⟩:Touch):=⟨[(.int .i64 0)],[(.bool false),(.int .i64 0)],rfl,(show GT.ok M [(.int .i64 0)] (0:Int)from rfl),⟨[(.bool false)],[(.int .i64 0)],rfl,(show GT.ok M [(.bool false)] (false:Bool)from rfl),(show GT.ok M [(.int .i64 0)] (0:Int)from rfl)⟩⟩
theorem Ky(M:eI):GT.ok M (#[(.string ⟨#[]⟩),(.string ⟨#[]⟩)]:Array Value).toList (⟨⟨[]⟩,⟨[]⟩⟩:eE):=⟨[(.string ⟨#[]⟩)],[(.string ⟨#[]⟩)],rfl,(show GT.ok M [(.string ⟨#[]⟩)] (⟨[]⟩:eJ)from rfl),(show GT.ok M [(.string ⟨#[]⟩)] (⟨[]⟩:eJ)from rfl)⟩
theorem Il(M:eI):GT.ok M (#[(.bool false),(.int .i64 0)]:Array Value).toList (⟨false,0⟩:gM):=⟨[(.bool false)],[(.int .i64 0)],rfl,(show GT.ok M [(.bool false)] (false:Bool)from rfl),(show GT.ok M [(.int .i64 0)] (0:Int)from rfl)⟩
theorem EC(M:eI):GT.ok M (#[(.int .i64 0),(.int .i64 0)]:Array Value).toList (⟨0,0⟩:bL):=⟨[(.int .i64 0)],[(.int .i64 0)],rfl,(show GT.ok M [(.int .i64 0)] (0:Int)from rfl),(show GT.ok M [(.int .i64 0)] (0:Int)from rfl)⟩
theorem tF(M:eI):GT.ok M (#[(.int .i64 0),(.int .i64 0),(.int .i64 0),(.int .i64 0)]:Array Value).toList (⟨⟨0,0⟩,⟨0,0⟩⟩:bT):=⟨[(.int .i64 0),(.int .i64 0)],[(.int .i64 0),(.int .i64 0)],rfl,(show GT.ok M [(.int .i64 0),(.int .i64 0)] (⟨0,0⟩:bL)from EC M),(show GT.ok M [(.int .i64 0),(.int .i64 0)] (⟨0,0⟩:bL)from EC M)⟩
theorem Hv(M:eI):GT.ok M (#[(.int .i64 0),(.int .i64 0)]:Array Value).toList (⟨0,0⟩:cB):=⟨[(.int .i64 0)],[(.int .i64 0)],rfl,(show GT.ok M [(.int .i64 0)] (0:Int)from rfl),(show GT.ok M [(.int .i64 0)] (0:Int)from rfl)⟩
theorem OZ(M:eI):GT.ok M (#[n_,n_,n_,n_]:Array Value).toList (⟨[],[],[],[]⟩:fE):=⟨[n_],[n_,n_,n_],rfl,(show GT.ok M [n_] ([]:List (List aI))from⟨_,rfl,none,0,0,rfl,rfl,bV _,by simp[maxLen],λ_ _ h=>by simp at h⟩),⟨[n_],[n_,n_],rfl,(show GT.ok M [n_] ([]:List aI)from⟨_,rfl,none,0,0,rfl,rfl,bV _,by simp[maxLen],λ_ _ h=>by simp at h⟩),⟨[n_],[n_],rfl,(show GT.ok M [n_] ([]:List cP)from⟨_,rfl,none,0,0,rfl,rfl,bV _,by simp[maxLen],λ_ _ h=>by simp at h⟩),(show GT.ok M [n_] ([]:List dV)from⟨_,rfl,none,0,0,rfl,rfl,bV _,by simp[maxLen],λ_ _ h=>by simp at h⟩)⟩⟩⟩
theorem lB(M:eI):GT.ok M (#[n_,n_,n_,n_,n_,(.int .i64 0),(.int .i64 0)]:Array Value).toList (⟨⟨[],[],[],[]⟩,[],0,0⟩:aW):=⟨[n_,n_,n_,n_],[n_,(.int .i64 0),(.int .i64 0)],rfl,(show GT.ok M [n_,n_,n_,n_] (⟨[],[],[],[]⟩:fE)from OZ M),⟨[n_],[(.int .i64 0),(.int .i64 0)],rfl,(show GT.ok M [n_] ([]:List Test)from⟨_,rfl,none,0,0,rfl,rfl,bV _,by simp[maxLen],λ_ _ h=>by simp at h⟩),⟨[(.int .i64 0)],[(.int .i64 0)],rfl,(show GT.ok M [(.int .i64 0)] (0:Int)from rfl),(show GT.ok M [(.int .i64 0)] (0:Int)from rfl)⟩⟩⟩
theorem sq(M:eI):GT.ok M (#[(.int .i64 0),(.int .i64 0),(.int .i64 0),(.int .i64 0),(.int .i64 0),(.int .i64 0),(.int .i64 0),(.int .i64 0)]:Array Value).toList (⟨⟨⟨0,0⟩,⟨0,0⟩⟩,⟨⟨0,0⟩,⟨0,0⟩⟩⟩:bW):=⟨[(.int .i64 0),(.int .i64 0),(.int .i64 0),(.int .i64 0)],[(.int .i64 0),(.int .i64 0),(.int .i64 0),(.int .i64 0)],rfl,(show GT.ok M [(.int .i64 0),(.int .i64 0),(.int .i64 0),(.int .i64 0)] (⟨⟨0,0⟩,⟨0,0⟩⟩:bT)from tF M),(show GT.ok M [(.int .i64 0),(.int .i64 0),(.int .i64 0),(.int .i64 0)] (⟨⟨0,0⟩,⟨0,0⟩⟩:bT)from tF M)⟩
theorem u4(M:eI):GT.ok M (#[(.int .i64 0),(.int .i64 0),(.int .i64 0),(.int .i64 0)]:Array Value).toList (⟨0,0,0,0⟩:aI):=⟨[(.int .i64 0)],[(.int .i64 0),(.int .i64 0),(.int .i64 0)],rfl,(show GT.ok M [(.int .i64 0)] (0:Int)from rfl),⟨[(.int .i64 0)],[(.int .i64 0),(.int .i64 0)],rfl,(show GT.ok M [(.int .i64 0)] (0:Int)from rfl),⟨[(.int .i64 0)],[(.int .i64 0)],rfl,(show GT.ok M [(.int .i64 0)] (0:Int)from rfl),(show GT.ok M [(.int .i64 0)] (0:Int)from rfl)⟩⟩⟩
theorem N3(M:eI):GT.ok M (#[(.string ⟨#[]⟩),(.string ⟨#[]⟩),(.int .i64 0),(.int .i64 0),(.int .i64 0)]:Array Value).toList (⟨⟨[]⟩,⟨[]⟩,0,⟨0,0⟩⟩:dV):=⟨[(.string ⟨#[]⟩)],[(.string ⟨#[]⟩),(.int .i64 0),(.int .i64 0),(.int .i64 0)],rfl,(show GT.ok M [(.string ⟨#[]⟩)] (⟨[]⟩:eJ)from rfl),⟨[(.string ⟨#[]⟩)],[(.int .i64 0),(.int .i64 0),(.int .i64 0)],rfl,(show GT.ok M [(.string ⟨#[]⟩)] (⟨[]⟩:eJ)from rfl),⟨[(.int .i64 0)],[(.int .i64 0),(.int .i64 0)],rfl,(show GT.ok M [(.int .i64 0)] (0:Int)from rfl),(show GT.ok M [(.int .i64 0),(.int .i64 0)] (⟨0,0⟩:bL)from EC M)⟩⟩⟩
theorem Ci(M:eI):GT.ok M (#[(.int .i64 0),n_,n_]:Array Value).toList (⟨0,[],[]⟩:aO):=⟨[(.int .i64 0)],[n_,n_],rfl,(show GT.ok M [(.int .i64 0)] (0:Int)from rfl),⟨[n_],[n_],rfl,(show GT.ok M [n_] ([]:List aA)from⟨_,rfl,none,0,0,rfl,rfl,bV _,by simp[maxLen],λ_ _ h=>by simp at h⟩),(show GT.ok M [n_] ([]:List aI)from⟨_,rfl,none,0,0,rfl,rfl,bV _,by simp[maxLen],λ_ _ h=>by simp at h⟩)⟩⟩
theorem zk(M:eI):GT.ok M (#[(.int .i64 0),(.int .i64 0),n_]:Array Value).toList (⟨0,0,[]⟩:aA):=⟨[(.int .i64 0)],[(.int .i64 0),n_],rfl,(show GT.ok M [(.int .i64 0)] (0:Int)from rfl),⟨[(.int .i64 0)],[n_],rfl,(show GT.ok M [(.int .i64 0)] (0:Int)from rfl),(show GT.ok M [n_] ([]:List Int)from⟨_,rfl,none,0,0,rfl,rfl,bV _,by simp[maxLen],λ_ _ h=>by simp at h⟩)⟩⟩
theorem qI(M:eI):GT.ok M (#[(.int .i64 0),(.int .i64 0),n_]:Array Value).toList (⟨0,0,[]⟩:aM):=⟨[(.int .i64 0)],[(.int .i64 0),n_],rfl,(show GT.ok M [(.int .i64 0)] (0:Int)from rfl),⟨[(.int .i64 0)],[n_],rfl,(show GT.ok M [(.int .i64 0)] (0:Int)from rfl),(show GT.ok M [n_] ([]:List aH)from⟨_,rfl,none,0,0,rfl,rfl,bV _,by simp[maxLen],λ_ _ h=>by simp at h⟩)⟩⟩
theorem qJ(M:eI):GT.ok M (#[(.int .i64 0),(.int .i64 0)]:Array Value).toList (⟨0,0⟩:aH):=⟨[(.int .i64 0)],[(.int .i64 0)],rfl,(show GT.ok M [(.int .i64 0)] (0:Int)from rfl),(show GT.ok M [(.int .i64 0)] (0:Int)from rfl)⟩
structure cT where
  qS:List Int
  aV:List Int
  kV:RV
  deriving Inhabited
def u5(x:cT):=(x.qS,x.aV,x.kV)
instance instGTGroup_r2:GT cT:=GT.via u5
theorem Dq:Fd 2 (λx:cT=>x.kV):= .v u5<|.snd<|.snd<|.self
theorem Dr:Fs 2 RV (λ(x:cT)y=>{x with kV:=y}):= .v u5<|.snd<|.snd<|.self
def cQ:XT cT dL:=⟨λu x=>u.qS=x.qS/\u.aV=x.aV,λM h u x=>(u.qS=x.qS/\u.aV=x.aV)/\yg 39 M h u.kV.v x.kV,λ{M M' h u x}hk hh=>⟨hh.1,(own 39 u.kV.v x.kV).mono hk hh.2⟩,λh=>h.1⟩
theorem wj:XO cQ 39 2 (λu=>u.kV) (λu r=>{u with kV:=r}) (λx=>x.kV) (λx y=>{x with kV:=y}):=⟨Dq,Dr,by decide,λh=>h.2,λhr ho=>⟨hr,ho⟩⟩
theorem ED(M h:eI)(u:cT)(x:dL)(cs:List Value)(hd:∀b o,h b=some o->M b=none)(hx:cQ.ok M h u x)(hc:GT.ok M cs u):GT.ok (sU M h) cs x:=by
 obtain⟨⟨e0,e1⟩,ho⟩:=hx;obtain⟨c0,d0,hd0,a0,c1,d1,hd1,a1,a2⟩:=hc;exact⟨c0,d0,hd0,GT.mono (xe M h) (show GT.ok M c0 x.qS from e0▸(show GT.ok M c0 u.qS from a0)),⟨c1,d1,hd1,GT.mono (xe M h) (show GT.ok M c1 x.aV from e1▸(show GT.ok M c1 u.aV from a1)),⟨u.kV.v,a2,yg.sl hd ho⟩⟩⟩
theorem lC:m0 bH 27 true 4:=vx
theorem n7:oJ bH 27 0 0:=pW
theorem xL:m0 bH 22 false 1:=vx
theorem wk:Tryz.prog.underlying 22=some (.slice 23):=by kernel_rfl
theorem EE:oJ bH 27 1 1:=pW
theorem yp:m0 bH 23 false 1:=vx
theorem ot:Tryz.prog.underlying 23=some (.slice 75):=by kernel_rfl
theorem zm:v5 bH 22 23 1:=Dm
theorem j4:v5 bH 23 75 4:=Dm
theorem iX:m0 bH 75 true 4:=vx
theorem pQ:BK bH 75 4:=Dg<|.agg #[(.int .i64 0),(.int .i64 0),(.int .i64 0),(.int .i64 0)]
theorem jc:oJ bH 75 0 0:=pW
theorem cI:m0 bH 3 false 1:=vx
theorem O0:gD bH 157:=gX Tryz.func157
theorem DS:gD bH 118:=gX Tryz.func118
theorem iV:oJ bH 75 1 1:=pW
theorem j5:oJ bH 75 2 2:=pW
theorem lT:oJ bH 75 3 3:=pW
theorem MO:gD bH 128:=gX Tryz.func128
theorem Rl:gD bH 90:=gX Tryz.func90
theorem mixed:Tryz.prog.follows .mixedOrders=true:=by kernel_rfl
theorem Cj:tR bH 23 75 4 32:=tR.of<|.agg #[(.int .i64 0),(.int .i64 0),(.int .i64 0),(.int .i64 0)]
theorem O1:gD bH 119:=gX Tryz.func119
theorem O2:gD bH 121:=gX Tryz.func121
theorem MP:gD bH 120:=gX Tryz.func120
theorem O3:MI bH 91 [n_]:=⟨n_,λ_=>by kernel_rfl,rfl⟩
theorem iC:m0 bH 91 false 1:=vx
theorem fG:v5 bH 91 3 1:=Dm
theorem Jo:BK bH 3 1:=Dg<|.int .i64 0
theorem wm:tR bH 91 3 1 8:=tR.of<|.int .i64 0
theorem O4:gD bH 122:=gX Tryz.func122
theorem n8:Tryz.prog.underlying 91=some (.slice 3):=by kernel_rfl
theorem OI:Hg bH 3 (0:Int):=Hg.of (.int .i64 0)<|λM=>rfl
theorem O5:gD bH 123:=gX Tryz.func123
theorem MQ:gD bH 140:=gX Tryz.func140
theorem Rm:Hg bH 75 (⟨0,0,0,0⟩:aI):=Hg.of (.agg #[(.int .i64 0),(.int .i64 0),(.int .i64 0),(.int .i64 0)])<|λM=>u4 M
theorem O6:gD bH 125:=gX Tryz.func125
theorem O7:gD bH 124:=gX Tryz.func124
theorem O8:gD bH 162:=gX Tryz.func162
theorem O9:gD bH 127:=gX Tryz.func127
theorem MR:yh bH 188 [(0,1),(1,1),(2,1)] #[(.int .i64 0),(.int .i64 0),n_]:=yh.of (.agg #[(.int .i64 0),(.int .i64 0),n_]) Tryz.underlying188
theorem mX:oJ bH 188 2 2:=pW
theorem oM:oJ bH 188 1 1:=pW
theorem rJ:oJ bH 188 0 0:=pW
theorem rj:Tryz.prog.underlying 137=some (.slice 188):=by kernel_rfl
theorem mq:v5 bH 137 188 3:=Dm
theorem Pa:gD bH 161:=gX Tryz.func161
theorem zn:m0 bH 188 true 3:=vx
theorem Gd:BK bH 188 3:=Dg<|.agg #[(.int .i64 0),(.int .i64 0),n_]
theorem Pb:tR bH 137 188 3 40:=tR.of<|.agg #[(.int .i64 0),(.int .i64 0),n_]
theorem MS:gD bH 126:=gX Tryz.func126
theorem Kz:gD bH 73:=gX Tryz.func73
theorem Ge:yh bH 75 [(0,1),(1,1),(2,1),(3,1)] #[(.int .i64 0),(.int .i64 0),(.int .i64 0),(.int .i64 0)]:=yh.of (.agg #[(.int .i64 0),(.int .i64 0),(.int .i64 0),(.int .i64 0)]) Tryz.underlying75
theorem N4:gD bH 92:=gX Tryz.func92
theorem Hh:Tryz.prog.underlying 3=some (.int .i64):=by kernel_rfl
theorem MT:LA bH 75 aI:=⟨λM cs ds a b w ha hb=>by
  obtain⟨_,_,rfl,rfl,⟨_,_,rfl,rfl,⟨_,_,rfl,rfl,rfl⟩⟩⟩:=ha
  obtain⟨_,_,rfl,rfl,⟨_,_,rfl,rfl,⟨_,_,rfl,rfl,rfl⟩⟩⟩:=hb
  refine(jt 9999 Tryz.underlying75<|yT.cons (by decide) (cZ cI _) (cZ cI _) (ju Hh _ _ w)<|yT.cons (by decide) (cZ cI _) (cZ cI _) (ju Hh _ _ w)<|yT.cons (by decide) (cZ cI _) (cZ cI _) (ju Hh _ _ w)<|yT.cons (by decide) (cZ cI _) (cZ cI _) (ju Hh _ _ w) yT.nil).trans ?_
  congr 1
  cases a;cases b;unfold oq
  rw[eN]
  simp,by kernel_rfl⟩
theorem Rn:gD bH 91:=gX Tryz.func91
theorem Pc:gD bH 50:=gX Tryz.func50
theorem kh:oJ bH 27 2 2:=pW
theorem rK:m0 bH 24 false 1:=vx
theorem yq:Tryz.prog.underlying 24=some (.slice 101):=by kernel_rfl
theorem xM:v5 bH 24 101 6:=Dm
theorem kl:m0 bH 101 true 6:=vx
theorem Ck:BK bH 101 6:=Dg<|.agg #[(.int .i64 0),(.int .i64 0),(.int .i64 0),(.int .i64 0),(.int .i64 0),(.bool false)]
theorem qu:oJ bH 101 1 2:=pW
theorem LZ:gD bH 71:=gX Tryz.func71
theorem xn:oJ bH 101 0 0:=pW
theorem jD:m0 bH 57 true 2:=vx
theorem n9:oJ bH 57 0 0:=pW
theorem oc:oJ bH 57 1 1:=pW
theorem Pd:gD bH 72:=gX Tryz.func72
theorem Jp:gD bH 54:=gX Tryz.func54
theorem Pe:gD bH 129:=gX Tryz.func129
theorem Ro:gD bH 74:=gX Tryz.func74
theorem Rp:gD bH 37:=gX Tryz.func37
theorem oN:oJ bH 101 2 3:=pW
theorem qw:oJ bH 101 3 4:=pW
theorem Rq:gD bH 51:=gX Tryz.func51
theorem nv:oJ bH 27 3 3:=pW
theorem wo:m0 bH 25 false 1:=vx
theorem Gf:Tryz.prog.underlying 25=some (.slice 77):=by kernel_rfl
theorem zo:v5 bH 25 77 5:=Dm
theorem yr:m0 bH 77 true 5:=vx
theorem KA:BK bH 77 5:=Dg<|.agg #[(.string ⟨#[]⟩),(.string ⟨#[]⟩),(.int .i64 0),(.int .i64 0),(.int .i64 0)]
theorem wq:oJ bH 77 0 0:=pW
theorem xo:m0 bH 9 false 1:=vx
theorem Cl:Tryz.prog.underlying 9=some (.string):=by kernel_rfl
theorem Rr(a:eJ)(b:Int)(w:World):(callFunc 216 [str a,(.int .u8 b)].toArray).run bH w = .ok (.value<|vi ((Lib.countByte a.dD (Int.toNat b).toUInt8:Nat):Int)) w:=B4 Extern.BytealgCount.count Tryz.func216<|Lib.run_countString _ _ w
theorem LX(a:eJ)(b:Int)(w:World):(callFunc 204 [str a,(.int .u8 b)].toArray).run bH w = .ok (.value<|vi<|Lib.indexByte a.dD (Int.toNat b).toUInt8) w:=B4 Extern.BytealgIndexByte.indexByte Tryz.func204<|Lib.run_indexByteString _ _ w
theorem MU:gD bH 167:=gX Tryz.func167
theorem Pf:gD bH 217:=gX Tryz.func217
theorem MV:gD bH 203:=gX Tryz.func203
theorem Pg:gD bH 202:=gX Tryz.func202
theorem Ph:tR bH 197 9 1 16:=tR.of<|.string ⟨#[]⟩
theorem SJ:Hg bH 9 (⟨[]⟩:eJ):=Hg.of (.string ⟨#[]⟩)<|λM=>rfl
theorem Gg:v5 bH 197 9 1:=Dm
theorem Pj:gD bH 166:=gX Tryz.func166
theorem MW:gD bH 134:=gX Tryz.func134
theorem MX:Tryz.prog.underlying 197=some (.slice 9):=by kernel_rfl
theorem Pk:gD bH 165:=gX Tryz.func165
theorem MY:gD bH 136:=gX Tryz.func136
theorem Pl:gD bH 94:=gX Tryz.func94
theorem Pm:gD bH 135:=gX Tryz.func135
theorem Pn:gD bH 133:=gX Tryz.func133
theorem Rs:gD bH 93:=gX Tryz.func93
theorem Au:oJ bH 77 1 1:=pW
theorem EF:oJ bH 77 2 2:=pW
theorem wt:oJ bH 77 3 3:=pW
theorem Po:BK bH 39 2:=Dg<|.agg #[(.string ⟨#[]⟩),(.string ⟨#[]⟩)]
theorem N5:yh bH 39 [(0,1),(1,1)] #[(.string ⟨#[]⟩),(.string ⟨#[]⟩)]:=yh.of (.agg #[(.string ⟨#[]⟩),(.string ⟨#[]⟩)]) Tryz.underlying39
theorem nT:m0 bH 39 true 2:=vx
theorem L0:gD bH 78:=gX Tryz.func78
theorem yt:oJ bH 39 0 0:=pW
theorem Ru(a b:eJ)(w:World):(callFunc 200 [str a,str b].toArray).run bH w = .ok (.value<|vi<|Lib.compareBytes a.dD b.dD) w:=B4 Extern.BytealgCompare.compare Tryz.func200<|Lib.run_compareString _ _ w
theorem Pp:gD bH 163:=gX Tryz.func163
theorem MZ:gD bH 130:=gX Tryz.func130
theorem Cm:oJ bH 39 1 1:=pW
theorem Jq:gD bH 77:=gX Tryz.func77
theorem Rv:gD bH 52:=gX Tryz.func52
theorem Pq:gD bH 95:=gX Tryz.func95
theorem Rw:gD bH 53:=gX Tryz.func53
theorem Ps:yh bH 108 [(0,4),(4,1),(5,1),(6,1),(7,1),(8,1),(9,1),(10,1),(11,1)] #[n_,n_,n_,n_,n_,n_,n_,n_,n_,n_,n_,n_]:=yh.of (.agg #[n_,n_,n_,n_,n_,n_,n_,n_,n_,n_,n_,n_]) Tryz.underlying108
theorem oO:oJ bH 108 0 0:=pW
theorem N6:gD bH 96:=gX Tryz.func96
theorem Gh:v5 bH 103 137 1:=Dm
theorem KB:BK bH 137 1:=Dg<|.slice none 0 0
theorem M1:Tryz.prog.underlying 103=some (.slice 137):=by kernel_rfl
theorem M3:m0 bH 137 false 1:=vx
theorem M4:gD bH 168:=gX Tryz.func168
theorem Pt:Tryz.prog.underlying 4=some (.bool):=by kernel_rfl
theorem Pv:gD bH 169:=gX Tryz.func169
theorem Pw:gD bH 138:=gX Tryz.func138
theorem Px:gD bH 137:=gX Tryz.func137
theorem Rx:gD bH 97:=gX Tryz.func97
theorem Ry:gD bH 98:=gX Tryz.func98
theorem Im:oJ bH 108 1 4:=pW
theorem M5:m0 bH 103 false 1:=vx
theorem M6:tR bH 103 137 1 24:=tR.of<|.slice none 0 0
theorem KC:gD bH 139:=gX Tryz.func139
theorem A4:FK bH 155 3 3 Int Int (0:Int):=⟨by kernel_rfl,B5.int Hh,Ib (.int .i64 0)<|λM=>⟨_,rfl,rfl⟩⟩
theorem N7:BK bH 23 1:=Dg<|.slice none 0 0
theorem L1:tR bH 22 23 1 24:=tR.of<|.slice none 0 0
theorem Rz:gD bH 99:=gX Tryz.func99
theorem tr:oJ bH 108 2 5:=pW
theorem A5:m0 bH 104 false 1:=vx
theorem Py:yh bH 165 [(0,1),(1,1),(2,1)] #[(.int .i64 0),n_,n_]:=yh.of (.agg #[(.int .i64 0),n_,n_]) Tryz.underlying165
theorem KD:v5 bH 104 165 3:=Dm
theorem KE:BK bH 165 3:=Dg<|.agg #[(.int .i64 0),n_,n_]
theorem Pz:tR bH 104 165 3 56:=tR.of<|.agg #[(.int .i64 0),n_,n_]
theorem DT:Tryz.prog.underlying 104=some (.slice 165):=by kernel_rfl
theorem RA:gD bH 55:=gX Tryz.func55
theorem PA:gD bH 102:=gX Tryz.func102
theorem Io:m0 bH 165 true 3:=vx
theorem BO:oJ bH 101 4 5:=pW
theorem yu:m0 bH 4 false 1:=vx
theorem Ip:oJ bH 165 0 0:=pW
theorem Iq:oJ bH 165 2 2:=pW
theorem PB:gD bH 101:=gX Tryz.func101
theorem M7:gD bH 100:=gX Tryz.func100
theorem BP:oJ bH 108 3 6:=pW
theorem Ir:m0 bH 105 false 1:=vx
theorem Cn:v5 bH 105 91 1:=Dm
theorem PC:BK bH 91 1:=Dg<|.slice none 0 0
theorem M8:tR bH 105 91 1 24:=tR.of<|.slice none 0 0
theorem RB:gD bH 56:=gX Tryz.func56
theorem PD:yh bH 195 [(0,1)] #[n_]:=yh.of (.agg #[n_]) Tryz.underlying195
theorem rL:oJ bH 195 0 0:=pW
theorem PE:gD bH 86:=gX Tryz.func86
theorem Is:Tryz.prog.underlying 105=some (.slice 91):=by kernel_rfl
theorem Jr:gD bH 89:=gX Tryz.func89
theorem PF:gD bH 88:=gX Tryz.func88
theorem EG:oJ bH 108 5 8:=pW
theorem BQ:oJ bH 108 6 9:=pW
theorem PH:gD bH 103:=gX Tryz.func103
theorem PI:MI bH 172 [n_,n_,n_]:=⟨(.agg #[n_,n_,n_]),λ_=>by kernel_rfl,rfl⟩
theorem xp:oJ bH 108 4 7:=pW
theorem DU:m0 bH 106 false 1:=vx
theorem M9:Tryz.prog.underlying 106=some (.slice 172):=by kernel_rfl
theorem EH:oJ bH 172 0 0:=pW
theorem EI:oJ bH 172 1 1:=pW
theorem PK:m0 bH 172 true 3:=vx
theorem KF:v5 bH 106 172 3:=Dm
theorem PL:BK bH 172 3:=Dg<|.agg #[n_,n_,n_]
theorem PM:tR bH 106 172 3 72:=tR.of<|.agg #[n_,n_,n_]
theorem L2:BK bH 47 2:=Dg<|.agg #[(.bool false),(.int .i64 0)]
theorem PN:gD bH 170:=gX Tryz.func170
theorem Na:gD bH 141:=gX Tryz.func141
theorem L3:yh bH 47 [(0,1),(1,1)] #[(.bool false),(.int .i64 0)]:=yh.of (.agg #[(.bool false),(.int .i64 0)]) Tryz.underlying47
theorem xN:m0 bH 47 true 2:=vx
theorem PO:gD bH 104:=gX Tryz.func104
theorem Hx:oJ bH 47 0 0:=pW
theorem yv:oJ bH 47 1 1:=pW
theorem PQ:gD bH 105:=gX Tryz.func105
theorem It:oJ bH 172 2 2:=pW
theorem Nb:m0 bH 170 false 1:=vx
theorem PR:v5 bH 170 39 2:=Dm
theorem PT:tR bH 170 39 2 32:=tR.of<|.agg #[(.string ⟨#[]⟩),(.string ⟨#[]⟩)]
theorem EJ:oJ bH 108 7 10:=pW
theorem EK:oJ bH 108 8 11:=pW
theorem N8:m0 bH 40 false 1:=vx
theorem PU:v5 bH 40 47 2:=Dm
theorem RD:tR bH 40 47 2 16:=tR.of<|.agg #[(.bool false),(.int .i64 0)]
theorem RE:gD bH 57:=gX Tryz.func57
theorem PV:gD bH 28:=gX Tryz.func28
theorem t8:Tryz.prog.underlying 28=some (.slice 62):=by kernel_rfl
theorem wu:v5 bH 28 62 5:=Dm
theorem sV:m0 bH 62 true 5:=vx
theorem PW:BK bH 62 5:=Dg<|.agg #[(.string ⟨#[]⟩),(.string ⟨#[]⟩),(.string ⟨#[]⟩),(.string ⟨#[]⟩),(.bool false)]
theorem pF:oJ bH 62 0 0:=pW
theorem Nc:Tryz.prog.underlying 190=some (.int .u64):=by kernel_rfl
theorem RF:gD bH 76:=gX Tryz.func76
theorem RG:gD bH 75:=gX Tryz.func75
theorem Gi:gD bH 38:=gX Tryz.func38
theorem qW:oJ bH 62 1 2:=pW
theorem PX:gD bH 164:=gX Tryz.func164
theorem Nd:gD bH 131:=gX Tryz.func131
theorem RH:gD bH 80:=gX Tryz.func80
theorem RI:gD bH 42:=gX Tryz.func42
theorem L4:gD bH 43:=gX Tryz.func43
theorem PY:gD bH 21:=gX Tryz.func21
theorem Ds:v5 bH 54 4 1:=Dm
theorem SK:BK bH 4 1:=Dg<|.bool false
theorem PZ:tR bH 55 64 2 16:=tR.of<|.agg #[(.int .i64 0),(.int .i64 0)]
theorem P0:Hg bH 64 (⟨0,0⟩:cB):=Hg.of (.agg #[(.int .i64 0),(.int .i64 0)])<|λM=>Hv M
theorem RJ:Tryz.prog.underlying 54=some (.slice 4):=by kernel_rfl
theorem RK:BK bH 59 4:=Dg<|.agg #[(.int .i64 0),(.int .i64 0),(.int .i64 0),(.int .i64 0)]
theorem Hy:BK bH 57 2:=Dg<|.agg #[(.int .i64 0),(.int .i64 0)]
theorem L5:MK bH 59 2 57 2:=⟨by kernel_rfl,λ_=>by kernel_rfl⟩
theorem P3:NW bH 59 2 ((.agg #[(.int .i64 0),(.int .i64 0),(.int .i64 0),(.int .i64 0)]):Value).cells:=NW.of L5
theorem Av:m0 bH 59 true 4:=vx
theorem Gj:gD bH 22:=gX Tryz.func22
theorem P4:gD bH 44:=gX Tryz.func44
theorem KG:gD bH 23:=gX Tryz.func23
theorem Dt:v5 bH 55 64 2:=Dm
theorem L6:MK bH 64 2 3 1:=⟨by kernel_rfl,λ_=>by kernel_rfl⟩
theorem EL:NU bH 64 0 0:=L6.at (k:=⟨0,by decide⟩) rfl
theorem EM:NU bH 64 1 1:=L6.at (k:=⟨1,by decide⟩) rfl
theorem N9:MI bH 59 [(.int .i64 0),(.int .i64 0),(.int .i64 0),(.int .i64 0)]:=⟨(.agg #[(.int .i64 0),(.int .i64 0),(.int .i64 0),(.int .i64 0)]),λ_=>by kernel_rfl,rfl⟩
theorem P5:MI bH 62 [(.string ⟨#[]⟩),(.string ⟨#[]⟩),(.string ⟨#[]⟩),(.string ⟨#[]⟩),(.bool false)]:=⟨(.agg #[(.string ⟨#[]⟩),(.string ⟨#[]⟩),(.string ⟨#[]⟩),(.string ⟨#[]⟩),(.bool false)]),λ_=>by kernel_rfl,rfl⟩
theorem L7:yh bH 35 [(0,1),(1,1),(2,1)] #[(.int .i64 0),(.bool false),(.int .i64 0)]:=yh.of (.agg #[(.int .i64 0),(.bool false),(.int .i64 0)]) Tryz.underlying35
theorem Js:v5 bH 29 35 3:=Dm
theorem L8:BK bH 35 3:=Dg<|.agg #[(.int .i64 0),(.bool false),(.int .i64 0)]
theorem L9:tR bH 29 35 3 24:=tR.of<|.agg #[(.int .i64 0),(.bool false),(.int .i64 0)]
theorem SL:gD bH 6:=gX Tryz.func6
theorem Oa:BK bH 66 7:=Dg<|.agg #[n_,n_,n_,n_,n_,(.int .i64 0),(.int .i64 0)]
theorem P6:gD bH 205:=gX Tryz.func205
theorem x6:gD bH 175:=gX Tryz.func175
theorem P7:gD bH 172:=gX Tryz.func172
theorem Nf:gD bH 148:=gX Tryz.func148
theorem DV:gD bH 178:=gX Tryz.func178
theorem Ng:gD bH 149:=gX Tryz.func149
theorem Nh:yh bH 229 [(0,1),(1,1)] #[(.int .i64 0),(.int .i64 0)]:=yh.of (.agg #[(.int .i64 0),(.int .i64 0)]) Tryz.underlying229
theorem x8:Tryz.prog.underlying 208=some (.slice 229):=by kernel_rfl
theorem pX:v5 bH 208 229 2:=Dm
theorem rM:oJ bH 229 1 1:=pW
theorem rN:oJ bH 229 0 0:=pW
theorem Iu:m0 bH 229 true 2:=vx
theorem Ni:BK bH 229 2:=Dg<|.agg #[(.int .i64 0),(.int .i64 0)]
theorem KH:tR bH 208 229 2 16:=tR.of<|.agg #[(.int .i64 0),(.int .i64 0)]
theorem Nj:gD bH 180:=gX Tryz.func180
theorem KI:gD bH 151:=gX Tryz.func151
theorem Nk:yh bH 211 [(0,1),(1,1),(2,1)] #[(.int .i64 0),(.int .i64 0),n_]:=yh.of (.agg #[(.int .i64 0),(.int .i64 0),n_]) Tryz.underlying211
theorem xq:oJ bH 211 2 2:=pW
theorem DW:m0 bH 208 false 1:=vx
theorem Nl:Tryz.prog.underlying 206=some (.slice 211):=by kernel_rfl
theorem zp:v5 bH 206 211 3:=Dm
theorem BR:oJ bH 211 1 1:=pW
theorem Iv:oJ bH 211 0 0:=pW
theorem Ob:LA bH 229 aH:=⟨λM cs ds a b w ha hb=>by
  obtain⟨_,_,rfl,rfl,rfl⟩:=ha
  obtain⟨_,_,rfl,rfl,rfl⟩:=hb
  refine(jt 9999 Tryz.underlying229<|yT.cons (by decide) (cZ cI _) (cZ cI _) (ju Hh _ _ w)<|yT.cons (by decide) (cZ cI _) (cZ cI _) (ju Hh _ _ w) yT.nil).trans ?_
  congr 1
  cases a;cases b;unfold gV
  rw[eN]
  simp,by kernel_rfl⟩
theorem P8:gD bH 179:=gX Tryz.func179
theorem P9:m0 bH 211 true 3:=vx
theorem Qa:BK bH 211 3:=Dg<|.agg #[(.int .i64 0),(.int .i64 0),n_]
theorem Qb:tR bH 206 211 3 40:=tR.of<|.agg #[(.int .i64 0),(.int .i64 0),n_]
theorem Nm:gD bH 150:=gX Tryz.func150
theorem Nn:gD bH 152:=gX Tryz.func152
theorem KJ:gD bH 112:=gX Tryz.func112
theorem Qc:gD bH 173:=gX Tryz.func173
theorem Np:gD bH 144:=gX Tryz.func144
theorem Gl:gD bH 146:=gX Tryz.func146
theorem Nq:gD bH 174:=gX Tryz.func174
theorem Ma:gD bH 65:=gX Tryz.func65
theorem Qd:gD bH 145:=gX Tryz.func145
theorem Nr:gD bH 177:=gX Tryz.func177
theorem Qe:gD bH 176:=gX Tryz.func176
theorem Qg:gD bH 147:=gX Tryz.func147
theorem Qh:gD bH 107:=gX Tryz.func107
theorem Qi:gD bH 108:=gX Tryz.func108
theorem Qj:gD bH 109:=gX Tryz.func109
theorem RM:gD bH 63:=gX Tryz.func63
theorem Ns:gD bH 156:=gX Tryz.func156
theorem Qk:gD bH 181:=gX Tryz.func181
theorem Ql:gD bH 153:=gX Tryz.func153
theorem Qm:gD bH 113:=gX Tryz.func113
theorem RN:gD bH 62:=gX Tryz.func62
theorem Oc:tR bH 54 4 1 1:=tR.of<|.bool false
theorem RP:Hg bH 4 (false:Bool):=Hg.of (.bool false)<|λM=>rfl
theorem Qn:gD bH 110:=gX Tryz.func110
theorem Qo:gD bH 111:=gX Tryz.func111
theorem RQ:gD bH 61:=gX Tryz.func61
theorem RR:gD bH 59:=gX Tryz.func59
theorem Mb:gD bH 47:=gX Tryz.func47
theorem Od:gD bH 81:=gX Tryz.func81
theorem Qp:LA bH 39 eE:=⟨λM cs ds a b w ha hb=>by
  obtain⟨_,_,rfl,rfl,rfl⟩:=ha
  obtain⟨_,_,rfl,rfl,rfl⟩:=hb
  refine(jt 9999 Tryz.underlying39<|yT.cons (by decide) (cZ xo _) (cZ xo _) (yj Cl _ _ w)<|yT.cons (by decide) (cZ xo _) (cZ xo _) (yj Cl _ _ w) yT.nil).trans ?_
  congr 1
  cases a;cases b;unfold xk
  rw[eN]
  simp,by kernel_rfl⟩
theorem RS:gD bH 82:=gX Tryz.func82
theorem RT:gD bH 45:=gX Tryz.func45
theorem Oe:yh bH 66 [(0,4),(4,1),(5,1),(6,1)] #[n_,n_,n_,n_,n_,(.int .i64 0),(.int .i64 0)]:=yh.of (.agg #[n_,n_,n_,n_,n_,(.int .i64 0),(.int .i64 0)]) Tryz.underlying66
theorem vL:m0 bH 66 true 7:=vx
theorem Qq:gD bH 46:=gX Tryz.func46
theorem Qr:gD bH 24:=gX Tryz.func24
theorem Gm:MI bH 57 [(.int .i64 0),(.int .i64 0)]:=⟨(.agg #[(.int .i64 0),(.int .i64 0)]),λ_=>by kernel_rfl,rfl⟩
theorem EN:oJ bH 66 0 0:=pW
theorem KK:oJ bH 66 1 4:=pW
theorem Qs:m0 bH 28 false 1:=vx
theorem Mc:gD bH 25:=gX Tryz.func25
theorem KL:oJ bH 66 2 5:=pW
theorem Of:oJ bH 66 3 6:=pW
theorem Jt:gD bH 26:=gX Tryz.func26
theorem SM:gD bH 7:=gX Tryz.func7
theorem RU:tR bH 72 73 8 64:=tR.of<|.agg #[(.int .i64 0),(.int .i64 0),(.int .i64 0),(.int .i64 0),(.int .i64 0),(.int .i64 0),(.int .i64 0),(.int .i64 0)]
theorem RW:Hg bH 73 (⟨⟨⟨0,0⟩,⟨0,0⟩⟩,⟨⟨0,0⟩,⟨0,0⟩⟩⟩:bW):=Hg.of (.agg #[(.int .i64 0),(.int .i64 0),(.int .i64 0),(.int .i64 0),(.int .i64 0),(.int .i64 0),(.int .i64 0),(.int .i64 0)])<|λM=>sq M
theorem Og:MK bH 73 2 59 4:=⟨by kernel_rfl,λ_=>by kernel_rfl⟩
theorem Qt:NW bH 73 4 ((.agg #[(.int .i64 0),(.int .i64 0),(.int .i64 0),(.int .i64 0),(.int .i64 0),(.int .i64 0),(.int .i64 0),(.int .i64 0)]):Value).cells:=NW.of Og
theorem Oh:v5 bH 72 73 8:=Dm
theorem RX:m0 bH 73 true 8:=vx
theorem SN:gD bH 8:=gX Tryz.func8
theorem SO:gD bH 9:=gX Tryz.func9
theorem Oi:Tryz.prog.underlying 29=some (.slice 35):=by kernel_rfl
theorem Qu:m0 bH 35 true 3:=vx
theorem Qv:LA bH 35 Touch:=⟨λM cs ds a b w ha hb=>by
  obtain⟨_,_,rfl,rfl,⟨_,_,rfl,rfl,rfl⟩⟩:=ha
  obtain⟨_,_,rfl,rfl,⟨_,_,rfl,rfl,rfl⟩⟩:=hb
  refine(jt 9999 Tryz.underlying35<|yT.cons (by decide) (cZ cI _) (cZ cI _) (ju Hh _ _ w)<|yT.cons (by decide) (cZ yu _) (cZ yu _) (qD Pt _ _ w)<|yT.cons (by decide) (cZ cI _) (cZ cI _) (ju Hh _ _ w) yT.nil).trans ?_
  congr 1
  cases a;cases b;unfold tZ
  rw[eN]
  simp,by kernel_rfl⟩
theorem Qw:gD bH 10:=gX Tryz.func10
theorem RY:yh bH 77 [(0,1),(1,1),(2,1),(3,2)] #[(.string ⟨#[]⟩),(.string ⟨#[]⟩),(.int .i64 0),(.int .i64 0),(.int .i64 0)]:=yh.of (.agg #[(.string ⟨#[]⟩),(.string ⟨#[]⟩),(.int .i64 0),(.int .i64 0),(.int .i64 0)]) Tryz.underlying77
theorem RZ:yh bH 27 [(0,1),(1,1),(2,1),(3,1)] #[n_,n_,n_,n_]:=yh.of (.agg #[n_,n_,n_,n_]) Tryz.underlying27
theorem R0:BK bH 27 4:=Dg<|.agg #[n_,n_,n_,n_]
theorem Gn:Tryz.prog.underlying 116=some (.slice 149):=by kernel_rfl
theorem Oj:m0 bH 80 false 1:=vx
theorem Gp:v5 bH 116 149 5:=Dm
theorem x9:m0 bH 149 true 5:=vx
theorem KM:BK bH 149 5:=Dg<|.agg #[(.bool false),(.bool false),(.int .i64 0),(.int .i64 0),(.int .i64 0)]
theorem u6:oJ bH 149 0 0:=pW
theorem BS:oJ bH 149 2 3:=pW
theorem BT:oJ bH 149 3 4:=pW
theorem xt:oJ bH 149 1 1:=pW
theorem Qx:LA bH 47 gM:=⟨λM cs ds a b w ha hb=>by
  obtain⟨_,_,rfl,rfl,rfl⟩:=ha
  obtain⟨_,_,rfl,rfl,rfl⟩:=hb
  refine(jt 9999 Tryz.underlying47<|yT.cons (by decide) (cZ yu _) (cZ yu _) (qD Pt _ _ w)<|yT.cons (by decide) (cZ cI _) (cZ cI _) (ju Hh _ _ w) yT.nil).trans ?_
  congr 1
  cases a;cases b;unfold uX
  rw[eN]
  simp,by kernel_rfl⟩
theorem Ol:gD bH 83:=gX Tryz.func83
theorem Om:LA bH 149 m7:=⟨λM cs ds a b w ha hb=>by
  obtain⟨_,_,rfl,rfl,⟨_,_,rfl,⟨_,_,rfl,rfl,rfl⟩,⟨_,_,rfl,rfl,rfl⟩⟩⟩:=ha
  obtain⟨_,_,rfl,rfl,⟨_,_,rfl,⟨_,_,rfl,rfl,rfl⟩,⟨_,_,rfl,rfl,rfl⟩⟩⟩:=hb
  refine(jt 9999 Tryz.underlying149<|yT.cons (by decide) (cZ yu _) (cZ yu _) (qD Pt _ _ w)<|yT.cons (by decide) (Aj xN rfl _) (Aj xN rfl _) (jt 9998 Tryz.underlying46<|yT.cons (by decide) (cZ yu _) (cZ yu _) (qD Pt _ _ w)<|yT.cons (by decide) (cZ cI _) (cZ cI _) (ju Hh _ _ w) yT.nil)<|yT.cons (by decide) (cZ cI _) (cZ cI _) (ju Hh _ _ w)<|yT.cons (by decide) (cZ cI _) (cZ cI _) (ju Hh _ _ w) yT.nil).trans ?_
  congr 1
  obtain⟨_,⟨_,_⟩,_,_⟩:=a;obtain⟨_,⟨_,_⟩,_,_⟩:=b;unfold t7 uX
  rw[eN]
  simp,by kernel_rfl⟩
theorem Qy:gD bH 132:=gX Tryz.func132
theorem R4:gD bH 84:=gX Tryz.func84
theorem R5:gD bH 48:=gX Tryz.func48
theorem Qz:MI bH 151 [(.map none)]:=⟨(.map none),λ_=>by kernel_rfl,rfl⟩
theorem Gq:m0 bH 151 false 1:=vx
theorem QA:gD bH 85:=gX Tryz.func85
theorem Iw:FK bH 151 3 4 Int Bool (false:Bool):=⟨by kernel_rfl,B5.int Hh,Ib (.bool false)<|λM=>⟨_,rfl,rfl⟩⟩
theorem QB:MI bH 152 [(.pointer none)]:=⟨(.pointer none),λ_=>by kernel_rfl,rfl⟩
theorem Gr:m0 bH 152 false 1:=vx
theorem QC:gD bH 87:=gX Tryz.func87
theorem R6:Tryz.prog.underlying 40=some (.slice 47):=by kernel_rfl
theorem R7:gD bH 49:=gX Tryz.func49
theorem R8:gD bH 27:=gX Tryz.func27
theorem R9:gD bH 11:=gX Tryz.func11
def Co(E:World)(V:List HP)(res:List Int×Int)(v:Value)(w:World):Prop:=∃u0:Value,v = .tuple #[u0,vi res.2]/\Holds E w ([rd u0 res.1]++V)
def qx(E:World)(V:List HP)(res:List Touch×Int)(v:Value)(w:World):Prop:=∃u0:Value,v = .tuple #[u0,vi res.2]/\Holds E w ([own 35 u0 res.1]++V)
def pG(E:World)(V:List HP)(res:aI)(v:Value)(w:World):Prop:=Holds E w<|[rd v res]++V
def su(E:World)(V:List HP)(res:List eJ)(v:Value)(w:World):Prop:=Holds E w<|[own 9 v res]++V
def rk(E:World)(V:List HP)(res:List Int)(v:Value)(w:World):Prop:=Holds E w<|[rd v res]++V
def ma(E:World)(V:List HP)(res:List aH)(v:Value)(w:World):Prop:=Holds E w<|[own 229 v res]++V
def qy(E:World)(V:List HP)(res:Option (List (List aI)×List aI×List cP×List dV×List (List aA)×List aO×List (List Int)×List dL×List Int×List Int×List Int×List gM)×Int)(v:Value)(w:World):Prop:=Kq res.1 (v = .tuple #[(.pointer none),vi res.2]/\Holds E w V) (λy=>∃(ub0:Nat)(A_ a4_:Value)(a5_ a6_:Value)(J_ K_:Value)(L_ M_:Value)(N_ O_:Value)(P_ Q_:Value),v = .tuple #[vp ub0 0,vi res.2]/\Holds E w ([bc 108 ub0 [A_,a4_,a5_,a6_,J_,K_,L_,M_,N_,O_,P_,Q_],rd A_ y.1,rd a4_ y.2.1,rd a5_ y.2.2.1,rd a6_ y.2.2.2.1,own 137 J_ y.2.2.2.2.1,rd K_ y.2.2.2.2.2.1,rd L_ y.2.2.2.2.2.2.1,own 172 M_ y.2.2.2.2.2.2.2.1,rd N_ y.2.2.2.2.2.2.2.2.1,rd O_ y.2.2.2.2.2.2.2.2.2.1,own 3 P_ y.2.2.2.2.2.2.2.2.2.2.1,own 47 Q_ y.2.2.2.2.2.2.2.2.2.2.2]++V))
def oW(E:World)(V:List HP)(res:Int×Bool)(v:Value)(w:World):Prop:=v = .tuple #[vi res.1,vb res.2]/\Holds E w V
def kW(E:World)(V:List HP)(b0:Nat)(e_ j_:Value)(a_ d_:Value)(k_ b_:Value)(f_ p_:Value)(o_ m_:Value)(i_ h_:Value)(res:Int)(v:Value)(w:World):Prop:=v= vi res/\Holds E w ([bc 108 b0 [e_,j_,a_,d_,k_,b_,f_,p_,o_,m_,i_,h_]]++V)
def pH(E:World)(V:List HP)(res:List (List aI))(v:Value)(w:World):Prop:=Holds E w<|[own 23 v res]++V
def aX(E:World)(V:List HP)(res:Bool)(v:Value)(w:World):Prop:=v= vb res/\Holds E w V
def aR(E:World)(V:List HP)(res:Int)(v:Value)(w:World):Prop:=v= vi res/\Holds E w V
def gk(E:World)(V:List HP)(res:List aI)(v:Value)(w:World):Prop:=Holds E w<|[own 75 v res]++V
def ny(E:World)(V:List HP)(res:List Int)(v:Value)(w:World):Prop:=Holds E w<|[own 3 v res]++V
def nU(E:World)(V:List HP)(res:List aA)(v:Value)(w:World):Prop:=Holds E w<|[own 188 v res]++V
def Bz(H:Type)(d:DataW H):Nat:=YtlffnmkhgkppkaaGreatDoor.Rows.uptoBulk d
def QF(H:Type)(d:List (DataW H)):Nat:=YtlffnmkhgkppkaaGreatDoor.Rows.uptoBulkAll d
theorem jd:UB Bz QF where
  str:=λH b=>by simp[Bz,YtlffnmkhgkppkaaGreatDoor.Rows.uptoBulk]
  pos:=λH d=>by
    unfold Bz
    cases d with
    |lit l=>cases l <;> simp[YtlffnmkhgkppkaaGreatDoor.Rows.uptoBulk]
    |nil=>simp[YtlffnmkhgkppkaaGreatDoor.Rows.uptoBulk]
    |ptr d=>simp[YtlffnmkhgkppkaaGreatDoor.Rows.uptoBulk]
    |slice elems spare=>simp[YtlffnmkhgkppkaaGreatDoor.Rows.uptoBulk]
    |agg parts=>simp[YtlffnmkhgkppkaaGreatDoor.Rows.uptoBulk]
    |iface t d=>simp[YtlffnmkhgkppkaaGreatDoor.Rows.uptoBulk]
    |map entries=>simp[YtlffnmkhgkppkaaGreatDoor.Rows.uptoBulk]
    |held h=>simp[YtlffnmkhgkppkaaGreatDoor.Rows.uptoBulk]
  sl:=λH e s=>by simp[Bz,QF,YtlffnmkhgkppkaaGreatDoor.Rows.uptoBulk]
  ag:=λH l=>by simp[Bz,QF,YtlffnmkhgkppkaaGreatDoor.Rows.uptoBulk]
  nil:=λH=>by simp[QF,YtlffnmkhgkppkaaGreatDoor.Rows.uptoBulkAll]
  cons:=λH x l=>by simp[Bz,QF,YtlffnmkhgkppkaaGreatDoor.Rows.uptoBulkAll]
theorem J5:km Bz Tryz.prog 3 Int:=Jy jd
theorem Sa:km Bz Tryz.prog 75 aI:=mb jd (λ(x:aI)=>(x.X0,x.Y0,x.X1,x.Y1)) (λb=>⟨b.1,b.2.1,b.2.2.1,b.2.2.2⟩) (λb=>rfl) Tryz.underlying75 (gJ jd J5<|gJ jd J5<|gJ jd J5<|qh jd J5) (λb=>by simp only[Mh];omega)
theorem QG:km Bz Tryz.prog 23 (List aI):=sB (e:=75) jd Sa
theorem Sb:km Bz Tryz.prog 22 (List<|List aI):=sB (e:=23) jd QG
theorem QH:km Bz Tryz.prog 57 bL:=mb jd (λ(x:bL)=>(x.X,x.Y)) (λb=>⟨b.1,b.2⟩) (λb=>rfl) Tryz.underlying57 (gJ jd J5<|qh jd J5) (λb=>by simp only[KS];omega)
theorem Sx:km Bz Tryz.prog 4 Bool:=HA jd
theorem QI:km Bz Tryz.prog 101 cP:=mb jd (λ(x:cP)=>(x.At,x.dQ,x.cR,x.To,x.jX)) (λb=>⟨b.1,b.2.1,b.2.2.1,b.2.2.2.1,b.2.2.2.2⟩) (λb=>rfl) Tryz.underlying101 (gJ jd QH<|gJ jd J5<|gJ jd J5<|gJ jd J5<|qh jd Sx) (λb=>by simp only[Mi];omega)
theorem Sd:km Bz Tryz.prog 24 (List cP):=sB (e:=101) jd QI
theorem Q5:km Bz Tryz.prog 9 eJ:=Jz jd
theorem Se:km Bz Tryz.prog 77 dV:=mb jd (λ(x:dV)=>(x.Part,x.eE,x.fP,x.At)) (λb=>⟨b.1,b.2.1,b.2.2.1,b.2.2.2⟩) (λb=>rfl) Tryz.underlying77 (gJ jd Q5<|gJ jd Q5<|gJ jd J5<|qh jd QH) (λb=>by simp only[Iz];omega)
theorem Sf:km Bz Tryz.prog 25 (List dV):=sB (e:=77) jd Se
theorem Sg:km Bz Tryz.prog 27 fE:=mb jd (λ(x:fE)=>(x.aL,x.dC,x.aV,x.bN)) (λb=>⟨b.1,b.2.1,b.2.2.1,b.2.2.2⟩) (λb=>rfl) Tryz.underlying27 (gJ jd Sb<|gJ jd QG<|gJ jd Sd<|qh jd Sf) (λb=>by simp only[KT];omega)
theorem QJ:km Bz Tryz.prog 39 eE:=mb jd (λ(x:eE)=>(x.Part,x.eE)) (λb=>⟨b.1,b.2⟩) (λb=>rfl) Tryz.underlying39 (gJ jd Q5<|qh jd Q5) (λb=>by simp only[Oo];omega)
theorem Sh:km Bz Tryz.prog 62 Test:=mb jd (λ(x:Test)=>(x.A,x.B,x.Joined)) (λb=>⟨b.1,b.2.1,b.2.2⟩) (λb=>rfl) Tryz.underlying62 (gJ jd QJ<|gJ jd QJ<|qh jd Sx) (λb=>by simp only[Mj];omega)
theorem Si:km Bz Tryz.prog 28 (List Test):=sB (e:=62) jd Sh
end Go.Gk
namespace Go.Proofs
open Go.Shelf Go.RowKit Go.Lib Go.Sort
def Tryz.lay120_ren : Go.Shelf.Ren := ⟨fun | 6 => 120 | 15 => 159 | 14 => 158 | 28 => 190 | 29 => 191 | 20 => 182 | 21 => 183 | 22 => 184 | 23 => 185 | 24 => 186 | 25 => 187 | 26 => 188 | 27 => 189 | 46 => 206 | 47 => 207 | 48 => 208 | 49 => 209 | 50 => 210 | 57 => 218 | n => n, fun | 22 => 23 | 24 => 75 | 25 => 121 | 3 => 3 | 39 => 190 | 0 => 0 | 53 => 239 | 55 => 241 | 4 => 4 | 46 => 233 | 45 => 232 | 50 => 94 | 5 => 5 | 9 => 9 | 66 => 248 | 70 => 252 | 76 => 259 | 77 => 260 | n => n, fun | n => n⟩
theorem Tryz.lay120 : Go.Proofs.SlLaysF0.n6 Tryz.prog Tryz.lay120_ren := {
  mixed := by kernel_rfl
  f6 := ⟨Tryz.f120.name, by decide, Tryz.func120.trans (congrArg some (by kernel_rfl))⟩
  f14 := ⟨Tryz.f158.name, by decide, Tryz.func158.trans (congrArg some (by kernel_rfl))⟩
  f15 := Tryz.func159.trans (congrArg some (by kernel_rfl))
  f20 := ⟨Tryz.f182.name, by decide, Tryz.func182.trans (congrArg some (by kernel_rfl))⟩
  f21 := ⟨Tryz.f183.name, by decide, Tryz.func183.trans (congrArg some (by kernel_rfl))⟩
  f22 := ⟨Tryz.f184.name, by decide, Tryz.func184.trans (congrArg some (by kernel_rfl))⟩
  f23 := ⟨Tryz.f185.name, by decide, Tryz.func185.trans (congrArg some (by kernel_rfl))⟩
  f24 := ⟨Tryz.f186.name, by decide, Tryz.func186.trans (congrArg some (by kernel_rfl))⟩
  f25 := ⟨Tryz.f187.name, by decide, Tryz.func187.trans (congrArg some (by kernel_rfl))⟩
  f26 := ⟨Tryz.f188.name, by decide, Tryz.func188.trans (congrArg some (by kernel_rfl))⟩
  f27 := ⟨Tryz.f189.name, by decide, Tryz.func189.trans (congrArg some (by kernel_rfl))⟩
  f28 := Tryz.func190.trans (congrArg some (by kernel_rfl))
  f29 := Tryz.func191.trans (congrArg some (by kernel_rfl))
  f46 := ⟨Tryz.f206.name, by decide, Tryz.func206.trans (congrArg some (by kernel_rfl))⟩
  f47 := Tryz.func207.trans (congrArg some (by kernel_rfl))
  f48 := Tryz.func208.trans (congrArg some (by kernel_rfl))
  f49 := ⟨Tryz.f209.name, by decide, Tryz.func209.trans (congrArg some (by kernel_rfl))⟩
  f50 := ⟨Tryz.f210.name, by decide, Tryz.func210.trans (congrArg some (by kernel_rfl))⟩
  f57 := ⟨Tryz.f218.name, by decide, Tryz.func218.trans (congrArg some (by kernel_rfl))⟩
  t0 := Tryz.underlying0
  a0 := Tryz.isAgg0
  z0 := Tryz.sizeOf0
  v0 := Tryz.zeroValue0
  t3 := Tryz.underlying3
  a3 := Tryz.isAgg3
  z3 := Tryz.sizeOf3
  v3 := Tryz.zeroValue3
  t4 := Tryz.underlying4
  a4 := Tryz.isAgg4
  z4 := Tryz.sizeOf4
  v4 := Tryz.zeroValue4
  t5 := Tryz.underlying5
  a5 := Tryz.isAgg5
  z5 := Tryz.sizeOf5
  v5 := Tryz.zeroValue5
  t9 := Tryz.underlying9
  a9 := Tryz.isAgg9
  z9 := Tryz.sizeOf9
  v9 := Tryz.zeroValue9
  t22 := Tryz.underlying23
  a22 := Tryz.isAgg23
  z22 := Tryz.sizeOf23
  v22 := Tryz.zeroValue23
  t25 := Tryz.underlying121
  a25 := Tryz.isAgg121
  z25 := Tryz.sizeOf121
  v25 := Tryz.zeroValue121
  t39 := Tryz.underlying190
  a39 := Tryz.isAgg190
  z39 := Tryz.sizeOf190
  v39 := Tryz.zeroValue190
  t45 := Tryz.underlying232
  a45 := Tryz.isAgg232
  z45 := Tryz.sizeOf232
  v45 := Tryz.zeroValue232
  t46 := Tryz.underlying233
  a46 := Tryz.isAgg233
  z46 := Tryz.sizeOf233
  v46 := Tryz.zeroValue233
  t50 := Tryz.underlying94
  a50 := Tryz.isAgg94
  z50 := Tryz.sizeOf94
  v50 := Tryz.zeroValue94
  t53 := Tryz.underlying239
  a53 := Tryz.isAgg239
  z53 := Tryz.sizeOf239
  v53 := Tryz.zeroValue239
  t55 := Tryz.underlying241
  a55 := Tryz.isAgg241
  z55 := Tryz.sizeOf241
  v55 := Tryz.zeroValue241
  t66 := Tryz.underlying248
  a66 := Tryz.isAgg248
  z66 := Tryz.sizeOf248
  v66 := Tryz.zeroValue248
  t70 := Tryz.underlying252
  a70 := Tryz.isAgg252
  z70 := Tryz.sizeOf252
  v70 := Tryz.zeroValue252
  t76 := Tryz.underlying259
  a76 := Tryz.isAgg259
  z76 := Tryz.sizeOf259
  v76 := Tryz.zeroValue259
  t77 := Tryz.underlying260
  a77 := Tryz.isAgg260
  z77 := Tryz.sizeOf260
  v77 := Tryz.zeroValue260 }
def Tryz.lay122_ren : Go.Shelf.Ren := ⟨fun | 5 => 122 | 8 => 159 | 7 => 160 | 19 => 190 | 20 => 191 | 10 => 192 | 11 => 193 | 12 => 194 | 13 => 195 | 14 => 196 | 15 => 197 | 16 => 142 | 17 => 198 | 18 => 199 | 30 => 211 | 31 => 207 | 32 => 208 | 33 => 212 | 34 => 213 | 35 => 171 | 40 => 219 | n => n, fun | 23 => 91 | 25 => 3 | 3 => 3 | 32 => 190 | 22 => 91 | 0 => 0 | 44 => 239 | 46 => 241 | 4 => 4 | 36 => 233 | 35 => 232 | 41 => 94 | 5 => 5 | 9 => 9 | 53 => 248 | 57 => 252 | 63 => 259 | 64 => 260 | n => n, fun | n => n⟩
theorem Tryz.lay122 : Go.Proofs.SlLaysM.n5 Tryz.prog Tryz.lay122_ren := {
  mixed := by kernel_rfl
  f5 := ⟨Tryz.f122.name, by decide, Tryz.func122.trans (congrArg some (by kernel_rfl))⟩
  f7 := ⟨Tryz.f160.name, by decide, Tryz.func160.trans (congrArg some (by kernel_rfl))⟩
  f8 := Tryz.func159.trans (congrArg some (by kernel_rfl))
  f10 := ⟨Tryz.f192.name, by decide, Tryz.func192.trans (congrArg some (by kernel_rfl))⟩
  f11 := ⟨Tryz.f193.name, by decide, Tryz.func193.trans (congrArg some (by kernel_rfl))⟩
  f12 := ⟨Tryz.f194.name, by decide, Tryz.func194.trans (congrArg some (by kernel_rfl))⟩
  f13 := ⟨Tryz.f195.name, by decide, Tryz.func195.trans (congrArg some (by kernel_rfl))⟩
  f14 := ⟨Tryz.f196.name, by decide, Tryz.func196.trans (congrArg some (by kernel_rfl))⟩
  f15 := ⟨Tryz.f197.name, by decide, Tryz.func197.trans (congrArg some (by kernel_rfl))⟩
  f16 := ⟨Tryz.f142.name, by decide, Tryz.func142.trans (congrArg some (by kernel_rfl))⟩
  f17 := ⟨Tryz.f198.name, by decide, Tryz.func198.trans (congrArg some (by kernel_rfl))⟩
  f18 := ⟨Tryz.f199.name, by decide, Tryz.func199.trans (congrArg some (by kernel_rfl))⟩
  f19 := Tryz.func190.trans (congrArg some (by kernel_rfl))
  f20 := Tryz.func191.trans (congrArg some (by kernel_rfl))
  f30 := ⟨Tryz.f211.name, by decide, Tryz.func211.trans (congrArg some (by kernel_rfl))⟩
  f31 := Tryz.func207.trans (congrArg some (by kernel_rfl))
  f32 := Tryz.func208.trans (congrArg some (by kernel_rfl))
  f33 := ⟨Tryz.f212.name, by decide, Tryz.func212.trans (congrArg some (by kernel_rfl))⟩
  f34 := ⟨Tryz.f213.name, by decide, Tryz.func213.trans (congrArg some (by kernel_rfl))⟩
  f35 := ⟨Tryz.f171.name, by decide, Tryz.func171.trans (congrArg some (by kernel_rfl))⟩
  f40 := ⟨Tryz.f219.name, by decide, Tryz.func219.trans (congrArg some (by kernel_rfl))⟩
  t0 := Tryz.underlying0
  a0 := Tryz.isAgg0
  z0 := Tryz.sizeOf0
  v0 := Tryz.zeroValue0
  t3 := Tryz.underlying3
  a3 := Tryz.isAgg3
  z3 := Tryz.sizeOf3
  v3 := Tryz.zeroValue3
  t4 := Tryz.underlying4
  a4 := Tryz.isAgg4
  z4 := Tryz.sizeOf4
  v4 := Tryz.zeroValue4
  t5 := Tryz.underlying5
  a5 := Tryz.isAgg5
  z5 := Tryz.sizeOf5
  v5 := Tryz.zeroValue5
  t9 := Tryz.underlying9
  a9 := Tryz.isAgg9
  z9 := Tryz.sizeOf9
  v9 := Tryz.zeroValue9
  t22 := Tryz.underlying91
  a22 := Tryz.isAgg91
  z22 := Tryz.sizeOf91
  v22 := Tryz.zeroValue91
  t23 := Tryz.underlying91
  a23 := Tryz.isAgg91
  z23 := Tryz.sizeOf91
  v23 := Tryz.zeroValue91
  t25 := Tryz.underlying3
  a25 := Tryz.isAgg3
  z25 := Tryz.sizeOf3
  v25 := Tryz.zeroValue3
  t32 := Tryz.underlying190
  a32 := Tryz.isAgg190
  z32 := Tryz.sizeOf190
  v32 := Tryz.zeroValue190
  t35 := Tryz.underlying232
  a35 := Tryz.isAgg232
  z35 := Tryz.sizeOf232
  v35 := Tryz.zeroValue232
  t36 := Tryz.underlying233
  a36 := Tryz.isAgg233
  z36 := Tryz.sizeOf233
  v36 := Tryz.zeroValue233
  t41 := Tryz.underlying94
  a41 := Tryz.isAgg94
  z41 := Tryz.sizeOf94
  v41 := Tryz.zeroValue94
  t44 := Tryz.underlying239
  a44 := Tryz.isAgg239
  z44 := Tryz.sizeOf239
  v44 := Tryz.zeroValue239
  t46 := Tryz.underlying241
  a46 := Tryz.isAgg241
  z46 := Tryz.sizeOf241
  v46 := Tryz.zeroValue241
  t53 := Tryz.underlying248
  a53 := Tryz.isAgg248
  z53 := Tryz.sizeOf248
  v53 := Tryz.zeroValue248
  t57 := Tryz.underlying252
  a57 := Tryz.isAgg252
  z57 := Tryz.sizeOf252
  v57 := Tryz.zeroValue252
  t63 := Tryz.underlying259
  a63 := Tryz.isAgg259
  z63 := Tryz.sizeOf259
  v63 := Tryz.zeroValue259
  t64 := Tryz.underlying260
  a64 := Tryz.isAgg260
  z64 := Tryz.sizeOf260
  v64 := Tryz.zeroValue260 }
end Go.Proofs
namespace Go.Gk
open Go IntKind Go.Proofs
variable (N:Nat){E w:World}{i0 i1 i2:Nat}{p0 p1 p2 res:Int}{v0 v1 v2:Value}{V:List HP}
theorem BA{res:Bool}(o:Holds E w V)(j:uR N p0 p1 p2=some res):c_ 157 [vi p0,vi p1,vi p2] w<|aX E V res:=by
 unfold uR at j;refine enter Tryz.func157 zr zr<|w_<|aP (vb false)<|OF<|mv (vi p0)<|mv (vi p1)<|ic p0 p1<|mv (vb<|decide<|p0>=p1)<|IS true (decide<|p0>=p1) (vi p0) zr zr zr cJ ?_;refine IS true (decide<|p0>=p1) (vi p2) rfl rfl rfl cJ<|IS true (decide<|p0>=p1) (vb<|decide<|p0<=p2) rfl rfl rfl (dE .leq .i64 p0 p2 rfl (by exact z_ (vi p0)) (by exact z_ (vi p2)) rfl)<|Tu (decide<|p0>=p1) (vb<|decide (p0>=p1)&&decide (p0<=p2)) (fR true)<|aP (vb<|decide (p0>=p1)&&decide (p0<=p2))<|AI<|Tb ?_;exact oi j▸cC ⟨rfl,o.drop 0⟩
theorem mK{res:Bool}(o:Holds E w V)(j:l5 N p0=some res):c_ 118 [vi p0] w<|aX E V res:=by
 unfold l5 at j;refine enter Tryz.func118 zr zr<|w_<|aP (vb false)<|OF<|mv (vi p0)<|q_ j λaa ab j=>IN zt zr O0 [vi p0,vi<|-1000000,vi 1000000] zr<|aF (BA N (p0:=p0) (p1:=(-1000000)) (p2:=1000000) o ab) ?_;rintro _ w⟨rfl,o⟩;exact aP (vb aa)<|AI<|Tb<|oi j▸cC ⟨rfl,o.drop 0⟩
theorem vB{p0:aI}{res:Bool}(j:Holds E w V)(h0:V[i0]? =some (rd v0 p0))(hb:nN N p0=some res):c_ 128 [v0] w<|aX E V res:=by
 unfold nN at hb;refine enter Tryz.func128 zr zr ?_;have j:=j.dup (i0+0) h0;refine w_<|Tm 0 v0 j zr λaq w j=>?_;refine aP (vb false)<|BY<|q_ hb λaf o hb=>Tg (λ(af:Bool)=>SH E V [(2,vb af)] []) af ?_ ?_;refine IT<|By zr jc<|S4 0 j zr eF cI<|q_ o λaj ak o=>IN zt zr DS [vi p0.X0] zr<|aF (mK N (p0:=p0.X0) j ak) ?_;rintro _ w⟨rfl,j⟩;refine mv (vb aj)<|fI o (λaa o=>?_) λaa o=>?_;refine By (hg:=cg aa) zr iV<|S4 (hg:=cg aa) 0 j zr dX cI<|q_ o λag al o=>IN (cg aa) zr DS [vi p0.Y0] zr<|aF (mK N (p0:=p0.Y0) j al) ?_;rintro _ w⟨rfl,j⟩;refine fH aa (vb ag)<|mv (vb ag)<|fI o (λab o=>?_) λab o=>?_;refine By (hg:=cg ab) zr j5<|S4 (hg:=cg ab) 0 j zr fF cI<|q_ o λah an o=>IN (cg ab) zr DS [vi p0.X1] zr<|aF (mK N (p0:=p0.X1) j an) ?_;rintro _ w⟨rfl,j⟩;refine fH ab (vb ah)<|mv (vb ah)<|fI o (λad o=>?_) λad o=>?_;refine By (hg:=cg ad) zr lT<|S4 (hg:=cg ad) 0 j zr gz cI<|q_ o λai ao o=>IN (cg ad) zr DS [vi p0.Y1] zr<|aF (mK N (p0:=p0.Y1) j ao) ?_;rintro _ w⟨rfl,j⟩;exact fH ad (vb ai)<|aP (vb ai)<|AS<|oi o▸⟨rfl,j.sp 2 []⟩;exact bO ad<|bO ad<|bO ad<|fH ad (vb false)<|aP (vb false)<|AS<|oi o▸⟨rfl,j.sp 2 []⟩;refine bO ab<|bO ab<|bO ab<|fH ab (vb false)<|mv (vb false)<|l9<|l9<|l9<|Tu false (vb false) zr<|aP (vb false)<|AS ?_;exact oi o▸⟨rfl,j.sp 2 []⟩;refine bO aa<|bO aa<|bO aa<|fH aa (vb false)<|mv (vb false)<|l9<|l9<|l9<|Tu false (vb false) zr<|mv (vb false)<|l9<|l9<|l9<|Tu false (vb false) zr<|aP (vb false)<|AS ?_;exact oi o▸⟨rfl,j.sp 2 []⟩;rintro _ w⟨O,rfl,j⟩;exact aG<|Tb<|oi hb▸cC ⟨rfl,j.drop 0⟩
def yz(E:World)(V:List HP)(r:Int)(U:Nat->Value)(w:World):Prop:=lZ bH 30 Tryz.f90 (aR E V r) .ret U w
theorem xO{p0:List aI}(o:Holds E w V)(h0:V[i0]? =some (rd v0 p0))(hb:lK N p0=some res):c_ 90 [v0] w<|aR E V res:=by
 unfold lK at hb;refine enter Tryz.func90 zr zr ?_;have o:=o.dup (i0+0) h0;refine w_<|aP (vi 0)<|BY<|w_<|mv v0<|S8 0 p0 o ot<|ic ((p0.length:Int)) 2000<|AI<|dR hb (λhc hb=>?_) λhc hb=>?_;exact w_<|aP (vi 2)<|AI<|Tp<|oi hb▸cC ⟨rfl,o.drop 1⟩;refine Ta<|w_<|mv v0<|S8 0 p0 o ot<|mv (vi 0)<|AI<|q_ hb λaq hN hb=>T9 (λ(ae:Nat)(af:Unit)=>SH E V [(8,v0),(9,vi p0.length),(10,vi ae)] [rd v0 p0]) (λ(af:Unit)=>SH E V [] [rd v0 p0]) (yz E V) hN ?_ ?_ ?_ ?_ ?_;exact o.sp 1 [0];rintro hm af _ w⟨O,rfl,o⟩;exact w_<|ic ((p0.length:Int)) ((p0.length:Int))<|BY<|TJ qC<|Te<|⟨rfl,o.sp 1 [0]⟩;rintro hm ae af fl _ w hk⟨O,rfl,o⟩hb;refine w_<|ic ((ae:Int)) ((p0.length:Int))<|BY<|TI (qB hk)<|Ta<|Tn<|q_ hb λj aj hb=>S7 0 o j4 aj λau o=>Tf 0 j o iX λav o=>TC o pQ.z λab w o=>?_;refine Tx 0 o 1 zr iX λw o=>?_;refine BY<|w_<|S3 (f:=(λx=>x)) 0 o zr Fd.self iX λak o=>?_;refine q_ hb λal an hb=>IN zt zr MO [ak] zr<|aF (vB N (i0:=0) o zr an) ?_;rintro _ w⟨rfl,o⟩;refine TH al<|AI<|dR hb (λhc hb=>?_) λhc hb=>?_;exact w_<|aP (vi 1)<|AI<|Tp<|jW<|bQ<|oi hb▸⟨rfl,cC ⟨rfl,o.drop 5⟩⟩;refine TV<|By rfl j5<|S4 1 o rfl fF cI<|By rfl jc<|S4 1 o rfl eF cI<|ic j.X1 j.X0<|mv (vb<|decide<|j.X1<=j.X0)<|IS true (decide<|j.X1<=j.X0) (vp ab 3) rfl rfl rfl (dF lT)<|IS true (decide<|j.X1<=j.X0) (vi j.Y1) rfl rfl rfl (bY 1 rfl o (by exact z_ (vp ab 3)) rfl gz cI) ?_;refine IS true (decide<|j.X1<=j.X0) (vp ab 1) rfl rfl rfl (dF iV)<|IS true (decide<|j.X1<=j.X0) (vi j.Y0) rfl rfl rfl (bY 1 rfl o (by exact z_ (vp ab 1)) rfl dX cI)<|IS true (decide<|j.X1<=j.X0) (vb<|decide<|j.Y1<=j.Y0) rfl rfl rfl (dE .leq .i64 j.Y1 j.Y0 rfl (by exact z_ (vi j.Y1)) (by exact z_ (vi j.Y0)) rfl)<|Tu (decide<|j.X1<=j.X0) (vb<|decide (j.X1<=j.X0)||decide (j.Y1<=j.Y0)) (nb true)<|AI<|dR hb (λhc hb=>?_) λhc hb=>?_;exact w_<|aP (vi 13)<|AI<|TL<|bQ<|oi hb▸⟨rfl,cC ⟨rfl,o.drop 5⟩⟩;exact Tw<|bR<|aG<|IT<|TF hk hm<|mv (vi ((ae+1:Nat):Int))<|AS<|oi hb▸⟨rfl,o.sp 5 [4]⟩;intro r U w e hK;subst e;exact bQ<|oi hb▸hK;rintro af _ w rfl⟨O,rfl,o⟩;rw[Fo.dN]at hb;exact aG<|w_<|aP (vi 0)<|AI<|Tb<|oi hb▸cC ⟨rfl,o.drop 1⟩
theorem wv{p0:List aI}{res:List aI}(j:Holds E w V)(h0:V[i0]? =some (rd v0 p0))(o:jN N p0=some res):
    c_ 119 [v0] w<|gk E V res:=by
 unfold jN at o
 refine enter Tryz.func119 zr zr ?_
 have j:=j.dup (i0+0) h0
 refine w_<|aP n_<|BY<|w_<|mv v0<|Vo (i:=0) zt zr j zr zr zr ot<|AI<|UE (b:=LQ v0) zr (λhc=>?_)<|λhc=>?_
 ·have hx:=j.Re (i:=0) rfl hc
  rw[hx]at o
  replace o:some ([]:List aI)=_:=o
  refine w_<|aP n_<|AI<|Tp ?_
  obtain rfl:=oi o
  have j:=j.dB aI 75
  exact cC<|j.pk 2 [0]
 refine TV<|TN ([]:List aI) j [] j4 pQ (λM hs g=>zt) λae w j=>mv v0 ?_
 obtain⟨af,ab,o⟩:=bd o
 refine TQ 0 1 j Cj ab λad w j=>?_
 refine aP ad<|AI<|Tb ?_
 obtain rfl:=oi o
 exact cC<|j.pk 2 [0]
theorem zw{p0 p1:aI}(j:Holds E w V)(h0:V[i0]? =some (rd v0 p0))(h1:V[i1]? =some (rd v1 p1))(o:kD N p0 p1=some res):c_ 121 [v0,v1] w<|aR E V res:=by
 unfold kD at o;refine enter Tryz.func121 zr zr ?_;have j:=(j.dup (i0+0) h0).dup (i1+1) h1;refine w_<|Tm 1 v0 j zr λaa w j=>?_;refine Tm 1 v1 j zr λab w j=>?_;refine aP (vi 0)<|OF<|By zr iV<|S4 1 j zr dX cI<|By zr iV<|S4 0 j zr dX cI<|S5 p0.Y0 p1.Y0<|aP (vi<|wrap .i64<|p0.Y0 - p1.Y0)<|AI ?_;exact Tb<|oi o▸cC ⟨rfl,j.drop 4⟩
def wx(E:World)(V:List HP)(r:List Int)(U:Nat->Value)(w:World):Prop:=lZ bH 61 Tryz.f123 (ny E V r) .ret U w
theorem vM{p0:List Int}{res:List Int}(j:Holds E w (own 3 v0 p0::V))(o:iz N p0=some res):c_ 123 [v0] w<|ny E V res:=by
 unfold iz at o;refine enter Tryz.func123 zr zr<|w_<|aP n_<|BY<|w_<|mv v0<|T4 0 p0 j n8<|ic ((p0.length:Int)) 2<|AI<|dR o (λhc o=>?_) λhc o=>?_;refine w_<|mv v0<|aP v0<|AI<|Tp ?_;obtain rfl:=oi o;exact cC<|j.pk 1 [0];refine Ta<|w_<|aP (vi 1)<|AI<|q_ o λa2 hN o=>TD (λ(ab:Int)=>SH E V [(0,v0),(3,vi ab)] [own 3 v0 p0]) (λ(ab:Int)=>SH E V [(0,v0)] [own 3 v0 p0]) (wx E V) hN ?_ ?_ ?_ ?_;exact j.sp 1 [0];rintro ab fl _ w⟨O,rfl,j⟩o;refine S6<|w_<|mv (vi ab)<|mv v0<|T4 0 p0 j n8<|ic ab ((p0.length:Int))<|AI<|dR o (λhc o=>?_) λhc o=>?_;refine Ta<|TT<|S6<|T1 mixed ?_;have j:=j.drew;refine T0<|mv v0<|AT<|mv (vi ab)<|AT<|q_ o λau al o=>Tk 0 j zr zr fG al<|AT<|TP (f:=(λx=>x)) 0 j (jl 0 j al 0) (bD al).2.1 Fd.self cI<|AT<|mv v0<|AT<|mv (vi ab)<|AT<|S5 ab 1 ?_;refine AT<|q_ o λav an o=>Tk 0 j zr zr fG an<|AT<|TP (f:=(λx=>x)) 0 j (jl 0 j an 0) (bD an).2.1 Fd.self cI<|AT<|ic au av<|TS<|aG<|dR o (λhc o=>?_) λhc o=>?_;refine w_<|mv v0<|mv (vi ab)<|q_ o λa3 af o=>UT 0 ab zr j zr zr fG af<|aP (vw v0 (Int.toNat ab) 1)<|BY<|w_<|aP (vi 1)<|AI<|q_ o λa4 hN o=>TD (λ(aa:List Int×Int×Int)=>SH E V [(0,v0),(3,vi aa.2.1),(4,vw v0 (Int.toNat ab) 1),(5,vi aa.2.2)] [own 3 v0 aa.1]) (λ(aa:List Int×Int×Int)=>SH E V [(0,v0),(3,vi aa.2.1)] [own 3 v0 aa.1]) (λ(r:Empty)_ _=>r.elim) hN ?_ ?_ ?_ ?_;exact j.sp 1 [0];rintro aa fl _ w⟨O,rfl,j⟩o;refine S6<|w_<|mv (vi aa.2.2)<|mv (vw v0 (Int.toNat ab) 1)<|Vp (i:=0) (l:=aa.1) zt zr j zr zr n8<|ic aa.2.2 ((((aa.1.length - Int.toNat ab):Nat):Int))<|AI<|dR o (λhc o=>?_) λhc o=>?_;refine Ta<|TT<|S6<|T1 mixed ?_;have j:=j.drew;refine T0<|mv (vw v0 (Int.toNat ab) 1)<|AT<|mv (vi aa.2.2)<|AT<|q_ o λaw ag o=>UU 0 ab zr j zr zr zr fG (Hs af) (kY ag).1 (kY ag).2<|AT<|TP (f:=(λx=>x)) 0 j (jl 0 j (kY ag).2 0) (bD (kY ag).2).2.1 Fd.self cI<|AT<|mv (vw v0 (Int.toNat ab) 1)<|AT<|mv (vi aa.2.2)<|AT<|S5 aa.2.2 1 ?_;refine AT<|q_ o λax ah o=>UU 0 ab zr j zr zr zr fG (Hs af) (kY ah).1 (kY ah).2<|AT<|TP (f:=(λx=>x)) 0 j (jl 0 j (kY ah).2 0) (bD (kY ah).2).2.1 Fd.self cI<|AT<|ic aw ax<|TS<|aG<|q_ o λai hj o=>Tg (λ(ai:List Int×Int)=>SH E V [(0,v0),(3,vi ai.2),(4,vw v0 (Int.toNat ab) 1),(5,vi aa.2.2)] [own 3 v0 ai.1]) ai ?_ ?_;refine dR hj (λhc hj=>?_) λhc hj=>?_;refine w_<|mv v0<|mv (vi aa.2.1)<|mv (vw v0 (Int.toNat ab) 1)<|mv (vi aa.2.2)<|q_ hj λay aj hj=>UU 0 ab zr j zr zr zr fG (Hs af) (kY aj).1 (kY aj).2<|TP (f:=(λx=>x)) 0 j (jl 0 j (kY aj).2 0) (bD (kY aj).2).2.1 Fd.self cI<|q_ hj λa5 ao hj=>Tk 0 j zr zr fG ao ?_;have j:=j.sc Int ay;refine T5 (f:=(λ_ y=>y)) 1 0 j (jl 1 j ao 0) (bD ao).2.1 zr Fs.self cI λw j=>?_;refine AI<|IT<|mv (vi aa.2.1)<|S5 aa.2.1 1<|aP (vi<|wrap .i64<|aa.2.1+1)<|AS ?_;exact oi hj▸⟨rfl,j.sp 2 [1]⟩;exact Tw<|oi hj▸⟨rfl,j.sp 1 [0]⟩;rintro _ w⟨O,rfl,j⟩;refine bR<|aG<|IT<|mv (vi aa.2.2)<|S5 aa.2.2 1<|aP (vi<|wrap .i64<|aa.2.2+1)<|AS ?_;exact oi o▸⟨rfl,j.sp 1 [0]⟩;exact Te<|oi o▸⟨rfl,j.sp 1 [0]⟩;intro r _ _ _ _;exact r.elim;rintro aa _ w rfl⟨O,rfl,j⟩;rw[Fo.dN]at o;refine aG<|w_<|mv v0<|mv (vi aa.2.1)<|q_ o λa6 aq o=>UT 0 aa.2.1 zr j zr zr fG aq<|U8 0 zt j zr zr wm OI (Kk aq) λw j=>OF<|mv v0<|mv (vi aa.2.1)<|q_ o λLX az o=>US 0 zr j zr zr fG (.inr ⟨rfl,zr⟩) (.inl zr) az λa0 j=>aP a0<|AI<|TL<|bQ ?_;obtain rfl:=oi o;exact⟨rfl,cC<|j.pk 1 [0]⟩;refine Tw<|bR<|aG<|IT<|mv (vi ab)<|S5 ab 1<|aP (vi<|wrap .i64<|ab+1)<|AS ?_;exact oi o▸⟨rfl,j.sp 1 [0]⟩;exact Te<|oi o▸⟨rfl,j.sp 1 [0]⟩;intro r U w e hK;subst e;exact bQ<|oi o▸hK;rintro ab _ w rfl⟨O,rfl,j⟩;rw[Fo.dN]at o;refine aG<|w_<|mv v0<|aP v0<|AI<|Tb ?_;obtain rfl:=oi o;exact cC<|j.pk 1 [0]
theorem zx{p0:aI}{p1:List Int}{res:Bool}(j:Holds E w V)(h0:V[i0]? =some (rd v0 p0))(h1:V[i1]? =some (pt v1 p1))(h2:V[i2]? =some (pt v2 p2))(o:pA N p0 p1 p2=some res):c_ 125 [v0,v1,v2] w<|aX E V res:=by
 unfold pA at o;refine enter Tryz.func125 zr zr ?_;have j:=((j.dup (i0+0) h0).B2 (i:=i1+1) h1).B2 (i:=i2+2) h2;refine w_<|Tm 2 v0 j zr λad w j=>?_;refine aP (vb false)<|BY<|T1 mixed ?_;have j:=j.drew;refine T0<|By zr lT<|AT<|S4 0 j zr gz cI<|AT<|Tf 2 p1 j iC λae j=>AT<|Tq p2 2 j cI<|AT<|q_ o λaa ab o=>S7 0 j fG ab λaf j=>AT<|Tq aa 0 j cI<|AT<|ic p0.Y1 aa<|AT<|aP (vb<|decide<|p0.Y1<=aa)<|TS<|aG ?_;exact Tb<|oi o▸cC ⟨rfl,j.drop 6⟩
def ud(E:World)(V:List HP)(r:Int)(U:Nat->Value)(w:World):Prop:=lZ bH 19 Tryz.f140 (aR E V r) .ret U w
theorem tH{p0:List aI}{p1:aI->Option Bool}(j:Holds E w V)(h0:V[i0]? =some (rd v0 p0))(h1:Lz bH E V v1 p1 (λ(r:Bool)=>Value.bool r))(o:mM N p0 p1=some res):c_ 140 [v0,v1] w<|aR E V res:=by
 unfold mM at o;refine enter Tryz.func140 zr zr ?_;have j:=j.dup (i0+0) h0;refine w_<|aP (vi 0)<|BY<|w_<|mv v0<|S8 0 p0 j ot<|mv (vi 0)<|AI<|q_ o λal hN o=>T9 (λ(aa:Nat)(ab:Unit)=>SH E V [(0,v0),(1,v1),(7,vi p0.length),(8,vi aa)] [rd v0 p0]) (λ(ab:Unit)=>SH E V [] [rd v0 p0]) (ud E V) hN ?_ ?_ ?_ ?_ ?_;exact j.sp 1 [0];rintro hm ab _ w⟨O,rfl,j⟩;exact w_<|ic ((p0.length:Int)) ((p0.length:Int))<|BY<|TJ qC<|Te<|⟨rfl,j.sp 1 [0]⟩;rintro hm aa ab fl _ w hk⟨O,rfl,j⟩o;refine w_<|ic ((aa:Int)) ((p0.length:Int))<|BY<|TI (qB hk)<|Ta<|Tn<|mv (vi aa)<|aP (vi aa)<|OF<|mv v1<|mv v0<|mv (vi aa) ?_;refine q_ o λag ah o=>S7 0 j j4 ah λao j=>Tf 0 ag j iX λaq j=>?_;refine q_ o λar ai o=>UJ 0 zr j zr h1 3 zr zr zr ai λw j=>AI<|dR o (λhc o=>?_) λhc o=>?_;exact w_<|mv (vi aa)<|aP (vi aa)<|AI<|TL<|bQ<|oi o▸⟨rfl,cC ⟨rfl,j.drop 3⟩⟩;exact Tw<|bR<|aG<|IT<|TF hk hm<|mv (vi ((aa+1:Nat):Int))<|AS<|oi o▸⟨rfl,j.sp 3 [2]⟩;intro r U w e hK;subst e;exact bQ<|oi o▸hK;rintro ab _ w rfl⟨O,rfl,j⟩;rw[Fo.dN]at o;exact aG<|w_<|aP (vi<|-1)<|AI<|Tb<|oi o▸cC ⟨rfl,j.drop 1⟩
def nz(E:World)(V:List HP)(v0:Value)(p0:List aI)(res:Int)(v:Value)(w:World):Prop:=v= vi res/\Holds E w ([own 75 v0 p0]++V)
def sC(E:World)(V:List HP)(v0:Value)(p0:List aI)(r:Int)(U:Nat->Value)(w:World):Prop:=lZ bH 19 Tryz.f140 (nz E V v0 p0 r) .ret U w
theorem rO{p0:List aI}{p1:aI->Option Bool}(o:Holds E w (own 75 v0 p0::V))(h1:Lz bH E V v1 p1 (λ(r:Bool)=>Value.bool r))(j:lz N p0 p1=some res):c_ 140 [v0,v1] w<|nz E V v0 p0 res:=by
 unfold lz at j;refine enter Tryz.func140 zr zr<|w_<|aP (vi 0)<|BY<|w_<|mv v0<|T4 0 p0 o ot<|mv (vi 0)<|AI<|q_ j λak hN j=>T9 (λ(aa:Nat)(ab:Unit)=>SH E V [(0,v0),(1,v1),(7,vi p0.length),(8,vi aa)] [own 75 v0 p0]) (λ(ab:Unit)=>SH E V [(0,v0)] [own 75 v0 p0]) (sC E V v0 p0) hN ?_ ?_ ?_ ?_ ?_;exact o.sp 1 [0];rintro hm ab _ w⟨O,rfl,o⟩;exact w_<|ic ((p0.length:Int)) ((p0.length:Int))<|BY<|TJ qC<|Te<|⟨rfl,o.sp 1 [0]⟩;rintro hm aa ab fl _ w hk⟨O,rfl,o⟩j;refine w_<|ic ((aa:Int)) ((p0.length:Int))<|BY<|TI (qB hk)<|Ta<|Tn<|mv (vi aa)<|aP (vi aa)<|OF<|mv v1<|mv v0<|mv (vi aa) ?_;refine q_ j λan ad j=>Tk 0 o zr zr j4 ad<|Ue (f:=(λx=>x)) 0 o (jl 0 o ad 0) (bD ad).2.1 Fd.self iX λao o=>?_;refine q_ j λaq ah j=>UJ 0 zr o zr h1 2 zr zr zr ah λw o=>AI<|dR j (λhc j=>?_) λhc j=>?_;exact w_<|mv (vi aa)<|aP (vi aa)<|AI<|TL<|bQ<|oi j▸⟨rfl,cC ⟨rfl,o.pk 2 [1]⟩⟩;exact Tw<|bR<|aG<|IT<|TF hk hm<|mv (vi ((aa+1:Nat):Int))<|AS<|oi j▸⟨rfl,o.sp 2 [1]⟩;intro r U w e hK;subst e;exact bQ<|oi j▸hK;rintro ab _ w rfl⟨O,rfl,o⟩;rw[Fo.dN]at j;exact aG<|w_<|aP (vi<|-1)<|AI<|Tb<|oi j▸cC ⟨rfl,o.pk 1 [0]⟩
theorem sW{p0:List aI}{p1:aI->Option Bool}{res:List aI}(j:Holds E w (own 75 v0 p0::V))(h1:Lz bH E V v1 p1 (λ(r:Bool)=>Value.bool r))(o:i5 N p0 p1=some res):c_ 124 [v0,v1] w<|gk E V res:=by
 unfold i5 at o;refine enter Tryz.func124 zr zr<|w_<|aP n_<|OF<|mv v0<|mv v1 ?_;have j:=j.pull 0;refine q_ o λad aj o=>IN zt zr MQ [v0,v1] zr<|aF (rO N j (h1.lift 1 zr) aj) ?_;rintro _ w⟨rfl,j⟩;refine aP (vi ad)<|BY<|w_<|mv (vi ad)<|ic ad ((-1))<|AI<|dR o (λhc o=>?_) λhc o=>?_;refine w_<|mv v0<|aP v0<|AI<|Tp ?_;obtain rfl:=oi o;exact cC<|j.pk 2 [0];refine Ta<|w_<|mv (vi ad)<|S5 ad 1<|aP (vi<|wrap .i64<|ad+1)<|AI<|q_ o λar hN o=>TD (λ(aa:List aI×Int×Int)=>SH E V [(0,v0),(1,v1),(5,vi aa.2.1),(6,vi aa.2.2)] [own 75 v0 aa.1]) (λ(aa:List aI×Int×Int)=>SH E V [(0,v0),(5,vi aa.2.1)] [own 75 v0 aa.1]) (λ(r:Empty)_ _=>r.elim) hN ?_ ?_ ?_ ?_;exact j.sp 2 [0];rintro aa fl _ w⟨O,rfl,j⟩o;refine S6<|w_<|mv (vi aa.2.2)<|mv v0<|T4 0 aa.1 j ot<|ic aa.2.2 ((aa.1.length:Int))<|AI<|dR o (λhc o=>?_) λhc o=>?_;refine Ta<|Tn<|mv v0<|mv (vi aa.2.2)<|q_ o λav ag o=>Tk 0 j zr zr j4 ag<|Ue (f:=(λx=>x)) 0 j (jl 0 j ag 0) (bD ag).2.1 Fd.self iX λaw j=>?_;refine TC j pQ.z λax w j=>?_;refine Tx 0 j 1 zr iX λw j=>?_;refine OF<|mv v1<|S3 (f:=(λx=>x)) 0 j zr Fd.self iX λay j=>?_;refine q_ o λal an o=>UJ 0 zr j zr h1 4 zr zr zr an λw j=>TH al<|AI<|q_ o λaf hj o=>Tg (λ(af:List aI×Int)=>SH E V [(0,v0),(1,v1),(5,vi af.2),(6,vi aa.2.2)] [own 75 v0 af.1]) af ?_ ?_;refine dR hj (λhc hj=>?_) λhc hj=>?_;refine w_<|mv v0<|mv (vi aa.2.1)<|S3 (f:=(λx=>x)) 1 j zr Fd.self iX λaz j=>?_;refine q_ hj λa0 ah hj=>Tk 4 j zr zr j4 ah<|T5 (f:=(λ_ y=>y)) 4 0 j (jl 4 j ah 0) (bD ah).2.1 zr Fs.self iX λw j=>?_;refine AI<|IT<|mv (vi aa.2.1)<|S5 aa.2.1 1<|aP (vi<|wrap .i64<|aa.2.1+1)<|AS ?_;exact oi hj▸⟨rfl,j.sp 5 [4]⟩;exact Tw<|oi hj▸⟨rfl,j.sp 4 [3]⟩;rintro _ w⟨O,rfl,j⟩;refine bR<|aG<|IT<|mv (vi aa.2.2)<|S5 aa.2.2 1<|aP (vi<|wrap .i64<|aa.2.2+1)<|AS ?_;exact oi o▸⟨rfl,j.sp 1 [0]⟩;exact Te<|oi o▸⟨rfl,j.sp 1 [0]⟩;intro r _ _ _ _;exact r.elim;rintro aa _ w rfl⟨O,rfl,j⟩;rw[Fo.dN]at o;refine aG<|w_<|mv v0<|mv (vi aa.2.1)<|q_ o λa1 ai o=>UT 0 aa.2.1 zr j zr zr j4 ai<|U8 0 zt j zr zr Cj Rm (Kk ai) λw j=>OF<|mv v0<|mv (vi aa.2.1)<|q_ o λa2 ao o=>US 0 zr j zr zr j4 (.inr ⟨rfl,zr⟩) (.inl zr) ao λaq j=>aP aq<|AI<|Tb ?_;obtain rfl:=oi o;exact cC<|j.pk 1 [0]
theorem vN{p0 p1:aI}(j:Holds E w V)(h0:V[i0]? =some (rd v0 p0))(h1:V[i1]? =some (rd v1 p1))(o:iA N p0 p1=some res):c_ 162 [v0,v1] w<|aR E V res:=by
 unfold iA at o;refine enter Tryz.func162 zr zr ?_;have j:=(j.dup (i0+0) h0).dup (i1+1) h1;refine w_<|Tm 1 v0 j zr λaa w j=>?_;refine Tm 1 v1 j zr λab w j=>?_;refine aP (vi 0)<|OF<|By zr jc<|S4 1 j zr eF cI<|By zr jc<|S4 0 j zr eF cI<|S5 p0.X0 p1.X0<|aP (vi<|wrap .i64<|p0.X0 - p1.X0)<|AI ?_;exact Tb<|oi o▸cC ⟨rfl,j.drop 4⟩
def zy(E:World)(V:List HP)(v0:Value)(res:List Int×List aI)(v:Value)(w:World):Prop:=Holds E w<|[own 3 v res.1,own 75 v0 res.2]++V
theorem yA{p0:List aI}{res:List Int×List aI}(j:Holds E w (own 75 v0 p0::V))(hb:jY N p0=some res):c_ 127 [v0] w<|zy E V v0 res:=by
 unfold jY at hb;refine enter Tryz.func127 zr zr<|w_<|aP n_<|OF<|mv v0 ?_;obtain⟨af,a1,hb⟩:=bd hb;have j:=j.pull 0;refine IN zt zr MP [v0,(.func (.func 162) #[] #[])] zr<|aF (IA Tryz.lay120 aI zr iX.LI iX.sz O8 (λj hi o hr=>vN N j hi o hr) j a1) ?_;rintro _ w⟨rfl,j⟩;refine OF<|aP n_<|BY<|w_<|mv v0<|T4 0 af j ot<|mv (vi 0)<|AI ?_;have j:=j.dB Int 3;refine q_ hb λaa hN hb=>TX (λ(ah:Nat)(aa:List Int)U w=>∃av:Value,SH E V [(0,v0),(3,av),(9,v0),(10,vi af.length),(11,vi ah)] [own 75 v0 af,own 3 av aa] U w) (λ(aa:List Int)U w=>∃ai:Value,SH E V [(0,v0),(3,ai)] [own 75 v0 af,own 3 ai aa] U w) hN ?_ ?_ ?_ ?_;exact⟨n_,j.sp 3 [1,0]⟩;rintro hm aa _ w⟨a3,O,rfl,j⟩;exact w_<|ic ((af.length:Int)) ((af.length:Int))<|BY<|TJ qC<|Te<|⟨rfl,a3,j.sp 2 [0,1]⟩;rintro hm ah aa s' _ w hk⟨ag,O,rfl,j⟩hb;refine w_<|ic ((ah:Int)) ((af.length:Int))<|BY<|TI (qB hk)<|Ta<|Tn<|q_ hb λae ak hb=>Tk 0 j zr zr j4 ak<|Ue (f:=(λx=>x)) 0 j (jl 0 j ak 0) (bD ak).2.1 Fd.self iX λa6 j=>?_;refine TC j pQ.z λay w j=>?_;refine Tx 0 j 1 zr iX λw j=>?_;refine OF<|mv ag<|T4 3 aa j n8<|S5 (aa.length:Int) 1<|aP (vi<|wrap .i64<|(aa.length:Int) - 1)<|BY<|q_ hb λal o hb=>Tg (λ(al:Bool)=>SH E V [(0,v0),(3,ag),(5,vp ay 0),(6,vi<|wrap .i64<|(aa.length:Int) - 1),(9,v0),(10,vi af.length),(11,vi ah),(28,vb al)] [own 75 v0 af,own 3 ag aa,bx 75 ay ae]) al ?_ ?_;refine T1 mixed ?_;have j:=j.drew;refine T0<|mv (vi<|wrap .i64<|(aa.length:Int) - 1)<|AT<|ic (wrap .i64<|(aa.length:Int) - 1) 0<|AT<|mv (vb<|decide<|wrap .i64 ((aa.length:Int) - 1)>=0)<|fI o (λab o=>?_) λab o=>?_;refine AT<|By (hg:=cg ab) zr jc<|AT<|S4 (hg:=cg ab) 0 j zr eF cI<|AT<|Tc ag (cg ab)<|AT<|Tc (vi<|wrap .i64<|(aa.length:Int) - 1) (cg ab)<|AT ?_;refine q_ o λaz an o=>Tk (hg:=cg ab) 3 j zr zr fG an<|AT<|TP (hg:=cg ab) (f:=(λx=>x)) 3 j (jl 3 j an 0) (bD an).2.1 Fd.self cI<|AT<|TR ae.X0 az (cg ab)<|AT<|fH ab (vb<|decide<|ae.X0<=az)<|TS ?_;exact oi o▸⟨rfl,j.sp 4 [2,3,0]⟩;refine AT<|bO ab<|AT<|bO ab<|AT<|bO ab<|AT<|bO ab<|AT<|bO ab<|AT<|bO ab<|AT<|bO ab<|AT<|fH ab (vb false)<|TS ?_;exact oi o▸⟨rfl,j.sp 4 [2,3,0]⟩;rintro _ w⟨O,rfl,j⟩;refine aG<|q_ hb λao o hb=>Tg (λ(ao:List Int)U w=>∃aj:Value,SH E V [(0,v0),(3,aj),(9,v0),(10,vi af.length),(11,vi ah)] [own 75 v0 af,own 3 aj ao] U w) ao ?_ ?_;refine dR o (λhc o=>?_) λhc o=>?_;refine TU mixed [0,0,0,0,0,0,0,0,0,0,2] [0,1,2,3,4,5,6,7,8,9,10] ?_;have j:=j.drew;refine Th zr<|mv ag<|bJ zr<|mv (vi<|wrap .i64<|(aa.length:Int) - 1)<|bJ zr<|mv ag<|bJ zr<|mv (vi<|wrap .i64<|(aa.length:Int) - 1)<|bJ zr ?_;refine q_ o λaq ar o=>Tk 1 j zr zr fG ar<|bJ zr<|TP (f:=(λx=>x)) 1 j (jl 1 j ar 0) (bD ar).2.1 Fd.self cI<|bJ zr<|By zr j5<|bJ zr<|S4 2 j zr fF cI<|bJ zr<|Uo aq ae.X1<|bJ zr ?_;refine q_ o λa9 au o=>Tk 1 j zr zr fG au<|qG zr ?_;have j:=j.sc Int (if aq<ae.X1 then ae.X1 else aq);refine T5 (f:=(λ_ y=>y)) 2 0 j (jl 2 j au 0) (bD au).2.1 zr Fs.self cI λw j=>?_;exact TB zt<|TA<|oi o▸⟨rfl,ag,j.sp 4 [1,2]⟩;refine IT<|mv ag<|By zr jc<|S4 2 j zr eF cI<|By zr j5<|S4 2 j zr fF cI ?_;have j:=(j.sc Int ae.X0).sc Int ae.X1;refine TN ([ae.X0,ae.X1]:List Int) j [vi ae.X0,vi ae.X1] fG Jo (λM hs g=>⟨(g.sat 1 _ zr).1,⟨(g.sat 0 _ zr).1,zt⟩⟩) λa7 w j=>?_;have j:=j.freeze 0;refine q_ o λa8 a5 o=>TQ 4 0 j wm a5 λa0 w j=>?_;exact aP a0<|AS<|oi o▸⟨rfl,a0,j.sp 6 [3,4]⟩;rintro _ w⟨aj,O,rfl,j⟩;exact bR<|aG<|IT<|TF hk hm<|mv (vi ((ah+1:Nat):Int))<|AS<|oi hb▸⟨rfl,aj,j.sp 2 [0,1]⟩;rintro _ w⟨ai,O,rfl,j⟩;refine aG<|w_<|mv ai<|aP ai<|AI<|Tb ?_;obtain rfl:=oi hb;exact cC<|j.pk 2 [1,0]
def yB(E:World)(V:List HP)(r:Bool)(U:Nat->Value)(w:World):Prop:=lZ bH 26 Tryz.f161 (aX E V r) .ret U w
theorem xP{p0:List Int}{p1:List Int}{res:Bool}(j:Holds E w V)(h0:V[i0]? =some (rd v0 p0))(h1:V[i1]? =some (rd v1 p1))(o:nO N p0 p1=some res):c_ 161 [v0,v1] w<|aX E V res:=by
 unfold nO at o;refine enter Tryz.func161 zr zr ?_;have j:=(j.dup (i0+0) h0).dup (i1+1) h1;refine w_<|aP (vb false)<|BY<|w_<|mv v0<|S8 1 p0 j n8<|mv v1<|S8 0 p1 j n8<|ic ((p0.length:Int)) ((p1.length:Int))<|AI<|dR o (λhc o=>?_) λhc o=>?_;exact w_<|aP (vb false)<|AI<|Tp<|oi o▸cC ⟨rfl,j.drop 2⟩;refine Ta<|w_<|mv v0<|S8 1 p0 j n8<|mv (vi 0)<|AI<|q_ o λan hN o=>T9 (λ(aa:Nat)(ab:Unit)=>SH E V [(0,v0),(1,v1),(12,vi p0.length),(13,vi aa)] [rd v0 p0,rd v1 p1]) (λ(ab:Unit)=>SH E V [] [rd v0 p0,rd v1 p1]) (yB E V) hN ?_ ?_ ?_ ?_ ?_;exact j.sp 2 [1,0];rintro hm ab _ w⟨O,rfl,j⟩;exact w_<|ic ((p0.length:Int)) ((p0.length:Int))<|BY<|TJ qC<|Te<|⟨rfl,j.sp 2 [0,1]⟩;rintro hm aa ab fl _ w hk⟨O,rfl,j⟩o;refine w_<|ic ((aa:Int)) ((p0.length:Int))<|BY<|TI (qB hk)<|Ta<|Tn<|mv (vi aa)<|aP (vi aa)<|BY<|T1 mixed ?_;have j:=j.drew;refine T0<|mv v0<|AT<|mv (vi aa)<|AT<|q_ o λag aj o=>S7 0 j fG aj λaq j=>AT<|Tq ag 0 j cI<|AT<|mv v1<|AT<|mv (vi aa)<|AT ?_;refine q_ o λah ak o=>S7 2 j fG ak λar j=>AT<|Tq ah 0 j cI<|AT<|ic ag ah<|TS<|aG<|dR o (λhc o=>?_) λhc o=>?_;exact w_<|aP (vb false)<|AI<|TL<|bQ<|oi o▸⟨rfl,cC ⟨rfl,j.drop 4⟩⟩;exact Tw<|bR<|aG<|IT<|TF hk hm<|mv (vi ((aa+1:Nat):Int))<|AS<|oi o▸⟨rfl,j.sp 4 [2,3]⟩;intro r U w e hK;subst e;exact bQ<|oi o▸hK;rintro ab _ w rfl⟨O,rfl,j⟩;rw[Fo.dN]at o;exact aG<|w_<|aP (vb true)<|AI<|Tb<|oi o▸cC ⟨rfl,j.drop 2⟩
theorem tt{p0:List aA}{p1:aA}{res:List aA}(j:Holds E w (own 188 v0 p0::V))(h1:V[i1]? =some (rd v1 p1))(hb:jG N p0 p1=some res):c_ 126 [v0,v1] w<|nU E V res:=by
 unfold jG at hb;refine enter Tryz.func126 zr zr ?_;have j:=j.dup (i1+1) h1;refine w_<|Tm 0 v1 j zr λae w j=>?_;refine aP n_<|BY<|w_<|By zr mX<|S3 0 j zr eO iC λaw j=>S8 0 p1.Xs j n8<|ic ((p1.Xs.length:Int)) 0<|mv (vb<|(p1.Xs.length:Int)==0)<|IS true ((p1.Xs.length:Int)==0) (vp ae 1) zr zr zr (dF oM) ?_;refine IS true ((p1.Xs.length:Int)==0) (vi p1.Y1) rfl rfl rfl (bY 1 rfl j (by exact z_ (vp ae 1)) rfl f9 cI)<|IS true ((p1.Xs.length:Int)==0) (vp ae 0) rfl rfl rfl (dF rJ)<|IS true ((p1.Xs.length:Int)==0) (vi p1.Y0) rfl rfl rfl (bY 1 rfl j (by exact z_ (vp ae 0)) rfl iw cI)<|IS true ((p1.Xs.length:Int)==0) (vb<|decide<|p1.Y1<=p1.Y0) rfl rfl rfl (dE .leq .i64 p1.Y1 p1.Y0 rfl (by exact z_ (vi p1.Y1)) (by exact z_ (vi p1.Y0)) rfl)<|Tu ((p1.Xs.length:Int)==0) (vb<|((p1.Xs.length:Int)==0)||decide (p1.Y1<=p1.Y0)) (nb true)<|AI<|dR hb (λhc hb=>?_) λhc hb=>?_;refine w_<|mv v0<|aP v0<|AI<|Tp ?_;obtain rfl:=oi hb;exact cC<|j.pk 4 [3];refine Ta<|w_<|mv v0<|T4 3 p0 j rj<|S5 (p0.length:Int) 1<|aP (vi<|wrap .i64<|(p0.length:Int) - 1)<|BY<|q_ hb λaj hj hb=>Tg (λ(aj:Bool)=>SH E V [(0,v0),(3,vp ae 0),(5,vi<|wrap .i64<|(p0.length:Int) - 1),(42,vb aj)] [own 188 v0 p0,bx 188 ae p1]) aj ?_ ?_;refine TU mixed [0,0,0,0,0,0,0,0,0,0,0,0,0,0,0,0,0,0,0,0,2,0] [0,1,2,3,4,5,6,7,8,9,10,11,12,13,14,15,16,17,18,19,20,21] ?_;have j:=j.drew;refine Th zr<|mv (vi<|wrap .i64<|(p0.length:Int) - 1)<|bJ zr<|ic (wrap .i64<|(p0.length:Int) - 1) 0<|bJ zr<|mv (vb<|decide<|wrap .i64 ((p0.length:Int) - 1)>=0)<|Tj<|fI hj (λo hj=>?_) λo hj=>?_;refine Th zr<|Tc v0 (cg o)<|bJ zr<|Tc (vi<|wrap .i64<|(p0.length:Int) - 1) (cg o)<|bJ zr<|q_ hj λak af hj=>Tk (hg:=cg o) 3 j zr zr mq af<|bJ zr<|Ug (α:=aA) (cg o) (jl 3 j af 0) oM<|bJ zr<|TP (hg:=cg o) 3 j (jl 3 j af 1) (bD af).2.1 f9 cI<|bJ zr<|By (hg:=cg o) zr rJ<|bJ zr<|S4 (hg:=cg o) 1 j zr iw cI ?_;refine bJ zr<|TR ak.Y1 p1.Y0 (cg o)<|bJ zr<|fH o (vb<|ak.Y1==p1.Y0)<|bJ zr<|mv (vb<|ak.Y1==p1.Y0)<|Tj<|fI hj (λaa hj=>?_) λaa hj=>?_;refine Th zr<|Tc v0 (cg aa)<|bJ zr<|Tc (vi<|wrap .i64<|(p0.length:Int) - 1) (cg aa)<|bJ zr<|q_ hj λax ag hj=>Tk (hg:=cg aa) 3 j zr zr mq ag<|bJ zr<|Ug (α:=aA) (cg aa) (jl 3 j ag 0) mX<|bJ zr<|Ue (hg:=cg aa) 3 j (jl 3 j ag 2) (bD ag).2.1 eO iC λal j=>?_;refine bJ zr<|By (hg:=cg aa) zr mX<|bJ zr<|S3 (hg:=cg aa) 2 j zr eO iC λan j=>qG zr<|q_ hj λao aq hj=>IN (cg aa) zr Pa [al,an] zr<|aF (xP N (i0:=1) (i1:=0) j zr zr aq) ?_;rintro _ w⟨rfl,j⟩;exact uW zr<|fH aa (vb ao)<|Tj<|TA<|oi hj▸⟨rfl,j.sp 6 [5,3]⟩;refine Th zr<|bO aa<|bJ zr<|bO aa<|bJ zr<|bO aa<|bJ zr<|bO aa<|bJ zr<|bO aa<|bJ zr<|bO aa<|bJ zr<|bO aa<|qG zr<|bO aa<|uW zr<|fH aa (vb false) ?_;exact Tj<|TA<|oi hj▸⟨rfl,j.sp 4 [3,1]⟩;refine Th zr<|bO o<|bJ zr<|bO o<|bJ zr<|bO o<|bJ zr<|bO o<|bJ zr<|bO o<|bJ zr<|bO o<|bJ zr<|bO o<|bJ zr<|bO o<|bJ zr<|fH o (vb false) ?_;refine bJ zr<|mv (vb false)<|bJ zr<|l9<|bJ zr<|l9<|bJ zr<|l9<|bJ zr<|l9<|bJ zr<|l9<|bJ zr<|l9<|bJ zr<|l9<|qG zr<|l9 ?_;exact uW zr<|Tu false (vb false) zr<|Tj<|TA<|oi hj▸⟨rfl,j.sp 4 [3,1]⟩;rintro _ w⟨O,rfl,j⟩;refine aG<|dR hb (λhc hb=>?_) λhc hb=>?_;refine w_<|mv v0<|mv (vi<|wrap .i64<|(p0.length:Int) - 1)<|By zr oM<|S4 1 j zr f9 cI<|q_ hb λa0 ah hb=>Tk 0 j zr zr mq ah<|Ug (α:=aA) zt (jl 0 j ah 0) oM ?_;have j:=j.sc Int p1.Y1;refine T5 1 0 j (jl 1 j ah 1) (bD ah).2.1 zr qU cI λw j=>?_;refine OF<|mv v0<|aP v0<|AI<|Tp ?_;obtain rfl:=oi hb;exact cC<|j.pk 3 [1];refine TV<|mv v0<|S3 (f:=(λx=>x)) 1 j zr Fd.self zn λar j=>TN ([p1]:List aA) j [ar] mq Gd (λM hs g=>⟨(g.sat 0 _ zr).1,zt⟩) λay w j=>?_;have j:=j.freeze 0;refine q_ hb λaz au hb=>TQ 2 0 j Pb au λav w j=>?_;refine aP av<|AI<|Tb ?_;obtain rfl:=oi hb;exact cC<|j.pk 4 [2]
theorem nA{p0:List aI}{res:List aA}(j:Holds E w V)(h0:V[i0]? =some (rd v0 p0))(o:iF N p0=some res):c_ 73 [v0] w<|nU E V res:=by
 unfold iF at o;refine enter Tryz.func73 zr zr ?_;have j:=j.dup (i0+0) h0;refine w_<|aP n_<|OF<|mv v0<|q_ o λcd bm o=>IN zt zr O1 [v0] zr<|aF (wv N (i0:=0) j zr bm) ?_;rintro ad w j;refine aP ad<|OF<|mv ad ?_;obtain⟨ag,bn,o⟩:=bd o;have j:=j.pull 0;refine IN zt zr MP [ad,(.func (.func 121) #[] #[])] zr<|aF (IA Tryz.lay120 aI zr iX.LI iX.sz O2 (λj hi hj hr=>zw N j hi hj hr) j bn) ?_;rintro _ w⟨rfl,j⟩;refine OF<|Uc j O3 λaf w j=>?_;refine BY<|w_<|mv ad<|T4 1 ag j ot<|mv (vi 0)<|AI<|q_ o λan hN o=>TX (λ(av:Nat)(an:List Int)U w=>∃a5:Value,SH E V [(0,ad),(3,vp af 0),(14,ad),(15,vi ag.length),(16,vi av)] [own 75 ad ag,bc 91 af [a5],own 3 a5 an] U w) (λ(an:List Int)U w=>∃al:Value,SH E V [(0,ad),(3,vp af 0)] [own 75 ad ag,bc 91 af [al],own 3 al an] U w) hN ?_ ?_ ?_ ?_;have j:=j.dB Int 3;exact⟨n_,j.sp 5 [2,1,0]⟩;rintro hm an _ w⟨bo,O,rfl,j⟩;exact w_<|ic ((ag.length:Int)) ((ag.length:Int))<|BY<|TJ qC<|Te<|⟨rfl,bo,j.sp 3 [0,1,2]⟩;rintro hm av an s' _ w hk⟨bp,O,rfl,j⟩o;refine w_<|ic ((av:Int)) ((ag.length:Int))<|BY<|TI (qB hk)<|Ta<|Tn<|q_ o λao a0 o=>Tk 0 j zr zr j4 a0<|Ue (f:=(λx=>x)) 0 j (jl 0 j a0 0) (bD a0).2.1 Fd.self iX λcf j=>?_;refine TC j pQ.z λch w j=>?_;refine Tx 0 j 1 zr iX λw j=>?_;refine AI<|IT<|Ts 3 bp j iC<|By zr iV<|S4 0 j zr dX cI<|By zr lT<|S4 0 j zr gz cI ?_;have j:=(j.sc Int ao.Y0).sc Int ao.Y1;refine TN ([ao.Y0,ao.Y1]:List Int) j [vi ao.Y0,vi ao.Y1] fG Jo (λM hs g=>⟨(g.sat 1 _ zr).1,⟨(g.sat 0 _ zr).1,zt⟩⟩) λcj w j=>?_;have j:=j.freeze 0;refine q_ o λck bq o=>TQ 7 0 j wm bq λa8 w j=>?_;refine Uh 6 a8 j zr zr (lf 7 j) iC λw j=>?_;exact AS<|bR<|aG<|IT<|TF hk hm<|mv (vi ((av+1:Nat):Int))<|AS<|oi o▸⟨rfl,a8,j.sp 8 [5,6,7]⟩;rintro _ w⟨al,O,rfl,j⟩;refine aG<|w_<|Ts 1 al j iC ?_;obtain⟨cl,br,o⟩:=bd o;have j:=j.pull 2;refine IN zt zr O4 [al] zr<|aF (KW Tryz.lay122 j br) ?_;rintro _ w⟨rfl,j⟩;refine OF<|Ts 2 al j iC ?_;have j:=j.pull 0;refine q_ o λah bt o=>IN zt zr O5 [al] zr<|aF (vM N j bt) ?_;rintro bu w j;refine Uh 3 bu j zr zr (lf 0 j) iC λw j=>?_;refine OF<|aP n_<|OF<|aP n_<|OF<|aP (vi 0)<|BY<|w_<|TC j Jo.z λbw w j=>?_;have j:=j.sc Int 0;refine Tx 1 j 0 zr cI λw j=>?_;refine AI ?_;have j:=((((j.freeze 2).mm (i:=5) (x:=ah) rfl<|λM hs g=>v8 (g.sat 2 _ rfl).1).iE (i:=5) rfl).dB aA 188).dB aI 75;refine q_ o λcm hN o=>TD (λ(aa:List aA×List aI×Int×Int)U w=>∃(a9 ba:Value)(bb:Nat),SH E V [(0,ad),(3,vp af 0),(6,a9),(7,ba),(8,vi aa.2.2.1),(9,vp bb 0)] [own 75 ad ag,pt (vp af 0) ah,own 188 a9 aa.1,own 75 ba aa.2.1,bx 3 bb aa.2.2.2] U w) (λ(aa:List aA×List aI×Int×Int)U w=>∃au:Value,SH E V [(6,au)] [own 75 ad ag,pt (vp af 0) ah,own 188 au aa.1] U w) (λ(r:Empty)_ _=>r.elim) hN ?_ ?_ ?_ ?_;exact⟨n_,n_,bw,j.sp 9 [6,7,1,0,3]⟩;rintro aa fl _ w⟨aj,bf,ak,O,rfl,j⟩o;refine S6<|w_<|S4 (f:=(λx=>x)) 4 j zr Fd.self cI<|S5 aa.2.2.2 1<|Tf 1 ah j iC λcn j=>S8 0 ah j n8<|ic (wrap .i64<|aa.2.2.2+1) ((ah.length:Int))<|AI<|dR o (λhc o=>?_) λhc o=>?_;refine Ta<|Tn<|mv bf ?_;have j:=j.iE (i:=5) rfl;refine Uw [vp af 0,vp ak 0] ?_;have j:=j.pull 4;refine q_ o λcp b0 o=>IN trivial rfl O7 [bf,(.func (.func 125) #[] #[vp af 0,vp ak 0])] rfl<|aF (sW N j ⟨125,[vp af 0,vp ak 0],rfl,O6,λw Γl v y0 r i j hi hr=>by exact aF (zx N (i0:=i) (i1:=Γl.length+2) (i2:=Γl.length+5) j hi (Eo rfl) (Eo rfl) hr) λ_ _ h=>h⟩ b0) ?_;rintro bg w j;refine aP bg<|BY<|q_ o λcq hN o=>TD (λ(ae:List aI×Int)U w=>∃bh:Value,SH E V [(0,ad),(3,vp af 0),(6,aj),(7,bh),(8,vi ae.2),(9,vp ak 0)] [own 75 ad ag,pt (vp af 0) ah,own 188 aj aa.1,pt (vp ak 0) aa.2.2.2,own 75 bh ae.1] U w) (λ(ae:List aI×Int)U w=>∃aq:Value,SH E V [(0,ad),(3,vp af 0),(6,aj),(7,aq),(8,vi ae.2),(9,vp ak 0)] [own 75 ad ag,pt (vp af 0) ah,own 188 aj aa.1,pt (vp ak 0) aa.2.2.2,own 75 aq ae.1] U w) (λ(r:Empty)_ _=>r.elim) hN ?_ ?_ ?_ ?_;exact⟨bg,j.sp 7 [2,3,4,6,0]⟩;rintro ae fl _ w⟨aw,O,rfl,j⟩o;refine S6<|S6<|q_ o λa2 hj o=>Tg (λ(a2:Bool)=>SH E V [(0,ad),(3,vp af 0),(6,aj),(7,aw),(8,vi ae.2),(9,vp ak 0),(57,vb a2)] [own 75 ad ag,pt (vp af 0) ah,own 188 aj aa.1,own 75 aw ae.1,pt (vp ak 0) aa.2.2.2]) a2 ?_ ?_;refine T1 mixed ?_;have j:=j.drew;refine T0<|mv (vi ae.2)<|AT<|mv ad<|AT<|T4 0 ag j ot<|AT<|ic ae.2 ((ag.length:Int))<|AT<|mv (vb<|decide<|ae.2<(ag.length:Int))<|fI hj (λab hj=>?_) λab hj=>?_;refine AT<|Tc ad (cg ab)<|AT<|Tc (vi ae.2) (cg ab)<|AT<|q_ hj λbj ax hj=>Tk (hg:=cg ab) 0 j zr zr j4 ax<|AT<|Ug (α:=aI) (cg ab) (jl 0 j ax 0) iV<|AT<|TP (hg:=cg ab) 0 j (jl 0 j ax 1) (bD ax).2.1 dX cI<|AT<|Tf (hg:=cg ab) 1 ah j iC λcr j=>?_;refine AT<|Tq (hg:=cg ab) aa.2.2.2 4 j cI<|AT<|q_ hj λa3 b1 hj=>S7 (hg:=cg ab) 0 j fG b1 λct j=>AT<|Tq (hg:=cg ab) a3 0 j cI<|AT<|TR bj.Y0 a3 (cg ab)<|AT<|fH ab (vb<|decide<|bj.Y0<=a3)<|TS ?_;exact oi hj▸⟨rfl,j.sp 7 [2,3,4,6,5]⟩;refine AT<|bO ab<|AT<|bO ab<|AT<|bO ab<|AT<|bO ab<|AT<|bO ab<|AT<|bO ab<|AT<|bO ab<|AT<|bO ab<|AT<|bO ab ?_;exact AT<|bO ab<|AT<|fH ab (vb false)<|TS<|oi hj▸⟨rfl,j.sp 5 [0,1,2,4,3]⟩;rintro _ w⟨O,rfl,j⟩;refine aG<|dR o (λhc o=>?_) λhc o=>?_;refine Ub<|TT<|IT<|mv aw<|mv ad<|mv (vi ae.2)<|q_ o λb2 a4 o=>Tk 0 j zr zr j4 a4<|Ue (f:=(λx=>x)) 0 j (jl 0 j a4 0) (bD a4).2.1 Fd.self iX λb3 j=>?_;refine TN ([b2]:List aI) j [b3] j4 pQ (λM hs g=>⟨(g.sat 0 _ zr).1,zt⟩) λcu w j=>?_;have j:=j.freeze 0;refine q_ o λcv b4 o=>TQ 5 0 j Cj b4 λbk w j=>?_;refine mv (vi ae.2)<|S5 ae.2 1<|aP bk<|aP (vi<|wrap .i64<|ae.2+1)<|AS<|bR ?_;exact oi o▸⟨rfl,bk,j.sp 7 [2,3,4,6,5]⟩;exact Te<|oi o▸⟨rfl,aw,j.sp 5 [0,1,2,4,3]⟩;intro r _ _ _ _;exact r.elim;rintro ae _ w rfl⟨aq,O,rfl,j⟩;rw[Fo.dN]at o;refine aG<|TU mixed [1,1,1,1,1,1,1,1,1,1,0,2,0,2,0] [0,1,2,3,4,5,6,7,8,9,10,11,12,13,14] ?_;have j:=j.drew;refine Tr aj zr (λw=>Tc aj zt Tl)<|Uf ah 1 zr j iC λcw a305 cx j=>Uk aa.2.2.2 5 zr j cI λa307 cy j=>?_;refine q_ o λay b5 o=>Ui 2 zr j fG b5 λcz j=>Uk ay 0 zr j cI λa311 c0 j=>Uf ah 6 zr j iC λc1 a314 c2 j=>Uk aa.2.2.2 10 zr j cI λa316 c3 j=>Tr (vi<|wrap .i64<|aa.2.2.2+1) zr (λw=>S5 aa.2.2.2 1 Tl)<|q_ o λaz b6 o=>Ui 2 zr j fG b6 λc4 j=>Uk az 0 zr j cI λa320 c5 j=>Th zr<|mv aq<|qG zr ?_;have j:=j.pull 14;refine q_ o λb7 b8 o=>IN zt zr O9 [aq] zr<|aF (yA N j b8) ?_;rintro b9 w j;refine TB (⟨⟨⟨⟨⟨⟨zt,j.gw 10⟩,j.gw 9⟩,j.gw 7⟩,j.gw 5⟩,j.gw 4⟩,j.gw 2⟩)<|Th zr ?_;have j:=((j.sc Int ay).sc Int az).freeze 2;refine TZ (⟨ay,az,b7.1⟩:aA) trivial rfl j [(0,vi ay),(1,vi az),(2,b9)] rfl MR rfl (λM hs g=>by have h:=zk M;exact cM.cons (f:=λ(x:aA)y=>{x with Y0:=y}) h vz (g.sat 1 _ rfl).1 λ_ h=>cM.cons (f:=λ(x:aA)y=>{x with Y1:=y}) h qU (g.sat 0 _ rfl).1 λ_ h=>cM.cons (f:=λ(x:aA)y=>{x with Xs:=y}) h vA (g.sat 2 _ rfl).1 λ_ h=>cM.nil h) λca j=>?_;refine qG zr ?_;have j:=j.pull 17;refine q_ o λc6 cb o=>IN zt zr MS [aj,ca] zr<|aF (tt N (i1:=0) j zr cb) ?_;rintro bl w j;refine TB (⟨⟨⟨⟨⟨⟨zt,j.gw 14⟩,j.gw 13⟩,j.gw 11⟩,j.gw 9⟩,j.gw 8⟩,j.gw 6⟩)<|Th zr<|aP bl<|Tj ?_;have j:=j.pl 21 [0,1,2,3,4,5,7,10,12,15,16,17,18,19,20];refine TA<|bR<|aG<|S6<|w_<|Tq aa.2.2.2 13 j cI<|AI<|IT<|TC j Jo.z λcc w j=>?_;have j:=j.sc Int aa.2.2.2;refine Tx 1 j 0 zr cI λw j=>?_;refine AI<|IT<|S4 (f:=(λx=>x)) 1 j zr Fd.self cI<|S5 aa.2.2.2 1 ?_;have j:=j.sc Int<|wrap .i64<|aa.2.2.2+1;refine Uj 2 j 0 zr cI λw j=>?_;exact AS<|oi o▸⟨rfl,bl,aq,cc,j.sp 18 [13,14,3,8,2]⟩;exact Te<|oi o▸⟨rfl,aj,j.sp 6 [1,2,3]⟩;intro r _ _ _ _;exact r.elim;rintro aa _ w rfl⟨au,O,rfl,j⟩;rw[Fo.dN]at o;refine aG<|w_<|mv au<|aP au<|AI<|Tb ?_;obtain rfl:=oi o;exact cC<|j.pk 3 [2]
theorem oX{p0:List aA}{res:List aI}(j:Holds E w V)(h0:V[i0]? =some (rd v0 p0))(o:jZ N p0=some res):c_ 92 [v0] w<|gk E V res:=by
 unfold jZ at o;refine enter Tryz.func92 zr zr ?_;have j:=j.dup (i0+0) h0;refine w_<|aP n_<|OF<|aP n_<|BY<|w_<|mv v0<|S8 0 p0 j rj<|mv (vi 0)<|AI ?_;refine q_ o λad hN o=>TX (λ(ae:Nat)(ad:List aI)U w=>∃an:Value,SH E V [(3,an),(7,v0),(8,vi p0.length),(9,vi ae)] [rd v0 p0,own 75 an ad] U w) (λ(ad:List aI)U w=>∃af:Value,SH E V [(3,af)] [rd v0 p0,own 75 af ad] U w) hN ?_ ?_ ?_ ?_;have j:=j.dB aI 75;exact⟨n_,j.sp 2 [1,0]⟩;rintro hm ad _ w⟨av,O,rfl,j⟩;exact w_<|ic ((p0.length:Int)) ((p0.length:Int))<|BY<|TJ qC<|Te<|⟨rfl,av,j.sp 2 [0,1]⟩;rintro hm ae ad s' _ w hk⟨aw,O,rfl,j⟩o;refine w_<|ic ((ae:Int)) ((p0.length:Int))<|BY<|TI (qB hk)<|Ta<|Tn<|q_ o λab ax o=>S7 0 j mq ax λa3 j=>Tf 0 ab j zn λa4 j=>TC j Gd.z λak w j=>?_;refine Tx 0 j 1 zr zn λw j=>?_;refine OF<|aP (vi 0)<|AI<|q_ o λa5 hN o=>TD (λ(aa:List aI×Int)U w=>∃ar:Value,SH E V [(3,ar),(5,vp ak 0),(6,vi aa.2),(7,v0),(8,vi p0.length),(9,vi ae)] [bx 188 ak ab,rd v0 p0,own 75 ar aa.1] U w) (λ(aa:List aI×Int)U w=>∃ai:Value,SH E V [(3,ai),(7,v0),(8,vi p0.length),(9,vi ae)] [bx 188 ak ab,rd v0 p0,own 75 ai aa.1] U w) (λ(r:Empty)_ _=>r.elim) hN ?_ ?_ ?_ ?_;exact⟨aw,j.sp 5 [0,3,4]⟩;rintro aa fl _ w⟨al,O,rfl,j⟩o;refine S6<|w_<|mv (vi aa.2)<|By zr mX<|S3 0 j zr eO iC λa7 j=>S8 0 ab.Xs j n8<|ic aa.2 ((ab.Xs.length:Int))<|AI<|dR o (λhc o=>?_) λhc o=>?_;refine Ta<|TT<|TU mixed [1,0,0,0,0,0,0,0,0,0,0,0,0,0,0,0,0,2,2,0] [0,1,2,3,4,5,6,7,8,9,10,11,12,13,14,15,16,17,18,19] ?_;have j:=j.drew;refine Tr al zr (λw=>Tc al zt Tl)<|Th zr<|By zr mX<|bJ zr<|S3 1 j zr eO iC λa8 j=>bJ zr<|mv (vi aa.2)<|bJ zr<|q_ o λag az o=>S7 0 j fG az λa9 j=>bJ zr<|Tq ag 0 j cI<|bJ zr<|By zr rJ<|bJ zr<|S4 3 j zr iw cI<|bJ zr<|By zr mX ?_;refine bJ zr<|S3 3 j zr eO iC λba j=>bJ zr<|mv (vi aa.2)<|bJ zr<|S5 aa.2 1<|bJ zr<|q_ o λah a0 o=>S7 0 j fG a0 λbb j=>bJ zr<|Tq ah 0 j cI<|bJ zr<|By zr oM<|bJ zr<|S4 5 j zr f9 cI<|bJ zr ?_;have j:=(((j.sc Int ag).sc Int ab.Y0).sc Int ah).sc Int ab.Y1;refine TZ (⟨ag,ab.Y0,ah,ab.Y1⟩:aI) trivial rfl j [(0,vi ag),(1,vi ab.Y0),(2,vi ah),(3,vi ab.Y1)] rfl Ge rfl (λM hs g=>by have h:=u4 M;exact cM.cons (f:=λ(x:aI)y=>{x with X0:=y}) h rY (g.sat 3 _ rfl).1 λ_ h=>cM.cons (f:=λ(x:aI)y=>{x with Y0:=y}) h tX (g.sat 2 _ rfl).1 λ_ h=>cM.cons (f:=λ(x:aI)y=>{x with X1:=y}) h qf (g.sat 1 _ rfl).1 λ_ h=>cM.cons (f:=λ(x:aI)y=>{x with Y1:=y}) h rZ (g.sat 0 _ rfl).1 λ_ h=>cM.nil h) λa1 j=>?_;refine qG zr<|TN ([(⟨ag,ab.Y0,ah,ab.Y1⟩:aI)]:List aI) j [a1] j4 pQ (λM hs g=>⟨(g.sat 0 _ zr).1,zt⟩) λbc w j=>LD zr ?_;have j:=j.freeze 0;refine q_ o λbf a2 o=>TQ 13 0 j Cj a2 λau w j=>?_;refine uW zr<|aP au<|Tj<|TA<|bR<|aG<|IT<|mv (vi aa.2)<|S5 aa.2 2<|aP (vi<|wrap .i64<|aa.2+2)<|AS ?_;exact oi o▸⟨rfl,au,j.sp 14 [11,12,13]⟩;exact Te<|oi o▸⟨rfl,al,j.sp 4 [1,2,3]⟩;intro r _ _ _ _;exact r.elim;rintro aa _ w rfl⟨ai,O,rfl,j⟩;rw[Fo.dN]at o;exact bR<|aG<|IT<|TF hk hm<|mv (vi ((ae+1:Nat):Int))<|AS<|oi o▸⟨rfl,ai,j.sp 3 [1,2]⟩;rintro _ w⟨af,O,rfl,j⟩;refine aG<|w_<|mv af<|aP af<|AI<|Tb ?_;obtain rfl:=oi o;exact cC<|j.pk 2 [1]
def xQ(E:World)(V:List HP)(r:Bool)(U:Nat->Value)(w:World):Prop:=lZ bH 26 Tryz.f91 (aX E V r) .ret U w
theorem wy{p0:List aI}{p1:List aI}{res:Bool}(j:Holds E w V)(h0:V[i0]? =some (rd v0 p0))(h1:V[i1]? =some (rd v1 p1))(o:lh N p0 p1=some res):c_ 91 [v0,v1] w<|aX E V res:=by
 unfold lh at o;refine enter Tryz.func91 zr zr ?_;have j:=(j.dup (i0+0) h0).dup (i1+1) h1;refine w_<|aP (vb false)<|BY<|w_<|mv v0<|S8 1 p0 j ot<|mv v1<|S8 0 p1 j ot<|ic ((p0.length:Int)) ((p1.length:Int))<|AI<|dR o (λhc o=>?_) λhc o=>?_;exact w_<|aP (vb false)<|AI<|Tp<|oi o▸cC ⟨rfl,j.drop 2⟩;refine Ta<|w_<|mv v0<|S8 1 p0 j ot<|mv (vi 0)<|AI<|q_ o λan hN o=>T9 (λ(aa:Nat)(ab:Unit)=>SH E V [(0,v0),(1,v1),(12,vi p0.length),(13,vi aa)] [rd v0 p0,rd v1 p1]) (λ(ab:Unit)=>SH E V [] [rd v0 p0,rd v1 p1]) (xQ E V) hN ?_ ?_ ?_ ?_ ?_;exact j.sp 2 [1,0];rintro hm ab _ w⟨O,rfl,j⟩;exact w_<|ic ((p0.length:Int)) ((p0.length:Int))<|BY<|TJ qC<|Te<|⟨rfl,j.sp 2 [0,1]⟩;rintro hm aa ab fl _ w hk⟨O,rfl,j⟩o;refine w_<|ic ((aa:Int)) ((p0.length:Int))<|BY<|TI (qB hk)<|Ta<|Tn<|mv (vi aa)<|aP (vi aa)<|BY<|T1 mixed ?_;have j:=j.drew;refine T0<|mv v0<|AT<|mv (vi aa)<|AT<|q_ o λag aj o=>S7 0 j j4 aj λaq j=>AT<|Tf 0 ag j iX λar j=>AT<|mv v1<|AT<|mv (vi aa)<|AT ?_;refine q_ o λah ak o=>S7 3 j j4 ak λau j=>AT<|Tf 0 ah j iX λav j=>AT<|UA 2 0 ag ah j MT<|TS<|aG<|dR o (λhc o=>?_) λhc o=>?_;exact w_<|aP (vb false)<|AI<|TL<|bQ<|oi o▸⟨rfl,cC ⟨rfl,j.drop 6⟩⟩;exact Tw<|bR<|aG<|IT<|TF hk hm<|mv (vi ((aa+1:Nat):Int))<|AS<|oi o▸⟨rfl,j.sp 6 [4,5]⟩;intro r U w e hK;subst e;exact bQ<|oi o▸hK;rintro ab _ w rfl⟨O,rfl,j⟩;rw[Fo.dN]at o;exact aG<|w_<|aP (vb true)<|AI<|Tb<|oi o▸cC ⟨rfl,j.drop 2⟩
def xR(E:World)(V:List HP)(r:Int)(U:Nat->Value)(w:World):Prop:=lZ bH 52 Tryz.f50 (aR E V r) .ret U w
theorem qL{p0:List aI}(j:Holds E w V)(h0:V[i0]? =some (rd v0 p0))(hb:jO N p0=some res):c_ 50 [v0] w<|aR E V res:=by
 unfold jO at hb;refine enter Tryz.func50 zr zr ?_;have j:=j.dup (i0+0) h0;refine w_<|aP (vi 0)<|BY<|w_<|mv v0<|q_ hb λav ay hb=>IN zt zr Rl [v0] zr<|aF (xO N (i0:=0) j zr ay) ?_;rintro _ w⟨rfl,j⟩;refine aP (vi av)<|OF<|mv (vi av)<|ic av 0<|AI<|dR hb (λhc hb=>?_) λhc hb=>?_;exact w_<|mv (vi av)<|aP (vi av)<|AI<|Tp<|oi hb▸cC ⟨rfl,j.drop 1⟩;refine Ta<|w_<|aP (vi 1)<|AI<|q_ hb λbg hN hb=>TD (λ(ao:Int)=>SH E V [(0,v0),(4,vi ao)] [rd v0 p0]) (λ(ao:Int)=>SH E V [(0,v0)] [rd v0 p0]) (xR E V) hN ?_ ?_ ?_ ?_;exact j.sp 1 [0];rintro ao fl _ w⟨O,rfl,j⟩hb;refine S6<|w_<|mv (vi ao)<|mv v0<|S8 0 p0 j ot<|ic ao ((p0.length:Int))<|AI<|dR hb (λhc hb=>?_) λhc hb=>?_;refine Ta<|TT<|S6 ?_;obtain⟨o,a1,hb⟩:=bd hb;refine q_ hb λaa a2 hb=>T7 E V mixed [1,1,1,0,0,1,1,0,0,0,0,0,0] [3,4,7,8,9,10,11,12] (λ(x:Value×Value×Value×Value×Nat×Nat)=>(λah ai aj ak ae af=>[(0,18,v0),(1,19,vi ao),(2,20,vi<|wrap .i64<|ao - 1),(3,21,ah),(4,22,ai),(5,23,v0),(6,24,vi ao),(7,25,aj),(8,26,ak),(9,5,vp ae 0),(10,6,vp af 0)]) x.1 x.2.1 x.2.2.1 x.2.2.2.1 x.2.2.2.2.1 x.2.2.2.2.2) [(0,v0),(4,vi ao)] [] (λ(D:Nat->Bool)(x:Value×Value×Value×Value×Nat×Nat)=>(λah ai aj ak ae af=>[bif D 0 then pt ah o else aJ,bif D 1 then rd ai o else aJ,bif D 2 then pt aj aa else aJ,bif D 3 then rd ak aa else aJ,bif D 6 then bx 75 ae o else(bif D 4 then raw 75 ae 4 else aJ),bif D 7 then bx 75 af aa else(bif D 5 then raw 75 af 4 else aJ),rd v0 p0]) x.1 x.2.1 x.2.2.1 x.2.2.2.1 x.2.2.2.2.1 x.2.2.2.2.2) (λx=>by kernel_rfl) ?_ ⟨λ_=>gL gn,λ_=>gL gn,λ_=>ym gn,?_,?_,λ_=>gL gn,λ_=>gL gn,?_,?_,?_,?_,?_,?_,trivial⟩ ?_;have j:=((((((j.drew).aJ).aJ).aJ).aJ).aJ).aJ;exact⟨(undef,undef,undef,undef,0,0),eR.none,A3 zr,zt,j⟩;rintro D U w hD ag aq⟨⟨ah,ai,aj,ak,ae,af⟩,hv,ha,_,j⟩;obtain⟨O,rfl⟩:=(ac (hv.at 0 rfl<|ag.1 rfl)<|ac (hv.at 2 rfl<|ag.2.1 rfl) az).cY;have j:=j.bI 0 hD;refine S7 6 j j4 a1 λa3 j=>?_;have j:=(j.pl 8 [0,2,3,4,5,6,7]).bB 0 true rfl aJ;exact AS ⟨rfl,(a3,ai,aj,ak,ae,af),hv.pu 3,ha.u,zt,j⟩;rintro D U w hD ag aq⟨⟨ah,ai,aj,ak,ae,af⟩,hv,ha,_,j⟩;obtain⟨O,rfl⟩:=(ac (hv.at 3 rfl<|ag.1 rfl) az).cY;have j:=(j.cK 0<|ag.1 rfl).bI 1 hD;refine Tf 0 o j iX λa4 j=>?_;have j:=((j.pl 8 [1,0,3,4,5,6,7]).bB 0 (D 3) (ag.1 rfl) aJ).bB 1 true rfl aJ;exact AS ⟨rfl,(ah,a4,aj,ak,ae,af),hv.pu 4,ha.u,zt,j⟩;rintro D U w hD ag aq⟨⟨ah,ai,aj,ak,ae,af⟩,hv,ha,_,j⟩;obtain⟨O,rfl⟩:=(ac (hv.at 5 rfl<|ag.1 rfl)<|ac (hv.at 6 rfl<|ag.2.1 rfl) az).cY;have j:=j.bI 2 hD;refine S7 6 j j4 a2 λa5 j=>?_;have j:=(j.pl 8 [1,2,0,4,5,6,7]).bB 2 true rfl aJ;exact AS ⟨rfl,(ah,ai,a5,ak,ae,af),hv.pu 7,ha.u,zt,j⟩;rintro D U w hD ag aq⟨⟨ah,ai,aj,ak,ae,af⟩,hv,ha,_,j⟩;obtain⟨O,rfl⟩:=(ac (hv.at 7 rfl<|ag.1 rfl) az).cY;have j:=(j.cK 2<|ag.1 rfl).bI 3 hD;refine Tf 2 aa j iX λa6 j=>?_;have j:=((j.pl 8 [1,2,3,0,5,6,7]).bB 2 (D 7) (ag.1 rfl) aJ).bB 3 true rfl aJ;exact AS ⟨rfl,(ah,ai,aj,a6,ae,af),hv.pu 8,ha.u,zt,j⟩;rintro D U w hD ag aq⟨⟨ah,ai,aj,ak,ae,af⟩,hv,ha,_,j⟩;obtain⟨O,rfl⟩:=(az (U:=U)).cY;have j:=(j.bI 4<|nh aq hD 11).bI 4 hD;refine TC j pQ.z λaw w j=>?_;have j:=((j.pl 8 [1,2,3,4,0,6,7]).bB 4 true rfl aJ).fM 4 (D 11) (nh aq hD 11)<|bx 75 aw o;exact AS ⟨rfl,(ah,ai,aj,ak,aw,af),hv.pu 9,ha.u,zt,j⟩;rintro D U w hD ag aq⟨⟨ah,ai,aj,ak,ae,af⟩,hv,ha,_,j⟩;obtain⟨O,rfl⟩:=(az (U:=U)).cY;have j:=(j.bI 5<|nh aq hD 12).bI 5 hD;refine TC j pQ.z λax w j=>?_;have j:=((j.pl 8 [1,2,3,4,5,0,7]).bB 5 true rfl aJ).fM 5 (D 12) (nh aq hD 12)<|bx 75 ax aa;exact AS ⟨rfl,(ah,ai,aj,ak,ae,ax),hv.pu 10,ha.u,zt,j⟩;rintro D U w hD ag aq⟨⟨ah,ai,aj,ak,ae,af⟩,hv,ha,_,j⟩;obtain⟨O,rfl⟩:=(ac (hv.at 4 rfl<|ag.2.1 rfl)<|ac (hv.at 9 rfl<|ag.1 rfl) az).cY;have j:=((j.cK 1<|ag.2.1 rfl).bI 4 hD).cK 4<|ag.1 rfl;refine Tx 4 j 1 zr iX λw j=>?_;have j:=(j.bB 1 (D 4) (ag.2.1 rfl) aJ).bB 4 true rfl (bif D 9 then raw 75 ae 4 else aJ);exact AS ⟨rfl,(ah,ai,aj,ak,ae,af),hv.n1,ha,zt,j⟩;rintro D U w hD ag aq⟨⟨ah,ai,aj,ak,ae,af⟩,hv,ha,_,j⟩;obtain⟨O,rfl⟩:=(ac (hv.at 8 rfl<|ag.2.1 rfl)<|ac (hv.at 10 rfl<|ag.1 rfl) az).cY;have j:=((j.cK 3<|ag.2.1 rfl).bI 5 hD).cK 5<|ag.1 rfl;refine Tx 5 j 3 zr iX λw j=>?_;have j:=(j.bB 3 (D 8) (ag.2.1 rfl) aJ).bB 5 true rfl (bif D 10 then raw 75 af 4 else aJ);exact AS ⟨rfl,(ah,ai,aj,ak,ae,af),hv.n1,ha,zt,j⟩;rintro D U w ar⟨⟨ah,ai,aj,ak,ae,af⟩,hv,ha,_,j⟩;simp only[List.getD_cons_zero,List.getD_cons_succ,ar 3 (by decide),ar 4 (by decide),ar 7 (by decide),ar 8 (by decide),ar 11 (by decide),ar 12 (by decide),aQ]at j;obtain⟨O,rfl⟩:=(ac (hv.at 9 rfl<|pU ar 9)<|ac (hv.at 10 rfl<|pU ar 10)<|ac (ha.at 0 rfl)<|ac (ha.at 1 rfl) az).cY;refine aG<|w_<|By zr iV<|S4 5 j zr dX cI<|By zr iV<|S4 4 j zr dX cI<|ic aa.Y0 o.Y0<|mv (vb<|decide<|aa.Y0<o.Y0)<|IS true (decide<|aa.Y0<o.Y0) (vp af 1) zr zr zr (dF iV) ?_;refine IS true (decide<|aa.Y0<o.Y0) (vi aa.Y0) rfl rfl rfl (bY 5 rfl j (by exact z_ (vp af 1)) rfl dX cI)<|IS true (decide<|aa.Y0<o.Y0) (vp ae 1) rfl rfl rfl (dF iV)<|IS true (decide<|aa.Y0<o.Y0) (vi o.Y0) rfl rfl rfl (bY 4 rfl j (by exact z_ (vp ae 1)) rfl dX cI)<|IS true (decide<|aa.Y0<o.Y0) (vb<|aa.Y0==o.Y0) rfl rfl rfl (dE .eql .i64 aa.Y0 o.Y0 rfl (by exact z_ (vi aa.Y0)) (by exact z_ (vi o.Y0)) rfl)<|IS true (decide<|aa.Y0<o.Y0) (vb<|aa.Y0==o.Y0) rfl rfl rfl (cJ (hx:=λh=>by exact(cH h:cv (true&&(decide (aa.Y0<o.Y0)==false)) (vb<|aa.Y0==o.Y0)= vb (aa.Y0==o.Y0))))<|IS (true&&(decide (aa.Y0<o.Y0)==false)) (aa.Y0==o.Y0) (vp af 0) rfl rfl rfl (dF jc)<|IS (true&&(decide (aa.Y0<o.Y0)==false)) (aa.Y0==o.Y0) (vi aa.X0) rfl rfl rfl (bY 5 rfl j (by exact z_ (vp af 0)) rfl eF cI)<|IS (true&&(decide (aa.Y0<o.Y0)==false)) (aa.Y0==o.Y0) (vp ae 0) rfl rfl rfl (dF jc)<|IS (true&&(decide (aa.Y0<o.Y0)==false)) (aa.Y0==o.Y0) (vi o.X0) rfl rfl rfl (bY 4 rfl j (by exact z_ (vp ae 0)) rfl eF cI) ?_;refine IS (true&&(decide (aa.Y0<o.Y0)==false)) (aa.Y0==o.Y0) (vb<|decide<|aa.X0<=o.X0) rfl rfl rfl (dE .leq .i64 aa.X0 o.X0 rfl (by exact z_ (vi aa.X0)) (by exact z_ (vi o.X0)) rfl)<|IS true (decide<|aa.Y0<o.Y0) (vb<|(aa.Y0==o.Y0)&&decide (aa.X0<=o.X0)) rfl rfl rfl (kP (aa.Y0==o.Y0) rfl (by exact z_ (vb<|aa.Y0==o.Y0)) (λh=>by exact fR (h:=h)<|true&&(decide (aa.Y0<o.Y0)==false)))<|Tu (decide<|aa.Y0<o.Y0) (vb<|decide (aa.Y0<o.Y0)||((aa.Y0==o.Y0)&&decide (aa.X0<=o.X0))) (nb true)<|AI<|dR hb (λhc hb=>?_) λhc hb=>?_;exact w_<|aP (vi 8)<|AI<|TL<|bQ<|oi hb▸⟨rfl,cC ⟨rfl,j.drop 7⟩⟩;refine Tw<|bR<|aG<|IT<|mv (vi ao)<|S5 ao 1<|aP (vi<|wrap .i64<|ao+1)<|AS ?_;exact oi hb▸⟨rfl,j.sp 7 [6]⟩;exact Te<|oi hb▸⟨rfl,j.sp 1 [0]⟩;intro r U w e hK;subst e;exact bQ<|oi hb▸hK;rintro ao _ w rfl⟨O,rfl,j⟩;rw[Fo.dN]at hb;refine aG<|S6<|w_<|mv v0<|q_ hb λbj a8 hb=>IN zt zr Kz [v0] zr<|aF (nA N (i0:=0) j zr a8) ?_;rintro a9 w j;have j:=j.freeze 0;refine q_ hb λbk ba hb=>IN zt zr N4 [a9] zr<|aF (oX N (i0:=0) j zr ba) ?_;rintro bb w j;refine mv v0 ?_;have j:=j.freeze 0;refine q_ hb λbc bf hb=>IN zt zr Rn [bb,v0] zr<|aF (wy N (i0:=0) (i1:=2) j zr zr bf) ?_;rintro _ w⟨rfl,j⟩;refine TH bc<|AI<|dR hb (λhc hb=>?_) λhc hb=>?_;exact w_<|aP (vi 3)<|AI<|Tp<|oi hb▸cC ⟨rfl,j.drop 3⟩;exact TV<|aP (vi 0)<|AI<|Tb<|oi hb▸cC ⟨rfl,j.drop 3⟩
theorem nV{res:Bool}(o:Holds E w V)(j:iY N p0 p1 p2=some res):c_ 71 [vi p0,vi p1,vi p2] w<|aX E V res:=by
 unfold iY at j;refine enter Tryz.func71 zr zr<|w_<|aP (vb false)<|OF<|mv (vi p0)<|mv (vi p1)<|ic p0 p1<|mv (vb<|decide<|p0>=p1)<|IS true (decide<|p0>=p1) (vi p0) zr zr zr cJ ?_;refine IS true (decide<|p0>=p1) (vi p2) rfl rfl rfl cJ<|IS true (decide<|p0>=p1) (vb<|decide<|p0<=p2) rfl rfl rfl (dE .leq .i64 p0 p2 rfl (by exact z_ (vi p0)) (by exact z_ (vi p2)) rfl)<|Tu (decide<|p0>=p1) (vb<|decide (p0>=p1)&&decide (p0<=p2)) (fR true)<|aP (vb<|decide (p0>=p1)&&decide (p0<=p2))<|AI<|Tb ?_;exact oi j▸cC ⟨rfl,o.drop 0⟩
theorem ue{p0:bL}{res:Bool}(j:Holds E w V)(h0:V[i0]? =some (rd v0 p0))(hb:kj N p0=some res):c_ 72 [v0] w<|aX E V res:=by
 unfold kj at hb;refine enter Tryz.func72 zr zr ?_;have j:=j.dup (i0+0) h0;refine w_<|Tm 0 v0 j zr λai w j=>?_;refine aP (vb false)<|BY<|q_ hb λad o hb=>Tg (λ(ad:Bool)=>SH E V [(2,vb ad)] []) ad ?_ ?_;refine IT<|By zr n9<|S4 0 j zr g9 cI<|q_ o λaf ag o=>IN zt zr DS [vi p0.X] zr<|aF (mK N (p0:=p0.X) j ag) ?_;rintro _ w⟨rfl,j⟩;refine mv (vb af)<|fI o (λaa o=>?_) λaa o=>?_;refine By (hg:=cg aa) zr oc<|S4 (hg:=cg aa) 0 j zr hG cI<|q_ o λae ah o=>IN (cg aa) zr DS [vi p0.Y] zr<|aF (mK N (p0:=p0.Y) j ah) ?_;rintro _ w⟨rfl,j⟩;exact fH aa (vb ae)<|aP (vb ae)<|AS<|oi o▸⟨rfl,j.sp 2 []⟩;exact bO aa<|bO aa<|bO aa<|fH aa (vb false)<|aP (vb false)<|AS<|oi o▸⟨rfl,j.sp 2 []⟩;rintro _ w⟨O,rfl,j⟩;exact aG<|Tb<|oi hb▸cC ⟨rfl,j.drop 0⟩
end Go.Gk
