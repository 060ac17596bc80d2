/-
  Printed texts: Go functions as plain functions, and that they are. No statement of the seed is proved here.
-/
import Derived.Test.YtibjlncmnefhcaaGreatDoorProg
import Derived.Test.YtibjlncmnefhcaaGreatDoorE1
import Derived.Test.YtibjlncmnefhcaaGreatDoorA2
import Derived.Test.YtibjlncmnefhcaaGreatDoorA1
import Derived.Test.YtibjlncmnefhcaaGreatDoorRows
import Derived.Shelf.SlGeneric
import Derived.Ground.SlsfProg
import Derived.Ground.SlgmProg
set_option linter.defProp false
set_option linter.unusedVariables false
set_option linter.unusedSimpArgs false
set_option linter.unusedSectionVars false
set_option maxRecDepth 100000
set_option maxHeartbeats 40000000
open Bool renaming true→aA,false→aK
open List renaming length→Z
open Option renaming bind→D,some→O,none→aQ
namespace Go.Gk
open Go IntKind Go.Proofs
noncomputable abbrev q:=Tryz.prog
abbrev c_(f:Nat)(l:aG F)(w:aT)(R:F->aT->Prop):Prop:=Calls q f l.toArray w (eE R)
def y8(x:dX):=(x.Name,x.Kind,x.bL)
instance yv:s dX:=s.via y8
instance yQ:KV dX:=ix (λ(x:dX)=>(x.Name,x.Kind,x.bL))
def om:Fd 0 (λa:dX=>a.Name):= .v y8<|.fst .self
def pO:Fd 1 (λa:dX=>a.Kind):= .v y8<|.snd<|.fst .self
def mA:Fd 2 (λa:dX=>a.bL):= .v y8<|.snd<|.snd<|.self
def Bc(x:bD):=(x.Name,x.aZ)
instance xC:s bD:=s.via Bc
def mI:Fd 0 (λa:bD=>a.Name):= .v Bc<|.fst .self
def lB:Fd 1 (λa:bD=>a.aZ):= .v Bc<|.snd<|.self
def Ka(x:Part):=(x.Name,x.sJ)
instance E4:s Part:=s.via Ka
instance Fr:KV Part:=ix (λ(x:Part)=>(x.Name,x.sJ))
def tX:Fd 0 (λa:Part=>a.Name):= .v Ka<|.fst .self
def D7:Fd 1 (λa:Part=>a.sJ):= .v Ka<|.snd<|.self
def Be(x:bX):=(x.Part,x.bX)
instance F2:s bX:=s.via Be
instance F3:KV bX:=ix (λ(x:bX)=>(x.Part,x.bX))
def oZ:Fd 0 (λa:bX=>a.Part):= .v Be<|.fst .self
def z5:Fs 0 cU (λ(a:bX)b=>{a with Part:=b}):= .v Be<|.fst .self
def uP:Fd 1 (λa:bX=>a.bX):= .v Be<|.snd<|.self
def z6:Fs 1 cU (λ(a:bX)b=>{a with bX:=b}):= .v Be<|.snd<|.self
def JB(x:p4):=(x.Name,x.aZ,x.y5)
instance F_:s p4:=s.via JB
def x9:Fd 0 (λa:p4=>a.Name):= .v JB<|.fst .self
def oq:Fd 1 (λa:p4=>a.aZ):= .v JB<|.snd<|.fst .self
def Pk:Fd 2 (λa:p4=>a.y5):= .v JB<|.snd<|.snd<|.self
def C9(x:bV):=(x.gH,x.cD)
instance yS:s bV:=s.via C9
def pP:Fd 0 (λa:bV=>a.gH):= .v C9<|.fst .self
def gz:Fd 1 (λa:bV=>a.cD):= .v C9<|.snd<|.self
def s8(x:z):=(x.X0,x.Y0,x.X1,x.Y1)
instance Fz:s z:=s.via s8
instance FA:KV z:=ix (λ(x:z)=>(x.X0,x.Y0,x.X1,x.Y1))
def dV:Fd 0 (λa:z=>a.X0):= .v s8<|.fst .self
def tY:Fs 0 Int (λ(a:z)b=>{a with X0:=b}):= .v s8<|.fst .self
def dL:Fd 1 (λa:z=>a.Y0):= .v s8<|.snd<|.fst .self
def vx:Fs 1 Int (λ(a:z)b=>{a with Y0:=b}):= .v s8<|.snd<|.fst .self
def eQ:Fd 2 (λa:z=>a.X1):= .v s8<|.snd<|.snd<|.fst .self
def su:Fs 2 Int (λ(a:z)b=>{a with X1:=b}):= .v s8<|.snd<|.snd<|.fst .self
def fS:Fd 3 (λa:z=>a.Y1):= .v s8<|.snd<|.snd<|.snd<|.self
def tZ:Fs 3 Int (λ(a:z)b=>{a with Y1:=b}):= .v s8<|.snd<|.snd<|.snd<|.self
def z7(x:dP):=(x.X,x.Y)
instance zW:s dP:=s.via z7
instance zZ:KV dP:=ix (λ(x:dP)=>(x.X,x.Y))
def gN:Fd 0 (λa:dP=>a.X):= .v z7<|.fst .self
def Kb:Fs 0 Int (λ(a:dP)b=>{a with X:=b}):= .v z7<|.fst .self
def fN:Fd 1 (λa:dP=>a.Y):= .v z7<|.snd<|.self
def Kc:Fs 1 Int (λ(a:dP)b=>{a with Y:=b}):= .v z7<|.snd<|.self
def z8(x:cM):=(x.At,x.gK,x.dC,x.To,x.iE)
instance FB:s cM:=s.via z8
def xK:Fd 0 (λa:cM=>a.At):= .v z8<|.fst .self
def qF:Fd 2 (λa:cM=>a.gK):= .v z8<|.snd<|.fst .self
def nK:Fd 3 (λa:cM=>a.dC):= .v z8<|.snd<|.snd<|.fst .self
def qG:Fd 4 (λa:cM=>a.To):= .v z8<|.snd<|.snd<|.snd<|.fst .self
def vz:Fd 5 (λa:cM=>a.iE):= .v z8<|.snd<|.snd<|.snd<|.snd<|.self
def ya(x:dD):=(x.Part,x.bX,x.cR,x.At)
instance FE:s dD:=s.via ya
def o4:Fd 0 (λa:dD=>a.Part):= .v ya<|.fst .self
def Tk:Fs 0 cU (λ(a:dD)b=>{a with Part:=b}):= .v ya<|.fst .self
def sw:Fd 1 (λa:dD=>a.bX):= .v ya<|.snd<|.fst .self
def Tl:Fs 1 cU (λ(a:dD)b=>{a with bX:=b}):= .v ya<|.snd<|.fst .self
def xL:Fd 2 (λa:dD=>a.cR):= .v ya<|.snd<|.snd<|.fst .self
def nL:Fd 3 (λa:dD=>a.At):= .v ya<|.snd<|.snd<|.snd<|.self
def GB(x:ir):=(x.aS,x.cZ,x.aX,x.cA)
instance Gp:s ir:=s.via GB
def lf:Fd 0 (λa:ir=>a.aS):= .v GB<|.fst .self
def z9:Fd 1 (λa:ir=>a.cZ):= .v GB<|.snd<|.fst .self
def jz:Fd 2 (λa:ir=>a.aX):= .v GB<|.snd<|.snd<|.fst .self
def mu:Fd 3 (λa:ir=>a.cA):= .v GB<|.snd<|.snd<|.snd<|.self
def mZ(x:aB):=(x.Y0,x.Y1,x.Xs)
instance wd:s aB:=s.via mZ
def jY:Fd 0 (λa:aB=>a.Y0):= .v mZ<|.fst .self
def Cj:Fs 0 Int (λ(a:aB)b=>{a with Y0:=b}):= .v mZ<|.fst .self
def iu:Fd 1 (λa:aB=>a.Y1):= .v mZ<|.snd<|.fst .self
def wJ:Fs 1 Int (λ(a:aB)b=>{a with Y1:=b}):= .v mZ<|.snd<|.fst .self
def fI:Fd 2 (λa:aB=>a.Xs):= .v mZ<|.snd<|.snd<|.self
def Ck:Fs 2 (aG Int) (λ(a:aB)b=>{a with Xs:=b}):= .v mZ<|.snd<|.snd<|.self
def mL(x:aH):=(x.cR,x.Set,x.eG)
instance ur:s aH:=s.via mL
def l7:Fd 0 (λa:aH=>a.cR):= .v mL<|.fst .self
def GC:Fs 0 Int (λ(a:aH)b=>{a with cR:=b}):= .v mL<|.fst .self
def GD:Fs 1 (aG aB) (λ(a:aH)b=>{a with Set:=b}):= .v mL<|.snd<|.fst .self
def l8:Fd 2 (λa:aH=>a.eG):= .v mL<|.snd<|.snd<|.self
def GF:Fs 2 (aG z) (λ(a:aH)b=>{a with eG:=b}):= .v mL<|.snd<|.snd<|.self
def HI(x:bL):=(x.fK,x.aX,x.aZ)
instance z0:s bL:=s.via HI
def Bf:Fd 0 (λa:bL=>a.fK):= .v HI<|.fst .self
def oD:Fd 2 (λa:bL=>a.aZ):= .v HI<|.snd<|.snd<|.self
def Bg(x:gL):=(x.cM,x.Number)
instance Gq:s gL:=s.via Bg
instance Gr:KV gL:=ix (λ(x:gL)=>(x.cM,x.Number))
def Aa:Fd 0 (λa:gL=>a.cM):= .v Bg<|.fst .self
def Pl:Fs 0 Bool (λ(a:gL)b=>{a with cM:=b}):= .v Bg<|.fst .self
def s9:Fd 1 (λa:gL=>a.Number):= .v Bg<|.snd<|.self
def GG:Fs 1 Int (λ(a:gL)b=>{a with Number:=b}):= .v Bg<|.snd<|.self
def m6(x:aC):=(x.Nq,x.i,x.k)
instance wf:s aC:=s.via m6
instance wl:KV aC:=ix (λ(x:aC)=>(x.Nq,x.i,x.k))
def Cl:Fd 0 (λa:aC=>a.Nq):= .v m6<|.fst .self
def Jd:Fs 0 Int (λ(a:aC)b=>{a with Nq:=b}):= .v m6<|.fst .self
def wK:Fd 1 (λa:aC=>a.i):= .v m6<|.snd<|.fst .self
def Je:Fs 1 Int (λ(a:aC)b=>{a with i:=b}):= .v m6<|.snd<|.fst .self
def wL:Fd 2 (λa:aC=>a.k):= .v m6<|.snd<|.snd<|.self
def Jf:Fs 2 Int (λ(a:aC)b=>{a with k:=b}):= .v m6<|.snd<|.snd<|.self
def yb(x:k):=(x.A,x.B,x.Joined)
instance FG:s k:=s.via yb
def l9:Fd 0 (λa:k=>a.A):= .v yb<|.fst .self
def t7:Fs 0 bX (λ(a:k)b=>{a with A:=b}):= .v yb<|.fst .self
def nM:Fd 2 (λa:k=>a.B):= .v yb<|.snd<|.fst .self
def t8:Fs 2 bX (λ(a:k)b=>{a with B:=b}):= .v yb<|.snd<|.fst .self
def MA:Fs 4 Bool (λ(a:k)b=>{a with Joined:=b}):= .v yb<|.snd<|.snd<|.self
def jt(x:aI):=(x.from_,x.to)
instance rc:s aI:=s.via jt
instance rg:KV aI:=ix (λ(x:aI)=>(x.from_,x.to))
def fT:Fd 0 (λa:aI=>a.from_):= .v jt<|.fst .self
def o5:Fs 0 Int (λ(a:aI)b=>{a with from_:=b}):= .v jt<|.fst .self
def fU:Fd 1 (λa:aI=>a.to):= .v jt<|.snd<|.self
def o6:Fs 1 Int (λ(a:aI)b=>{a with to:=b}):= .v jt<|.snd<|.self
def il(x:aU):=(x.from_,x.to,x.mm)
instance ro:s aU:=s.via il
def t9:Fd 0 (λa:aU=>a.from_):= .v il<|.fst .self
def uc:Fs 0 Int (λ(a:aU)b=>{a with from_:=b}):= .v il<|.fst .self
def o7:Fd 1 (λa:aU=>a.to):= .v il<|.snd<|.fst .self
def o8:Fs 1 Int (λ(a:aU)b=>{a with to:=b}):= .v il<|.snd<|.fst .self
def iV:Fd 2 (λa:aU=>a.mm):= .v il<|.snd<|.snd<|.self
def ud:Fs 2 (aG aI) (λ(a:aU)b=>{a with mm:=b}):= .v il<|.snd<|.snd<|.self
def gO(x:bA):=(x.length,x.a,x.b)
instance q6:s bA:=s.via gO
instance q7:KV bA:=ix (λ(x:bA)=>(x.length,x.a,x.b))
def tc:Fd 0 (λa:bA=>a.length):= .v gO<|.fst .self
def zu:Fs 0 Int (λ(a:bA)b=>{a with length:=b}):= .v gO<|.fst .self
def te:Fd 1 (λa:bA=>a.a):= .v gO<|.snd<|.fst .self
def zv:Fs 1 Int (λ(a:bA)b=>{a with a:=b}):= .v gO<|.snd<|.fst .self
def tf:Fd 2 (λa:bA=>a.b):= .v gO<|.snd<|.snd<|.self
def zw:Fs 2 Int (λ(a:bA)b=>{a with b:=b}):= .v gO<|.snd<|.snd<|.self
def uQ(x:bU):=(x.e0,x.e1)
instance xV:s bU:=s.via uQ
instance x0:KV bU:=ix (λ(x:bU)=>(x.e0,x.e1))
def E9:Fd 0 (λa:bU=>a.e0):= .v uQ<|.fst .self
def vP:Fs 0 Int (λ(a:bU)b=>{a with e0:=b}):= .v uQ<|.fst .self
def Fa:Fd 1 (λa:bU=>a.e1):= .v uQ<|.snd<|.self
def vQ:Fs 1 Int (λ(a:bU)b=>{a with e1:=b}):= .v uQ<|.snd<|.self
def Bh(x:y6):=(x.A,x.B,x.iY,x.dC,x.To)
instance GA:s y6:=s.via Bh
def Kd:Fd 2 (λa:y6=>a.iY):= .v Bh<|.snd<|.snd<|.fst .self
def Pm:Fs 2 Int (λ(a:y6)b=>{a with iY:=b}):= .v Bh<|.snd<|.snd<|.fst .self
def Da:Fd 3 (λa:y6=>a.dC):= .v Bh<|.snd<|.snd<|.snd<|.fst .self
def Pn:Fs 3 dP (λ(a:y6)b=>{a with dC:=b}):= .v Bh<|.snd<|.snd<|.snd<|.fst .self
def UZ:Fd 5 (λa:y6=>a.To):= .v Bh<|.snd<|.snd<|.snd<|.snd<|.self
def Po:Fs 5 dP (λ(a:y6)b=>{a with To:=b}):= .v Bh<|.snd<|.snd<|.snd<|.snd<|.self
def Ab(x:rm):=(x.Open,x.gL,x.A,x.B)
instance FM:s rm:=s.via Ab
def vA:Fd 0 (λa:rm=>a.Open):= .v Ab<|.fst .self
def xM:Fd 1 (λa:rm=>a.gL):= .v Ab<|.snd<|.fst .self
def D8:Fd 3 (λa:rm=>a.A):= .v Ab<|.snd<|.snd<|.fst .self
def D9:Fd 4 (λa:rm=>a.B):= .v Ab<|.snd<|.snd<|.snd<|.self
def GH(M:fA):s.ok M (#[(.string ⟨#[]⟩),(.string ⟨#[]⟩)]:aY F).toList (⟨⟨[]⟩,⟨[]⟩⟩:bX):=⟨[(.string ⟨#[]⟩)],[(.string ⟨#[]⟩)],rfl,(show s.ok M [(.string ⟨#[]⟩)] (⟨[]⟩:cU)from rfl),(show s.ok M [(.string ⟨#[]⟩)] (⟨[]⟩:cU)from rfl)⟩
def HJ(M:fA):s.ok M (#[(.string ⟨#[]⟩),(.string ⟨#[]⟩),(.string ⟨#[]⟩),(.string ⟨#[]⟩),(.bool aK)]:aY F).toList (⟨⟨⟨[]⟩,⟨[]⟩⟩,⟨⟨[]⟩,⟨[]⟩⟩,aK⟩:k):=⟨[(.string ⟨#[]⟩),(.string ⟨#[]⟩)],[(.string ⟨#[]⟩),(.string ⟨#[]⟩),(.bool aK)],rfl,(show s.ok M [(.string ⟨#[]⟩),(.string ⟨#[]⟩)] (⟨⟨[]⟩,⟨[]⟩⟩:bX)from GH M),⟨[(.string ⟨#[]⟩),(.string ⟨#[]⟩)],[(.bool aK)],rfl,(show s.ok M [(.string ⟨#[]⟩),(.string ⟨#[]⟩)] (⟨⟨[]⟩,⟨[]⟩⟩:bX)from GH M),(show s.ok M [(.bool aK)] (aK:Bool)from rfl)⟩⟩
def yc(M:fA):s.ok M (#[e_,e_,e_,e_]:aY F).toList (⟨0,0,0,0⟩:z):=⟨[e_],[e_,e_,e_],rfl,(show s.ok M [e_] (0:Int)from rfl),⟨[e_],[e_,e_],rfl,(show s.ok M [e_] (0:Int)from rfl),⟨[e_],[e_],rfl,(show s.ok M [e_] (0:Int)from rfl),(show s.ok M [e_] (0:Int)from rfl)⟩⟩⟩
def Ea(M:fA):s.ok M (#[e_,e_]:aY F).toList (⟨0,0⟩:dP):=⟨[e_],[e_],rfl,(show s.ok M [e_] (0:Int)from rfl),(show s.ok M [e_] (0:Int)from rfl)⟩
def Zg(M:fA):s.ok M (#[(.string ⟨#[]⟩),(.string ⟨#[]⟩),e_,e_,e_]:aY F).toList (⟨⟨[]⟩,⟨[]⟩,0,⟨0,0⟩⟩:dD):=⟨[(.string ⟨#[]⟩)],[(.string ⟨#[]⟩),e_,e_,e_],rfl,(show s.ok M [(.string ⟨#[]⟩)] (⟨[]⟩:cU)from rfl),⟨[(.string ⟨#[]⟩)],[e_,e_,e_],rfl,(show s.ok M [(.string ⟨#[]⟩)] (⟨[]⟩:cU)from rfl),⟨[e_],[e_,e_],rfl,(show s.ok M [e_] (0:Int)from rfl),(show s.ok M [e_,e_] (⟨0,0⟩:dP)from Ea M)⟩⟩⟩
def NC(M:fA):s.ok M (#[e_,e_,e_]:aY F).toList (⟨0,0,0⟩:aC):=⟨[e_],[e_,e_],rfl,(show s.ok M [e_] (0:Int)from rfl),⟨[e_],[e_],rfl,(show s.ok M [e_] (0:Int)from rfl),(show s.ok M [e_] (0:Int)from rfl)⟩⟩
def Ke(M:fA):s.ok M (#[e_,n_,n_]:aY F).toList (⟨0,[],[]⟩:aH):=⟨[e_],[n_,n_],rfl,(show s.ok M [e_] (0:Int)from rfl),⟨[n_],[n_],rfl,(show s.ok M [n_] ([]:aG aB)from⟨_,rfl,aQ,0,0,rfl,rfl,du _,by simp[maxLen],λ_ _ a=>by simp at a⟩),(show s.ok M [n_] ([]:aG z)from⟨_,rfl,aQ,0,0,rfl,rfl,du _,by simp[maxLen],λ_ _ a=>by simp at a⟩)⟩⟩
def Bi(M:fA):s.ok M (#[e_,e_]:aY F).toList (⟨0,0⟩:bU):=⟨[e_],[e_],rfl,(show s.ok M [e_] (0:Int)from rfl),(show s.ok M [e_] (0:Int)from rfl)⟩
def XX(M:fA):s.ok M (#[e_,e_,e_,e_,e_,e_,e_]:aY F).toList (⟨0,0,0,⟨0,0⟩,⟨0,0⟩⟩:y6):=⟨[e_],[e_,e_,e_,e_,e_,e_],rfl,(show s.ok M [e_] (0:Int)from rfl),⟨[e_],[e_,e_,e_,e_,e_],rfl,(show s.ok M [e_] (0:Int)from rfl),⟨[e_],[e_,e_,e_,e_],rfl,(show s.ok M [e_] (0:Int)from rfl),⟨[e_,e_],[e_,e_],rfl,(show s.ok M [e_,e_] (⟨0,0⟩:dP)from Ea M),(show s.ok M [e_,e_] (⟨0,0⟩:dP)from Ea M)⟩⟩⟩⟩
def Cx(M:fA):s.ok M (#[e_,e_,e_]:aY F).toList (⟨0,0,0⟩:bA):=⟨[e_],[e_,e_],rfl,(show s.ok M [e_] (0:Int)from rfl),⟨[e_],[e_],rfl,(show s.ok M [e_] (0:Int)from rfl),(show s.ok M [e_] (0:Int)from rfl)⟩⟩
def Kf(M:fA):s.ok M (#[(.bool aK),e_]:aY F).toList (⟨aK,0⟩:gL):=⟨[(.bool aK)],[e_],rfl,(show s.ok M [(.bool aK)] (aK:Bool)from rfl),(show s.ok M [e_] (0:Int)from rfl)⟩
def we(M:fA):s.ok M (#[e_,e_,n_]:aY F).toList (⟨0,0,[]⟩:aU):=⟨[e_],[e_,n_],rfl,(show s.ok M [e_] (0:Int)from rfl),⟨[e_],[n_],rfl,(show s.ok M [e_] (0:Int)from rfl),(show s.ok M [n_] ([]:aG aI)from⟨_,rfl,aQ,0,0,rfl,rfl,du _,by simp[maxLen],λ_ _ a=>by simp at a⟩)⟩⟩
def GI(M:fA):s.ok M (#[e_,e_,n_]:aY F).toList (⟨0,0,[]⟩:aB):=⟨[e_],[e_,n_],rfl,(show s.ok M [e_] (0:Int)from rfl),⟨[e_],[n_],rfl,(show s.ok M [e_] (0:Int)from rfl),(show s.ok M [n_] ([]:aG Int)from⟨_,rfl,aQ,0,0,rfl,rfl,du _,by simp[maxLen],λ_ _ a=>by simp at a⟩)⟩⟩
def wg(M:fA):s.ok M (#[e_,e_]:aY F).toList (⟨0,0⟩:aI):=⟨[e_],[e_],rfl,(show s.ok M [e_] (0:Int)from rfl),(show s.ok M [e_] (0:Int)from rfl)⟩
structure bI where
  fK:aG Int
  aX:aG Int
  aZ:RV
  deriving Inhabited
def uR(x:bI):=(x.fK,x.aX,x.aZ)
instance x7:s bI:=s.via uR
def Fb:Fd 0 (λa:bI=>a.fK):= .v uR<|.fst .self
def LX:Fd 1 (λa:bI=>a.aX):= .v uR<|.snd<|.fst .self
def LY:Fd 2 (λa:bI=>a.aZ):= .v uR<|.snd<|.snd<|.self
def LZ:Fs 2 RV (λ(a:bI)b=>{a with aZ:=b}):= .v uR<|.snd<|.snd<|.self
def bP:XT bI bL:=⟨λu x=>u.fK=x.fK/\u.aX=x.aX,λM h u x=>(u.fK=x.fK/\u.aX=x.aX)/\HA 39 M h u.aZ.v x.aZ,λ{M b h u x}a hh=>⟨hh.1,(own 39 u.aZ.v x.aZ).mono a hh.2⟩,λh=>h.1⟩
def ue:XO bP 39 2 (λa=>a.aZ) (λa b=>{a with aZ:=b}) (λa=>a.aZ) (λa b=>{a with aZ:=b}):=⟨LY,LZ,I,λa=>a.2,λb a=>⟨b,a⟩⟩
def GJ(M h:fA)(u:bI)(x:bL)(cs:aG F)(hd:∀b o,h b=O o->M b=aQ)(hx:bP.ok M h u x)(hc:s.ok M cs u):s.ok (wG M h) cs x:=by
 obtain⟨⟨j,k⟩,n⟩:=hx;obtain⟨a,g,l,d,c,i,m,e,f⟩:=hc;exact⟨a,g,l,s.mono (D5 M h) (show s.ok M a x.fK from j▸(show s.ok M a u.fK from d)),⟨c,i,m,s.mono (D5 M h) (show s.ok M c x.aX from k▸(show s.ok M c u.aX from e)),⟨u.aZ.v,f,HA.sl hd n⟩⟩⟩
def tg:nT q 26 aA 2:=xg
def pD:nT q 32 aA 4:=xg
def Zh:nT q 22 aK 1:=xg
def Tm:Tryz.prog.underlying 22=O (.slice 192):=by kernel_rfl
def ND:Cg q 22 192 2:=Iz
def Db:nT q 192 aA 2:=xg
def U0:Gd q 192 2:=Hy<|.agg #[(.string ⟨#[]⟩),n_]
def y9:oG q 192 0 0:=qm
def mO:nT q 9 aK 1:=xg
def EL:Tryz.prog.underlying 9=O (.string):=by kernel_rfl
def adf(a:cU)(b:Int)(w:aT):(callFunc 243 [str a,(.int .u8 b)].toArray).run q w = .ok (.value<|e<|Lib.indexByte a.eI (mr b).toUInt8) w:=JX Extern.BytealgIndexByte.indexByte Tryz.func243<|Lib.run_indexByteString _ _ w
def XY:eJ q 224:=eP Tryz.func224
def U1:eJ q 176:=eP Tryz.func176
def Si:eJ q 118:=eP Tryz.func118
def xk:oG q 192 1 1:=qm
def GK:nT q 190 aK 1:=xg
def Cm:Tryz.prog.underlying 190=O (.slice 247):=by kernel_rfl
def Ac:Cg q 190 247 3:=Iz
def yd:nT q 247 aA 3:=xg
def MB:Gd q 247 3:=Hy<|.agg #[(.string ⟨#[]⟩),e_,e_]
def za:oG q 247 0 0:=qm
def Bj:oG q 247 1 1:=qm
def n:nT q 3 aK 1:=xg
def xl:oG q 247 2 2:=qm
def m:Tryz.prog.follows .mixedOrders=true:=by kernel_rfl
def FH:oG q 26 0 0:=qm
def Q2:nT q 23 aK 1:=xg
def Tn:Tryz.prog.underlying 23=O (.slice 195):=by kernel_rfl
def NF:Cg q 23 195 2:=Iz
def IA:nT q 195 aA 2:=xg
def U2:Gd q 195 2:=Hy<|.agg #[(.string ⟨#[]⟩),(.string ⟨#[]⟩)]
def zb:oG q 195 0 0:=qm
def JC:oG q 195 1 1:=qm
def FI:Tryz.prog.underlying 3=O (.int .i64):=by kernel_rfl
def wY:Tryz.prog.underlying 129=O (.int .u64):=by kernel_rfl
def Tg(a b:cU)(w:aT):(callFunc 216 [str a,str b].toArray).run q w = .ok (.value<|e<|Lib.compareBytes a.eI b.eI) w:=JX Extern.BytealgCompare.compare Tryz.func216<|Lib.run_compareString _ _ w
def U3:eJ q 95:=eP Tryz.func95
def XZ:eJ q 120:=eP Tryz.func120
def adh(a:cU)(b:Int)(w:aT):(callFunc 246 [str a,(.int .u8 b)].toArray).run q w = .ok (.value<|e ((Lib.countByte a.eI (mr b).toUInt8:Nat):Int)) w:=JX Extern.BytealgCount.count Tryz.func246<|Lib.run_countString _ _ w
def X3:eJ q 228:=eP Tryz.func228
def adi:yP q 72 9 1 16:=yP.of<|.string ⟨#[]⟩
def zd9:OU q 9 (⟨[]⟩:cU):=OU.of (.string ⟨#[]⟩)<|λa=>rfl
def Tp:Cg q 72 9 1:=Iz
def U4:eJ q 122:=eP Tryz.func122
def U5:Tryz.prog.underlying 72=O (.slice 9):=by kernel_rfl
def Zi:eJ q 67:=eP Tryz.func67
def rG:oG q 26 1 1:=qm
def Dc:nT q 24 aK 1:=xg
def NG:Tryz.prog.underlying 24=O (.slice 74):=by kernel_rfl
def GL:Cg q 24 74 3:=Iz
def L0:nT q 74 aA 3:=xg
def U6:Gd q 74 3:=Hy<|.agg #[(.string ⟨#[]⟩),n_,n_]
def FJ:oG q 74 0 0:=qm
def uS:oG q 74 1 1:=qm
def uB:nT q 71 aK 1:=xg
def uC:Tryz.prog.underlying 71=O (.slice 39):=by kernel_rfl
def fF:nT q 39 aA 2:=xg
def vB:oG q 39 0 0:=qm
def Bl:oG q 39 1 1:=qm
def th:Cg q 71 39 2:=Iz
def Kg:Gd q 39 2:=Hy<|.agg #[(.string ⟨#[]⟩),(.string ⟨#[]⟩)]
def Q3:eJ q 47:=eP Tryz.func47
def MC:WL q 39 bX:=⟨λa a a b c a d e=>by
  obtain⟨_,_,rfl,rfl,rfl⟩:=d
  obtain⟨_,_,rfl,rfl,rfl⟩:=e
  refine(jm 9999 Tryz.underlying39<|CV.cons I (cY mO rfl _) (cY mO rfl _) (tK EL _ _ a)<|CV.cons I (cY mO rfl _) (cY mO rfl _) (tK EL _ _ a) CV.nil).trans ?_
  congr 1
  cases b;cases c;unfold Be
  rw[iK]
  simp,by kernel_rfl⟩
def X4:C1 q 39 bX:=C1.struct Tryz.underlying39 rfl MC (λa=>(XQ.cons I (cY mO rfl) (λb c=>MapKept.run_checkKey EL (k:=Gk.str a.Part) trivial b 9998) (XQ.cons I (cY mO rfl) (λb c=>MapKept.run_checkKey EL (k:=Gk.str a.bX) trivial b 9998) XQ.nil))) (λa c b=>by
  have b:c∈[Sc.toV a.Part,Sc.toV a.bX]:=b
  simp only[eO,List.not_mem_nil,or_false]at b
  rcases b with rfl|rfl
  · exact MapKept.sameBits_self (d:= .string) (k:=Gk.str a.Part) trivial _
  · exact MapKept.sameBits_self (d:= .string) (k:=Gk.str a.bX) trivial _)
def X5:LR q 138 39 4 bX Bool (aK:Bool):=⟨by kernel_rfl,X4,Gs (.bool aK)<|λa=>⟨_,rfl,rfl⟩⟩
def U7:oG q 74 2 2:=qm
def aaM:nT q 72 aK 1:=xg
def rH:oG q 32 0 0:=qm
def vC:nT q 27 aK 1:=xg
def ye:Tryz.prog.underlying 27=O (.slice 28):=by kernel_rfl
def NH:oG q 32 1 1:=qm
def xm:nT q 28 aK 1:=xg
def oH:Tryz.prog.underlying 28=O (.slice 62):=by kernel_rfl
def Ad:Cg q 27 28 1:=Iz
def iO:Cg q 28 62 4:=Iz
def gG:nT q 62 aA 4:=xg
def rp:Gd q 62 4:=Hy<|.agg #[e_,e_,e_,e_]
def iI:oG q 62 0 0:=qm
def MD:eJ q 198:=eP Tryz.func198
def iv:oG q 62 1 1:=qm
def j7:oG q 62 2 2:=qm
def lO:oG q 62 3 3:=qm
def X6:eJ q 187:=eP Tryz.func187
def Kh:yP q 28 62 4 32:=yP.of<|.agg #[e_,e_,e_,e_]
def X7:eJ q 189:=eP Tryz.func189
def aaR:H1 q 95 [n_]:=⟨n_,λ_=>by kernel_rfl,rfl⟩
def fV:nT q 95 aK 1:=xg
def eA:Cg q 95 3 1:=Iz
def L1:Gd q 3 1:=Hy<|.int .i64 0
def xn:yP q 95 3 1 8:=yP.of<|.int .i64 0
def oI:Tryz.prog.underlying 95=O (.slice 3):=by kernel_rfl
def Zj:OU q 3 (0:Int):=OU.of e_<|λa=>rfl
def X8:eJ q 202:=eP Tryz.func202
def ado:OU q 62 (⟨0,0,0,0⟩:z):=OU.of (.agg #[e_,e_,e_,e_])<|λa=>yc a
def X9:zU q 263 [(0,1),(1,1),(2,1)] #[e_,e_,n_]:=zU.of (.agg #[e_,e_,n_]) Tryz.underlying263
def qZ:oG q 263 2 2:=qm
def tE:oG q 263 1 1:=qm
def xo:oG q 263 0 0:=qm
def wZ:Tryz.prog.underlying 100=O (.slice 263):=by kernel_rfl
def qo:Cg q 100 263 3:=Iz
def GM:nT q 263 aA 3:=xg
def Pp:Gd q 263 3:=Hy<|.agg #[e_,e_,n_]
def aaZ:yP q 100 263 3 40:=yP.of<|.agg #[e_,e_,n_]
def Ya:eJ q 195:=eP Tryz.func195
def Pq:eJ q 128:=eP Tryz.func128
def L2:zU q 62 [(0,1),(1,1),(2,1),(3,1)] #[e_,e_,e_,e_]:=zU.of (.agg #[e_,e_,e_,e_]) Tryz.underlying62
def U8:eJ q 129:=eP Tryz.func129
def Yb:WL q 62 z:=⟨λa a a b c a d e=>by
  obtain⟨_,_,rfl,rfl,⟨_,_,rfl,rfl,⟨_,_,rfl,rfl,rfl⟩⟩⟩:=d
  obtain⟨_,_,rfl,rfl,⟨_,_,rfl,rfl,⟨_,_,rfl,rfl,rfl⟩⟩⟩:=e
  refine(jm 9999 Tryz.underlying62<|CV.cons I (cY n rfl _) (cY n rfl _) (me FI _ _ a)<|CV.cons I (cY n rfl _) (cY n rfl _) (me FI _ _ a)<|CV.cons I (cY n rfl _) (cY n rfl _) (me FI _ _ a)<|CV.cons I (cY n rfl _) (cY n rfl _) (me FI _ _ a) CV.nil).trans ?_
  congr 1
  cases b;cases c;unfold s8
  rw[iK]
  simp,by kernel_rfl⟩
def aa1:eJ q 71:=eP Tryz.func71
def ju:oG q 32 2 2:=qm
def sA:nT q 29 aK 1:=xg
def Dd:Tryz.prog.underlying 29=O (.slice 121):=by kernel_rfl
def xp:Cg q 29 121 6:=Iz
def lh:nT q 121 aA 6:=xg
def Ki:Gd q 121 6:=Hy<|.agg #[e_,e_,e_,e_,e_,(.bool aK)]
def vR:oG q 121 1 2:=qm
def Sj:eJ q 131:=eP Tryz.func131
def Eb:oG q 121 0 0:=qm
def tN:nT q 64 aA 2:=xg
def o9:oG q 64 0 0:=qm
def m7:oG q 64 1 1:=qm
def Yc:eJ q 132:=eP Tryz.func132
def Tq:eJ q 75:=eP Tryz.func75
def tF:oG q 121 2 3:=qm
def vS:oG q 121 3 4:=qm
def qP:oG q 32 3 3:=qm
def Cy:nT q 30 aK 1:=xg
def Jg:Tryz.prog.underlying 30=O (.slice 66):=by kernel_rfl
def Bm:Cg q 30 66 5:=Iz
def vm:nT q 66 aA 5:=xg
def Kj:Gd q 66 5:=Hy<|.agg #[(.string ⟨#[]⟩),(.string ⟨#[]⟩),e_,e_,e_]
def yf:oG q 66 0 0:=qm
def Bn:oG q 66 1 1:=qm
def HK:oG q 66 2 2:=qm
def wM:oG q 66 3 3:=qm
def Tr:zU q 39 [(0,1),(1,1)] #[(.string ⟨#[]⟩),(.string ⟨#[]⟩)]:=zU.of (.agg #[(.string ⟨#[]⟩),(.string ⟨#[]⟩)]) Tryz.underlying39
def W8:eJ q 81:=eP Tryz.func81
def Yd:eJ q 133:=eP Tryz.func133
def W9:eJ q 74:=eP Tryz.func74
def adr:zU q 98 [(0,4),(4,1),(5,1),(6,1),(7,1),(8,1),(9,1),(10,1),(11,1)] #[n_,n_,n_,n_,n_,n_,n_,n_,n_,n_,n_,n_]:=zU.of (.agg #[n_,n_,n_,n_,n_,n_,n_,n_,n_,n_,n_,n_]) Tryz.underlying98
def wN:oG q 98 0 0:=qm
def U9:eJ q 134:=eP Tryz.func134
def Va:Cg q 91 100 1:=Iz
def Vb:Gd q 100 1:=Hy<|.slice aQ 0 0
def aa5:Tryz.prog.underlying 91=O (.slice 100):=by kernel_rfl
def Ye:nT q 100 aK 1:=xg
def Yf:eJ q 235:=eP Tryz.func235
def J8:Tryz.prog.underlying 4=O (.bool):=by kernel_rfl
def Vc:oG q 98 1 4:=qm
def abc:nT q 91 aK 1:=xg
def abd:yP q 91 100 1 24:=yP.of<|.slice aQ 0 0
def Vd:eJ q 201:=eP Tryz.func201
def IB:LR q 189 3 3 Int Int (0:Int):=⟨by kernel_rfl,C1.int FI,Gs e_<|λa=>⟨_,rfl,rfl⟩⟩
def Xa:Gd q 28 1:=Hy<|.slice aQ 0 0
def Ve:yP q 27 28 1 24:=yP.of<|.slice aQ 0 0
def sO:oG q 98 2 5:=qm
def EM:nT q 92 aK 1:=xg
def abf:zU q 102 [(0,1),(1,1),(2,1)] #[e_,n_,n_]:=zU.of (.agg #[e_,n_,n_]) Tryz.underlying102
def NI:Cg q 92 102 3:=Iz
def Ps:Gd q 102 3:=Hy<|.agg #[e_,n_,n_]
def ads:yP q 92 102 3 56:=yP.of<|.agg #[e_,n_,n_]
def L3:Tryz.prog.underlying 92=O (.slice 102):=by kernel_rfl
def IC:nT q 102 aA 3:=xg
def Bo:oG q 121 4 5:=qm
def Cn:nT q 4 aK 1:=xg
def Ec:oG q 102 0 0:=qm
def Ed:oG q 102 2 2:=qm
def Yg:eJ q 138:=eP Tryz.func138
def NJ:oG q 98 3 6:=qm
def HL:nT q 93 aK 1:=xg
def Jh:Cg q 93 95 1:=Iz
def Zk:Gd q 95 1:=Hy<|.slice aQ 0 0
def Zl:yP q 93 95 1 24:=yP.of<|.slice aQ 0 0
def abi:zU q 151 [(0,1)] #[n_]:=zU.of (.agg #[n_]) Tryz.underlying151
def xq:oG q 151 0 0:=qm
def Zm:eJ q 35:=eP Tryz.func35
def Q4:Tryz.prog.underlying 93=O (.slice 95):=by kernel_rfl
def Pt:eJ q 36:=eP Tryz.func36
def Zn:eJ q 37:=eP Tryz.func37
def yg:oG q 98 5 8:=qm
def NK:oG q 98 6 9:=qm
def Vf:H1 q 108 [n_,n_,n_]:=⟨(.agg #[n_,n_,n_]),λ_=>by kernel_rfl,rfl⟩
def zx:oG q 98 4 7:=qm
def xt:nT q 94 aK 1:=xg
def Vg:Tryz.prog.underlying 94=O (.slice 108):=by kernel_rfl
def uT:oG q 108 0 0:=qm
def Ee:oG q 108 1 1:=qm
def De:nT q 108 aA 3:=xg
def EN:Cg q 94 108 3:=Iz
def Pv:Gd q 108 3:=Hy<|.agg #[n_,n_,n_]
def Zo:yP q 94 108 3 72:=yP.of<|.agg #[n_,n_,n_]
def ME:Gd q 183 2:=Hy<|.agg #[(.bool aK),e_]
def Yh:eJ q 203:=eP Tryz.func203
def Kk:zU q 183 [(0,1),(1,1)] #[(.bool aK),e_]:=zU.of (.agg #[(.bool aK),e_]) Tryz.underlying183
def q8:nT q 183 aA 2:=xg
def Ef:oG q 183 0 0:=qm
def vT:oG q 183 1 1:=qm
def q9:oG q 108 2 2:=qm
def Vh:yP q 71 39 2 32:=yP.of<|.agg #[(.string ⟨#[]⟩),(.string ⟨#[]⟩)]
def Q5:oG q 98 7 10:=qm
def Q6:oG q 98 8 11:=qm
def Zp:nT q 96 aK 1:=xg
def abn:Cg q 96 183 2:=Iz
def adv:yP q 96 183 2 16:=yP.of<|.agg #[(.bool aK),e_]
def abo:eJ q 29:=eP Tryz.func29
def abp:eJ q 12:=eP Tryz.func12
def Zq:eJ q 30:=eP Tryz.func30
def adz:yP q 30 66 5 56:=yP.of<|.agg #[(.string ⟨#[]⟩),(.string ⟨#[]⟩),e_,e_,e_]
def abq:eJ q 31:=eP Tryz.func31
def adA:zU q 79 [(0,1),(1,1),(2,1)] #[e_,e_,e_]:=zU.of (.agg #[e_,e_,e_]) Tryz.underlying79
def wh:Cg q 76 79 3:=Iz
def abr:Gd q 79 3:=Hy<|.agg #[e_,e_,e_]
def adB:yP q 76 79 3 24:=yP.of<|.agg #[e_,e_,e_]
def abt:Tryz.prog.underlying 76=O (.slice 79):=by kernel_rfl
def wi:nT q 79 aA 3:=xg
def Yi:eJ q 144:=eP Tryz.func144
def Vi:eJ q 238:=eP Tryz.func238
def Sk:eJ q 145:=eP Tryz.func145
def Vj:oG q 79 0 0:=qm
def abv:eJ q 83:=eP Tryz.func83
def Q7:oG q 79 1 1:=qm
def Q8:oG q 79 2 2:=qm
def Vk:zU q 41 [(0,2),(2,2),(4,1)] #[(.string ⟨#[]⟩),(.string ⟨#[]⟩),(.string ⟨#[]⟩),(.string ⟨#[]⟩),(.bool aK)]:=zU.of (.agg #[(.string ⟨#[]⟩),(.string ⟨#[]⟩),(.string ⟨#[]⟩),(.string ⟨#[]⟩),(.bool aK)]) Tryz.underlying41
def Bp:Cg q 33 41 5:=Iz
def Q9:Gd q 41 5:=Hy<|.agg #[(.string ⟨#[]⟩),(.string ⟨#[]⟩),(.string ⟨#[]⟩),(.string ⟨#[]⟩),(.bool aK)]
def Pw:yP q 33 41 5 72:=yP.of<|.agg #[(.string ⟨#[]⟩),(.string ⟨#[]⟩),(.string ⟨#[]⟩),(.string ⟨#[]⟩),(.bool aK)]
def rI:oG q 41 0 0:=qm
def tO:oG q 41 1 2:=qm
def yh:nT q 41 aA 5:=xg
def Vl:eJ q 25:=eP Tryz.func25
def Xb:eJ q 24:=eP Tryz.func24
def Zr:eJ q 14:=eP Tryz.func14
def Cz:Tryz.prog.underlying 33=O (.slice 41):=by kernel_rfl
def Xc:eJ q 13:=eP Tryz.func13
def Vm:eJ q 206:=eP Tryz.func206
def Vn:eJ q 205:=eP Tryz.func205
def Yj:eJ q 147:=eP Tryz.func147
def Yk:eJ q 148:=eP Tryz.func148
def Fc:eJ q 213:=eP Tryz.func213
def Yl:eJ q 160:=eP Tryz.func160
def MF:eJ q 218:=eP Tryz.func218
def Ym:eJ q 161:=eP Tryz.func161
def Yn:zU q 272 [(0,1),(1,1)] #[e_,e_]:=zU.of (.agg #[e_,e_]) Tryz.underlying272
def Fe:Tryz.prog.underlying 230=O (.slice 272):=by kernel_rfl
def vo:Cg q 230 272 2:=Iz
def xu:oG q 272 1 1:=qm
def xv:oG q 272 0 0:=qm
def Sm:nT q 272 aA 2:=xg
def Yo:Gd q 272 2:=Hy<|.agg #[e_,e_]
def Vo:yP q 230 272 2 16:=yP.of<|.agg #[e_,e_]
def Yp:eJ q 220:=eP Tryz.func220
def Sn:eJ q 163:=eP Tryz.func163
def Yq:zU q 233 [(0,1),(1,1),(2,1)] #[e_,e_,n_]:=zU.of (.agg #[e_,e_,n_]) Tryz.underlying233
def Eg:oG q 233 2 2:=qm
def MG:nT q 230 aK 1:=xg
def Yr:Tryz.prog.underlying 228=O (.slice 233):=by kernel_rfl
def GN:Cg q 228 233 3:=Iz
def JD:oG q 233 1 1:=qm
def So:oG q 233 0 0:=qm
def Zs:WL q 272 aI:=⟨λa a a b c a d e=>by
  obtain⟨_,_,rfl,rfl,rfl⟩:=d
  obtain⟨_,_,rfl,rfl,rfl⟩:=e
  refine(jm 9999 Tryz.underlying272<|CV.cons I (cY n rfl _) (cY n rfl _) (me FI _ _ a)<|CV.cons I (cY n rfl _) (cY n rfl _) (me FI _ _ a) CV.nil).trans ?_
  congr 1
  cases b;cases c;unfold jt
  rw[iK]
  simp,by kernel_rfl⟩
def abH:nT q 233 aA 3:=xg
def abI:Gd q 233 3:=Hy<|.agg #[e_,e_,n_]
def abJ:yP q 228 233 3 40:=yP.of<|.agg #[e_,e_,n_]
def Ys:eJ q 162:=eP Tryz.func162
def Yt:eJ q 164:=eP Tryz.func164
def Vp:eJ q 100:=eP Tryz.func100
def Yu:eJ q 152:=eP Tryz.func152
def Px:eJ q 154:=eP Tryz.func154
def Yv:eJ q 212:=eP Tryz.func212
def Ts:eJ q 56:=eP Tryz.func56
def Yw:eJ q 215:=eP Tryz.func215
def Xd:eJ q 54:=eP Tryz.func54
def Vq:eJ q 242:=eP Tryz.func242
def abR:eJ q 53:=eP Tryz.func53
def Vr:yP q 165 4 1 1:=yP.of<|.bool aK
def Se:OU q 4 (aK:Bool):=OU.of (.bool aK)<|λa=>rfl
def Ff:Cg q 165 4 1:=Iz
def abS:eJ q 52:=eP Tryz.func52
def Zt:eJ q 15:=eP Tryz.func15
def Zu:eJ q 40:=eP Tryz.func40
def abT:zU q 157 [(0,1),(1,1),(2,1)] #[e_,e_,e_]:=zU.of (.agg #[e_,e_,e_]) Tryz.underlying157
def Yx:Gd q 157 3:=Hy<|.agg #[e_,e_,e_]
def Yy:nT q 157 aA 3:=xg
def Yz:Tryz.prog.underlying 154=O (.slice 157):=by kernel_rfl
def ID:Cg q 154 157 3:=Iz
def Sp:oG q 157 0 0:=qm
def Vs:yP q 154 157 3 24:=yP.of<|.agg #[e_,e_,e_]
def Sq:oG q 157 1 1:=qm
def Sr:oG q 157 2 2:=qm
def Xe:eJ q 51:=eP Tryz.func51
def Xf:eJ q 26:=eP Tryz.func26
def abU:eJ q 17:=eP Tryz.func17
def abV:eJ q 16:=eP Tryz.func16
def abW:WL q 41 k:=⟨λa a a b c a d e=>by
  obtain⟨_,_,rfl,⟨_,_,rfl,rfl,rfl⟩,⟨_,_,rfl,⟨_,_,rfl,rfl,rfl⟩,rfl⟩⟩:=d
  obtain⟨_,_,rfl,⟨_,_,rfl,rfl,rfl⟩,⟨_,_,rfl,⟨_,_,rfl,rfl,rfl⟩,rfl⟩⟩:=e
  refine(jm 9999 Tryz.underlying41<|CV.cons I (vu fF rfl _) (vu fF rfl _) (jm 9998 Tryz.underlying38<|CV.cons I (cY mO rfl _) (cY mO rfl _) (tK EL _ _ a)<|CV.cons I (cY mO rfl _) (cY mO rfl _) (tK EL _ _ a) CV.nil)<|CV.cons I (vu fF rfl _) (vu fF rfl _) (jm 9998 Tryz.underlying38<|CV.cons I (cY mO rfl _) (cY mO rfl _) (tK EL _ _ a)<|CV.cons I (cY mO rfl _) (cY mO rfl _) (tK EL _ _ a) CV.nil)<|CV.cons I (cY Cn rfl _) (cY Cn rfl _) (v9 J8 _ _ a) CV.nil).trans ?_
  congr 1
  obtain⟨⟨_,_⟩,⟨_,_⟩,_⟩:=b;obtain⟨⟨_,_⟩,⟨_,_⟩,_⟩:=c;unfold Be yb
  rw[iK]
  simp,by kernel_rfl⟩
def ST:eJ q 6:=eP Tryz.func6
def Xg:eJ q 42:=eP Tryz.func42
def abX:eJ q 18:=eP Tryz.func18
def Zv:LR q 88 39 3 bX Int (0:Int):=⟨by kernel_rfl,X4,Gs e_<|λa=>⟨_,rfl,rfl⟩⟩
def abY:eJ q 43:=eP Tryz.func43
def Vt:L_ q 103 2 3 1:=⟨by kernel_rfl,λ_=>by kernel_rfl⟩
def NL:IR q 103 1 ((.agg #[e_,e_]):F).cells:=IR.of Vt
def Zw:C1 q 103 bU:=C1.ade (e:=3) (by kernel_rfl) FI n (λa=>a.e0) (λa=>a.e1) (λd e b c=>by cases d;cases e;simp only at b c;subst b;subst c;rfl)<|λa=>rfl
def Xh:LR q 90 103 4 bU Bool (aK:Bool):=⟨by kernel_rfl,Zw,Gs (.bool aK)<|λa=>⟨_,rfl,rfl⟩⟩
def Vu:Gd q 105 7:=Hy<|.agg #[e_,e_,e_,e_,e_,e_,e_]
def YA:zU q 105 [(0,1),(1,1),(2,1),(3,2),(5,2)] #[e_,e_,e_,e_,e_,e_,e_]:=zU.of (.agg #[e_,e_,e_,e_,e_,e_,e_]) Tryz.underlying105
def MH:nT q 105 aA 7:=xg
def Ra:Gd q 64 2:=Hy<|.agg #[e_,e_]
def Zx:zU q 64 [(0,1),(1,1)] #[e_,e_]:=zU.of (.agg #[e_,e_]) Tryz.underlying64
def abZ:eJ q 90:=eP Tryz.func90
def Eh:oG q 105 3 3:=qm
def ab0:eJ q 91:=eP Tryz.func91
def Ss:oG q 105 4 5:=qm
def ab1:eJ q 44:=eP Tryz.func44
def NM:PP q 105 2 3 2:=⟨λ_ _=>by kernel_rfl⟩
def ab2:Tryz.prog.underlying 90=O (.map 103 4):=by kernel_rfl
def YB:Gd q 103 2:=Hy<|.agg #[e_,e_]
def YC:nT q 103 aA 2:=xg
def St:Id q 103 0 0:=Vt.at (k:=⟨0,I⟩) rfl
def Su:Id q 103 1 1:=Vt.at (k:=⟨1,I⟩) rfl
def Sv:Cg q 161 71 1:=Iz
def ab3:Gd q 71 1:=Hy<|.slice aQ 0 0
def YD:Tryz.prog.underlying 161=O (.slice 71):=by kernel_rfl
def adV:OU q 39 (⟨⟨[]⟩,⟨[]⟩⟩:bX):=OU.of (.agg #[(.string ⟨#[]⟩),(.string ⟨#[]⟩)])<|λa=>GH a
def ab4:eJ q 46:=eP Tryz.func46
def ab5:nT q 88 aK 1:=xg
def ab7:eJ q 45:=eP Tryz.func45
def ab8:eJ q 19:=eP Tryz.func19
def ab9:eJ q 20:=eP Tryz.func20
def aca:zU q 113 [(0,4),(4,1),(5,1),(6,1),(7,1)] #[n_,n_,n_,n_,n_,n_,n_,n_]:=zU.of (.agg #[n_,n_,n_,n_,n_,n_,n_,n_]) Tryz.underlying113
def Bq:oG q 113 1 4:=qm
def vU:oG q 113 2 5:=qm
def xw:oG q 113 4 7:=qm
def re:oG q 113 3 6:=qm
def YE:zU q 108 [(0,1),(1,1),(2,1)] #[n_,n_,n_]:=zU.of (.agg #[n_,n_,n_]) Tryz.underlying108
def Sw:eJ q 166:=eP Tryz.func166
def YF:eJ q 167:=eP Tryz.func167
def Bs:oG q 113 0 0:=qm
def YG:eJ q 222:=eP Tryz.func222
def acg:eJ q 22:=eP Tryz.func22
def YH:eJ q 241:=eP Tryz.func241
def YI:eJ q 217:=eP Tryz.func217
def YJ:eJ q 159:=eP Tryz.func159
def Zy:eJ q 97:=eP Tryz.func97
def aci:eJ q 50:=eP Tryz.func50
def acj:eJ q 21:=eP Tryz.func21
def Vv:Cg q 125 33 1:=Iz
def ad4:Gd q 33 1:=Hy<|.slice aQ 0 0
def YK:Tryz.prog.underlying 125=O (.slice 33):=by kernel_rfl
def ack:nT q 33 aK 1:=xg
def ad5:OU q 41 (⟨⟨⟨[]⟩,⟨[]⟩⟩,⟨⟨[]⟩,⟨[]⟩⟩,aK⟩:k):=OU.of (.agg #[(.string ⟨#[]⟩),(.string ⟨#[]⟩),(.string ⟨#[]⟩),(.string ⟨#[]⟩),(.bool aK)])<|λa=>HJ a
def ad9:zU q 66 [(0,1),(1,1),(2,1),(3,2)] #[(.string ⟨#[]⟩),(.string ⟨#[]⟩),e_,e_,e_]:=zU.of (.agg #[(.string ⟨#[]⟩),(.string ⟨#[]⟩),e_,e_,e_]) Tryz.underlying66
def aea:zU q 32 [(0,1),(1,1),(2,1),(3,1)] #[n_,n_,n_,n_]:=zU.of (.agg #[n_,n_,n_,n_]) Tryz.underlying32
def aeb:Gd q 32 4:=Hy<|.agg #[n_,n_,n_,n_]
def Py:Tryz.prog.underlying 132=O (.slice 185):=by kernel_rfl
def Zz:nT q 45 aK 1:=xg
def Pz:Cg q 132 185 5:=Iz
def Fg:nT q 185 aA 5:=xg
def Vw:Gd q 185 5:=Hy<|.agg #[(.bool aK),(.bool aK),e_,e_,e_]
def Bt:oG q 185 0 0:=qm
def JE:oG q 185 2 3:=qm
def JF:oG q 185 3 4:=qm
def Ei:oG q 185 1 1:=qm
def ZA:WL q 183 gL:=⟨λa a a b c a d e=>by
  obtain⟨_,_,rfl,rfl,rfl⟩:=d
  obtain⟨_,_,rfl,rfl,rfl⟩:=e
  refine(jm 9999 Tryz.underlying183<|CV.cons I (cY Cn rfl _) (cY Cn rfl _) (v9 J8 _ _ a)<|CV.cons I (cY n rfl _) (cY n rfl _) (me FI _ _ a) CV.nil).trans ?_
  congr 1
  cases b;cases c;unfold Bg
  rw[iK]
  simp,by kernel_rfl⟩
def Vx:eJ q 114:=eP Tryz.func114
def ZB:WL q 185 rm:=⟨λa a a b c a d e=>by
  obtain⟨_,_,rfl,rfl,⟨_,_,rfl,⟨_,_,rfl,rfl,rfl⟩,⟨_,_,rfl,rfl,rfl⟩⟩⟩:=d
  obtain⟨_,_,rfl,rfl,⟨_,_,rfl,⟨_,_,rfl,rfl,rfl⟩,⟨_,_,rfl,rfl,rfl⟩⟩⟩:=e
  refine(jm 9999 Tryz.underlying185<|CV.cons I (cY Cn rfl _) (cY Cn rfl _) (v9 J8 _ _ a)<|CV.cons I (vu q8 rfl _) (vu q8 rfl _) (jm 9998 Tryz.underlying182<|CV.cons I (cY Cn rfl _) (cY Cn rfl _) (v9 J8 _ _ a)<|CV.cons I (cY n rfl _) (cY n rfl _) (me FI _ _ a) CV.nil)<|CV.cons I (cY n rfl _) (cY n rfl _) (me FI _ _ a)<|CV.cons I (cY n rfl _) (cY n rfl _) (me FI _ _ a) CV.nil).trans ?_
  congr 1
  obtain⟨_,⟨_,_⟩,_,_⟩:=b;obtain⟨_,⟨_,_⟩,_,_⟩:=c;unfold Ab Bg
  rw[iK]
  simp,by kernel_rfl⟩
def aco:H1 q 188 [(.map aQ)]:=⟨(.map aQ),λ_=>by kernel_rfl,rfl⟩
def PA:nT q 188 aK 1:=xg
def YL:eJ q 116:=eP Tryz.func116
def Sx:LR q 188 3 4 Int Bool (aK:Bool):=⟨by kernel_rfl,C1.int FI,Gs (.bool aK)<|λa=>⟨_,rfl,rfl⟩⟩
def aed:H1 q 82 [(.pointer aQ)]:=⟨(.pointer aQ),λ_=>by kernel_rfl,rfl⟩
def Vy:nT q 82 aK 1:=xg
def YM:eJ q 117:=eP Tryz.func117
def aee:Tryz.prog.underlying 96=O (.slice 183):=by kernel_rfl
def uU(E:aT)(V:aG HP)(res:aG k×Int)(v:F)(w:aT):Prop:=∃a:F,v = .tuple #[a,e res.2]/\B E w ([own 41 a res.1]++V)
def iD(E:aT)(V:aG HP)(res:aG z)(v:F)(w:aT):Prop:=B E w<|[own 62 v res]++V
def rJ(E:aT)(V:aG HP)(res:aG Int)(v:F)(w:aT):Prop:=B E w<|[own 3 v res]++V
def sB(E:aT)(V:aG HP)(res:aG aB)(v:F)(w:aT):Prop:=B E w<|[own 263 v res]++V
def aF(E:aT)(V:aG HP)(res:Int)(v:F)(w:aT):Prop:=v= e res/\B E w V
def aO(E:aT)(V:aG HP)(res:Bool)(v:F)(w:aT):Prop:=v= vb res/\B E w V
def fJ(E:aT)(V:aG HP)(res:Int×Bool)(v:F)(w:aT):Prop:=v = .tuple #[e res.1,vb res.2]/\B E w V
def yi(E:aT)(V:aG HP)(res:aG cU)(v:F)(w:aT):Prop:=B E w<|[own 9 v res]++V
def je(E:aT)(V:aG HP)(b0:Nat)(e_ h:F)(c f:F)(g d a:F)(b:aG bI)(j:aG bL)(i:F)(res:Int)(v:F)(w:aT):Prop:=v= e res/\B E w ([bc 113 b0 [e_,h,c,f,g,d,a,i],own 108 a b,kM bP b j aQ]++V)
def pQ(E:aT)(V:aG HP)(res:aG aI)(v:F)(w:aT):Prop:=B E w<|[own 272 v res]++V
def dB(E:aT)(V:aG HP)(l:F)(res:aG aC)(v:F)(w:aT):Prop:=v = .tuple #[]/\B E w ([own 79 l res]++V)
def qH(E:aT)(V:aG HP)(res:aG k)(v:F)(w:aT):Prop:=B E w<|[own 41 v res]++V
def sC(E:aT)(V:aG HP)(res:aG k×Int)(v:F)(w:aT):Prop:=∃a:F,v = .tuple #[a,e res.2]/\B E w ([Y a res.1]++V)
def nA(E:aT)(V:aG HP)(b0:Nat)(e_ g:F)(a c:F)(f b:F)(d h:F)(l k:F)(j i:F)(res:Int)(v:F)(w:aT):Prop:=v= e res/\B E w ([bc 98 b0 [e_,g,a,c,f,b,d,h,l,k,j,i]]++V)
def vV(E:aT)(V:aG HP)(res:aP (aG (aG z)×aG z×aG cM×aG dD×aG (aG aB)×aG aH×aG (aG Int)×aG bL×aG Int×aG Int×aG Int×aG gL)×Int)(v:F)(w:aT):Prop:=LP res.1 (v = .tuple #[(.pointer aQ),e res.2]/\B E w V) (λy=>∃(o:Nat)(a c:F)(d j:F)(f g:F)(b i:F)(k l:F)(m n:F),v = .tuple #[h o 0,e res.2]/\B E w ([bc 98 o [a,c,d,j,f,g,b,i,k,l,m,n],Y a y.1,Y c y.2.1,Y d y.2.2.1,Y j y.2.2.2.1,own 100 f y.2.2.2.2.1,Y g y.2.2.2.2.2.1,Y b y.2.2.2.2.2.2.1,own 108 i y.2.2.2.2.2.2.2.1,Y k y.2.2.2.2.2.2.2.2.1,Y l y.2.2.2.2.2.2.2.2.2.1,own 3 m y.2.2.2.2.2.2.2.2.2.2.1,own 183 n y.2.2.2.2.2.2.2.2.2.2.2]++V))
def sP(E:aT)(V:aG HP)(res:aG Int)(v:F)(w:aT):Prop:=B E w<|[Y v res]++V
def Fh(E:aT)(V:aG HP)(res:y6)(v:F)(w:aT):Prop:=B E w<|[Y v res]++V
def vq(E:aT)(V:aG HP)(res:aG bX)(v:F)(w:aT):Prop:=B E w<|[own 39 v res]++V
def uV(E:aT)(V:aG HP)(res:z)(v:F)(w:aT):Prop:=B E w<|[Y v res]++V
def Df(E:aT)(V:aG HP)(res:bX)(v:F)(w:aT):Prop:=B E w<|[Y v res]++V
def uW(E:aT)(V:aG HP)(res:aG (aG z))(v:F)(w:aT):Prop:=B E w<|[own 28 v res]++V
def Ek(H:Type)(d:DataW H):Nat:=YtibjlncmnefhcaaGreatDoor.Rows.uptoBulk d
def Ky(H:Type)(d:List (DataW H)):Nat:=YtibjlncmnefhcaaGreatDoor.Rows.uptoBulkAll d
def gF:UB Ek Ky where
  str:=λa b=>by simp[Ek,YtibjlncmnefhcaaGreatDoor.Rows.uptoBulk]
  pos:=λa b=>by
    unfold Ek
    cases b with
    |lit c=>cases c <;> simp[YtibjlncmnefhcaaGreatDoor.Rows.uptoBulk]
    |nil=>simp[YtibjlncmnefhcaaGreatDoor.Rows.uptoBulk]
    |ptr b=>simp[YtibjlncmnefhcaaGreatDoor.Rows.uptoBulk]
    |slice d e=>simp[YtibjlncmnefhcaaGreatDoor.Rows.uptoBulk]
    |agg d=>simp[YtibjlncmnefhcaaGreatDoor.Rows.uptoBulk]
    |iface d b=>simp[YtibjlncmnefhcaaGreatDoor.Rows.uptoBulk]
    |map b=>simp[YtibjlncmnefhcaaGreatDoor.Rows.uptoBulk]
    |held b=>simp[YtibjlncmnefhcaaGreatDoor.Rows.uptoBulk]
  sl:=λa b b=>by simp[Ek,Ky,YtibjlncmnefhcaaGreatDoor.Rows.uptoBulk]
  ag:=λa c=>by simp[Ek,Ky,YtibjlncmnefhcaaGreatDoor.Rows.uptoBulk]
  nil:=λa=>by simp[Ky,YtibjlncmnefhcaaGreatDoor.Rows.uptoBulkAll]
  cons:=λa a c=>by simp[Ek,Ky,YtibjlncmnefhcaaGreatDoor.Rows.uptoBulkAll]
def WO:ko Ek Tryz.prog 9 cU:=Tx gF (by kernel_rfl)
def TA:ko Ek Tryz.prog 3 Int:=Tw gF (by kernel_rfl)
def acs:ko Ek Tryz.prog 247 dX:=kJ gF (λ(a:dX)=>(a.Name,a.Kind,a.bL)) (λa=>⟨a.1,a.2.1,a.2.2⟩) (λa=>rfl) Tryz.underlying247 (gm gF WO<|gm gF TA<|pf gF TA) (λa=>by simp only[FL];omega)
def acu:ko Ek Tryz.prog 190 (aG dX):=oE (e:=247) gF acs
def acv:ko Ek Tryz.prog 192 bD:=kJ gF (λ(a:bD)=>(a.Name,a.aZ)) (λa=>⟨a.1,a.2⟩) (λa=>rfl) Tryz.underlying192 (gm gF WO<|pf gF acu) (λa=>by simp only[wj];omega)
def aej:ko Ek Tryz.prog 22 (aG bD):=oE (e:=192) gF acv
def acw:ko Ek Tryz.prog 195 Part:=kJ gF (λ(a:Part)=>(a.Name,a.sJ)) (λa=>⟨a.1,a.2⟩) (λa=>rfl) Tryz.underlying195 (gm gF WO<|pf gF WO) (λa=>by simp only[NS];omega)
def aek:ko Ek Tryz.prog 23 (aG Part):=oE (e:=195) gF acw
def ael:ko Ek Tryz.prog 39 bX:=kJ gF (λ(a:bX)=>(a.Part,a.bX)) (λa=>⟨a.1,a.2⟩) (λa=>rfl) Tryz.underlying39 (gm gF WO<|pf gF WO) (λa=>by simp only[ZC];omega)
def aem:ko Ek Tryz.prog 71 (aG bX):=oE (e:=39) gF ael
def aen:ko Ek Tryz.prog 72 (aG cU):=oE (e:=9) gF WO
def aeo:ko Ek Tryz.prog 74 p4:=kJ gF (λ(a:p4)=>(a.Name,a.aZ,a.y5)) (λa=>⟨a.1,a.2.1,a.2.2⟩) (λa=>rfl) Tryz.underlying74 (gm gF WO<|gm gF aem<|pf gF aen) (λa=>by simp only[Kr];omega)
def aep:ko Ek Tryz.prog 24 (aG p4):=oE (e:=74) gF aeo
def aeq:ko Ek Tryz.prog 26 bV:=kJ gF (λ(a:bV)=>(a.gH,a.cD)) (λa=>⟨a.1,a.2⟩) (λa=>rfl) Tryz.underlying26 (gm gF aek<|pf gF aep) (λa=>by simp only[Bz];omega)
def aer:ko Ek Tryz.prog 62 z:=kJ gF (λ(a:z)=>(a.X0,a.Y0,a.X1,a.Y1)) (λa=>⟨a.1,a.2.1,a.2.2.1,a.2.2.2⟩) (λa=>rfl) Tryz.underlying62 (gm gF TA<|gm gF TA<|gm gF TA<|pf gF TA) (λa=>by simp only[Xl];omega)
def acx:ko Ek Tryz.prog 28 (aG z):=oE (e:=62) gF aer
def aes:ko Ek Tryz.prog 27 (aG<|aG z):=oE (e:=28) gF acx
def acy:ko Ek Tryz.prog 64 dP:=kJ gF (λ(a:dP)=>(a.X,a.Y)) (λa=>⟨a.1,a.2⟩) (λa=>rfl) Tryz.underlying64 (gm gF TA<|pf gF TA) (λa=>by simp only[VD];omega)
def op4:ko Ek Tryz.prog 4 Bool:=Rg gF (by kernel_rfl)
def acz:ko Ek Tryz.prog 121 cM:=kJ gF (λ(a:cM)=>(a.At,a.gK,a.dC,a.To,a.iE)) (λa=>⟨a.1,a.2.1,a.2.2.1,a.2.2.2.1,a.2.2.2.2⟩) (λa=>rfl) Tryz.underlying121 (gm gF acy<|gm gF TA<|gm gF TA<|gm gF TA<|pf gF op4) (λa=>by simp only[Xm];omega)
def aet:ko Ek Tryz.prog 29 (aG cM):=oE (e:=121) gF acz
def aeu:ko Ek Tryz.prog 66 dD:=kJ gF (λ(a:dD)=>(a.Part,a.bX,a.cR,a.At)) (λa=>⟨a.1,a.2.1,a.2.2.1,a.2.2.2⟩) (λa=>rfl) Tryz.underlying66 (gm gF WO<|gm gF WO<|gm gF TA<|pf gF acy) (λa=>by simp only[SB];omega)
def aev:ko Ek Tryz.prog 30 (aG dD):=oE (e:=66) gF aeu
def aew:ko Ek Tryz.prog 32 ir:=kJ gF (λ(a:ir)=>(a.aS,a.cZ,a.aX,a.cA)) (λa=>⟨a.1,a.2.1,a.2.2.1,a.2.2.2⟩) (λa=>rfl) Tryz.underlying32 (gm gF aes<|gm gF acx<|gm gF aet<|pf gF aev) (λa=>by simp only[VE];omega)
end Go.Gk
namespace Go.Proofs
open Go.Shelf Go.RowKit Go.Lib Go.Sort
theorem layq{α:Type _}{a b:α}(h:a=b:=by kernel_rfl):some a=some b:=congrArg some h
def Tryz.lay189_ren : Go.Shelf.Ren := ⟨fun|6=>189|15=>60|14=>229|28=>112|29=>113|20=>248|21=>249|22=>250|23=>251|24=>252|25=>253|26=>254|27=>255|46=>269|47=>171|48=>172|49=>270|50=>271|57=>276|n=>n,fun|22=>28|24=>62|25=>143|3=>3|39=>129|0=>0|53=>179|55=>181|4=>4|46=>173|45=>172|50=>144|5=>5|9=>9|66=>238|70=>242|76=>274|77=>275|n=>n,fun|n=>n⟩
section open Tryz
theorem Tryz.lay189:Go.Proofs.SlLaysF0.n6 Tryz.prog Tryz.lay189_ren:=⟨by kernel_rfl,⟨f189.name,by decide,func189.trans layq⟩,⟨f229.name,by decide,func229.trans layq⟩,func60.trans layq,⟨f248.name,by decide,func248.trans layq⟩,⟨f249.name,by decide,func249.trans layq⟩,⟨f250.name,by decide,func250.trans layq⟩,⟨f251.name,by decide,func251.trans layq⟩,⟨f252.name,by decide,func252.trans layq⟩,⟨f253.name,by decide,func253.trans layq⟩,⟨f254.name,by decide,func254.trans layq⟩,⟨f255.name,by decide,func255.trans layq⟩,func112.trans layq,func113.trans layq,⟨f269.name,by decide,func269.trans layq⟩,func171.trans layq,func172.trans layq,⟨f270.name,by decide,func270.trans layq⟩,⟨f271.name,by decide,func271.trans layq⟩,⟨f276.name,by decide,func276.trans layq⟩,underlying0,isAgg0,sizeOf0,zeroValue0,underlying3,isAgg3,sizeOf3,zeroValue3,underlying4,isAgg4,sizeOf4,zeroValue4,underlying5,isAgg5,sizeOf5,zeroValue5,underlying9,isAgg9,sizeOf9,zeroValue9,underlying28,isAgg28,sizeOf28,zeroValue28,underlying143,isAgg143,sizeOf143,zeroValue143,underlying129,isAgg129,sizeOf129,zeroValue129,underlying172,isAgg172,sizeOf172,zeroValue172,underlying173,isAgg173,sizeOf173,zeroValue173,underlying144,isAgg144,sizeOf144,zeroValue144,underlying179,isAgg179,sizeOf179,zeroValue179,underlying181,isAgg181,sizeOf181,zeroValue181,underlying238,isAgg238,sizeOf238,zeroValue238,underlying242,isAgg242,sizeOf242,zeroValue242,underlying274,isAgg274,sizeOf274,zeroValue274,underlying275,isAgg275,sizeOf275,zeroValue275⟩
end
def Tryz.lay191_ren : Go.Shelf.Ren := ⟨fun|5=>191|8=>60|7=>230|19=>112|20=>113|10=>256|11=>257|12=>258|13=>259|14=>260|15=>261|16=>262|17=>263|18=>264|30=>272|31=>171|32=>172|33=>273|34=>274|35=>83|40=>277|n=>n,fun|23=>95|25=>3|3=>3|32=>129|22=>95|0=>0|44=>179|46=>181|4=>4|36=>173|35=>172|41=>144|5=>5|9=>9|53=>238|57=>242|63=>274|64=>275|n=>n,fun|n=>n⟩
section open Tryz
theorem Tryz.lay191:Go.Proofs.SlLaysM.n5 Tryz.prog Tryz.lay191_ren:=⟨by kernel_rfl,⟨f191.name,by decide,func191.trans layq⟩,⟨f230.name,by decide,func230.trans layq⟩,func60.trans layq,⟨f256.name,by decide,func256.trans layq⟩,⟨f257.name,by decide,func257.trans layq⟩,⟨f258.name,by decide,func258.trans layq⟩,⟨f259.name,by decide,func259.trans layq⟩,⟨f260.name,by decide,func260.trans layq⟩,⟨f261.name,by decide,func261.trans layq⟩,⟨f262.name,by decide,func262.trans layq⟩,⟨f263.name,by decide,func263.trans layq⟩,⟨f264.name,by decide,func264.trans layq⟩,func112.trans layq,func113.trans layq,⟨f272.name,by decide,func272.trans layq⟩,func171.trans layq,func172.trans layq,⟨f273.name,by decide,func273.trans layq⟩,⟨f274.name,by decide,func274.trans layq⟩,⟨f83.name,by decide,func83.trans layq⟩,⟨f277.name,by decide,func277.trans layq⟩,underlying0,isAgg0,sizeOf0,zeroValue0,underlying3,isAgg3,sizeOf3,zeroValue3,underlying4,isAgg4,sizeOf4,zeroValue4,underlying5,isAgg5,sizeOf5,zeroValue5,underlying9,isAgg9,sizeOf9,zeroValue9,underlying95,isAgg95,sizeOf95,zeroValue95,underlying95,isAgg95,sizeOf95,zeroValue95,underlying3,isAgg3,sizeOf3,zeroValue3,underlying129,isAgg129,sizeOf129,zeroValue129,underlying172,isAgg172,sizeOf172,zeroValue172,underlying173,isAgg173,sizeOf173,zeroValue173,underlying144,isAgg144,sizeOf144,zeroValue144,underlying179,isAgg179,sizeOf179,zeroValue179,underlying181,isAgg181,sizeOf181,zeroValue181,underlying238,isAgg238,sizeOf238,zeroValue238,underlying242,isAgg242,sizeOf242,zeroValue242,underlying274,isAgg274,sizeOf274,zeroValue274,underlying275,isAgg275,sizeOf275,zeroValue275⟩
end
def Tryz.lay24_ren : Go.Shelf.Ren := ⟨fun|6=>24|15=>60|14=>59|28=>112|29=>113|20=>104|21=>105|22=>106|23=>107|24=>108|25=>109|26=>110|27=>111|46=>170|47=>171|48=>172|49=>173|50=>174|57=>223|n=>n,fun|22=>33|24=>41|25=>59|3=>3|39=>129|0=>0|53=>179|55=>181|4=>4|46=>173|45=>172|50=>144|5=>5|9=>9|66=>238|70=>242|76=>274|77=>275|n=>n,fun|n=>n⟩
section open Tryz
theorem Tryz.lay24:Go.Proofs.SlLaysF0.n6 Tryz.prog Tryz.lay24_ren:=⟨by kernel_rfl,⟨f24.name,by decide,func24.trans layq⟩,⟨f59.name,by decide,func59.trans layq⟩,func60.trans layq,⟨f104.name,by decide,func104.trans layq⟩,⟨f105.name,by decide,func105.trans layq⟩,⟨f106.name,by decide,func106.trans layq⟩,⟨f107.name,by decide,func107.trans layq⟩,⟨f108.name,by decide,func108.trans layq⟩,⟨f109.name,by decide,func109.trans layq⟩,⟨f110.name,by decide,func110.trans layq⟩,⟨f111.name,by decide,func111.trans layq⟩,func112.trans layq,func113.trans layq,⟨f170.name,by decide,func170.trans layq⟩,func171.trans layq,func172.trans layq,⟨f173.name,by decide,func173.trans layq⟩,⟨f174.name,by decide,func174.trans layq⟩,⟨f223.name,by decide,func223.trans layq⟩,underlying0,isAgg0,sizeOf0,zeroValue0,underlying3,isAgg3,sizeOf3,zeroValue3,underlying4,isAgg4,sizeOf4,zeroValue4,underlying5,isAgg5,sizeOf5,zeroValue5,underlying9,isAgg9,sizeOf9,zeroValue9,underlying33,isAgg33,sizeOf33,zeroValue33,underlying59,isAgg59,sizeOf59,zeroValue59,underlying129,isAgg129,sizeOf129,zeroValue129,underlying172,isAgg172,sizeOf172,zeroValue172,underlying173,isAgg173,sizeOf173,zeroValue173,underlying144,isAgg144,sizeOf144,zeroValue144,underlying179,isAgg179,sizeOf179,zeroValue179,underlying181,isAgg181,sizeOf181,zeroValue181,underlying238,isAgg238,sizeOf238,zeroValue238,underlying242,isAgg242,sizeOf242,zeroValue242,underlying274,isAgg274,sizeOf274,zeroValue274,underlying275,isAgg275,sizeOf275,zeroValue275⟩
end
end Go.Proofs
namespace Go.Gk
open Go IntKind Go.Proofs
variable (N:Nat){E w:aT}{i0 i1 i2:Nat}{g p2 p3 res:Int}{l r k:F}{V:aG HP}
def tk{a:cU}(o:B E w V)(j:k9 N a g=O res):c_ 224 [str a,(.int .u8 g)] w<|aF E V res:=by
 unfold k9 at j;refine cI Tryz.func224 b b<|c ?_;refine O0 (e<|Lib.indexByte a.eI (mr g).toUInt8) b [str a,(.int .u8 g)] b (adf a g w)<|c ?_;exact f j▸bH ⟨rfl,o.drop 0⟩
def rL{a:cU}(o:B E w V)(j:iM N a g=O res):c_ 176 [str a,(.int .u8 g)] w<|aF E V res:=by
 unfold iM at j;refine cI Tryz.func176 b b<|c ?_;refine i j λd d j=>IN XY (tk N (a:=a) (g:=g) o d) λw o=>c ?_;exact f j▸bH ⟨rfl,o.drop 0⟩
def rf{a:cU}{res:Bool}(h:B E w V)(o:jO N a=O res):c_ 118 [str a] w<|aO E V res:=by
 unfold jO at o;refine cI Tryz.func118 b b<|c ?_;refine t3 a EL<|gV 0<|cJ<|md E V (λ(n:Unit)=>[]) (λ_=>[(0,str a)]) (λk _=>[(6,e (Z a.eI)),(7,e k)]) (λp=>j3 q 49 Tryz.f118 (aO E V p) .ret) o ?_ ?_ ?_ ?_;exact h.sp 0 [];rintro g k n g _ w g⟨m,rfl,h⟩o;refine c ?_;refine i o λg j o=>HE a (k:Int) g b b b EL j<|d ?_;refine i4<|i o λl j o=>dz (λ(l:Bool)=>SH E V [(0,str a),(6,e (Z a.eI)),(7,e k),(39,vb l)] []) l ?_ ?_;refine b_<|d ?_;refine dq (.int .u8 (g.toNat:Int)) b b eL<|dq (vb<|kE<|(g.toNat:Int)>90) b b (hB .gtr)<|d ?_;refine dq (.int .u8 (g.toNat:Int)) b b eL<|dq (vb<|kE<|(g.toNat:Int)<97) b b (hB .lss)<|dq (vb<|kE<|(g.toNat:Int)<97) b b eL<|dv (.int .u8 (g.toNat:Int)) b b eL<|dv (vb<|kE<|(g.toNat:Int)>122) b b (hB .gtr)<|dq (vb<|kE ((g.toNat:Int)<97)||kE ((g.toNat:Int)>122)) b b ql<|d ?_;refine dq (.int .u8 (g.toNat:Int)) b b eL<|dq (vb<|kE<|(g.toNat:Int)<48) b b (hB .lss)<|dq (vb<|kE<|(g.toNat:Int)<48) b b eL<|dv (.int .u8 (g.toNat:Int)) b b eL<|dv (vb<|kE<|(g.toNat:Int)>57) b b (hB .gtr)<|dq (vb<|kE ((g.toNat:Int)<48)||kE ((g.toNat:Int)>57)) b b ql<|d ?_;refine dU j (λk j=>?_) λk j=>?_;refine d ?_;refine i j λk k j=>IN U1 (rL N (a:=⟨[95,43,45,35]⟩) (g:=(g.toNat:Int)) h k) λw h=>d ?_;exact J<|f j▸⟨rfl,h.sp 0 []⟩;refine d ?_;exact J<|f j▸⟨rfl,h.sp 0 []⟩;rintro _ w⟨m,rfl,h⟩;refine bE<|u o (λo=>?_) λo=>?_;refine c ?_;exact f o▸⟨rfl,bH ⟨rfl,h.drop 0⟩⟩;refine dl<|cP<|bE<|b_<|d ?_;exact J<|f o▸⟨rfl,h.sp 0 []⟩;intro p g w o g;exact dx<|f o▸g;rintro n _ w o⟨m,rfl,h⟩;refine c ?_;refine t3 a EL<|d ?_;refine dq (str a) rfl rfl eL<|g7 aA (kE<|(Z a.eI:Int)>=1) (e (Z a.eI)) rfl rfl rfl (WU (s:=a) rfl (by exact z_ (str a)) EL)<|sg ?_;exact cJ<|dw<|f o▸bH ⟨rfl,h.drop 0⟩
def Ae{a g:dX}{res:Bool}(j:B E w V)(c:eo V i0 l a)(h1:eF V i1 r g)(e:iZ N a g=O res):c_ 178 [l,r] w<|aO E V res:=by
 unfold iZ at e;refine cI Tryz.func178 b b ?_;have j:=(j.dup (i0+0) c).xS (i:=i1+1) h1;refine IT<|eh 1 l j b λc w j=>?_;refine mj aK<|i4<|i e λh c e=>dz (λ(h:Bool)=>SH E V [(3,vb h)] []) h ?_ ?_;refine b_<|fq 1 j b xl mA λh j=>eY g.bL 0 j n<|d ?_;refine dU c (λh c=>?_) λh c=>?_;refine p b xl<|BY 1 j b mA n<|fq 2 j b xl mA λh j=>eY g.bL 0 j n<|d ?_;refine dU c (λh c=>?_) λh c=>?_;refine p b Bj<|BY 2 j b pO n<|fq 3 j b Bj pO λh j=>eY g.Kind 0 j n<|d ?_;exact J<|f c▸⟨rfl,j.sp 6 []⟩;refine d ?_;exact J<|f c▸⟨rfl,j.sp 5 []⟩;refine d ?_;exact nt (b:=aK) (v:=vb aK) zt b b b<|mj aK<|J<|f c▸⟨rfl,j.sp 4 []⟩;rintro _ w⟨c,rfl,j⟩;exact bE<|dw<|f e▸bH ⟨rfl,j.drop 0⟩
def xx{a:aG dX}{g:dX->aP Bool}(o:B E w V)(k:eo V i0 l a)(h1:R3 q E V r g (λ(h:Bool)=>Value.bool h))(j:oz N a g=O res):c_ 225 [l,r] w<|aF E V res:=by
 unfold oz at j;refine cI Tryz.func225 b b ?_;have o:=o.dup (i0+0) k;refine c ?_;refine IS 0 a o Cm<|gV 0<|cJ<|md E V (λ(k:Unit)=>[Y l a]) (λ_=>[]) (λm _=>[(0,l),(1,r),(7,e (Z a)),(8,e m)]) (λh=>j3 q 19 Tryz.f225 (aF E V h) .ret) j ?_ ?_ ?_ ?_;exact o.sp 1 [0];rintro n m k m _ w m⟨m,rfl,o⟩j;refine c ?_;refine i j λn p j=>By 0 o Ac p λp o=>t 0 n o yd λn o=>?_;refine i j λn n j=>AC 0 o h1 3 n λw o=>cJ<|u j (λj=>?_) λj=>?_;refine c ?_;exact f j▸⟨rfl,bH ⟨rfl,o.drop 3⟩⟩;refine dl<|cP<|bE<|b_<|d ?_;exact J<|f j▸⟨rfl,o.sp 3 [2]⟩;intro h h w j h;exact dx<|f j▸h;rintro k _ w j⟨m,rfl,o⟩;refine c ?_;exact f j▸bH ⟨rfl,o.drop 1⟩
def vE{a:aG dX}{g:dX->aP Bool}{res:Bool}(j:B E w V)(d:eo V i0 l a)(h1:R3 q E V r g (λ(e:Bool)=>Value.bool e))(o:kz N a g=O res):c_ 177 [l,r] w<|aO E V res:=by
 unfold kz at o;refine cI Tryz.func177 b b ?_;have j:=j.dup (i0+0) d;refine c ?_;refine i o λd d o=>IN (eP Tryz.func225) (xx N (i0:=0) j b (h1.lift 1 b) d) λw j=>c ?_;exact f o▸bH ⟨rfl,j.drop 1⟩
def w3(E:aT)(V:aG HP)(r:Int)(U:Nat->F)(w:aT):Prop:=j3 q 71 Tryz.f119 (aF E V r) .ret U w
def Dh{a:aG dX}(j:B E w V)(g:eo V i0 l a)(o:nU N a=O res):c_ 119 [l] w<|aF E V res:=by
 unfold nU at o;refine cI Tryz.func119 b b ?_;have j:=j.dup (i0+0) g;refine c ?_;refine IS 0 a j Cm<|c ?_;refine u o (λo=>?_) λo=>?_;refine c ?_;exact f o▸bH ⟨rfl,j.drop 1⟩;refine c ?_;refine IS 0 a j Cm<|c ?_;refine u o (λo=>?_) λo=>?_;refine c ?_;exact f o▸bH ⟨rfl,j.drop 1⟩;refine c ?_;refine IS 0 a j Cm<|gV 0<|cJ<|md E V (λ(s:Unit)=>[Y l a]) (λ_=>[(0,l)]) (λk _=>[(13,l),(14,e (Z a)),(15,e k)]) (w3 E V) o ?_ ?_ ?_ ?_;exact j.sp 1 [0];rintro A k s y _ w z⟨r,rfl,j⟩o;refine c ?_;refine i o λg q o=>By 0 j Ac q λq j=>t 0 g j yd λq j=>f_ j MB.z λq w j=>?_;refine jU (k:Int)<|fv 0 j 1 b yd λw j=>?_;refine cJ<|k4<|p b za<|BY 0 j b om mO<|i o λv v o=>IN Si (rf N (a:=g.Name) j v) λw j=>c ?_;refine u o (λo=>?_) λo=>?_;refine c ?_;exact f o▸⟨rfl,bH ⟨rfl,j.drop 4⟩⟩;refine IT<|p b Bj<|BY 0 j b pO n<|d ?_;refine g7 aA (g.Kind<1) (h q 1) rfl rfl rfl (cW Bj)<|g7 aA (g.Kind<1) (e g.Kind) rfl rfl rfl (bO 0 rfl j (by exact z_ (h q 1)) rfl pO n)<|sg ?_;refine cJ<|u o (λo=>?_) λo=>?_;refine c ?_;exact f o▸⟨rfl,bH ⟨rfl,j.drop 4⟩⟩;refine IT<|p b xl<|BY 0 j b mA n<|d ?_;refine g7 aA (g.bL<0) (h q 2) rfl rfl rfl (cW xl)<|g7 aA (g.bL<0) (e g.bL) rfl rfl rfl (bO 0 rfl j (by exact z_ (h q 2)) rfl mA n)<|sg ?_;refine cJ<|u o (λo=>?_) λo=>?_;refine IT<|c ?_;exact f o▸⟨rfl,bH ⟨rfl,j.drop 4⟩⟩;refine cF<|i o λg q o=>dz (λ(g:Bool)=>SH E V [(0,l),(13,l),(14,e (Z a)),(15,e k),(43,vb g)] [Y l a]) g ?_ ?_;refine k6 m ?_;have j:=j.drew;refine k5<|gV (k:Int)<|a_<|ic ((k:Int)) 0<|a_<|xh (kE<|(k:Int)>0)<|dU q (λg q=>?_) λg q=>?_;refine a_<|p b za<|a_<|BY 0 j b om mO<|d ?_;refine i q λk v q=>By 3 j Ac v λv j=>a_<|fq 0 j b za om λv j=>a_<|eY k.Name 0 j mO<|c ?_;exact f q▸⟨rfl,j.sp 6 [5]⟩;refine a_<|kR g<|a_<|kR g<|a_<|kR g<|a_<|kR g<|a_<|kR g<|a_<|kR g<|a_<|kR g<|a_<|kR g<|a_<|kR g ?_;exact a_<|NB g (vb aK)<|a_<|mj aK<|fp<|f q▸⟨rfl,j.sp 4 [3]⟩;rintro _ w⟨r,rfl,j⟩;refine bE<|u o (λo=>?_) λo=>?_;refine c ?_;exact f o▸⟨rfl,bH ⟨rfl,j.drop 1⟩⟩;refine dl<|cP<|cP<|bE<|b_<|d ?_;exact J<|f o▸⟨rfl,j.sp 1 [0]⟩;intro v x w o k;exact dx<|f o▸k;rintro s _ w o⟨r,rfl,j⟩;refine c ?_;refine IS 0 a j Cm<|gV 0<|cJ<|md E V (λ(q:Unit)=>[Y l a]) (λ_=>[]) (λg _=>[(0,l),(58,l),(59,e (Z a)),(60,e g)]) (w3 E V) o ?_ ?_ ?_ ?_;exact j.sp 1 [0];rintro A g q y _ w z⟨r,rfl,j⟩o;refine c ?_;refine i o λs y o=>By 0 j Ac y λy j=>t 0 s j yd λs j=>f_ j MB.z λs w j=>?_;refine jU (g:Int)<|fv 0 j 1 b yd λw j=>?_;refine c ?_;refine i o λg az o=>rs (hl:= .inr ⟨rfl,b⟩) 3 j Ac az λg j=>?_;have j:=j.fw (i:=1) rfl;refine yl [h s 0] ?_;refine i o λg g o=>IN (eP Tryz.func177) (vE N (i0:=0) j rfl ⟨178,[h s 0],rfl,(eP Tryz.func178),λw A s s v z j s y=>by exact fE (Ae N (i0:=z) (i1:=Z A+1) j s Fy y) λ_ _ s=>s⟩ g) λw j=>cJ<|u o (λo=>?_) λo=>?_;refine c ?_;exact f o▸⟨rfl,bH ⟨rfl,j.drop 5⟩⟩;refine dl<|cP<|bE<|b_<|d ?_;exact J<|f o▸⟨rfl,j.sp 5 [4]⟩;intro v x w o k;exact dx<|f o▸k;rintro q _ w o⟨r,rfl,j⟩;refine c ?_;exact f o▸bH ⟨rfl,j.drop 1⟩
def CA{a:aG bD}(j:B E w V)(g:eo V i0 l a)(o:mP N a=O res):c_ 65 [l] w<|aF E V res:=by
 unfold mP at o;refine cI Tryz.func65 b b ?_;have j:=j.dup (i0+0) g;refine c ?_;refine IS 0 a j Tm<|c ?_;refine u o (λo=>?_) λo=>?_;refine c ?_;exact f o▸bH ⟨rfl,j.drop 1⟩;refine c ?_;refine IS 0 a j Tm<|gV 0<|cJ<|md E V (λ(r:Unit)=>[Y l a]) (λ_=>[]) (λg _=>[(0,l),(9,l),(10,e (Z a)),(11,e g)]) (λs=>j3 q 40 Tryz.f65 (aF E V s) .ret) o ?_ ?_ ?_ ?_;exact j.sp 1 [0];rintro h g r h _ w h⟨n,rfl,j⟩o;refine c ?_;refine i o λh k o=>By 0 j ND k λk j=>t 0 h j Db λk j=>f_ j U0.z λk w j=>?_;refine jU (g:Int)<|fv 0 j 1 b Db λw j=>?_;refine i4<|IT<|p b y9<|BY 0 j b mI mO<|i o λk k o=>IN Si (rf N (a:=h.Name) j k) λw j=>c ?_;refine u o (λo=>?_) λo=>?_;refine c ?_;exact f o▸⟨rfl,bH ⟨rfl,j.drop 4⟩⟩;refine hG<|IT<|p b xk<|em 0 j b lB GK λh j=>?_;refine i o λaz h o=>IN (eP Tryz.func119) (Dh N (i0:=0) j b h) λw j=>c ?_;refine u o (λo=>?_) λo=>?_;refine IT<|c ?_;exact f o▸⟨rfl,bH ⟨rfl,j.drop 5⟩⟩;refine hG<|i o λk h o=>dz (λ(k:Bool)=>SH E V [(0,l),(9,l),(10,e (Z a)),(11,e g),(38,vb k)] [Y l a]) k ?_ ?_;refine k6 m ?_;have j:=j.drew;refine k5<|gV (g:Int)<|a_<|ic ((g:Int)) 0<|a_<|xh (kE<|(g:Int)>0)<|dU h (λg h=>?_) λg h=>?_;refine a_<|p b y9<|a_<|BY 1 j b mI mO<|d ?_;refine i h λk v h=>By 4 j ND v λv j=>a_<|fq 0 j b y9 mI λv j=>a_<|eY k.Name 0 j mO<|c ?_;exact f h▸⟨rfl,j.sp 7 [6]⟩;refine a_<|kR g<|a_<|kR g<|a_<|kR g<|a_<|kR g<|a_<|kR g<|a_<|kR g<|a_<|kR g<|a_<|kR g<|a_<|kR g ?_;exact a_<|NB g (vb aK)<|fp<|f h▸⟨rfl,j.sp 5 [4]⟩;rintro _ w⟨n,rfl,j⟩;refine bE<|u o (λo=>?_) λo=>?_;refine c ?_;exact f o▸⟨rfl,bH ⟨rfl,j.drop 1⟩⟩;refine dl<|cP<|bE<|b_<|d ?_;exact J<|f o▸⟨rfl,j.sp 1 [0]⟩;intro s g w o g;exact dx<|f o▸g;rintro r _ w o⟨n,rfl,j⟩;refine c ?_;exact f o▸bH ⟨rfl,j.drop 1⟩
def pS{a:aG bD}{g:cU}{p2:bD->cU->aP Int}{res:Int×Bool}(j:B E w V)(h:eo V i0 l a)(h2:Nj q E V k p2 (λ(m:Int)=>Value.int .i64 m))(o:gl N a g p2=O res):c_ 179 [l,str g,k] w<|fJ E V res:=by
 unfold gl at o;refine cI Tryz.func179 b b ?_;have j:=j.dup (i0+0) h;refine c ?_;refine IS 0 a j Tm<|c ?_;refine m0 E V (λ(h:Int×Int)=>[Y l a]) (λh=>[(0,l),(1,str g),(2,k),(8,e (Z a)),(9,e h.1)]) (λh=>[(10,e h.2)]) o ?_ ?_ ?_;exact j.sp 1 [0];rintro h m _ w⟨p,rfl,j⟩o;refine c ?_;refine u o (λo=>?_) λo=>?_;refine c ?_;refine t4 (bK<|h.1+h.2) ⟨_,FI⟩ wY<|ws (.int .u64<|wrap .u64<|bK<|h.1+h.2) (.int .u64 1) (.int .u64<|Int.fdiv (wrap .u64<|bK<|h.1+h.2) 2) b b b<|t4 (Int.fdiv (wrap .u64<|bK<|h.1+h.2) 2) ⟨_,wY⟩ FI<|c ?_;refine i o λm n o=>By 0 j ND n λn j=>t 0 m j Db λm j=>mv (str g) ?_;have j:=j.sc cU g;refine i o λm m o=>v4 1 0 j h2 4 m λw j=>d ?_;refine cJ<|i o λn m o=>dz (λ(n:Int×Int)=>SH E V [(0,l),(1,str g),(2,k),(8,e (Z a)),(9,e n.1),(10,e n.2)] [Y l a]) n ?_ ?_;refine u m (λm=>?_) λm=>?_;refine b_<|d ?_;exact J<|f m▸⟨rfl,j.sp 4 [3]⟩;refine b_<|d ?_;exact J<|f m▸⟨rfl,j.sp 4 [3]⟩;rintro _ w⟨p,rfl,j⟩;exact cP<|f o▸⟨rfl,j.sp 1 [0]⟩;exact fk<|f o▸⟨rfl,j.sp 1 [0]⟩;rintro h _ w o⟨p,rfl,j⟩;refine bE<|cF<|i o λn m o=>dz (λ(n:Bool)=>SH E V [(6,e h.1),(7,vb n)] []) n ?_ ?_;refine b_<|d ?_;refine dU m (λh m=>?_) λh m=>?_;refine d ?_;refine i m λn r m=>By 0 j ND r λr j=>t 0 n j Db λn j=>d ?_;have j:=j.sc cU g;refine i m λn n m=>v4 (hg:=cg h) 1 0 j h2 4 n λw j=>d ?_;exact J<|f m▸⟨rfl,j.sp 4 []⟩;refine d ?_;exact J<|f m▸⟨rfl,j.sp 1 []⟩;rintro _ w⟨p,rfl,j⟩;exact bE<|dw<|f o▸kD ⟨rfl,j.drop 0⟩
def zy{a g:cU}(o:B E w V)(j:qN N a g=O res):c_ 157 [str a,str g] w<|aF E V res:=by
 unfold qN at j;refine cI Tryz.func157 b b<|c ?_;refine O0 (e<|Lib.compareBytes a.eI g.eI) b [str a,str g] b (Tg a g w)<|c ?_;exact f j▸bH ⟨rfl,o.drop 0⟩
def m8{a g:cU}(o:B E w V)(j:mf N a g=O res):c_ 95 [str a,str g] w<|aF E V res:=by
 unfold mf at j;refine cI Tryz.func95 b b<|c ?_;refine i j λd d j=>IN (eP Tryz.func157) (zy N (a:=a) (g:=g) o d) λw o=>c ?_;exact f j▸bH ⟨rfl,o.drop 0⟩
def Dj{a:bD}{g:cU}(j:B E w V)(d:eo V i0 l a)(o:nV N a g=O res):c_ 180 [l,str g] w<|aF E V res:=by
 unfold nV at o;refine cI Tryz.func180 b b ?_;have j:=j.dup (i0+0) d;refine IT<|eh 0 l j b λd w j=>?_;refine jU 0<|hO<|p b y9<|BY 0 j b mI mO<|mv (str g)<|i o λd d o=>IN U3 (m8 N (a:=a.Name) (g:=g) j d) λw j=>c ?_;exact f o▸bH ⟨rfl,j.drop 2⟩
def zc{a:aG bD}{g:cU}(o:B E w V)(e:eo V i0 l a)(d:oQ N a g=O res):c_ 120 [l,str g] w<|aF E V res:=by
 unfold oQ at d;refine cI Tryz.func120 b b ?_;have o:=o.dup (i0+0) e;refine c ?_;refine i d λe e d=>IN (eP Tryz.func179) (pS N (g:=g) (i0:=0) o rfl ⟨180,[],rfl,(eP Tryz.func180),λw h h h h n h m h o h j k=>by obtain rfl:=o.CZ (γ:=cU) j;exact fE (Dj N (g:=n) (i0:=m) o h k) λ_ _ h=>h⟩ e) λw o=>c ?_;refine u d (λd=>?_) λd=>?_;refine c ?_;exact f d▸bH ⟨rfl,o.drop 1⟩;refine c ?_;exact f d▸bH ⟨rfl,o.drop 1⟩
def CB{a:aG bD}{g:aG Part}{p2:cU->aP Bool}(j:B E w V)(h:eo V i0 l a)(h1:eo V i1 r g)(h2:R3 q E V k p2 (λ(s:Bool)=>Value.bool s))(o:mQ N a g p2=O res):c_ 66 [l,r,k] w<|aF E V res:=by
 unfold mQ at o;refine cI Tryz.func66 b b ?_;have j:=(j.dup (i0+0) h).dup (i1+1) h1;refine c ?_;refine IS 0 g j Tn<|c ?_;refine u o (λo=>?_) λo=>?_;refine c ?_;exact f o▸bH ⟨rfl,j.drop 2⟩;refine c ?_;refine IS 0 g j Tn<|gV 0<|cJ<|md E V (λ(y:Unit)=>[Y l a,Y r g]) (λ_=>[]) (λh _=>[(0,l),(1,r),(2,k),(12,r),(13,e (Z g)),(14,e h)]) (λs=>j3 q 46 Tryz.f66 (aF E V s) .ret) o ?_ ?_ ?_ ?_;exact j.sp 2 [1,0];rintro n h y n _ w n⟨x,rfl,j⟩o;refine c ?_;refine i o λn v o=>By 1 j NF v λv j=>t 0 n j IA λv j=>f_ j U2.z λv w j=>?_;refine jU (h:Int)<|fv 0 j 1 b IA λw j=>?_;refine c ?_;refine p b zb<|BY 0 j b tX mO ?_;have j:=j.sc cU n.Name;refine i o λv v o=>AC 0 j h2 6 v λw j=>c ?_;refine u o (λo=>?_) λo=>?_;refine c ?_;exact f o▸⟨rfl,bH ⟨rfl,j.drop 6⟩⟩;refine IT<|mv l<|p b JC<|BY 1 j b D7 mO<|i o λv v o=>IN XZ (zc N (g:=n.sJ) (i0:=4) j b v) λw j=>c ?_;refine u o (λo=>?_) λo=>?_;refine IT<|c ?_;exact f o▸⟨rfl,bH ⟨rfl,j.drop 6⟩⟩;refine cF<|i o λv n o=>dz (λ(v:Bool)=>SH E V [(0,l),(1,r),(2,k),(12,r),(13,e (Z g)),(14,e h),(31,vb v)] [Y l a,Y r g]) v ?_ ?_;refine k6 m ?_;have j:=j.drew;refine k5<|gV (h:Int)<|a_<|ic ((h:Int)) 0<|a_<|xh (kE<|(h:Int)>0)<|dU n (λh n=>?_) λh n=>?_;refine a_<|p b zb<|a_<|BY 1 j b tX mO<|d ?_;refine i n λv z n=>By 5 j NF z λaz j=>a_<|fq 0 j b zb tX λz j=>a_<|eY v.Name 0 j mO<|c ?_;exact f n▸⟨rfl,j.sp 8 [6,7]⟩;refine a_<|kR h<|a_<|kR h<|a_<|kR h<|a_<|kR h<|a_<|kR h<|a_<|kR h<|a_<|kR h<|a_<|kR h<|a_<|kR h ?_;exact a_<|NB h (vb aK)<|a_<|mj aK<|fp<|f n▸⟨rfl,j.sp 6 [4,5]⟩;rintro _ w⟨x,rfl,j⟩;refine bE<|u o (λo=>?_) λo=>?_;refine c ?_;exact f o▸⟨rfl,bH ⟨rfl,j.drop 2⟩⟩;refine dl<|cP<|cP<|bE<|b_<|d ?_;exact J<|f o▸⟨rfl,j.sp 2 [0,1]⟩;intro s h w o h;exact dx<|f o▸h;rintro y _ w o⟨x,rfl,j⟩;refine c ?_;exact f o▸bH ⟨rfl,j.drop 2⟩
def Dl{a g:cU}(o:B E w V)(j:nW N a g=O res):c_ 247 [str a,str g] w<|aF E V res:=by
 unfold nW at j;refine cI Tryz.func247 b b<|c ?_;refine t3 g EL<|d ?_;refine i4<|k4<|sg ?_;refine cJ<|u j (λj=>?_) λj=>?_;refine c ?_;exact f j▸bH ⟨rfl,o.drop 0⟩;refine c ?_;refine u j (λj=>?_) λj=>?_;refine c ?_;refine i j λe h j=>HE g 0 e b b b EL h<|i j λh h j=>IN XY (tk N (a:=a) (g:=(e.toNat:Int)) o h) λw o=>c ?_;exact f j▸bH ⟨rfl,o.drop 0⟩;refine c ?_;refine t3 a EL<|c ?_;refine u j (λj=>?_) λj=>?_;refine c ?_;exact f j▸bH ⟨rfl,o.drop 0⟩;cases j
def Af{a g:cU}(o:B E w V)(j:qC N a g=O res):c_ 228 [str a,str g] w<|aF E V res:=by
 unfold qC at j;refine cI Tryz.func228 b b<|c ?_;refine i j λd d j=>IN (eP Tryz.func247) (Dl N (a:=a) (g:=g) o d) λw o=>c ?_;exact f j▸bH ⟨rfl,o.drop 0⟩
def HR{a g:cU}(o:B E w V)(j:sW N a g=O res):c_ 227 [str a,str g] w<|aF E V res:=by
 unfold sW at j;refine cI Tryz.func227 b b<|c ?_;refine t3 g EL<|c ?_;refine u j (λj=>?_) λj=>?_;cases j;refine c ?_;refine t3 g EL<|c ?_;refine u j (λj=>?_) λj=>?_;refine c ?_;refine i j λh k j=>HE g 0 h b b b EL k<|O0 (e ((Lib.countByte a.eI (mr (h.toNat:Int)).toUInt8:Nat):Int)) b [str a,(.int .u8 (h.toNat:Int))] b (adh a (h.toNat:Int) w)<|c ?_;exact f j▸bH ⟨rfl,o.drop 0⟩;refine c ?_;refine pr E V (λ(h:cU×Int)=>[]) (λ_=>[(4,e 0)]) (λh=>[(0,str h.1),(1,str g),(5,e h.2)]) (λk=>j3 q 34 Tryz.f227 (aF E V k) .ret) j ?_ ?_ ?_ ?_;exact o.sp 0 [];rintro h l _ w⟨l,rfl,o⟩j;refine c ?_;refine i j λm m j=>IN X3 (Af N (a:=h.1) (g:=g) o m) λw o=>c ?_;refine u j (λj=>?_) λj=>?_;refine c ?_;exact f j▸⟨rfl,bH ⟨rfl,o.drop 0⟩⟩;refine c ?_;refine t3 g EL<|d ?_;exact i j λm n j=>O1 h.1 b b EL (.inl b) (.inr ⟨rfl,b⟩) n<|xe (str m)<|J<|cP<|f j▸⟨rfl,o.sp 0 []⟩;intro k k w j k;exact f j▸k;rintro h _ w j⟨l,rfl,o⟩;obtain rfl:=f j;exact Cf<|bH ⟨rfl,o.drop 0⟩
def EO{a g:cU}{res:aG cU}(o:B E w V)(j:r9 N a g p2 p3=O res):c_ 182 [str a,str g,e p2,e p3] w<|yi E V res:=by
 unfold r9 at j;refine cI Tryz.func182 b b<|c ?_;refine u j (λj=>?_) λj=>?_;refine c ?_;obtain rfl:=f j;exact bH<|(o.cO cU 9).pk 1 [0];refine c ?_;refine u j (λj=>?_) λj=>?_;cases j;refine hG<|IT<|d ?_;refine cJ<|i j λk h j=>dz (λ(k:Int)=>SH E V [(0,str a),(1,str g),(2,e p2),(3,e k)] []) k ?_ ?_;refine u h (λh=>?_) λh=>?_;refine c ?_;refine i h λl l h=>IN (eP Tryz.func227) (HR N (a:=a) (g:=g) o l) λw o=>d ?_;exact J<|f h▸⟨rfl,o.sp 0 []⟩;exact dl<|f h▸⟨rfl,o.sp 0 []⟩;rintro _ w⟨l,rfl,o⟩;refine c ?_;refine t3 a EL<|c ?_;refine i j λh h j=>yj (bT (bK ((Z a.eI:Int)+1)) k) o adi zd9 h λm w o=>?_;refine c ?_;refine m0 E V (λ(h:cU×aG cU×Int)=>[own 9 m h.2.1]) (λh=>[(0,str h.1),(9,m),(10,e h.2.2)]) (λ_=>[(1,str g),(2,e p2),(3,e<|bK<|(bT (bK ((Z a.eI:Int)+1)) k) - 1)]) j ?_ ?_ ?_;exact o.sp 1 [0];rintro h k _ w⟨l,rfl,o⟩j;refine c ?_;refine u j (λj=>?_) λj=>?_;refine c ?_;refine i j λk k j=>IN X3 (Af N (a:=h.1) (g:=g) o k) λw o=>c ?_;refine u j (λj=>?_) λj=>?_;refine fk<|Y8 I ?_;exact f j▸⟨rfl,o.sp 1 [0]⟩;refine c ?_;refine i j λm k j=>O1 h.1 b b EL (.inr ⟨rfl,b⟩) (.inl b) k<|i j λk k j=>ep 0 o b b Tp k ?_;have o:=o.sc cU m;refine pz 1 0 o k mO λw o=>?_;refine c ?_;refine t3 g EL<|d ?_;refine i j λk m j=>O1 h.1 b b EL (.inl b) (.inr ⟨rfl,b⟩) m<|xe (str k)<|cJ<|b_<|d ?_;exact J<|cP<|f j▸⟨rfl,o.sp 2 [1]⟩;exact fk<|f j▸⟨rfl,o.sp 1 [0]⟩;rintro h _ w j⟨l,rfl,o⟩;refine c ?_;refine i j λk k j=>ep 0 o b b Tp k ?_;have o:=o.sc cU h.1;refine pz 1 0 o k mO λw o=>?_;refine c ?_;refine i j λaz h j=>HH 1 b o b b Tp (.inr ⟨rfl,b⟩) h λh o=>c ?_;obtain rfl:=f j;exact bH<|o.pk 2 [1]
def vF{a g:cU}{res:aG cU}(o:B E w V)(j:oA N a g=O res):c_ 122 [str a,str g] w<|yi E V res:=by
 unfold oA at j;refine cI Tryz.func122 b b<|c ?_;refine i j λd d j=>d7 (eP Tryz.func182) (EO N (a:=a) (g:=g) (p2:=0) (p3:=(-1)) o d) λd w o=>c ?_;obtain rfl:=f j;exact bH<|o.pk 1 [0]
def yk{a:aG cU}{g:cU->aP Bool}(j:B E w V)(k:eo V i0 l a)(h1:R3 q E V r g (λ(h:Bool)=>Value.bool h))(o:oR N a g=O res):c_ 181 [l,r] w<|aF E V res:=by
 unfold oR at o;refine cI Tryz.func181 b b ?_;have j:=j.dup (i0+0) k;refine c ?_;refine IS 0 a j U5<|gV 0<|cJ<|md E V (λ(k:Unit)=>[Y l a]) (λ_=>[]) (λm _=>[(0,l),(1,r),(7,e (Z a)),(8,e m)]) (λh=>j3 q 19 Tryz.f181 (aF E V h) .ret) o ?_ ?_ ?_ ?_;exact j.sp 1 [0];rintro n m k m _ w m⟨n,rfl,j⟩o;refine c ?_;refine i o λm p o=>By 0 j Tp p λp j=>eY m 0 j mO ?_;have j:=j.sc cU m;refine i o λm m o=>AC 0 j h1 3 m λw j=>cJ<|u o (λo=>?_) λo=>?_;refine c ?_;exact f o▸⟨rfl,bH ⟨rfl,j.drop 3⟩⟩;refine dl<|cP<|bE<|b_<|d ?_;exact J<|f o▸⟨rfl,j.sp 3 [2]⟩;intro h h w o h;exact dx<|f o▸h;rintro k _ w o⟨n,rfl,j⟩;refine c ?_;exact f o▸bH ⟨rfl,j.drop 1⟩
def wk{a:aG cU}{g:cU->aP Bool}{res:Bool}(j:B E w V)(d:eo V i0 l a)(h1:R3 q E V r g (λ(e:Bool)=>Value.bool e))(o:kF N a g=O res):c_ 121 [l,r] w<|aO E V res:=by
 unfold kF at o;refine cI Tryz.func121 b b ?_;have j:=j.dup (i0+0) d;refine c ?_;refine i o λd d o=>IN (eP Tryz.func181) (yk N (i0:=0) j b (h1.lift 1 b) d) λw j=>c ?_;exact f o▸bH ⟨rfl,j.drop 1⟩
def Dm{a:cU}{res:Bool}(o:B E w V)(j:kG N a=O res):c_ 123 [str a] w<|aO E V res:=by
 unfold kG at j;refine cI Tryz.func123 b b<|c ?_;refine i j λd d j=>IN Si (rf N (a:=a) o d) λw o=>c ?_;exact f j▸bH ⟨rfl,o.drop 0⟩
def uX{a:cU}{res:Bool}(j:B E w V)(g:lG N a=O res):c_ 67 [str a] w<|aO E V res:=by
 unfold lG at g;refine cI Tryz.func67 b b<|IT<|mj aK<|i4<|i g λh e g=>dz (λ(h:Bool)=>SH E V [(2,vb h)] []) h ?_ ?_;refine c ?_;refine t3 a EL<|d ?_;refine dU e (λh e=>?_) λh e=>?_;refine d ?_;refine i e λh h e=>d7 U4 (vF N (a:=a) (g:=⟨[47]⟩) j h) λh w j=>?_;have j:=j.freeze 0;refine i e λh h e=>IN (eP Tryz.func121) (wk N (i0:=0) j rfl ⟨123,[],rfl,(eP Tryz.func123),λw k k m k k j k l=>by obtain rfl:=j.CZ (γ:=cU) k;exact fE (Dm N (a:=m) j l) λ_ _ k=>k⟩ h) λw j=>d ?_;exact J<|f e▸⟨rfl,j.sp 1 []⟩;refine d ?_;exact J<|f e▸⟨rfl,j.sp 0 []⟩;rintro _ w⟨e,rfl,j⟩;exact bE<|dw<|f g▸bH ⟨rfl,j.drop 0⟩
def rM{a:aG Part}{g:cU}{p2:Part->cU->aP Int}{res:Int×Bool}(j:B E w V)(h:eo V i0 l a)(h2:Nj q E V k p2 (λ(m:Int)=>Value.int .i64 m))(o:gR N a g p2=O res):c_ 183 [l,str g,k] w<|fJ E V res:=by
 unfold gR at o;refine cI Tryz.func183 b b ?_;have j:=j.dup (i0+0) h;refine c ?_;refine IS 0 a j Tn<|c ?_;refine m0 E V (λ(h:Int×Int)=>[Y l a]) (λh=>[(0,l),(1,str g),(2,k),(8,e (Z a)),(9,e h.1)]) (λh=>[(10,e h.2)]) o ?_ ?_ ?_;exact j.sp 1 [0];rintro h m _ w⟨p,rfl,j⟩o;refine c ?_;refine u o (λo=>?_) λo=>?_;refine c ?_;refine t4 (bK<|h.1+h.2) ⟨_,FI⟩ wY<|ws (.int .u64<|wrap .u64<|bK<|h.1+h.2) (.int .u64 1) (.int .u64<|Int.fdiv (wrap .u64<|bK<|h.1+h.2) 2) b b b<|t4 (Int.fdiv (wrap .u64<|bK<|h.1+h.2) 2) ⟨_,wY⟩ FI<|c ?_;refine i o λm n o=>By 0 j NF n λn j=>t 0 m j IA λm j=>mv (str g) ?_;have j:=j.sc cU g;refine i o λm m o=>v4 1 0 j h2 4 m λw j=>d ?_;refine cJ<|i o λn m o=>dz (λ(n:Int×Int)=>SH E V [(0,l),(1,str g),(2,k),(8,e (Z a)),(9,e n.1),(10,e n.2)] [Y l a]) n ?_ ?_;refine u m (λm=>?_) λm=>?_;refine b_<|d ?_;exact J<|f m▸⟨rfl,j.sp 4 [3]⟩;refine b_<|d ?_;exact J<|f m▸⟨rfl,j.sp 4 [3]⟩;rintro _ w⟨p,rfl,j⟩;exact cP<|f o▸⟨rfl,j.sp 1 [0]⟩;exact fk<|f o▸⟨rfl,j.sp 1 [0]⟩;rintro h _ w o⟨p,rfl,j⟩;refine bE<|cF<|i o λn m o=>dz (λ(n:Bool)=>SH E V [(6,e h.1),(7,vb n)] []) n ?_ ?_;refine b_<|d ?_;refine dU m (λh m=>?_) λh m=>?_;refine d ?_;refine i m λn r m=>By 0 j NF r λr j=>t 0 n j IA λn j=>d ?_;have j:=j.sc cU g;refine i m λn n m=>v4 (hg:=cg h) 1 0 j h2 4 n λw j=>d ?_;exact J<|f m▸⟨rfl,j.sp 4 []⟩;refine d ?_;exact J<|f m▸⟨rfl,j.sp 1 []⟩;rintro _ w⟨p,rfl,j⟩;exact bE<|dw<|f o▸kD ⟨rfl,j.drop 0⟩
def Dn{a:Part}{g:cU}(j:B E w V)(d:eo V i0 l a)(o:nX N a g=O res):c_ 184 [l,str g] w<|aF E V res:=by
 unfold nX at o;refine cI Tryz.func184 b b ?_;have j:=j.dup (i0+0) d;refine IT<|eh 0 l j b λd w j=>?_;refine jU 0<|hO<|p b zb<|BY 0 j b tX mO<|mv (str g)<|i o λd d o=>IN U3 (m8 N (a:=a.Name) (g:=g) j d) λw j=>c ?_;exact f o▸bH ⟨rfl,j.drop 2⟩
def GU{a:aG Part}{g:cU}(o:B E w V)(e:eo V i0 l a)(d:rB N a g=O res):c_ 124 [l,str g] w<|aF E V res:=by
 unfold rB at d;refine cI Tryz.func124 b b ?_;have o:=o.dup (i0+0) e;refine c ?_;refine i d λe e d=>IN (eP Tryz.func183) (rM N (g:=g) (i0:=0) o rfl ⟨184,[],rfl,(eP Tryz.func184),λw h h h h n h m h o h j k=>by obtain rfl:=o.CZ (γ:=cU) j;exact fE (Dn N (g:=n) (i0:=m) o h k) λ_ _ h=>h⟩ e) λw o=>c ?_;refine u d (λd=>?_) λd=>?_;refine c ?_;exact f d▸bH ⟨rfl,o.drop 1⟩;refine c ?_;exact f d▸bH ⟨rfl,o.drop 1⟩
def qp{a:aG dX}{g:cU}{p2:dX->cU->aP Int}{res:Int×Bool}(j:B E w V)(h:eo V i0 l a)(h2:Nj q E V k p2 (λ(m:Int)=>Value.int .i64 m))(o:gq N a g p2=O res):c_ 185 [l,str g,k] w<|fJ E V res:=by
 unfold gq at o;refine cI Tryz.func185 b b ?_;have j:=j.dup (i0+0) h;refine c ?_;refine IS 0 a j Cm<|c ?_;refine m0 E V (λ(h:Int×Int)=>[Y l a]) (λh=>[(0,l),(1,str g),(2,k),(8,e (Z a)),(9,e h.1)]) (λh=>[(10,e h.2)]) o ?_ ?_ ?_;exact j.sp 1 [0];rintro h m _ w⟨p,rfl,j⟩o;refine c ?_;refine u o (λo=>?_) λo=>?_;refine c ?_;refine t4 (bK<|h.1+h.2) ⟨_,FI⟩ wY<|ws (.int .u64<|wrap .u64<|bK<|h.1+h.2) (.int .u64 1) (.int .u64<|Int.fdiv (wrap .u64<|bK<|h.1+h.2) 2) b b b<|t4 (Int.fdiv (wrap .u64<|bK<|h.1+h.2) 2) ⟨_,wY⟩ FI<|c ?_;refine i o λm n o=>By 0 j Ac n λn j=>t 0 m j yd λm j=>mv (str g) ?_;have j:=j.sc cU g;refine i o λm m o=>v4 1 0 j h2 4 m λw j=>d ?_;refine cJ<|i o λn m o=>dz (λ(n:Int×Int)=>SH E V [(0,l),(1,str g),(2,k),(8,e (Z a)),(9,e n.1),(10,e n.2)] [Y l a]) n ?_ ?_;refine u m (λm=>?_) λm=>?_;refine b_<|d ?_;exact J<|f m▸⟨rfl,j.sp 4 [3]⟩;refine b_<|d ?_;exact J<|f m▸⟨rfl,j.sp 4 [3]⟩;rintro _ w⟨p,rfl,j⟩;exact cP<|f o▸⟨rfl,j.sp 1 [0]⟩;exact fk<|f o▸⟨rfl,j.sp 1 [0]⟩;rintro h _ w o⟨p,rfl,j⟩;refine bE<|cF<|i o λn m o=>dz (λ(n:Bool)=>SH E V [(6,e h.1),(7,vb n)] []) n ?_ ?_;refine b_<|d ?_;refine dU m (λh m=>?_) λh m=>?_;refine d ?_;refine i m λn r m=>By 0 j Ac r λr j=>t 0 n j yd λn j=>d ?_;have j:=j.sc cU g;refine i m λn n m=>v4 (hg:=cg h) 1 0 j h2 4 n λw j=>d ?_;exact J<|f m▸⟨rfl,j.sp 4 []⟩;refine d ?_;exact J<|f m▸⟨rfl,j.sp 1 []⟩;rintro _ w⟨p,rfl,j⟩;exact bE<|dw<|f o▸kD ⟨rfl,j.drop 0⟩
def EP{a:dX}{g:cU}(j:B E w V)(d:eo V i0 l a)(o:oS N a g=O res):c_ 186 [l,str g] w<|aF E V res:=by
 unfold oS at o;refine cI Tryz.func186 b b ?_;have j:=j.dup (i0+0) d;refine IT<|eh 0 l j b λd w j=>?_;refine jU 0<|hO<|p b za<|BY 0 j b om mO<|mv (str g)<|i o λd d o=>IN U3 (m8 N (a:=a.Name) (g:=g) j d) λw j=>c ?_;exact f o▸bH ⟨rfl,j.drop 2⟩
def HS{a:bD}{g:cU}(o:B E w V)(e:eo V i0 l a)(d:sX N a g=O res):c_ 125 [l,str g] w<|aF E V res:=by
 unfold sX at d;refine cI Tryz.func125 b b ?_;have o:=o.dup (i0+0) e;refine IT<|eh 0 l o b λe w o=>?_;refine jU 0<|hO<|p b xk<|em 0 o b lB GK λe o=>mv (str g) ?_;refine i d λe e d=>IN (eP Tryz.func185) (qp N (g:=g) (i0:=0) o rfl ⟨186,[],rfl,(eP Tryz.func186),λw h h h h n h m h o h j k=>by obtain rfl:=o.CZ (γ:=cU) j;exact fE (EP N (g:=n) (i0:=m) o h k) λ_ _ h=>h⟩ e) λw o=>c ?_;refine u d (λd=>?_) λd=>?_;refine c ?_;exact f d▸bH ⟨rfl,o.drop 3⟩;refine c ?_;exact f d▸bH ⟨rfl,o.drop 3⟩
def GV{a:aG bD}{g:aG Part}{p2:bX}{res:Bool}(j:B E w V)(e:eo V i0 l a)(h1:eo V i1 r g)(h2:eo V i2 k p2)(n:uJ N a g p2=O res):c_ 70 [l,r,k] w<|aO E V res:=by
 unfold uJ at n;refine cI Tryz.func70 b b ?_;have j:=((j.dup (i0+0) e).dup (i1+1) h1).dup (i2+2) h2;refine IT<|eh 0 k j b λq w j=>?_;refine c ?_;refine p b vB<|BY 0 j b oZ mO<|i n λe o n=>IN (eP Tryz.func124) (GU N (g:=p2.Part) (i0:=2) j b o) λw j=>jU e<|i4<|i n λo e n=>dz (λ(o:Bool)=>SH E V [(6,vb o)] []) o ?_ ?_;have j:=j.drew;refine v_ (λw=>B E w<|[bx 39 q p2]++V) m [0,0,0,1,0,0,0,0,0,0,2,0,0,1,1,2,0,0,0] [0,1,2,3,4,5,6,7,8,9,13,14,10,11,12,15,16,17,18] (j.pk 4 [0])<|ge b b<|d ?_;refine dp<|dU e (λo e=>?_) λo e=>?_;refine ek l b (λw=>i8 l dT)<|c ?_;refine i e λs u e=>By 2 j NF u λu j=>cX b<|fq 0 j b JC D7 λu j=>cX b<|eY s.sJ 0 j mO<|dp<|ek (h q 1) b (λw=>p b Bl dT)<|si (str p2.bX) b (λw j=>BY 0 j b uP mO dT)<|io b b<|i e λq q e=>IN XZ (zc N (g:=s.sJ) (i0:=5) j b q) λw j=>gj (j.pk 6 [2])<|ge b b<|i e λq s e=>By 5 j ND s λs j=>cX b<|t 0 q j Db λq j=>oy b ?_;refine i e λq q e=>IN (eP Tryz.func125) (HS N (g:=p2.bX) (i0:=0) j b q) λw j=>gj (j.pk 8 [4])<|c ?_;exact f e▸⟨rfl,j.sp 8 []⟩;refine ek undef b (λw=>kR o dT)<|c ?_;refine ek undef b (λw=>kR o dT)<|ek undef b (λw=>kR o dT)<|io b b<|d ?_;refine gj (j.pk 4 [0])<|ge b b<|d ?_;refine oy b<|d ?_;refine gj (j.pk 4 [0])<|c ?_;exact f e▸⟨rfl,j.sp 4 []⟩;rintro _ w⟨e,rfl,j⟩;exact bE<|dw<|f n▸bH ⟨rfl,j.drop 0⟩
def Ag{a:bX}{g:aG bD}{p2:bV}{res:Bool}(j:B E w V)(d:eo V i0 l a)(h1:eF V i1 r g)(h2:eF V i2 k p2)(o:nY N a g p2=O res):c_ 69 [l,r,k] w<|aO E V res:=by
 unfold nY at o;refine cI Tryz.func69 b b ?_;have j:=((j.dup (i0+0) d).xS (i:=i1+1) h1).xS (i:=i2+2) h2;refine IT<|eh 2 l j b λd w j=>?_;refine mj aK<|hO<|t 2 g j Zh λd j=>fq 2 j b FH pP λd j=>t 0 p2.gH j Q2 λd j=>eX 3 j b fF λd j=>?_;refine i o λd d o=>IN (eP Tryz.func70) (GV N (i0:=3) (i1:=1) (i2:=0) j b b b d) λw j=>c ?_;exact f o▸bH ⟨rfl,j.drop 8⟩
def iq{a g:bX}(j:B E w V)(d:eo V i0 l a)(h1:eo V i1 r g)(o:dY N a g=O res):c_ 47 [l,r] w<|aF E V res:=by
 unfold dY at o;refine cI Tryz.func47 b b ?_;have j:=(j.dup (i0+0) d).dup (i1+1) h1;refine IT<|eh 1 l j b λd w j=>?_;refine eh 1 r j b λd w j=>?_;refine c ?_;refine p b vB<|BY 1 j b oZ mO<|p b vB<|BY 0 j b oZ mO<|i o λd d o=>IN U3 (m8 N (a:=a.Part) (g:=g.Part) j d) λw j=>c ?_;refine u o (λo=>?_) λo=>?_;refine c ?_;exact f o▸bH ⟨rfl,j.drop 4⟩;refine p_<|p b Bl<|BY 1 j b uP mO<|p b Bl<|BY 0 j b uP mO<|i o λd d o=>IN U3 (m8 N (a:=a.bX) (g:=g.bX) j d) λw j=>c ?_;exact f o▸bH ⟨rfl,j.drop 4⟩
def uY(E:aT)(V:aG HP)(k:F)(res:Int×aG (bX×Bool))(v:F)(w:aT):Prop:=v= e res.1/\B E w ([mp k res.2]++V)
def Ah{a:aG bX}{g:bX->aP Bool}{p2:aG (bX×Bool)}{res:Int×aG (bX×Bool)}(j:B E w (mp k p2::V))(n:eo V i0 l a)(h1:R3 q E V r g (λ(v:Bool)=>Value.bool v))(o:lH N a g p2=O res):c_ 68 [l,r,k] w<|uY E V k res:=by
 unfold lH at o;refine cI Tryz.func68 b b ?_;have j:=j.dup (i0+1) n;refine c ?_;refine IS 0 a j uC<|c ?_;refine u o (λo=>?_) λo=>?_;refine c ?_;exact f o▸bH ⟨rfl,j.pk 2 [1]⟩;refine c ?_;refine IS 0 a j uC<|gV 0<|cJ<|md E V (λ(z:Unit)=>[Y l a,mp k p2]) (λ_=>[(0,l),(2,k)]) (λp _=>[(1,r),(14,l),(15,e (Z a)),(16,e p)]) (λv=>j3 q 53 Tryz.f68 (uY E V k v) .ret) o ?_ ?_ ?_ ?_;exact j.sp 2 [0,1];rintro D p z n _ w C⟨s,rfl,j⟩o;refine c ?_;refine i o λx n o=>By 0 j th n λaz j=>t 0 x j fF λn j=>f_ j Kg.z λA w j=>?_;refine jU (p:Int)<|fv 0 j 1 b fF λw j=>?_;refine c ?_;refine eX 0 j b fF λn j=>?_;refine i o λn n o=>AC 0 j h1 6 n λw j=>c ?_;refine u o (λo=>?_) λo=>?_;refine c ?_;exact f o▸⟨rfl,bH ⟨rfl,j.pk 6 [5]⟩⟩;refine cF<|i o λy n o=>dz (λ(y:Bool)=>SH E V [(0,l),(1,r),(2,k),(8,h A 0),(14,l),(15,e (Z a)),(16,e p),(26,vb y)] [Y l a,mp k p2,bx 39 A x]) y ?_ ?_;refine jb m (jv 13 2000000000) (f0 0 13 []) ?_;have j:=j.drew;refine ge b b<|gV (p:Int)<|cX b<|ic ((p:Int)) 0<|cX b<|xh (kE<|(p:Int)>0)<|dp<|dU n (λp n=>?_) λp n=>?_;refine ge b b<|eX 1 j b fF λp j=>d ?_;refine i n λp y n=>By 5 j th y λy j=>cX b<|t 0 p j fF λp j=>oy b<|i n λp p n=>IN Q3 (iq N (i0:=2) (i1:=0) j b b p) λw j=>qY b<|c ?_;exact f n▸⟨rfl,j.sp 9 [7,8,4]⟩;refine ge b b<|d ?_;refine oy b<|d ?_;refine qY b<|c ?_;exact f n▸⟨rfl,j.sp 6 [4,5,1]⟩;rintro _ w⟨s,rfl,j⟩;refine bE<|u o (λo=>?_) λo=>?_;refine c ?_;exact f o▸⟨rfl,bH ⟨rfl,j.pk 3 [1]⟩⟩;refine IT<|mv k<|eX 2 j b fF λn j=>yW 2 x zt j (xU 0 j) X5<|c ?_;refine u o (λo=>?_) λo=>?_;refine c ?_;exact f o▸⟨rfl,bH ⟨rfl,j.pk 4 [2]⟩⟩;refine dl<|cP<|cP<|bE<|b_<|d ?_;exact J<|f o▸⟨rfl,j.sp 4 [1,2]⟩;intro v n w o n;exact dx<|f o▸n;rintro z _ w o⟨s,rfl,j⟩;refine c ?_;refine IS 0 a j uC<|gV 0<|cJ<|s_ E V (λ(n:aG (bX×Bool))=>[mp k n,Y l a]) (λ_=>[(2,k)]) (λp _=>[(44,l),(45,e (Z a)),(46,e p)]) o ?_ ?_ ?_;exact j.sp 2 [1,0];rintro D p n p _ w C⟨s,rfl,j⟩o;refine cF<|k4<|i o λp v o=>By 1 j th v λv j=>t 0 p j fF λv j=>f_ j Kg.z λv w j=>?_;refine fv 0 j 1 b fF λw j=>?_;refine c ?_;refine eX 0 j b fF λv j=>?_;have j:=j.sc Bool aA;refine zT 5 0 p j b (xU 1 j) b b X5 λw j=>J<|cP<|bE<|b_<|d ?_;exact J<|f o▸⟨rfl,j.sp 7 [5,6]⟩;rintro n _ w o⟨s,rfl,j⟩;refine c ?_;exact f o▸bH ⟨rfl,j.pk 2 [0]⟩
end Go.Gk
