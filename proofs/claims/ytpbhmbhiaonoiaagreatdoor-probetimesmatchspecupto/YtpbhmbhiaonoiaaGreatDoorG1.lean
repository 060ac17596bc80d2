/-
  Printed texts: Go functions as plain functions, and that they are. No statement of the seed is proved here.
-/
import Derived.Test.YtpbhmbhiaonoiaaGreatDoorProg
import Derived.Test.YtpbhmbhiaonoiaaGreatDoorE1
import Derived.Test.YtpbhmbhiaonoiaaGreatDoorA1
import Derived.Test.YtpbhmbhiaonoiaaGreatDoorA2
import Derived.Test.YtpbhmbhiaonoiaaGreatDoorRows
import Derived.Shelf.SlGeneric
import Derived.Ground.SlsfProg
import Derived.Ground.SlgmProg
set_option linter.unusedVariables false
set_option linter.unusedSimpArgs false
set_option linter.unusedSectionVars false
set_option maxRecDepth 100000
set_option maxHeartbeats 40000000
namespace Go.Gk
open Go IntKind Go.Proofs
noncomputable abbrev bI:=Tryz.prog
abbrev c_(f:Nat)(l:List Value)(w:World)(R:Value->World->Prop):Prop:=Calls bI f l.toArray w (fY R)
def nS(x:aH):=(x.X0,x.Y0,x.X1,x.Y1)
instance instGTRect:GT aH:=GT.via nS
instance instKVRect:KV aH:=instKVvia (λ(x:aH)=>(x.X0,x.Y0,x.X1,x.Y1))
theorem dW:Fd 0 (λx:aH=>x.X0):= .v nS<|.fst .self
theorem ru:Fs 0 Int (λ(x:aH)y=>{x with X0:=y}):= .v nS<|.fst .self
theorem dQ:Fd 1 (λx:aH=>x.Y0):= .v nS<|.snd<|.fst .self
theorem tu:Fs 1 Int (λ(x:aH)y=>{x with Y0:=y}):= .v nS<|.snd<|.fst .self
theorem eV:Fd 2 (λx:aH=>x.X1):= .v nS<|.snd<|.snd<|.fst .self
theorem pI:Fs 2 Int (λ(x:aH)y=>{x with X1:=y}):= .v nS<|.snd<|.snd<|.fst .self
theorem gj:Fd 3 (λx:aH=>x.Y1):= .v nS<|.snd<|.snd<|.snd<|.self
theorem ry:Fs 3 Int (λ(x:aH)y=>{x with Y1:=y}):= .v nS<|.snd<|.snd<|.snd<|.self
def zB(x:cK):=(x.X,x.Y)
instance instGTPoint:GT cK:=GT.via zB
instance instKVPoint:KV cK:=instKVvia (λ(x:cK)=>(x.X,x.Y))
theorem gM:Fd 0 (λx:cK=>x.X):= .v zB<|.fst .self
theorem gN:Fd 1 (λx:cK=>x.Y):= .v zB<|.snd<|.self
def tv(x:cJ):=(x.At,x.dJ,x.cL,x.To,x.jH)
instance instGTBore:GT cJ:=GT.via tv
theorem rz:Fd 0 (λx:cJ=>x.At):= .v tv<|.fst .self
theorem mo:Fd 2 (λx:cJ=>x.dJ):= .v tv<|.snd<|.fst .self
theorem kH:Fd 3 (λx:cJ=>x.cL):= .v tv<|.snd<|.snd<|.fst .self
theorem mq:Fd 4 (λx:cJ=>x.To):= .v tv<|.snd<|.snd<|.snd<|.fst .self
theorem wt:Fd 5 (λx:cJ=>x.jH):= .v tv<|.snd<|.snd<|.snd<|.snd<|.self
def rK(x:dN):=(x.Part,x.eA,x.fT,x.At)
instance instGTLand:GT dN:=GT.via rK
theorem oF:Fd 0 (λx:dN=>x.Part):= .v rK<|.fst .self
theorem H8:Fs 0 eC (λ(x:dN)y=>{x with Part:=y}):= .v rK<|.fst .self
theorem rA:Fd 1 (λx:dN=>x.eA):= .v rK<|.snd<|.fst .self
theorem H9:Fs 1 eC (λ(x:dN)y=>{x with eA:=y}):= .v rK<|.snd<|.fst .self
theorem wu:Fd 2 (λx:dN=>x.fT):= .v rK<|.snd<|.snd<|.fst .self
theorem oG:Fd 3 (λx:dN=>x.At):= .v rK<|.snd<|.snd<|.snd<|.self
def yt(x:gm):=(x.aJ,x.cT,x.aU,x.bJ)
instance instGTArt:GT gm:=GT.via yt
theorem jQ:Fd 0 (λx:gm=>x.aJ):= .v yt<|.fst .self
theorem vr:Fd 1 (λx:gm=>x.cT):= .v yt<|.snd<|.fst .self
theorem jR:Fd 2 (λx:gm=>x.aU):= .v yt<|.snd<|.snd<|.fst .self
theorem jS:Fd 3 (λx:gm=>x.bJ):= .v yt<|.snd<|.snd<|.snd<|.self
def wv(x:eA):=(x.Part,x.eA)
instance instGTPin:GT eA:=GT.via wv
instance instKVPin:KV eA:=instKVvia (λ(x:eA)=>(x.Part,x.eA))
theorem rL:Fd 0 (λx:eA=>x.Part):= .v wv<|.fst .self
theorem Bf:Fs 0 eC (λ(x:eA)y=>{x with Part:=y}):= .v wv<|.fst .self
theorem vt:Fd 1 (λx:eA=>x.eA):= .v wv<|.snd<|.self
theorem Bg:Fs 1 eC (λ(x:eA)y=>{x with eA:=y}):= .v wv<|.snd<|.self
def Bh(x:Test):=(x.A,x.B,x.Joined)
instance instGTTest:GT Test:=GT.via Bh
theorem jC:Fd 0 (λx:Test=>x.A):= .v Bh<|.fst .self
theorem kI:Fd 2 (λx:Test=>x.B):= .v Bh<|.snd<|.fst .self
def wx(x:Touch):=(x.Test,x.o4,x.tp)
instance instGTTouch:GT Touch:=GT.via wx
instance instKVTouch:KV Touch:=instKVvia (λ(x:Touch)=>(x.Test,x.o4,x.tp))
theorem ou:Fd 0 (λx:Touch=>x.Test):= .v wx<|.fst .self
theorem xE:Fd 1 (λx:Touch=>x.o4):= .v wx<|.snd<|.fst .self
theorem Bi:Fd 2 (λx:Touch=>x.tp):= .v wx<|.snd<|.snd<|.self
def km(x:aA):=(x.Y0,x.Y1,x.Xs)
instance instGTshape_Band:GT aA:=GT.via km
theorem hG:Fd 0 (λx:aA=>x.Y0):= .v km<|.fst .self
theorem uR:Fs 0 Int (λ(x:aA)y=>{x with Y0:=y}):= .v km<|.fst .self
theorem fO:Fd 1 (λx:aA=>x.Y1):= .v km<|.snd<|.fst .self
theorem qq:Fs 1 Int (λ(x:aA)y=>{x with Y1:=y}):= .v km<|.snd<|.fst .self
theorem eD:Fd 2 (λx:aA=>x.Xs):= .v km<|.snd<|.snd<|.self
theorem uS:Fs 2 (List Int) (λ(x:aA)y=>{x with Xs:=y}):= .v km<|.snd<|.snd<|.self
def ka(x:aL):=(x.fT,x.Set,x.qE)
instance instGTcopper_Piece:GT aL:=GT.via ka
theorem sK:Fd 0 (λx:aL=>x.fT):= .v ka<|.fst .self
theorem yu:Fs 0 Int (λ(x:aL)y=>{x with fT:=y}):= .v ka<|.fst .self
theorem yv:Fs 1 (List aA) (λ(x:aL)y=>{x with Set:=y}):= .v ka<|.snd<|.fst .self
theorem sL:Fd 2 (λx:aL=>x.qE):= .v ka<|.snd<|.snd<|.self
theorem yw:Fs 2 (List aH) (λ(x:aL)y=>{x with qE:=y}):= .v ka<|.snd<|.snd<|.self
def Ia(x:dD):=(x.qm,x.aU,x.kB)
instance instGTGroup:GT dD:=GT.via Ia
def uo(x:gC):=(x.cJ,x.Number)
instance instGTHop:GT gC:=GT.via uo
instance instKVHop:KV gC:=instKVvia (λ(x:gC)=>(x.cJ,x.Number))
theorem Bj:Fd 0 (λx:gC=>x.cJ):= .v uo<|.fst .self
theorem Js:Fs 0 Bool (λ(x:gC)y=>{x with cJ:=y}):= .v uo<|.fst .self
theorem rM:Fd 1 (λx:gC=>x.Number):= .v uo<|.snd<|.self
theorem E8:Fs 1 Int (λ(x:gC)y=>{x with Number:=y}):= .v uo<|.snd<|.self
def l6(x:cE):=(x.e0,x.e1)
instance instGTprobe_spots:GT cE:=GT.via l6
theorem zC:Fd 0 (λx:cE=>x.e0):= .v l6<|.fst .self
theorem zD:Fs 0 cK (λ(x:cE)y=>{x with e0:=y}):= .v l6<|.fst .self
theorem zF:Fd 2 (λx:cE=>x.e1):= .v l6<|.snd<|.self
theorem zG:Fs 2 cK (λ(x:cE)y=>{x with e1:=y}):= .v l6<|.snd<|.self
theorem qs:∀k:Fin 2,Fd (k.val*2) (λx:cE=>x.gt k)
  |⟨0,_⟩=>zC
  |⟨1,_⟩=>zF
def gF(x:aG):=(x.from_,x.to)
instance instGTetchhouseref1_span:GT aG:=GT.via gF
instance instKVetchhouseref1_span:KV aG:=instKVvia (λ(x:aG)=>(x.from_,x.to))
theorem eH:Fd 0 (λx:aG=>x.from_):= .v gF<|.fst .self
theorem lB:Fs 0 Int (λ(x:aG)y=>{x with from_:=y}):= .v gF<|.fst .self
theorem eI:Fd 1 (λx:aG=>x.to):= .v gF<|.snd<|.self
theorem lC:Fs 1 Int (λ(x:aG)y=>{x with to:=y}):= .v gF<|.snd<|.self
def fH(x:aK):=(x.from_,x.to,x.iX)
instance instGTetchhouseref1_band:GT aK:=GT.via fH
theorem oH:Fd 0 (λx:aK=>x.from_):= .v fH<|.fst .self
theorem oI:Fs 0 Int (λ(x:aK)y=>{x with from_:=y}):= .v fH<|.fst .self
theorem lD:Fd 1 (λx:aK=>x.to):= .v fH<|.snd<|.fst .self
theorem lE:Fs 1 Int (λ(x:aK)y=>{x with to:=y}):= .v fH<|.snd<|.fst .self
theorem gk:Fd 2 (λx:aK=>x.iX):= .v fH<|.snd<|.snd<|.self
theorem oJ:Fs 2 (List aG) (λ(x:aK)y=>{x with iX:=y}):= .v fH<|.snd<|.snd<|.self
def dA(x:aT):=(x.AD,x.tq,x.speed,x.Ae)
instance instGTetchhouseref11_machine:GT aT:=GT.via dA
theorem iI:Fd 0 (λx:aT=>x.AD):= .v dA<|.fst .self
theorem qS:Fs 0 gm (λ(x:aT)y=>{x with AD:=y}):= .v dA<|.fst .self
theorem mG:Fd 4 (λx:aT=>x.tq):= .v dA<|.snd<|.fst .self
theorem qT:Fs 4 (List Test) (λ(x:aT)y=>{x with tq:=y}):= .v dA<|.snd<|.fst .self
theorem mH:Fd 5 (λx:aT=>x.speed):= .v dA<|.snd<|.snd<|.fst .self
theorem qU:Fs 5 Int (λ(x:aT)y=>{x with speed:=y}):= .v dA<|.snd<|.snd<|.fst .self
theorem qV:Fd 6 (λx:aT=>x.Ae):= .v dA<|.snd<|.snd<|.snd<|.self
theorem qW:Fs 6 Int (λ(x:aT)y=>{x with Ae:=y}):= .v dA<|.snd<|.snd<|.snd<|.self
def tw(x:mM):=(x.Open,x.gC,x.A,x.B)
instance instGTFlaw:GT mM:=GT.via tw
theorem pJ:Fd 0 (λx:mM=>x.Open):= .v tw<|.fst .self
theorem rB:Fd 1 (λx:mM=>x.gC):= .v tw<|.snd<|.fst .self
theorem wy:Fd 3 (λx:mM=>x.A):= .v tw<|.snd<|.snd<|.fst .self
theorem wz:Fd 4 (λx:mM=>x.B):= .v tw<|.snd<|.snd<|.snd<|.self
theorem DM(M:eE):GT.ok M (#[(.int .i64 0),(.int .i64 0)]:Array Value).toList (⟨0,0⟩:cK):=⟨[(.int .i64 0)],[(.int .i64 0)],rfl,(show GT.ok M [(.int .i64 0)] (0:Int)from rfl),(show GT.ok M [(.int .i64 0)] (0:Int)from rfl)⟩
theorem Cu(M:eE):GT.ok M (#[(.int .i64 0),(.int .i64 0),(.int .i64 0),(.int .i64 0)]:Array Value).toList (⟨⟨0,0⟩,⟨0,0⟩⟩:cE):=⟨[(.int .i64 0),(.int .i64 0)],[(.int .i64 0),(.int .i64 0)],rfl,(show GT.ok M [(.int .i64 0),(.int .i64 0)] (⟨0,0⟩:cK)from DM M),(show GT.ok M [(.int .i64 0),(.int .i64 0)] (⟨0,0⟩:cK)from DM M)⟩
theorem Jt(M:eE):GT.ok M (#[(.string ⟨#[]⟩),(.string ⟨#[]⟩)]:Array Value).toList (⟨⟨[]⟩,⟨[]⟩⟩:eA):=⟨[(.string ⟨#[]⟩)],[(.string ⟨#[]⟩)],rfl,(show GT.ok M [(.string ⟨#[]⟩)] (⟨[]⟩:eC)from rfl),(show GT.ok M [(.string ⟨#[]⟩)] (⟨[]⟩:eC)from rfl)⟩
theorem Nv(M:eE):GT.ok M (#[n_,n_,n_,n_]:Array Value).toList (⟨[],[],[],[]⟩:gm):=⟨[n_],[n_,n_,n_],rfl,(show GT.ok M [n_] ([]:List (List aH))from⟨_,rfl,none,0,0,rfl,rfl,bR _,by simp[maxLen],λ_ _ h=>by simp at h⟩),⟨[n_],[n_,n_],rfl,(show GT.ok M [n_] ([]:List aH)from⟨_,rfl,none,0,0,rfl,rfl,bR _,by simp[maxLen],λ_ _ h=>by simp at h⟩),⟨[n_],[n_],rfl,(show GT.ok M [n_] ([]:List cJ)from⟨_,rfl,none,0,0,rfl,rfl,bR _,by simp[maxLen],λ_ _ h=>by simp at h⟩),(show GT.ok M [n_] ([]:List dN)from⟨_,rfl,none,0,0,rfl,rfl,bR _,by simp[maxLen],λ_ _ h=>by simp at h⟩)⟩⟩⟩
theorem kZ(M:eE):GT.ok M (#[n_,n_,n_,n_,n_,(.int .i64 0),(.int .i64 0)]:Array Value).toList (⟨⟨[],[],[],[]⟩,[],0,0⟩:aT):=⟨[n_,n_,n_,n_],[n_,(.int .i64 0),(.int .i64 0)],rfl,(show GT.ok M [n_,n_,n_,n_] (⟨[],[],[],[]⟩:gm)from Nv M),⟨[n_],[(.int .i64 0),(.int .i64 0)],rfl,(show GT.ok M [n_] ([]:List Test)from⟨_,rfl,none,0,0,rfl,rfl,bR _,by simp[maxLen],λ_ _ h=>by simp at h⟩),⟨[(.int .i64 0)],[(.int .i64 0)],rfl,(show GT.ok M [(.int .i64 0)] (0:Int)from rfl),(show GT.ok M [(.int .i64 0)] (0:Int)from rfl)⟩⟩⟩
theorem uq(M:eE):GT.ok M (#[(.int .i64 0),(.int .i64 0),(.int .i64 0),(.int .i64 0)]:Array Value).toList (⟨0,0,0,0⟩:aH):=⟨[(.int .i64 0)],[(.int .i64 0),(.int .i64 0),(.int .i64 0)],rfl,(show GT.ok M [(.int .i64 0)] (0:Int)from rfl),⟨[(.int .i64 0)],[(.int .i64 0),(.int .i64 0)],rfl,(show GT.ok M [(.int .i64 0)] (0:Int)from rfl),⟨[(.int .i64 0)],[(.int .i64 0)],rfl,(show GT.ok M [(.int .i64 0)] (0:Int)from rfl),(show GT.ok M [(.int .i64 0)] (0:Int)from rfl)⟩⟩⟩
theorem MA(M:eE):GT.ok M (#[(.string ⟨#[]⟩),(.string ⟨#[]⟩),(.int .i64 0),(.int .i64 0),(.int .i64 0)]:Array Value).toList (⟨⟨[]⟩,⟨[]⟩,0,⟨0,0⟩⟩:dN):=⟨[(.string ⟨#[]⟩)],[(.string ⟨#[]⟩),(.int .i64 0),(.int .i64 0),(.int .i64 0)],rfl,(show GT.ok M [(.string ⟨#[]⟩)] (⟨[]⟩:eC)from rfl),⟨[(.string ⟨#[]⟩)],[(.int .i64 0),(.int .i64 0),(.int .i64 0)],rfl,(show GT.ok M [(.string ⟨#[]⟩)] (⟨[]⟩:eC)from rfl),⟨[(.int .i64 0)],[(.int .i64 0),(.int .i64 0)],rfl,(show GT.ok M [(.int .i64 0)] (0:Int)from rfl),(show GT.ok M [(.int .i64 0),(.int .i64 0)] (⟨0,0⟩:cK)from DM M)⟩⟩⟩
theorem Ho(M:eE):GT.ok M (#[(.bool false),(.int .i64 0)]:Array Value).toList (⟨false,0⟩:gC):=⟨[(.bool false)],[(.int .i64 0)],rfl,(show GT.ok M [(.bool false)] (false:Bool)from rfl),(show GT.ok M [(.int .i64 0)] (0:Int)from rfl)⟩
theorem Bl(M:eE):GT.ok M (#[(.int .i64 0),n_,n_]:Array Value).toList (⟨0,[],[]⟩:aL):=⟨[(.int .i64 0)],[n_,n_],rfl,(show GT.ok M [(.int .i64 0)] (0:Int)from rfl),⟨[n_],[n_],rfl,(show GT.ok M [n_] ([]:List aA)from⟨_,rfl,none,0,0,rfl,rfl,bR _,by simp[maxLen],λ_ _ h=>by simp at h⟩),(show GT.ok M [n_] ([]:List aH)from⟨_,rfl,none,0,0,rfl,rfl,bR _,by simp[maxLen],λ_ _ h=>by simp at h⟩)⟩⟩
theorem yx(M:eE):GT.ok M (#[(.int .i64 0),(.int .i64 0),n_]:Array Value).toList (⟨0,0,[]⟩:aA):=⟨[(.int .i64 0)],[(.int .i64 0),n_],rfl,(show GT.ok M [(.int .i64 0)] (0:Int)from rfl),⟨[(.int .i64 0)],[n_],rfl,(show GT.ok M [(.int .i64 0)] (0:Int)from rfl),(show GT.ok M [n_] ([]:List Int)from⟨_,rfl,none,0,0,rfl,rfl,bR _,by simp[maxLen],λ_ _ h=>by simp at h⟩)⟩⟩
theorem pY(M:eE):GT.ok M (#[(.int .i64 0),(.int .i64 0),n_]:Array Value).toList (⟨0,0,[]⟩:aK):=⟨[(.int .i64 0)],[(.int .i64 0),n_],rfl,(show GT.ok M [(.int .i64 0)] (0:Int)from rfl),⟨[(.int .i64 0)],[n_],rfl,(show GT.ok M [(.int .i64 0)] (0:Int)from rfl),(show GT.ok M [n_] ([]:List aG)from⟨_,rfl,none,0,0,rfl,rfl,bR _,by simp[maxLen],λ_ _ h=>by simp at h⟩)⟩⟩
theorem pZ(M:eE):GT.ok M (#[(.int .i64 0),(.int .i64 0)]:Array Value).toList (⟨0,0⟩:aG):=⟨[(.int .i64 0)],[(.int .i64 0)],rfl,(show GT.ok M [(.int .i64 0)] (0:Int)from rfl),(show GT.ok M [(.int .i64 0)] (0:Int)from rfl)⟩
structure cP where
  qm:List Int
  aU:List Int
  kB:RV
  deriving Inhabited
def uu(x:cP):=(x.qm,x.aU,x.kB)
instance instGTGroup_r2:GT cP:=GT.via uu
theorem Cv:Fd 2 (λx:cP=>x.kB):= .v uu<|.snd<|.snd<|.self
theorem Cw:Fs 2 RV (λ(x:cP)y=>{x with kB:=y}):= .v uu<|.snd<|.snd<|.self
def cM:XT cP dD:=⟨λu x=>u.qm=x.qm/\u.aU=x.aU,λM h u x=>(u.qm=x.qm/\u.aU=x.aU)/\xx 46 M h u.kB.v x.kB,λ{M M' h u x}hk hh=>⟨hh.1,(own 46 u.kB.v x.kB).mono hk hh.2⟩,λh=>h.1⟩
theorem vu:XO cM 46 2 (λu=>u.kB) (λu r=>{u with kB:=r}) (λx=>x.kB) (λx y=>{x with kB:=y}):=⟨Cv,Cw,by decide,λh=>h.2,λhr ho=>⟨hr,ho⟩⟩
theorem DN(M h:eE)(u:cP)(x:dD)(cs:List Value)(hd:∀b o,h b=some o->M b=none)(hx:cM.ok M h u x)(hc:GT.ok M cs u):GT.ok (sj M h) cs x:=by
 obtain⟨⟨e0,e1⟩,ho⟩:=hx;obtain⟨c0,d0,hd0,a0,c1,d1,hd1,a1,a2⟩:=hc;exact⟨c0,d0,hd0,GT.mono (wo M h) (show GT.ok M c0 x.qm from e0▸(show GT.ok M c0 u.qm from a0)),⟨c1,d1,hd1,GT.mono (wo M h) (show GT.ok M c1 x.aU from e1▸(show GT.ok M c1 u.aU from a1)),⟨u.kB.v,a2,xx.sl hd ho⟩⟩⟩
theorem nT:mg bI 27 true 4:=uZ
theorem nJ:nI bI 27 0 0:=o9
theorem wU:mg bI 22 false 1:=uZ
theorem vv:Tryz.prog.underlying 22=some (.slice 23):=by kernel_rfl
theorem DO:nI bI 27 1 1:=o9
theorem xF:mg bI 23 false 1:=uZ
theorem nU:Tryz.prog.underlying 23=some (.slice 58):=by kernel_rfl
theorem yy:wR bI 22 23 1:=DL
theorem jL:wR bI 23 58 4:=DL
theorem iL:mg bI 58 true 4:=uZ
theorem pz:Cn bI 58 4:=CY<|.agg #[(.int .i64 0),(.int .i64 0),(.int .i64 0),(.int .i64 0)]
theorem iT:nI bI 58 0 0:=o9
theorem cB:mg bI 3 false 1:=uZ
theorem C2:gu bI 102:=gL Tryz.func102
theorem iJ:nI bI 58 1 1:=o9
theorem jM:nI bI 58 2 2:=o9
theorem lF:nI bI 58 3 3:=o9
theorem Ny:gu bI 87:=gL Tryz.func87
theorem mixed:Tryz.prog.follows .mixedOrders=true:=by kernel_rfl
theorem Bm:vg bI 23 58 4 32:=vg.of<|.agg #[(.int .i64 0),(.int .i64 0),(.int .i64 0),(.int .i64 0)]
theorem Nz:gu bI 89:=gL Tryz.func89
theorem NA:LB bI 71 [n_]:=⟨n_,λ_=>by kernel_rfl,rfl⟩
theorem ij:mg bI 71 false 1:=uZ
theorem eW:wR bI 71 3 1:=DL
theorem Ib:Cn bI 3 1:=CY<|.int .i64 0
theorem vx:vg bI 71 3 1 8:=vg.of<|.int .i64 0
theorem nK:Tryz.prog.underlying 71=some (.slice 3):=by kernel_rfl
theorem M9:IW bI 3 (0:Int):=IW.of (.int .i64 0)<|λM=>rfl
theorem LH:gu bI 106:=gL Tryz.func106
theorem PD:IW bI 58 (⟨0,0,0,0⟩:aH):=IW.of (.agg #[(.int .i64 0),(.int .i64 0),(.int .i64 0),(.int .i64 0)])<|λM=>uq M
theorem LI:yh bI 154 [(0,1),(1,1),(2,1)] #[(.int .i64 0),(.int .i64 0),n_]:=yh.of (.agg #[(.int .i64 0),(.int .i64 0),n_]) Tryz.underlying154
theorem mI:nI bI 154 2 2:=o9
theorem og:nI bI 154 1 1:=o9
theorem qX:nI bI 154 0 0:=o9
theorem qF:Tryz.prog.underlying 116=some (.slice 154):=by kernel_rfl
theorem l7:wR bI 116 154 3:=DL
theorem yz:mg bI 154 true 3:=uZ
theorem E9:Cn bI 154 3:=CY<|.agg #[(.int .i64 0),(.int .i64 0),n_]
theorem ND:vg bI 116 154 3 40:=vg.of<|.agg #[(.int .i64 0),(.int .i64 0),n_]
theorem NF:gu bI 95:=gL Tryz.func95
theorem Ju:gu bI 57:=gL Tryz.func57
theorem Fa:yh bI 58 [(0,1),(1,1),(2,1),(3,1)] #[(.int .i64 0),(.int .i64 0),(.int .i64 0),(.int .i64 0)]:=yh.of (.agg #[(.int .i64 0),(.int .i64 0),(.int .i64 0),(.int .i64 0)]) Tryz.underlying58
theorem MB:gu bI 58:=gL Tryz.func58
theorem Hp:Tryz.prog.underlying 3=some (.int .i64):=by kernel_rfl
theorem LJ:KC bI 58 aH:=⟨λM cs ds a b w ha hb=>by
  obtain⟨_,_,rfl,rfl,⟨_,_,rfl,rfl,⟨_,_,rfl,rfl,rfl⟩⟩⟩:=ha
  obtain⟨_,_,rfl,rfl,⟨_,_,rfl,rfl,⟨_,_,rfl,rfl,rfl⟩⟩⟩:=hb
  refine(j7 9999 Tryz.underlying58<|Ac.cons (by decide) (dI cB _) (dI cB _) (ke Hp _ _ w)<|Ac.cons (by decide) (dI cB _) (dI cB _) (ke Hp _ _ w)<|Ac.cons (by decide) (dI cB _) (dI cB _) (ke Hp _ _ w)<|Ac.cons (by decide) (dI cB _) (dI cB _) (ke Hp _ _ w) Ac.nil).trans ?_
  congr 1
  cases a;cases b;unfold nS
  rw[dZ]
  simp,by kernel_rfl⟩
theorem NG:gu bI 32:=gL Tryz.func32
theorem jZ:nI bI 27 2 2:=o9
theorem qY:mg bI 24 false 1:=uZ
theorem xG:Tryz.prog.underlying 24=some (.slice 84):=by kernel_rfl
theorem wV:wR bI 24 84 6:=DL
theorem nV:mg bI 84 true 6:=uZ
theorem Gx:Cn bI 84 6:=CY<|.agg #[(.int .i64 0),(.int .i64 0),(.int .i64 0),(.int .i64 0),(.int .i64 0),(.bool false)]
theorem sV:nI bI 84 1 2:=o9
theorem KP:gu bI 60:=gL Tryz.func60
theorem zH:nI bI 84 0 0:=o9
theorem lM:mg bI 41 true 2:=uZ
theorem nL:nI bI 41 0 0:=o9
theorem nM:nI bI 41 1 1:=o9
theorem NH:gu bI 63:=gL Tryz.func63
theorem Ic:gu bI 36:=gL Tryz.func36
theorem qt:nI bI 84 2 3:=o9
theorem sW:nI bI 84 3 4:=o9
theorem mW:nI bI 27 3 3:=o9
theorem vz:mg bI 25 false 1:=uZ
theorem Fb:Tryz.prog.underlying 25=some (.slice 60):=by kernel_rfl
theorem yA:wR bI 25 60 5:=DL
theorem xH:mg bI 60 true 5:=uZ
theorem Jv:Cn bI 60 5:=CY<|.agg #[(.string ⟨#[]⟩),(.string ⟨#[]⟩),(.int .i64 0),(.int .i64 0),(.int .i64 0)]
theorem vA:nI bI 60 0 0:=o9
theorem wA:mg bI 9 false 1:=uZ
theorem Bn:Tryz.prog.underlying 9=some (.string):=by kernel_rfl
theorem H3(a:eC)(b:Int)(w:World):(callFunc 174 [str a,(.int .u8 b)].toArray).run bI w = .ok (.value<|vi ((Lib.countByte a.cW (Int.toNat b).toUInt8:Nat):Int)) w:=A4 Extern.BytealgCount.count Tryz.func174<|Lib.run_countString _ _ w
theorem PN(a:eC)(b:Int)(w:World):(callFunc 161 [str a,(.int .u8 b)].toArray).run bI w = .ok (.value<|vi<|Lib.indexByte a.cW (Int.toNat b).toUInt8) w:=A4 Extern.BytealgIndexByte.indexByte Tryz.func161<|Lib.run_indexByteString _ _ w
theorem LK:gu bI 129:=gL Tryz.func129
theorem LL:gu bI 160:=gL Tryz.func160
theorem NL:vg bI 156 9 1 16:=vg.of<|.string ⟨#[]⟩
theorem Rm:IW bI 9 (⟨[]⟩:eC):=IW.of (.string ⟨#[]⟩)<|λM=>rfl
theorem Fc:wR bI 156 9 1:=DL
theorem NN:gu bI 99:=gL Tryz.func99
theorem LM:Tryz.prog.underlying 156=some (.slice 9):=by kernel_rfl
theorem LN:gu bI 101:=gL Tryz.func101
theorem NP:gu bI 62:=gL Tryz.func62
theorem zI:nI bI 60 1 1:=o9
theorem DQ:nI bI 60 2 2:=o9
theorem vB:nI bI 60 3 3:=o9
theorem NR:Cn bI 46 2:=CY<|.agg #[(.string ⟨#[]⟩),(.string ⟨#[]⟩)]
theorem MC:yh bI 46 [(0,1),(1,1)] #[(.string ⟨#[]⟩),(.string ⟨#[]⟩)]:=yh.of (.agg #[(.string ⟨#[]⟩),(.string ⟨#[]⟩)]) Tryz.underlying46
theorem nz:mg bI 46 true 2:=uZ
theorem KQ:gu bI 28:=gL Tryz.func28
theorem xI:nI bI 46 0 0:=o9
theorem qo(a b:eC)(w:World):(callFunc 108 [str a,str b].toArray).run bI w = .ok (.value<|vi<|Lib.compareBytes a.cW b.cW) w:=A4 Extern.BytealgCompare.compare Tryz.func108<|Lib.run_compareString _ _ w
theorem NS:gu bI 48:=gL Tryz.func48
theorem Bo:nI bI 46 1 1:=o9
theorem Ie:gu bI 27:=gL Tryz.func27
theorem NT:gu bI 64:=gL Tryz.func64
theorem PV:yh bI 93 [(0,4),(4,1),(5,1),(6,1),(7,1),(8,1),(9,1),(10,1),(11,1)] #[n_,n_,n_,n_,n_,n_,n_,n_,n_,n_,n_,n_]:=yh.of (.agg #[n_,n_,n_,n_,n_,n_,n_,n_,n_,n_,n_,n_]) Tryz.underlying93
theorem qu:nI bI 93 0 0:=o9
theorem MD:gu bI 65:=gL Tryz.func65
theorem Jw:wR bI 87 116 1:=DL
theorem Jx:Cn bI 116 1:=CY<|.slice none 0 0
theorem NU:Tryz.prog.underlying 87=some (.slice 116):=by kernel_rfl
theorem LO:mg bI 116 false 1:=uZ
theorem LP:gu bI 131:=gL Tryz.func131
theorem Pf:Tryz.prog.underlying 4=some (.bool):=by kernel_rfl
theorem Jy:nI bI 93 1 4:=o9
theorem NY:mg bI 87 false 1:=uZ
theorem NZ:vg bI 87 116 1 24:=vg.of<|.slice none 0 0
theorem Jz:gu bI 105:=gL Tryz.func105
theorem Ag:Gr bI 105 3 3 Int Int (0:Int):=⟨by kernel_rfl,A5.int Hp,Hg (.int .i64 0)<|λM=>⟨_,rfl,rfl⟩⟩
theorem ME:Cn bI 23 1:=CY<|.slice none 0 0
theorem KR:vg bI 22 23 1 24:=vg.of<|.slice none 0 0
theorem vC:nI bI 93 2 5:=o9
theorem Fe:mg bI 88 false 1:=uZ
theorem N0:yh bI 129 [(0,1),(1,1),(2,1)] #[(.int .i64 0),n_,n_]:=yh.of (.agg #[(.int .i64 0),n_,n_]) Tryz.underlying129
theorem MF:wR bI 88 129 3:=DL
theorem JA:Cn bI 129 3:=CY<|.agg #[(.int .i64 0),n_,n_]
theorem PZ:vg bI 88 129 3 56:=vg.of<|.agg #[(.int .i64 0),n_,n_]
theorem Ig:Tryz.prog.underlying 88=some (.slice 129):=by kernel_rfl
theorem Hq:mg bI 129 true 3:=uZ
theorem DR:nI bI 84 4 5:=o9
theorem xJ:mg bI 4 false 1:=uZ
theorem Hr:nI bI 129 0 0:=o9
theorem Hs:nI bI 129 2 2:=o9
theorem N1:gu bI 69:=gL Tryz.func69
theorem DS:nI bI 93 3 6:=o9
theorem KS:mg bI 89 false 1:=uZ
theorem Gy:wR bI 89 71 1:=DL
theorem N2:Cn bI 71 1:=CY<|.slice none 0 0
theorem N3:vg bI 89 71 1 24:=vg.of<|.slice none 0 0
theorem N4:yh bI 140 [(0,1)] #[n_]:=yh.of (.agg #[n_]) Tryz.underlying140
theorem qZ:nI bI 140 0 0:=o9
theorem N5:gu bI 43:=gL Tryz.func43
theorem KT:Tryz.prog.underlying 89=some (.slice 71):=by kernel_rfl
theorem Ih:gu bI 46:=gL Tryz.func46
theorem N6:gu bI 45:=gL Tryz.func45
theorem Gz:nI bI 93 5 8:=o9
theorem DT:nI bI 93 6 9:=o9
theorem N7:LB bI 135 [n_,n_,n_]:=⟨(.agg #[n_,n_,n_]),λ_=>by kernel_rfl,rfl⟩
theorem zJ:nI bI 93 4 7:=o9
theorem Ii:mg bI 90 false 1:=uZ
theorem N8:Tryz.prog.underlying 90=some (.slice 135):=by kernel_rfl
theorem DU:nI bI 135 0 0:=o9
theorem DV:nI bI 135 1 1:=o9
theorem N9:mg bI 135 true 3:=uZ
theorem MG:wR bI 90 135 3:=DL
theorem Oa:Cn bI 135 3:=CY<|.agg #[n_,n_,n_]
theorem P7:vg bI 90 135 3 72:=vg.of<|.agg #[n_,n_,n_]
theorem KU:Cn bI 96 2:=CY<|.agg #[(.bool false),(.int .i64 0)]
theorem LQ:gu bI 107:=gL Tryz.func107
theorem KW:yh bI 96 [(0,1),(1,1)] #[(.bool false),(.int .i64 0)]:=yh.of (.agg #[(.bool false),(.int .i64 0)]) Tryz.underlying96
theorem wW:mg bI 96 true 2:=uZ
theorem GA:nI bI 96 0 0:=o9
theorem xK:nI bI 96 1 1:=o9
theorem Ht:nI bI 135 2 2:=o9
theorem LR:mg bI 133 false 1:=uZ
theorem Oc:wR bI 133 46 2:=DL
theorem Od:vg bI 133 46 2 32:=vg.of<|.agg #[(.string ⟨#[]⟩),(.string ⟨#[]⟩)]
theorem GB:nI bI 93 7 10:=o9
theorem GC:nI bI 93 8 11:=o9
theorem MH:mg bI 91 false 1:=uZ
theorem Oe:wR bI 91 96 2:=DL
theorem Qa:vg bI 91 96 2 16:=vg.of<|.agg #[(.bool false),(.int .i64 0)]
theorem Of:gu bI 21:=gL Tryz.func21
theorem AG:Tryz.prog.underlying 28=some (.slice 48):=by kernel_rfl
theorem zK:wR bI 28 48 5:=DL
theorem Bp:mg bI 48 true 5:=uZ
theorem Og:Cn bI 48 5:=CY<|.agg #[(.string ⟨#[]⟩),(.string ⟨#[]⟩),(.string ⟨#[]⟩),(.string ⟨#[]⟩),(.bool false)]
theorem pd:nI bI 48 0 0:=o9
theorem LS:Tryz.prog.underlying 108=some (.int .u64):=by kernel_rfl
theorem Ff:gu bI 17:=gL Tryz.func17
theorem qw:nI bI 48 1 2:=o9
theorem Oh:gu bI 47:=gL Tryz.func47
theorem Oi:gu bI 8:=gL Tryz.func8
theorem MI:vg bI 36 4 1 1:=vg.of<|.bool false
theorem Qi:IW bI 4 (false:Bool):=IW.of (.bool false)<|λM=>rfl
theorem Ij:Tryz.prog.underlying 29=some (.slice 38):=by kernel_rfl
theorem Fg:wR bI 29 38 3:=DL
theorem KX:mg bI 38 true 3:=uZ
theorem xL:nI bI 38 0 0:=o9
theorem Fh:wR bI 36 4 1:=DL
theorem Qj:Cn bI 43 4:=CY<|.agg #[(.int .i64 0),(.int .i64 0),(.int .i64 0),(.int .i64 0)]
theorem GD:nI bI 38 1 1:=o9
theorem GF:Cn bI 41 2:=CY<|.agg #[(.int .i64 0),(.int .i64 0)]
theorem KY:M8 bI 43 2 41 2:=⟨by kernel_rfl,λ_=>by kernel_rfl⟩
theorem Oj:Nn bI 43 2 ((.agg #[(.int .i64 0),(.int .i64 0),(.int .i64 0),(.int .i64 0)]):Value).cells:=Nn.of KY
theorem Fi:mg bI 43 true 4:=uZ
theorem Ol:LB bI 38 [(.int .i64 0),(.bool false),(.int .i64 0)]:=⟨(.agg #[(.int .i64 0),(.bool false),(.int .i64 0)]),λ_=>by kernel_rfl,rfl⟩
theorem Om:LB bI 43 [(.int .i64 0),(.int .i64 0),(.int .i64 0),(.int .i64 0)]:=⟨(.agg #[(.int .i64 0),(.int .i64 0),(.int .i64 0),(.int .i64 0)]),λ_=>by kernel_rfl,rfl⟩
theorem On:gu bI 18:=gL Tryz.func18
theorem JB:nI bI 38 2 2:=o9
theorem Oo:Cn bI 51 7:=CY<|.agg #[n_,n_,n_,n_,n_,(.int .i64 0),(.int .i64 0)]
theorem xk:gu bI 113:=gL Tryz.func113
theorem LU:gu bI 110:=gL Tryz.func110
theorem C3:gu bI 136:=gL Tryz.func136
theorem LV:gu bI 117:=gL Tryz.func117
theorem LW:yh bI 186 [(0,1),(1,1)] #[(.int .i64 0),(.int .i64 0)]:=yh.of (.agg #[(.int .i64 0),(.int .i64 0)]) Tryz.underlying186
theorem xl:Tryz.prog.underlying 166=some (.slice 186):=by kernel_rfl
theorem pD:wR bI 166 186 2:=DL
theorem q8:nI bI 186 1 1:=o9
theorem q9:nI bI 186 0 0:=o9
theorem Hu:mg bI 186 true 2:=uZ
theorem LX:Cn bI 186 2:=CY<|.agg #[(.int .i64 0),(.int .i64 0)]
theorem JC:vg bI 166 186 2 16:=vg.of<|.agg #[(.int .i64 0),(.int .i64 0)]
theorem LY:gu bI 138:=gL Tryz.func138
theorem JD:gu bI 119:=gL Tryz.func119
theorem LZ:yh bI 169 [(0,1),(1,1),(2,1)] #[(.int .i64 0),(.int .i64 0),n_]:=yh.of (.agg #[(.int .i64 0),(.int .i64 0),n_]) Tryz.underlying169
theorem wB:nI bI 169 2 2:=o9
theorem C4:mg bI 166 false 1:=uZ
theorem L0:Tryz.prog.underlying 164=some (.slice 169):=by kernel_rfl
theorem yB:wR bI 164 169 3:=DL
theorem AR:nI bI 169 1 1:=o9
theorem Hv:nI bI 169 0 0:=o9
theorem MJ:KC bI 186 aG:=⟨λM cs ds a b w ha hb=>by
  obtain⟨_,_,rfl,rfl,rfl⟩:=ha
  obtain⟨_,_,rfl,rfl,rfl⟩:=hb
  refine(j7 9999 Tryz.underlying186<|Ac.cons (by decide) (dI cB _) (dI cB _) (ke Hp _ _ w)<|Ac.cons (by decide) (dI cB _) (dI cB _) (ke Hp _ _ w) Ac.nil).trans ?_
  congr 1
  cases a;cases b;unfold gF
  rw[dZ]
  simp,by kernel_rfl⟩
theorem Ov:mg bI 169 true 3:=uZ
theorem Ow:Cn bI 169 3:=CY<|.agg #[(.int .i64 0),(.int .i64 0),n_]
theorem Ox:vg bI 164 169 3 40:=vg.of<|.agg #[(.int .i64 0),(.int .i64 0),n_]
theorem L1:gu bI 118:=gL Tryz.func118
theorem L2:gu bI 120:=gL Tryz.func120
theorem MK:gu bI 84:=gL Tryz.func84
theorem Oz:gu bI 78:=gL Tryz.func78
theorem JE:gu bI 80:=gL Tryz.func80
theorem L3:gu bI 112:=gL Tryz.func112
theorem KZ:gu bI 52:=gL Tryz.func52
theorem L4:gu bI 115:=gL Tryz.func115
theorem L5:gu bI 162:=gL Tryz.func162
theorem K0:gu bI 20:=gL Tryz.func20
theorem ML:gu bI 30:=gL Tryz.func30
theorem OD:KC bI 46 eA:=⟨λM cs ds a b w ha hb=>by
  obtain⟨_,_,rfl,rfl,rfl⟩:=ha
  obtain⟨_,_,rfl,rfl,rfl⟩:=hb
  refine(j7 9999 Tryz.underlying46<|Ac.cons (by decide) (dI wA _) (dI wA _) (xz Bn _ _ w)<|Ac.cons (by decide) (dI wA _) (dI wA _) (xz Bn _ _ w) Ac.nil).trans ?_
  congr 1
  cases a;cases b;unfold wv
  rw[dZ]
  simp,by kernel_rfl⟩
theorem MM:yh bI 51 [(0,4),(4,1),(5,1),(6,1)] #[n_,n_,n_,n_,n_,(.int .i64 0),(.int .i64 0)]:=yh.of (.agg #[n_,n_,n_,n_,n_,(.int .i64 0),(.int .i64 0)]) Tryz.underlying51
theorem Cx:mg bI 51 true 7:=uZ
theorem MN:gu bI 12:=gL Tryz.func12
theorem K1:LB bI 41 [(.int .i64 0),(.int .i64 0)]:=⟨(.agg #[(.int .i64 0),(.int .i64 0)]),λ_=>by kernel_rfl,rfl⟩
theorem DW:nI bI 51 0 0:=o9
theorem JF:nI bI 51 1 4:=o9
theorem OE:mg bI 28 false 1:=uZ
theorem OG:gu bI 14:=gL Tryz.func14
theorem JG:nI bI 51 2 5:=o9
theorem MO:nI bI 51 3 6:=o9
theorem QB:yh bI 60 [(0,1),(1,1),(2,1),(3,2)] #[(.string ⟨#[]⟩),(.string ⟨#[]⟩),(.int .i64 0),(.int .i64 0),(.int .i64 0)]:=yh.of (.agg #[(.string ⟨#[]⟩),(.string ⟨#[]⟩),(.int .i64 0),(.int .i64 0),(.int .i64 0)]) Tryz.underlying60
theorem QC:yh bI 27 [(0,1),(1,1),(2,1),(3,1)] #[n_,n_,n_,n_]:=yh.of (.agg #[n_,n_,n_,n_]) Tryz.underlying27
theorem QD:Cn bI 27 4:=CY<|.agg #[n_,n_,n_,n_]
theorem JH:Tryz.prog.underlying 66=some (.slice 98):=by kernel_rfl
theorem MP:mg bI 67 false 1:=uZ
theorem JI:wR bI 66 98 5:=DL
theorem Cy:mg bI 98 true 5:=uZ
theorem MQ:Cn bI 98 5:=CY<|.agg #[(.bool false),(.bool false),(.int .i64 0),(.int .i64 0),(.int .i64 0)]
theorem xM:nI bI 98 0 0:=o9
theorem DX:nI bI 98 2 3:=o9
theorem DY:nI bI 98 3 4:=o9
theorem zL:nI bI 98 1 1:=o9
theorem OH:KC bI 96 gC:=⟨λM cs ds a b w ha hb=>by
  obtain⟨_,_,rfl,rfl,rfl⟩:=ha
  obtain⟨_,_,rfl,rfl,rfl⟩:=hb
  refine(j7 9999 Tryz.underlying96<|Ac.cons (by decide) (dI xJ _) (dI xJ _) (sH Pf _ _ w)<|Ac.cons (by decide) (dI cB _) (dI cB _) (ke Hp _ _ w) Ac.nil).trans ?_
  congr 1
  cases a;cases b;unfold uo
  rw[dZ]
  simp,by kernel_rfl⟩
theorem MR:gu bI 40:=gL Tryz.func40
theorem OI:KC bI 98 mM:=⟨λM cs ds a b w ha hb=>by
  obtain⟨_,_,rfl,rfl,⟨_,_,rfl,⟨_,_,rfl,rfl,rfl⟩,⟨_,_,rfl,rfl,rfl⟩⟩⟩:=ha
  obtain⟨_,_,rfl,rfl,⟨_,_,rfl,⟨_,_,rfl,rfl,rfl⟩,⟨_,_,rfl,rfl,rfl⟩⟩⟩:=hb
  refine(j7 9999 Tryz.underlying98<|Ac.cons (by decide) (dI xJ _) (dI xJ _) (sH Pf _ _ w)<|Ac.cons (by decide) (zv wW rfl _) (zv wW rfl _) (j7 9998 Tryz.underlying95<|Ac.cons (by decide) (dI xJ _) (dI xJ _) (sH Pf _ _ w)<|Ac.cons (by decide) (dI cB _) (dI cB _) (ke Hp _ _ w) Ac.nil)<|Ac.cons (by decide) (dI cB _) (dI cB _) (ke Hp _ _ w)<|Ac.cons (by decide) (dI cB _) (dI cB _) (ke Hp _ _ w) Ac.nil).trans ?_
  congr 1
  obtain⟨_,⟨_,_⟩,_,_⟩:=a;obtain⟨_,⟨_,_⟩,_,_⟩:=b;unfold tw uo
  rw[dZ]
  simp,by kernel_rfl⟩
theorem OJ:LB bI 101 [(.map none)]:=⟨(.map none),λ_=>by kernel_rfl,rfl⟩
theorem Fj:mg bI 101 false 1:=uZ
theorem OK:gu bI 42:=gL Tryz.func42
theorem Hx:Gr bI 101 3 4 Int Bool (false:Bool):=⟨by kernel_rfl,A5.int Hp,Hg (.bool false)<|λM=>⟨_,rfl,rfl⟩⟩
theorem OL:LB bI 102 [(.pointer none)]:=⟨(.pointer none),λ_=>by kernel_rfl,rfl⟩
theorem Fk:mg bI 102 false 1:=uZ
theorem OM:gu bI 44:=gL Tryz.func44
theorem QH:Tryz.prog.underlying 91=some (.slice 96):=by kernel_rfl
def aX(E:World)(V:List HP)(res:Bool)(v:Value)(w:World):Prop:=v= vb res/\Holds E w V
def aN(E:World)(V:List HP)(res:Int)(v:Value)(w:World):Prop:=v= vi res/\Holds E w V
def fU(E:World)(V:List HP)(res:List aH)(v:Value)(w:World):Prop:=Holds E w<|[own 58 v res]++V
def mX(E:World)(V:List HP)(res:List Int)(v:Value)(w:World):Prop:=Holds E w<|[own 3 v res]++V
def nA(E:World)(V:List HP)(res:List aA)(v:Value)(w:World):Prop:=Holds E w<|[own 154 v res]++V
def pf(E:World)(V:List HP)(res:aH)(v:Value)(w:World):Prop:=Holds E w<|[rd v res]++V
def re(E:World)(V:List HP)(res:Int×Int)(v:Value)(w:World):Prop:=v = .tuple #[vi res.1,vi res.2]/\Holds E w V
def qG(E:World)(V:List HP)(res:List Int)(v:Value)(w:World):Prop:=Holds E w<|[rd v res]++V
def lT(E:World)(V:List HP)(res:List aG)(v:Value)(w:World):Prop:=Holds E w<|[own 186 v res]++V
def pS(E:World)(V:List HP)(res:Option (List (List aH)×List aH×List cJ×List dN×List (List aA)×List aL×List (List Int)×List dD×List Int×List Int×List Int×List gC)×Int)(v:Value)(w:World):Prop:=Jk res.1 (v = .tuple #[(.pointer none),vi res.2]/\Holds E w V) (λy=>∃(ub0:Nat)(A_ a4_:Value)(a5_ a6_:Value)(I_ J_:Value)(K_ L_:Value)(M_ N_:Value)(O_ P_:Value),v = .tuple #[vp ub0 0,vi res.2]/\Holds E w ([bc 93 ub0 [A_,a4_,a5_,a6_,I_,J_,K_,L_,M_,N_,O_,P_],rd A_ y.1,rd a4_ y.2.1,rd a5_ y.2.2.1,rd a6_ y.2.2.2.1,own 116 I_ y.2.2.2.2.1,rd J_ y.2.2.2.2.2.1,rd K_ y.2.2.2.2.2.2.1,own 135 L_ y.2.2.2.2.2.2.2.1,rd M_ y.2.2.2.2.2.2.2.2.1,rd N_ y.2.2.2.2.2.2.2.2.2.1,own 3 O_ y.2.2.2.2.2.2.2.2.2.2.1,own 96 P_ y.2.2.2.2.2.2.2.2.2.2.2]++V))
def pg(E:World)(V:List HP)(res:List (List aH))(v:Value)(w:World):Prop:=Holds E w<|[own 23 v res]++V
def kC(E:World)(V:List HP)(b0:Nat)(e_ h_:Value)(a_ d_:Value)(k_ b_:Value)(f_ p_:Value)(o_ l_:Value)(i_ g_:Value)(res:Int)(v:Value)(w:World):Prop:=v= vi res/\Holds E w ([bc 93 b0 [e_,h_,a_,d_,k_,b_,f_,p_,o_,l_,i_,g_]]++V)
def rN(E:World)(V:List HP)(res:List eC)(v:Value)(w:World):Prop:=Holds E w<|[own 9 v res]++V
def zo(H:Type)(d:DataW H):Nat:=YtpbhmbhiaonoiaaGreatDoor.Rows.uptoBulk d
def OP(H:Type)(d:List (DataW H)):Nat:=YtpbhmbhiaonoiaaGreatDoor.Rows.uptoBulkAll d
theorem gU:UB zo OP where
  str:=λH b=>by simp[zo,YtpbhmbhiaonoiaaGreatDoor.Rows.uptoBulk]
  pos:=λH d=>by
    unfold zo
    cases d with
    |lit l=>cases l <;> simp[YtpbhmbhiaonoiaaGreatDoor.Rows.uptoBulk]
    |nil=>simp[YtpbhmbhiaonoiaaGreatDoor.Rows.uptoBulk]
    |ptr d=>simp[YtpbhmbhiaonoiaaGreatDoor.Rows.uptoBulk]
    |slice elems spare=>simp[YtpbhmbhiaonoiaaGreatDoor.Rows.uptoBulk]
    |agg parts=>simp[YtpbhmbhiaonoiaaGreatDoor.Rows.uptoBulk]
    |iface t d=>simp[YtpbhmbhiaonoiaaGreatDoor.Rows.uptoBulk]
    |map entries=>simp[YtpbhmbhiaonoiaaGreatDoor.Rows.uptoBulk]
    |held h=>simp[YtpbhmbhiaonoiaaGreatDoor.Rows.uptoBulk]
  sl:=λH e s=>by simp[zo,OP,YtpbhmbhiaonoiaaGreatDoor.Rows.uptoBulk]
  ag:=λH l=>by simp[zo,OP,YtpbhmbhiaonoiaaGreatDoor.Rows.uptoBulk]
  nil:=λH=>by simp[OP,YtpbhmbhiaonoiaaGreatDoor.Rows.uptoBulkAll]
  cons:=λH x l=>by simp[zo,OP,YtpbhmbhiaonoiaaGreatDoor.Rows.uptoBulkAll]
theorem HB:jv zo Tryz.prog 3 Int:=Ip gU (by kernel_rfl)
theorem QK:jv zo Tryz.prog 58 aH:=kS gU (λ(x:aH)=>(x.X0,x.Y0,x.X1,x.Y1)) (λb=>⟨b.1,b.2.1,b.2.2.1,b.2.2.2⟩) (λb=>rfl) Tryz.underlying58 (fI gU HB<|fI gU HB<|fI gU HB<|oK gU HB) (λb=>by simp only[K6];omega)
theorem OQ:jv zo Tryz.prog 23 (List aH):=pK (e:=58) gU QK
theorem QL:jv zo Tryz.prog 22 (List<|List aH):=pK (e:=23) gU OQ
theorem OR:jv zo Tryz.prog 41 cK:=kS gU (λ(x:cK)=>(x.X,x.Y)) (λb=>⟨b.1,b.2⟩) (λb=>rfl) Tryz.underlying41 (fI gU HB<|oK gU HB) (λb=>by simp only[JP];omega)
theorem QM:jv zo Tryz.prog 4 Bool:=GI gU (by kernel_rfl)
theorem QN:jv zo Tryz.prog 84 cJ:=kS gU (λ(x:cJ)=>(x.At,x.dJ,x.cL,x.To,x.jH)) (λb=>⟨b.1,b.2.1,b.2.2.1,b.2.2.2.1,b.2.2.2.2⟩) (λb=>rfl) Tryz.underlying84 (fI gU OR<|fI gU HB<|fI gU HB<|fI gU HB<|oK gU QM) (λb=>by simp only[K7];omega)
theorem QO:jv zo Tryz.prog 24 (List cJ):=pK (e:=84) gU QN
theorem Pg:jv zo Tryz.prog 9 eC:=Iq gU (by kernel_rfl)
theorem QP:jv zo Tryz.prog 60 dN:=kS gU (λ(x:dN)=>(x.Part,x.eA,x.fT,x.At)) (λb=>⟨b.1,b.2.1,b.2.2.1,b.2.2.2⟩) (λb=>rfl) Tryz.underlying60 (fI gU Pg<|fI gU Pg<|fI gU HB<|oK gU OR) (λb=>by simp only[HA];omega)
theorem QQ:jv zo Tryz.prog 25 (List dN):=pK (e:=60) gU QP
theorem QR:jv zo Tryz.prog 27 gm:=kS gU (λ(x:gm)=>(x.aJ,x.cT,x.aU,x.bJ)) (λb=>⟨b.1,b.2.1,b.2.2.1,b.2.2.2⟩) (λb=>rfl) Tryz.underlying27 (fI gU QL<|fI gU OQ<|fI gU QO<|oK gU QQ) (λb=>by simp only[JQ];omega)
theorem OS:jv zo Tryz.prog 46 eA:=kS gU (λ(x:eA)=>(x.Part,x.eA)) (λb=>⟨b.1,b.2⟩) (λb=>rfl) Tryz.underlying46 (fI gU Pg<|oK gU Pg) (λb=>by simp only[MT];omega)
theorem QT:jv zo Tryz.prog 48 Test:=kS gU (λ(x:Test)=>(x.A,x.B,x.Joined)) (λb=>⟨b.1,b.2.1,b.2.2⟩) (λb=>rfl) Tryz.underlying48 (fI gU OS<|fI gU OS<|oK gU QM) (λb=>by simp only[K8];omega)
theorem QU:jv zo Tryz.prog 28 (List Test):=pK (e:=48) gU QT
theorem QV:jv zo Tryz.prog 38 Touch:=kS gU (λ(x:Touch)=>(x.Test,x.o4,x.tp)) (λb=>⟨b.1,b.2.1,b.2.2⟩) (λb=>rfl) Tryz.underlying38 (fI gU HB<|fI gU QM<|oK gU HB) (λb=>by simp only[JR];omega)
theorem QW:jv zo Tryz.prog 29 (List Touch):=pK (e:=38) gU QV
end Go.Gk
namespace Go.Proofs
open Go.Shelf Go.RowKit Go.Lib Go.Sort
def Tryz.lay89_ren : Go.Shelf.Ren := ⟨fun | 6 => 89 | 15 => 122 | 14 => 121 | 28 => 147 | 29 => 148 | 20 => 139 | 21 => 140 | 22 => 141 | 23 => 142 | 24 => 143 | 25 => 144 | 26 => 145 | 27 => 146 | 46 => 163 | 47 => 164 | 48 => 165 | 49 => 166 | 50 => 167 | 57 => 176 | n => n, fun | 22 => 23 | 24 => 58 | 25 => 85 | 3 => 3 | 39 => 108 | 0 => 0 | 53 => 195 | 55 => 197 | 4 => 4 | 46 => 189 | 45 => 188 | 50 => 74 | 5 => 5 | 9 => 9 | 66 => 206 | 70 => 210 | 76 => 217 | 77 => 218 | n => n, fun | n => n⟩
theorem Tryz.lay89 : Go.Proofs.SlLaysF0.n6 Tryz.prog Tryz.lay89_ren := {
  mixed := by kernel_rfl
  f6 := ⟨Tryz.f89.name, by decide, Tryz.func89.trans (congrArg some (by kernel_rfl))⟩
  f14 := ⟨Tryz.f121.name, by decide, Tryz.func121.trans (congrArg some (by kernel_rfl))⟩
  f15 := Tryz.func122.trans (congrArg some (by kernel_rfl))
  f20 := ⟨Tryz.f139.name, by decide, Tryz.func139.trans (congrArg some (by kernel_rfl))⟩
  f21 := ⟨Tryz.f140.name, by decide, Tryz.func140.trans (congrArg some (by kernel_rfl))⟩
  f22 := ⟨Tryz.f141.name, by decide, Tryz.func141.trans (congrArg some (by kernel_rfl))⟩
  f23 := ⟨Tryz.f142.name, by decide, Tryz.func142.trans (congrArg some (by kernel_rfl))⟩
  f24 := ⟨Tryz.f143.name, by decide, Tryz.func143.trans (congrArg some (by kernel_rfl))⟩
  f25 := ⟨Tryz.f144.name, by decide, Tryz.func144.trans (congrArg some (by kernel_rfl))⟩
  f26 := ⟨Tryz.f145.name, by decide, Tryz.func145.trans (congrArg some (by kernel_rfl))⟩
  f27 := ⟨Tryz.f146.name, by decide, Tryz.func146.trans (congrArg some (by kernel_rfl))⟩
  f28 := Tryz.func147.trans (congrArg some (by kernel_rfl))
  f29 := Tryz.func148.trans (congrArg some (by kernel_rfl))
  f46 := ⟨Tryz.f163.name, by decide, Tryz.func163.trans (congrArg some (by kernel_rfl))⟩
  f47 := Tryz.func164.trans (congrArg some (by kernel_rfl))
  f48 := Tryz.func165.trans (congrArg some (by kernel_rfl))
  f49 := ⟨Tryz.f166.name, by decide, Tryz.func166.trans (congrArg some (by kernel_rfl))⟩
  f50 := ⟨Tryz.f167.name, by decide, Tryz.func167.trans (congrArg some (by kernel_rfl))⟩
  f57 := ⟨Tryz.f176.name, by decide, Tryz.func176.trans (congrArg some (by kernel_rfl))⟩
  t0 := Tryz.underlying0
  a0 := Tryz.isAgg0
  z0 := Tryz.sizeOf0
  v0 := Tryz.zeroValue0
  t3 := Tryz.underlying3
  a3 := Tryz.isAgg3
  z3 := Tryz.sizeOf3
  v3 := Tryz.zeroValue3
  t4 := Tryz.underlying4
  a4 := Tryz.isAgg4
  z4 := Tryz.sizeOf4
  v4 := Tryz.zeroValue4
  t5 := Tryz.underlying5
  a5 := Tryz.isAgg5
  z5 := Tryz.sizeOf5
  v5 := Tryz.zeroValue5
  t9 := Tryz.underlying9
  a9 := Tryz.isAgg9
  z9 := Tryz.sizeOf9
  v9 := Tryz.zeroValue9
  t22 := Tryz.underlying23
  a22 := Tryz.isAgg23
  z22 := Tryz.sizeOf23
  v22 := Tryz.zeroValue23
  t25 := Tryz.underlying85
  a25 := Tryz.isAgg85
  z25 := Tryz.sizeOf85
  v25 := Tryz.zeroValue85
  t39 := Tryz.underlying108
  a39 := Tryz.isAgg108
  z39 := Tryz.sizeOf108
  v39 := Tryz.zeroValue108
  t45 := Tryz.underlying188
  a45 := Tryz.isAgg188
  z45 := Tryz.sizeOf188
  v45 := Tryz.zeroValue188
  t46 := Tryz.underlying189
  a46 := Tryz.isAgg189
  z46 := Tryz.sizeOf189
  v46 := Tryz.zeroValue189
  t50 := Tryz.underlying74
  a50 := Tryz.isAgg74
  z50 := Tryz.sizeOf74
  v50 := Tryz.zeroValue74
  t53 := Tryz.underlying195
  a53 := Tryz.isAgg195
  z53 := Tryz.sizeOf195
  v53 := Tryz.zeroValue195
  t55 := Tryz.underlying197
  a55 := Tryz.isAgg197
  z55 := Tryz.sizeOf197
  v55 := Tryz.zeroValue197
  t66 := Tryz.underlying206
  a66 := Tryz.isAgg206
  z66 := Tryz.sizeOf206
  v66 := Tryz.zeroValue206
  t70 := Tryz.underlying210
  a70 := Tryz.isAgg210
  z70 := Tryz.sizeOf210
  v70 := Tryz.zeroValue210
  t76 := Tryz.underlying217
  a76 := Tryz.isAgg217
  z76 := Tryz.sizeOf217
  v76 := Tryz.zeroValue217
  t77 := Tryz.underlying218
  a77 := Tryz.isAgg218
  z77 := Tryz.sizeOf218
  v77 := Tryz.zeroValue218 }
def Tryz.lay91_ren : Go.Shelf.Ren := ⟨fun | 5 => 91 | 8 => 122 | 7 => 123 | 19 => 147 | 20 => 148 | 10 => 149 | 11 => 150 | 12 => 151 | 13 => 152 | 14 => 153 | 15 => 154 | 16 => 155 | 17 => 156 | 18 => 157 | 30 => 168 | 31 => 164 | 32 => 165 | 33 => 169 | 34 => 170 | 35 => 171 | 40 => 177 | n => n, fun | 23 => 71 | 25 => 3 | 3 => 3 | 32 => 108 | 22 => 71 | 0 => 0 | 44 => 195 | 46 => 197 | 4 => 4 | 36 => 189 | 35 => 188 | 41 => 74 | 5 => 5 | 9 => 9 | 53 => 206 | 57 => 210 | 63 => 217 | 64 => 218 | n => n, fun | n => n⟩
theorem Tryz.lay91 : Go.Proofs.SlLaysM.n5 Tryz.prog Tryz.lay91_ren := {
  mixed := by kernel_rfl
  f5 := ⟨Tryz.f91.name, by decide, Tryz.func91.trans (congrArg some (by kernel_rfl))⟩
  f7 := ⟨Tryz.f123.name, by decide, Tryz.func123.trans (congrArg some (by kernel_rfl))⟩
  f8 := Tryz.func122.trans (congrArg some (by kernel_rfl))
  f10 := ⟨Tryz.f149.name, by decide, Tryz.func149.trans (congrArg some (by kernel_rfl))⟩
  f11 := ⟨Tryz.f150.name, by decide, Tryz.func150.trans (congrArg some (by kernel_rfl))⟩
  f12 := ⟨Tryz.f151.name, by decide, Tryz.func151.trans (congrArg some (by kernel_rfl))⟩
  f13 := ⟨Tryz.f152.name, by decide, Tryz.func152.trans (congrArg some (by kernel_rfl))⟩
  f14 := ⟨Tryz.f153.name, by decide, Tryz.func153.trans (congrArg some (by kernel_rfl))⟩
  f15 := ⟨Tryz.f154.name, by decide, Tryz.func154.trans (congrArg some (by kernel_rfl))⟩
  f16 := ⟨Tryz.f155.name, by decide, Tryz.func155.trans (congrArg some (by kernel_rfl))⟩
  f17 := ⟨Tryz.f156.name, by decide, Tryz.func156.trans (congrArg some (by kernel_rfl))⟩
  f18 := ⟨Tryz.f157.name, by decide, Tryz.func157.trans (congrArg some (by kernel_rfl))⟩
  f19 := Tryz.func147.trans (congrArg some (by kernel_rfl))
  f20 := Tryz.func148.trans (congrArg some (by kernel_rfl))
  f30 := ⟨Tryz.f168.name, by decide, Tryz.func168.trans (congrArg some (by kernel_rfl))⟩
  f31 := Tryz.func164.trans (congrArg some (by kernel_rfl))
  f32 := Tryz.func165.trans (congrArg some (by kernel_rfl))
  f33 := ⟨Tryz.f169.name, by decide, Tryz.func169.trans (congrArg some (by kernel_rfl))⟩
  f34 := ⟨Tryz.f170.name, by decide, Tryz.func170.trans (congrArg some (by kernel_rfl))⟩
  f35 := ⟨Tryz.f171.name, by decide, Tryz.func171.trans (congrArg some (by kernel_rfl))⟩
  f40 := ⟨Tryz.f177.name, by decide, Tryz.func177.trans (congrArg some (by kernel_rfl))⟩
  t0 := Tryz.underlying0
  a0 := Tryz.isAgg0
  z0 := Tryz.sizeOf0
  v0 := Tryz.zeroValue0
  t3 := Tryz.underlying3
  a3 := Tryz.isAgg3
  z3 := Tryz.sizeOf3
  v3 := Tryz.zeroValue3
  t4 := Tryz.underlying4
  a4 := Tryz.isAgg4
  z4 := Tryz.sizeOf4
  v4 := Tryz.zeroValue4
  t5 := Tryz.underlying5
  a5 := Tryz.isAgg5
  z5 := Tryz.sizeOf5
  v5 := Tryz.zeroValue5
  t9 := Tryz.underlying9
  a9 := Tryz.isAgg9
  z9 := Tryz.sizeOf9
  v9 := Tryz.zeroValue9
  t22 := Tryz.underlying71
  a22 := Tryz.isAgg71
  z22 := Tryz.sizeOf71
  v22 := Tryz.zeroValue71
  t23 := Tryz.underlying71
  a23 := Tryz.isAgg71
  z23 := Tryz.sizeOf71
  v23 := Tryz.zeroValue71
  t25 := Tryz.underlying3
  a25 := Tryz.isAgg3
  z25 := Tryz.sizeOf3
  v25 := Tryz.zeroValue3
  t32 := Tryz.underlying108
  a32 := Tryz.isAgg108
  z32 := Tryz.sizeOf108
  v32 := Tryz.zeroValue108
  t35 := Tryz.underlying188
  a35 := Tryz.isAgg188
  z35 := Tryz.sizeOf188
  v35 := Tryz.zeroValue188
  t36 := Tryz.underlying189
  a36 := Tryz.isAgg189
  z36 := Tryz.sizeOf189
  v36 := Tryz.zeroValue189
  t41 := Tryz.underlying74
  a41 := Tryz.isAgg74
  z41 := Tryz.sizeOf74
  v41 := Tryz.zeroValue74
  t44 := Tryz.underlying195
  a44 := Tryz.isAgg195
  z44 := Tryz.sizeOf195
  v44 := Tryz.zeroValue195
  t46 := Tryz.underlying197
  a46 := Tryz.isAgg197
  z46 := Tryz.sizeOf197
  v46 := Tryz.zeroValue197
  t53 := Tryz.underlying206
  a53 := Tryz.isAgg206
  z53 := Tryz.sizeOf206
  v53 := Tryz.zeroValue206
  t57 := Tryz.underlying210
  a57 := Tryz.isAgg210
  z57 := Tryz.sizeOf210
  v57 := Tryz.zeroValue210
  t63 := Tryz.underlying217
  a63 := Tryz.isAgg217
  z63 := Tryz.sizeOf217
  v63 := Tryz.zeroValue217
  t64 := Tryz.underlying218
  a64 := Tryz.isAgg218
  z64 := Tryz.sizeOf218
  v64 := Tryz.zeroValue218 }
end Go.Proofs
namespace Go.Gk
open Go IntKind Go.Proofs
variable (N:Nat){E w:World}{i0 i1 i2:Nat}{p0 p1 p2 res:Int}{v0 v1 v2:Value}{V:List HP}
theorem AH{res:Bool}(o:Holds E w V)(j:ui N p0 p1 p2=some res):c_ 130 [vi p0,vi p1,vi p2] w<|aX E V res:=by
 unfold ui at j;refine enter Tryz.func130 zr zr<|w_<|bZ false<|IT<|aY p0<|aY p1<|ic p0 p1<|fN (decide<|p0>=p1)<|BY true (decide<|p0>=p1) (vi p0) zr zr zr cF ?_;refine BY true (decide<|p0>=p1) (vi p2) rfl rfl rfl cF<|BY true (decide<|p0>=p1) (vb<|decide<|p0<=p2) rfl rfl rfl (dB .leq .i64 p0 p2 rfl (by exact z_ (vi p0)) (by exact z_ (vi p2)) rfl)<|Sb (decide<|p0>=p1) (vb<|decide (p0>=p1)&&decide (p0<=p2)) (fE true)<|bZ (decide (p0>=p1)&&decide (p0<=p2))<|AI<|RM ?_;exact oi j▸bS ⟨rfl,o.drop 0⟩
theorem mu{res:Bool}(o:Holds E w V)(j:lP N p0=some res):c_ 102 [vi p0] w<|aX E V res:=by
 unfold lP at j;exact enter Tryz.func102 zr zr<|w_<|bZ false<|IT<|aY p0<|q_ j λaa ab j=>RI (gL Tryz.func130) (AH N (p0:=p0) (p1:=(-1000000)) (p2:=1000000) o ab) λw o=>bZ aa<|AI<|RM<|oi j▸bS ⟨rfl,o.drop 0⟩
theorem uT{p0:aH}{res:Bool}(j:Holds E w V)(h0:V[i0]? =some (rd v0 p0))(hb:nn N p0=some res):c_ 87 [v0] w<|aX E V res:=by
 unfold nn at hb;refine enter Tryz.func87 zr zr ?_;have j:=j.dup (i0+0) h0;refine w_<|R1 0 v0 j zr λaq w j=>?_;refine bZ false<|RD<|q_ hb λaf o hb=>RS (λ(af:Bool)=>SH E V [(2,vb af)] []) af ?_ ?_;refine IS<|AT zr iT<|OF 0 j zr dW cB<|q_ o λaj ak o=>RI C2 (mu N (p0:=p0.X0) j ak) λw j=>fN aj<|fp o (λaa o=>?_) λaa o=>?_;refine AT (hg:=cg aa) zr iJ<|OF (hg:=cg aa) 0 j zr dQ cB<|q_ o λag al o=>RI (hg:=cg aa) C2 (mu N (p0:=p0.Y0) j al) λw j=>eY aa (vb ag)<|fN ag<|fp o (λab o=>?_) λab o=>?_;refine AT (hg:=cg ab) zr jM<|OF (hg:=cg ab) 0 j zr eV cB<|q_ o λah an o=>RI (hg:=cg ab) C2 (mu N (p0:=p0.X1) j an) λw j=>eY ab (vb ah)<|fN ah<|fp o (λad o=>?_) λad o=>?_;exact AT (hg:=cg ad) zr lF<|OF (hg:=cg ad) 0 j zr gj cB<|q_ o λai ao o=>RI (hg:=cg ad) C2 (mu N (p0:=p0.Y1) j ao) λw j=>eY ad (vb ai)<|bZ ai<|By<|oi o▸⟨rfl,j.sp 2 []⟩;exact bK ad<|bK ad<|bK ad<|eY ad (vb false)<|bZ false<|By<|oi o▸⟨rfl,j.sp 2 []⟩;refine bK ab<|bK ab<|bK ab<|eY ab (vb false)<|fN false<|mA<|mA<|mA<|Sb false (vb false) zr<|bZ false<|By ?_;exact oi o▸⟨rfl,j.sp 2 []⟩;refine bK aa<|bK aa<|bK aa<|eY aa (vb false)<|fN false<|mA<|mA<|mA<|Sb false (vb false) zr<|fN false<|mA<|mA<|mA<|Sb false (vb false) zr<|bZ false<|By ?_;exact oi o▸⟨rfl,j.sp 2 []⟩;rintro _ w⟨O,rfl,j⟩;exact aF<|RM<|oi hb▸bS ⟨rfl,j.drop 0⟩
theorem wX{p0:List aH}(o:Holds E w V)(h0:V[i0]? =some (rd v0 p0))(hb:lq N p0=some res):c_ 55 [v0] w<|aN E V res:=by
 unfold lq at hb;refine enter Tryz.func55 zr zr ?_;have o:=o.dup (i0+0) h0;refine w_<|aM 0<|RD<|w_<|mv v0<|RK 0 p0 o nU<|ic ((p0.length:Int)) 2000<|AI<|dP hb (λhb=>?_) λhb=>?_;exact w_<|aM 2<|AI<|RZ<|oi hb▸bS ⟨rfl,o.drop 1⟩;refine RW<|w_<|mv v0<|RK 0 p0 o nU<|aY 0<|AI<|SM E V (λ(ae:Unit)=>[rd v0 p0]) (λ_=>[]) (λad _=>[(8,v0),(9,vi p0.length),(10,vi ad)]) (λr=>lK bI 30 Tryz.f55 (aN E V r) .ret) hb ?_ ?_ ?_ ?_;exact o.sp 1 [0];rintro hm ad ae fl _ w hk⟨O,rfl,o⟩hb;refine IN<|R6<|q_ hb λj ah hb=>RG 0 o jL ah λan o=>RQ 0 j o iL λao o=>Sj o pz.z λab w o=>?_;refine Sa 0 o 1 zr iL λw o=>?_;refine RD<|w_<|R5 0 o zr iL λaq o=>?_;refine q_ hb λai aj hb=>RI Ny (uT N (i0:=0) o zr aj) λw o=>Sk ai<|AI<|dP hb (λhb=>?_) λhb=>?_;exact w_<|aM 1<|AI<|RZ<|iY<|bH<|oi hb▸⟨rfl,bS ⟨rfl,o.drop 5⟩⟩;refine Sz<|AT rfl jM<|OF 1 o rfl eV cB<|AT rfl iT<|OF 1 o rfl dW cB<|ic j.X1 j.X0<|fN (decide<|j.X1<=j.X0)<|BY true (decide<|j.X1<=j.X0) (vp ab 3) rfl rfl rfl (cX lF)<|BY true (decide<|j.X1<=j.X0) (vi j.Y1) rfl rfl rfl (bP 1 rfl o (by exact z_ (vp ab 3)) rfl gj cB) ?_;refine BY true (decide<|j.X1<=j.X0) (vp ab 1) rfl rfl rfl (cX iJ)<|BY true (decide<|j.X1<=j.X0) (vi j.Y0) rfl rfl rfl (bP 1 rfl o (by exact z_ (vp ab 1)) rfl dQ cB)<|BY true (decide<|j.X1<=j.X0) (vb<|decide<|j.Y1<=j.Y0) rfl rfl rfl (dB .leq .i64 j.Y1 j.Y0 rfl (by exact z_ (vi j.Y1)) (by exact z_ (vi j.Y0)) rfl)<|Sb (decide<|j.X1<=j.X0) (vb<|decide (j.X1<=j.X0)||decide (j.Y1<=j.Y0)) (nG true)<|AI<|dP hb (λhb=>?_) λhb=>?_;exact w_<|aM 13<|AI<|Sp<|bH<|oi hb▸⟨rfl,bS ⟨rfl,o.drop 5⟩⟩;exact Se<|bQ<|aF<|IS<|So hk hm<|aY ((ad+1:Nat):Int)<|By<|oi hb▸⟨rfl,o.sp 5 [4]⟩;intro r U w hb hK;exact bH<|oi hb▸hK;rintro ae _ w hb⟨O,rfl,o⟩;exact aF<|w_<|aM 0<|AI<|RM<|oi hb▸bS ⟨rfl,o.drop 1⟩
theorem vE{p0:List aH}{res:List aH}(j:Holds E w V)(h0:V[i0]? =some (rd v0 p0))(o:jy N p0=some res):
    c_ 88 [v0] w<|fU E V res:=by
 unfold jy at o
 refine enter Tryz.func88 zr zr ?_
 have j:=j.dup (i0+0) h0
 refine w_<|dV n_<|RD<|w_<|mv v0<|Ul (i:=0) zt zr j zr zr zr nU<|AI<|Tv (b:=KG v0) zr (λhc=>?_)<|λhc=>?_
 ·have hx:=j.Po (i:=0) rfl hc
  rw[hx]at o
  replace o:some ([]:List aH)=_:=o
  refine w_<|dV n_<|AI<|RZ ?_
  obtain rfl:=oi o
  have j:=j.dU aH 58
  exact bS<|j.pk 2 [0]
 refine Sz<|Su ([]:List aH) j [] jL pz (λM hs g=>zt) λae w j=>mv v0 ?_
 obtain⟨af,ab,o⟩:=bd o
 refine Sx 0 1 j Bm ab λad w j=>?_
 refine dV ad<|AI<|RM ?_
 obtain rfl:=oi o
 exact bS<|j.pk 2 [0]
theorem yF{p0 p1:aH}(j:Holds E w V)(h0:V[i0]? =some (rd v0 p0))(h1:V[i1]? =some (rd v1 p1))(o:kg N p0 p1=some res):c_ 90 [v0,v1] w<|aN E V res:=by
 unfold kg at o;refine enter Tryz.func90 zr zr ?_;have j:=(j.dup (i0+0) h0).dup (i1+1) h1;refine w_<|R1 1 v0 j zr λaa w j=>?_;refine R1 1 v1 j zr λab w j=>?_;refine aM 0<|IT<|AT zr iJ<|OF 1 j zr dQ cB<|AT zr iJ<|OF 0 j zr dQ cB<|RF p0.Y0 p1.Y0<|aM (wrap .i64<|p0.Y0 - p1.Y0)<|AI ?_;exact RM<|oi o▸bS ⟨rfl,j.drop 4⟩
theorem u3{p0:List Int}{res:List Int}(j:Holds E w (own 3 v0 p0::V))(o:hU N p0=some res):c_ 92 [v0] w<|mX E V res:=by
 unfold hU at o;refine enter Tryz.func92 zr zr<|w_<|dV n_<|RD<|w_<|mv v0<|SG 0 p0 j nK<|ic ((p0.length:Int)) 2<|AI<|dP o (λo=>?_) λo=>?_;refine w_<|mv v0<|dV v0<|AI<|RZ ?_;obtain rfl:=oi o;exact bS<|j.pk 1 [0];refine RW<|w_<|aM 1<|AI<|SN E V (λ(ab:Int)=>[own 3 v0 p0]) (λ_=>[(0,v0)]) (λab=>[(3,vi ab)]) (λr=>lK bI 61 Tryz.f92 (mX E V r) .ret) o ?_ ?_ ?_ ?_;exact j.sp 1 [0];rintro ab fl _ w⟨O,rfl,j⟩o;refine IN<|w_<|aY ab<|mv v0<|SG 0 p0 j nK<|ic ab ((p0.length:Int))<|AI<|dP o (λo=>?_) λo=>?_;refine RW<|Sv<|IN<|SF mixed ?_;have j:=j.drew;refine SE<|mv v0<|AS<|aY ab<|AS<|q_ o λaq aj o=>R8 0 j zr zr eW aj<|AS<|SO 0 j aj cB<|AS<|mv v0<|AS<|aY ab<|AS<|RF ab 1 ?_;refine AS<|q_ o λar ak o=>R8 0 j zr zr eW ak<|AS<|SO 0 j ak cB<|AS<|ic aq ar<|Sy<|aF<|dP o (λo=>?_) λo=>?_;refine w_<|mv v0<|aY ab<|q_ o λa0 ae o=>TO 0 ab zr j zr zr eW ae<|dV (vw v0 (Int.toNat ab) 1)<|RD<|w_<|aM 1<|AI<|Td E V (λ(aa:List Int×Int×Int)=>[own 3 v0 aa.1]) (λaa=>[(0,v0),(3,vi aa.2.1)]) (λaa=>[(4,vw v0 (Int.toNat ab) 1),(5,vi aa.2.2)]) o ?_ ?_ ?_;exact j.sp 1 [0];rintro aa fl _ w⟨O,rfl,j⟩o;refine IN<|w_<|aY aa.2.2<|mv (vw v0 (Int.toNat ab) 1)<|Um (i:=0) (l:=aa.1) zt zr j zr zr nK<|ic aa.2.2 ((((aa.1.length - Int.toNat ab):Nat):Int))<|AI<|dP o (λo=>?_) λo=>?_;refine RW<|Sv<|IN<|SF mixed ?_;have j:=j.drew;refine SE<|mv (vw v0 (Int.toNat ab) 1)<|AS<|aY aa.2.2<|AS<|q_ o λau af o=>TP 0 ab zr j zr zr zr eW (Gu ae) (kE af).1 (kE af).2<|AS<|S3 (f:=(λx=>x)) 0 zt j (t8 0 j (kE af).2 0) (fu (kE af).2).2.1 Fd.self cB<|AS<|mv (vw v0 (Int.toNat ab) 1)<|AS<|aY aa.2.2<|AS<|RF aa.2.2 1 ?_;refine AS<|q_ o λav ag o=>TP 0 ab zr j zr zr zr eW (Gu ae) (kE ag).1 (kE ag).2<|AS<|S3 (f:=(λx=>x)) 0 zt j (t8 0 j (kE ag).2 0) (fu (kE ag).2).2.1 Fd.self cB<|AS<|ic au av<|Sy<|aF<|q_ o λah hj o=>RS (λ(ah:List Int×Int)=>SH E V [(0,v0),(3,vi ah.2),(4,vw v0 (Int.toNat ab) 1),(5,vi aa.2.2)] [own 3 v0 ah.1]) ah ?_ ?_;refine dP hj (λhj=>?_) λhj=>?_;refine w_<|mv v0<|aY aa.2.1<|mv (vw v0 (Int.toNat ab) 1)<|aY aa.2.2<|q_ hj λaw ai hj=>TP 0 ab zr j zr zr zr eW (Gu ae) (kE ai).1 (kE ai).2<|S3 (f:=(λx=>x)) 0 zt j (t8 0 j (kE ai).2 0) (fu (kE ai).2).2.1 Fd.self cB<|q_ hj λa1 al hj=>R8 0 j zr zr eW al ?_;have j:=j.sc Int aw;refine SP 1 0 j al cB λw j=>?_;refine AI<|IS<|aY aa.2.1<|RF aa.2.1 1<|aM (wrap .i64<|aa.2.1+1)<|By ?_;exact oi hj▸⟨rfl,j.sp 2 [1]⟩;exact Se<|oi hj▸⟨rfl,j.sp 1 [0]⟩;rintro _ w⟨O,rfl,j⟩;refine bQ<|aF<|IS<|aY aa.2.2<|RF aa.2.2 1<|aM (wrap .i64<|aa.2.2+1)<|By ?_;exact oi o▸⟨rfl,j.sp 1 [0]⟩;exact Sh<|oi o▸⟨rfl,j.sp 1 [0]⟩;rintro aa _ w o⟨O,rfl,j⟩;refine aF<|w_<|mv v0<|aY aa.2.1<|q_ o λa2 an o=>TO 0 aa.2.1 zr j zr zr eW an<|T4 0 zt j zr zr vx M9 (Jg an) λw j=>IT<|mv v0<|aY aa.2.1<|q_ o λa3 ax o=>TN 0 zr j zr zr eW (.inr ⟨rfl,zr⟩) ax λay j=>dV ay<|AI<|Sp<|bH ?_;obtain rfl:=oi o;exact⟨rfl,bS<|j.pk 1 [0]⟩;refine Se<|bQ<|aF<|IS<|aY ab<|RF ab 1<|aM (wrap .i64<|ab+1)<|By ?_;exact oi o▸⟨rfl,j.sp 1 [0]⟩;exact Sh<|oi o▸⟨rfl,j.sp 1 [0]⟩;intro r U w o hK;exact bH<|oi o▸hK;rintro ab _ w o⟨O,rfl,j⟩;refine aF<|w_<|mv v0<|dV v0<|AI<|RM ?_;obtain rfl:=oi o;exact bS<|j.pk 1 [0]
theorem yG{p0:aH}{p1:List Int}{res:Bool}(j:Holds E w V)(h0:V[i0]? =some (rd v0 p0))(h1:V[i1]? =some (pt v1 p1))(h2:V[i2]? =some (pt v2 p2))(o:o5 N p0 p1 p2=some res):c_ 94 [v0,v1,v2] w<|aX E V res:=by
 unfold o5 at o;refine enter Tryz.func94 zr zr ?_;have j:=((j.dup (i0+0) h0).A1 (i:=i1+1) h1).A1 (i:=i2+2) h2;refine w_<|R1 2 v0 j zr λad w j=>?_;refine bZ false<|RD<|SF mixed ?_;have j:=j.drew;refine SE<|AT zr lF<|AS<|OF 0 j zr gj cB<|AS<|RQ 2 p1 j ij λae j=>AS<|RY p2 2 j cB<|AS<|q_ o λaa ab o=>RG 0 j eW ab λaf j=>AS<|RY aa 0 j cB<|AS<|ic p0.Y1 aa<|AS<|bZ (decide<|p0.Y1<=aa)<|Sy<|aF ?_;exact RM<|oi o▸bS ⟨rfl,j.drop 6⟩
theorem sY{p0:List aH}{p1:aH->Option Bool}(o:Holds E w V)(h0:V[i0]? =some (rd v0 p0))(h1:Kq bI E V v1 p1 (λ(r:Bool)=>Value.bool r))(j:mx N p0 p1=some res):c_ 106 [v0,v1] w<|aN E V res:=by
 unfold mx at j;refine enter Tryz.func106 zr zr ?_;have o:=o.dup (i0+0) h0;refine w_<|aM 0<|RD<|w_<|mv v0<|RK 0 p0 o nU<|aY 0<|AI<|SM E V (λ(ab:Unit)=>[rd v0 p0]) (λ_=>[]) (λaa _=>[(0,v0),(1,v1),(7,vi p0.length),(8,vi aa)]) (λr=>lK bI 19 Tryz.f106 (aN E V r) .ret) j ?_ ?_ ?_ ?_;exact o.sp 1 [0];rintro hm aa ab fl _ w hk⟨O,rfl,o⟩j;refine IN<|R6<|aY (aa:Int)<|aM (aa:Int)<|IT<|mv v1<|mv v0<|aY (aa:Int)<|q_ j λaf ag j=>RG 0 o jL ag λak o=>RQ 0 af o iL λal o=>?_;refine q_ j λan ah j=>TA 0 zr o zr h1 3 zr zr zr ah λw o=>AI<|dP j (λj=>?_) λj=>?_;exact w_<|aY (aa:Int)<|aM (aa:Int)<|AI<|Sp<|bH<|oi j▸⟨rfl,bS ⟨rfl,o.drop 3⟩⟩;exact Se<|bQ<|aF<|IS<|So hk hm<|aY ((aa+1:Nat):Int)<|By<|oi j▸⟨rfl,o.sp 3 [2]⟩;intro r U w j hK;exact bH<|oi j▸hK;rintro ab _ w j⟨O,rfl,o⟩;exact aF<|w_<|aM (-1)<|AI<|RM<|oi j▸bS ⟨rfl,o.drop 1⟩
def mY(E:World)(V:List HP)(v0:Value)(p0:List aH)(res:Int)(v:Value)(w:World):Prop:=v= vi res/\Holds E w ([own 58 v0 p0]++V)
theorem rh{p0:List aH}{p1:aH->Option Bool}(o:Holds E w (own 58 v0 p0::V))(h1:Kq bI E V v1 p1 (λ(r:Bool)=>Value.bool r))(j:kY N p0 p1=some res):c_ 106 [v0,v1] w<|mY E V v0 p0 res:=by
 unfold kY at j;refine enter Tryz.func106 zr zr<|w_<|aM 0<|RD<|w_<|mv v0<|SG 0 p0 o nU<|aY 0<|AI<|SM E V (λ(ab:Unit)=>[own 58 v0 p0]) (λ_=>[(0,v0)]) (λaa _=>[(1,v1),(7,vi p0.length),(8,vi aa)]) (λr=>lK bI 19 Tryz.f106 (mY E V v0 p0 r) .ret) j ?_ ?_ ?_ ?_;exact o.sp 1 [0];rintro hm aa ab fl _ w hk⟨O,rfl,o⟩j;refine IN<|R6<|aY (aa:Int)<|aM (aa:Int)<|IT<|mv v1<|mv v0<|aY (aa:Int)<|q_ j λaj ad j=>R8 0 o zr zr jL ad<|Tb 0 o ad iL λak o=>?_;refine q_ j λal ag j=>TA 0 zr o zr h1 2 zr zr zr ag λw o=>AI<|dP j (λj=>?_) λj=>?_;exact w_<|aY (aa:Int)<|aM (aa:Int)<|AI<|Sp<|bH<|oi j▸⟨rfl,bS ⟨rfl,o.pk 2 [1]⟩⟩;exact Se<|bQ<|aF<|IS<|So hk hm<|aY ((aa+1:Nat):Int)<|By<|oi j▸⟨rfl,o.sp 2 [1]⟩;intro r U w j hK;exact bH<|oi j▸hK;rintro ab _ w j⟨O,rfl,o⟩;exact aF<|w_<|aM (-1)<|AI<|RM<|oi j▸bS ⟨rfl,o.pk 1 [0]⟩
theorem sm{p0:List aH}{p1:aH->Option Bool}{res:List aH}(j:Holds E w (own 58 v0 p0::V))(h1:Kq bI E V v1 p1 (λ(r:Bool)=>Value.bool r))(o:iP N p0 p1=some res):c_ 93 [v0,v1] w<|fU E V res:=by
 unfold iP at o;refine enter Tryz.func93 zr zr<|w_<|dV n_<|IT<|mv v0<|mv v1 ?_;have j:=j.pull 0;refine q_ o λad ai o=>RI LH (rh N j (h1.lift 1 zr) ai) λw j=>aM ad<|RD<|w_<|aY ad<|ic ad ((-1))<|AI<|dP o (λo=>?_) λo=>?_;refine w_<|mv v0<|dV v0<|AI<|RZ ?_;obtain rfl:=oi o;exact bS<|j.pk 2 [0];refine RW<|w_<|aY ad<|RF ad 1<|aM (wrap .i64<|ad+1)<|AI<|Td E V (λ(aa:List aH×Int×Int)=>[own 58 v0 aa.1]) (λaa=>[(0,v0),(5,vi aa.2.1)]) (λaa=>[(1,v1),(6,vi aa.2.2)]) o ?_ ?_ ?_;exact j.sp 2 [0];rintro aa fl _ w⟨O,rfl,j⟩o;refine IN<|w_<|aY aa.2.2<|mv v0<|SG 0 aa.1 j nU<|ic aa.2.2 ((aa.1.length:Int))<|AI<|dP o (λo=>?_) λo=>?_;refine RW<|R6<|mv v0<|aY aa.2.2<|q_ o λaq af o=>R8 0 j zr zr jL af<|Tb 0 j af iL λar j=>?_;refine Sj j pz.z λau w j=>?_;refine Sa 0 j 1 zr iL λw j=>?_;refine IT<|mv v1<|R5 0 j zr iL λav j=>?_;refine q_ o λaj ak o=>TA 0 zr j zr h1 4 zr zr zr ak λw j=>Sk aj<|AI<|q_ o λae hj o=>RS (λ(ae:List aH×Int)=>SH E V [(0,v0),(1,v1),(5,vi ae.2),(6,vi aa.2.2)] [own 58 v0 ae.1]) ae ?_ ?_;refine dP hj (λhj=>?_) λhj=>?_;refine w_<|mv v0<|aY aa.2.1<|R5 1 j zr iL λaw j=>?_;refine q_ hj λax ag hj=>R8 4 j zr zr jL ag<|SP 4 0 j ag iL λw j=>?_;refine AI<|IS<|aY aa.2.1<|RF aa.2.1 1<|aM (wrap .i64<|aa.2.1+1)<|By ?_;exact oi hj▸⟨rfl,j.sp 5 [4]⟩;exact Se<|oi hj▸⟨rfl,j.sp 4 [3]⟩;rintro _ w⟨O,rfl,j⟩;refine bQ<|aF<|IS<|aY aa.2.2<|RF aa.2.2 1<|aM (wrap .i64<|aa.2.2+1)<|By ?_;exact oi o▸⟨rfl,j.sp 1 [0]⟩;exact Sh<|oi o▸⟨rfl,j.sp 1 [0]⟩;rintro aa _ w o⟨O,rfl,j⟩;refine aF<|w_<|mv v0<|aY aa.2.1<|q_ o λay ah o=>TO 0 aa.2.1 zr j zr zr jL ah<|T4 0 zt j zr zr Bm PD (Jg ah) λw j=>IT<|mv v0<|aY aa.2.1<|q_ o λaz al o=>TN 0 zr j zr zr jL (.inr ⟨rfl,zr⟩) al λan j=>dV an<|AI<|RM ?_;obtain rfl:=oi o;exact bS<|j.pk 1 [0]
theorem u4{p0 p1:aH}(j:Holds E w V)(h0:V[i0]? =some (rd v0 p0))(h1:V[i1]? =some (rd v1 p1))(o:hZ N p0 p1=some res):c_ 125 [v0,v1] w<|aN E V res:=by
 unfold hZ at o;refine enter Tryz.func125 zr zr ?_;have j:=(j.dup (i0+0) h0).dup (i1+1) h1;refine w_<|R1 1 v0 j zr λaa w j=>?_;refine R1 1 v1 j zr λab w j=>?_;refine aM 0<|IT<|AT zr iT<|OF 1 j zr dW cB<|AT zr iT<|OF 0 j zr dW cB<|RF p0.X0 p1.X0<|aM (wrap .i64<|p0.X0 - p1.X0)<|AI ?_;exact RM<|oi o▸bS ⟨rfl,j.drop 4⟩
def yH(E:World)(V:List HP)(v0:Value)(res:List Int×List aH)(v:Value)(w:World):Prop:=Holds E w<|[own 3 v res.1,own 58 v0 res.2]++V
theorem xQ{p0:List aH}{res:List Int×List aH}(j:Holds E w (own 58 v0 p0::V))(hb:jI N p0=some res):c_ 96 [v0] w<|yH E V v0 res:=by
 unfold jI at hb;refine enter Tryz.func96 zr zr<|w_<|dV n_<|IT<|mv v0 ?_;obtain⟨ag,az,hb⟩:=bd hb;have j:=j.pull 0;refine RI Nz (HC Tryz.lay89 aH zr iL.Kx iL.sz (gL Tryz.func125) (λj hi o hr=>u4 N j hi o hr) j az) λw j=>IT<|dV n_<|RD<|w_<|mv v0<|SG 0 ag j nU<|aY 0<|AI ?_;have j:=j.dU Int 3;refine SZ E V (λ(ad:List Int)(aj:Value)=>[own 58 v0 ag,own 3 aj ad]) (λ_ aj=>[(0,v0),(3,aj)]) (λah _ _=>[(9,v0),(10,vi ag.length),(11,vi ah)]) hb ?_ ?_ ?_;exact⟨n_,j.sp 3 [1,0]⟩;rintro hm ah ad s' _ w hk⟨af,O,rfl,j⟩hb;refine IN<|R6<|q_ hb λae ao hb=>R8 0 j zr zr jL ao<|Tb 0 j ao iL λa3 j=>?_;refine Sj j pz.z λaq w j=>?_;refine Sa 0 j 1 zr iL λw j=>?_;refine IT<|mv af<|SG 3 ad j nK<|RF (ad.length:Int) 1<|aM (wrap .i64<|(ad.length:Int) - 1)<|RD<|q_ hb λak o hb=>RS (λ(ak:Bool)=>SH E V [(0,v0),(3,af),(5,vp aq 0),(6,vi<|wrap .i64<|(ad.length:Int) - 1),(9,v0),(10,vi ag.length),(11,vi ah),(28,vb ak)] [own 58 v0 ag,own 3 af ad,bx 58 aq ae]) ak ?_ ?_;refine SF mixed ?_;have j:=j.drew;refine SE<|aY (wrap .i64<|(ad.length:Int) - 1)<|AS<|ic (wrap .i64<|(ad.length:Int) - 1) 0<|AS<|fN (decide<|wrap .i64 ((ad.length:Int) - 1)>=0)<|fp o (λaa o=>?_) λaa o=>?_;refine AS<|AT (hg:=cg aa) zr iT<|AS<|OF (hg:=cg aa) 0 j zr dW cB<|AS<|RN af (cg aa)<|AS<|RN (vi<|wrap .i64<|(ad.length:Int) - 1) (cg aa)<|AS ?_;refine q_ o λar au o=>R8 (hg:=cg aa) 3 j zr zr eW au<|AS<|SO (hg:=cg aa) 3 j au cB<|AS<|St ae.X0 ar (cg aa)<|AS<|eY aa (vb<|decide<|ae.X0<=ar)<|Sy ?_;exact oi o▸⟨rfl,j.sp 4 [2,3,0]⟩;refine AS<|bK aa<|AS<|bK aa<|AS<|bK aa<|AS<|bK aa<|AS<|bK aa<|AS<|bK aa<|AS<|bK aa<|AS<|eY aa (vb false)<|Sy ?_;exact oi o▸⟨rfl,j.sp 4 [2,3,0]⟩;rintro _ w⟨O,rfl,j⟩;refine aF<|q_ hb λal o hb=>RS (λ(al:List Int)U w=>∃ai:Value,SH E V [(0,v0),(3,ai),(9,v0),(10,vi ag.length),(11,vi ah)] [own 58 v0 ag,own 3 ai al] U w) al ?_ ?_;refine dP o (λo=>?_) λo=>?_;refine Ss mixed [0,0,0,0,0,0,0,0,0,0,2] [0,1,2,3,4,5,6,7,8,9,10] ?_;have j:=j.drew;refine RR zr<|mv af<|bC zr<|aY (wrap .i64<|(ad.length:Int) - 1)<|bC zr<|mv af<|bC zr<|aY (wrap .i64<|(ad.length:Int) - 1)<|bC zr ?_;refine q_ o λan aw o=>R8 1 j zr zr eW aw<|bC zr<|SO 1 j aw cB<|bC zr<|AT zr jM<|bC zr<|OF 2 j zr eV cB<|bC zr<|S9 an ae.X1<|bC zr ?_;refine q_ o λa6 ax o=>R8 1 j zr zr eW ax<|pR zr ?_;have j:=j.sc Int (if an<ae.X1 then ae.X1 else an);refine SP 2 0 j ax cB λw j=>?_;exact Sg zt<|Sd<|oi o▸⟨rfl,af,j.sp 4 [1,2]⟩;refine IS<|mv af<|AT zr iT<|OF 2 j zr dW cB<|AT zr jM<|OF 2 j zr eV cB ?_;have j:=(j.sc Int ae.X0).sc Int ae.X1;refine Su ([ae.X0,ae.X1]:List Int) j [vi ae.X0,vi ae.X1] eW Ib (λM hs g=>⟨(g.sat 1 _ zr).1,⟨(g.sat 0 _ zr).1,zt⟩⟩) λa4 w j=>?_;have j:=j.freeze 0;refine q_ o λa5 a2 o=>Sx 4 0 j vx a2 λav w j=>?_;exact dV av<|By<|oi o▸⟨rfl,av,j.sp 6 [3,4]⟩;rintro _ w⟨ai,O,rfl,j⟩;exact bQ<|aF<|IS<|So hk hm<|aY ((ah+1:Nat):Int)<|By<|oi hb▸⟨rfl,ai,j.sp 2 [0,1]⟩;rintro ad _ w hb⟨ay,O,rfl,j⟩;refine aF<|w_<|mv ay<|dV ay<|AI<|RM ?_;obtain rfl:=oi hb;exact bS<|j.pk 2 [1,0]
theorem wY{p0:List Int}{p1:List Int}{res:Bool}(j:Holds E w V)(h0:V[i0]? =some (rd v0 p0))(h1:V[i1]? =some (rd v1 p1))(o:np N p0 p1=some res):c_ 124 [v0,v1] w<|aX E V res:=by
 unfold np at o;refine enter Tryz.func124 zr zr ?_;have j:=(j.dup (i0+0) h0).dup (i1+1) h1;refine w_<|bZ false<|RD<|w_<|mv v0<|RK 1 p0 j nK<|mv v1<|RK 0 p1 j nK<|ic ((p0.length:Int)) ((p1.length:Int))<|AI<|dP o (λo=>?_) λo=>?_;exact w_<|bZ false<|AI<|RZ<|oi o▸bS ⟨rfl,j.drop 2⟩;refine RW<|w_<|mv v0<|RK 1 p0 j nK<|aY 0<|AI<|SM E V (λ(ab:Unit)=>[rd v0 p0,rd v1 p1]) (λ_=>[]) (λaa _=>[(0,v0),(1,v1),(12,vi p0.length),(13,vi aa)]) (λr=>lK bI 26 Tryz.f124 (aX E V r) .ret) o ?_ ?_ ?_ ?_;exact j.sp 2 [1,0];rintro hm aa ab fl _ w hk⟨O,rfl,j⟩o;refine IN<|R6<|aY (aa:Int)<|aM (aa:Int)<|RD<|SF mixed ?_;have j:=j.drew;refine SE<|mv v0<|AS<|aY (aa:Int)<|AS<|q_ o λad ah o=>RG 0 j eW ah λal j=>AS<|RY ad 0 j cB<|AS<|mv v1<|AS<|aY (aa:Int)<|AS ?_;refine q_ o λae ai o=>RG 2 j eW ai λan j=>AS<|RY ae 0 j cB<|AS<|ic ad ae<|Sy<|aF<|dP o (λo=>?_) λo=>?_;exact w_<|bZ false<|AI<|Sp<|bH<|oi o▸⟨rfl,bS ⟨rfl,j.drop 4⟩⟩;exact Se<|bQ<|aF<|IS<|So hk hm<|aY ((aa+1:Nat):Int)<|By<|oi o▸⟨rfl,j.sp 4 [2,3]⟩;intro r U w o hK;exact bH<|oi o▸hK;rintro ab _ w o⟨O,rfl,j⟩;exact aF<|w_<|bZ true<|AI<|RM<|oi o▸bS ⟨rfl,j.drop 2⟩
theorem sM{p0:List aA}{p1:aA}{res:List aA}(o:Holds E w (own 154 v0 p0::V))(h1:V[i1]? =some (rd v1 p1))(hb:jo N p0 p1=some res):c_ 95 [v0,v1] w<|nA E V res:=by
 unfold jo at hb;refine enter Tryz.func95 zr zr ?_;have o:=o.dup (i1+1) h1;refine w_<|R1 0 v1 o zr λaf w o=>?_;refine dV n_<|RD<|w_<|AT zr mI<|R2 0 o zr eD ij λau o=>RK 0 p1.Xs o nK<|ic ((p1.Xs.length:Int)) 0<|fN ((p1.Xs.length:Int)==0)<|BY true ((p1.Xs.length:Int)==0) (vp af 1) zr zr zr (cX og) ?_;refine BY true ((p1.Xs.length:Int)==0) (vi p1.Y1) rfl rfl rfl (bP 1 rfl o (by exact z_ (vp af 1)) rfl fO cB)<|BY true ((p1.Xs.length:Int)==0) (vp af 0) rfl rfl rfl (cX qX)<|BY true ((p1.Xs.length:Int)==0) (vi p1.Y0) rfl rfl rfl (bP 1 rfl o (by exact z_ (vp af 0)) rfl hG cB)<|BY true ((p1.Xs.length:Int)==0) (vb<|decide<|p1.Y1<=p1.Y0) rfl rfl rfl (dB .leq .i64 p1.Y1 p1.Y0 rfl (by exact z_ (vi p1.Y1)) (by exact z_ (vi p1.Y0)) rfl)<|Sb ((p1.Xs.length:Int)==0) (vb<|((p1.Xs.length:Int)==0)||decide (p1.Y1<=p1.Y0)) (nG true)<|AI<|dP hb (λhb=>?_) λhb=>?_;refine w_<|mv v0<|dV v0<|AI<|RZ ?_;obtain rfl:=oi hb;exact bS<|o.pk 4 [3];refine RW<|w_<|mv v0<|SG 3 p0 o qF<|RF (p0.length:Int) 1<|aM (wrap .i64<|(p0.length:Int) - 1)<|RD<|q_ hb λaj hj hb=>RS (λ(aj:Bool)=>SH E V [(0,v0),(3,vp af 0),(5,vi<|wrap .i64<|(p0.length:Int) - 1),(42,vb aj)] [own 154 v0 p0,bx 154 af p1]) aj ?_ ?_;refine Ss mixed [0,0,0,0,0,0,0,0,0,0,0,0,0,0,0,0,0,0,0,0,2,0] [0,1,2,3,4,5,6,7,8,9,10,11,12,13,14,15,16,17,18,19,20,21] ?_;have o:=o.drew;refine RR zr<|aY (wrap .i64<|(p0.length:Int) - 1)<|bC zr<|ic (wrap .i64<|(p0.length:Int) - 1) 0<|bC zr<|fN (decide<|wrap .i64 ((p0.length:Int) - 1)>=0)<|RT<|fp hj (λaa hj=>?_) λaa hj=>?_;refine RR zr<|RN v0 (cg aa)<|bC zr<|RN (vi<|wrap .i64<|(p0.length:Int) - 1) (cg aa)<|bC zr<|q_ hj λak ag hj=>R8 (hg:=cg aa) 3 o zr zr l7 ag<|bC zr<|SW (α:=aA) (cg aa) (t8 3 o ag 0) og<|bC zr<|S3 3 (cg aa) o (t8 3 o ag 1) (fu ag).2.1 fO cB<|bC zr<|AT (hg:=cg aa) zr qX<|bC zr<|OF (hg:=cg aa) 1 o zr hG cB ?_;refine bC zr<|St ak.Y1 p1.Y0 (cg aa)<|bC zr<|eY aa (vb<|ak.Y1==p1.Y0)<|bC zr<|fN (ak.Y1==p1.Y0)<|RT<|fp hj (λab hj=>?_) λab hj=>?_;refine RR zr<|RN v0 (cg ab)<|bC zr<|RN (vi<|wrap .i64<|(p0.length:Int) - 1) (cg ab)<|bC zr<|q_ hj λav ah hj=>R8 (hg:=cg ab) 3 o zr zr l7 ah<|bC zr<|SW (α:=aA) (cg ab) (t8 3 o ah 0) mI<|bC zr<|TC (i:=3) (cg ab) zr o zr (t8 3 o ah 2) zr (fu ah).2.1 eD ij λaw o=>?_;exact bC zr<|AT (hg:=cg ab) zr mI<|bC zr<|R2 (hg:=cg ab) 2 o zr eD ij λax o=>pR zr<|q_ hj λal an hj=>RI (hg:=cg ab) (gL Tryz.func124) (wY N (i0:=1) (i1:=0) o zr zr an) λw o=>ud zr<|eY ab (vb al)<|RT<|Sd<|oi hj▸⟨rfl,o.sp 6 [5,3]⟩;refine RR zr<|bK ab<|bC zr<|bK ab<|bC zr<|bK ab<|bC zr<|bK ab<|bC zr<|bK ab<|bC zr<|bK ab<|bC zr<|bK ab<|pR zr<|bK ab<|ud zr<|eY ab (vb false) ?_;exact RT<|Sd<|oi hj▸⟨rfl,o.sp 4 [3,1]⟩;refine RR zr<|bK aa<|bC zr<|bK aa<|bC zr<|bK aa<|bC zr<|bK aa<|bC zr<|bK aa<|bC zr<|bK aa<|bC zr<|bK aa<|bC zr<|bK aa<|bC zr<|eY aa (vb false) ?_;refine bC zr<|fN false<|bC zr<|mA<|bC zr<|mA<|bC zr<|mA<|bC zr<|mA<|bC zr<|mA<|bC zr<|mA<|bC zr<|mA<|pR zr<|mA ?_;exact ud zr<|Sb false (vb false) zr<|RT<|Sd<|oi hj▸⟨rfl,o.sp 4 [3,1]⟩;rintro _ w⟨O,rfl,o⟩;refine aF<|dP hb (λhb=>?_) λhb=>?_;refine w_<|mv v0<|aY (wrap .i64<|(p0.length:Int) - 1)<|AT zr og<|OF 1 o zr fO cB<|q_ hb λa0 ai hb=>R8 0 o zr zr l7 ai<|SW (α:=aA) zt (t8 0 o ai 0) og ?_;have o:=o.sc Int p1.Y1;refine TD (i:=1) (j:=0) trivial o rfl rfl (t8 1 o ai 1) rfl (fu ai).2.1 rfl qq (by decide) cB λw o=>?_;refine IT<|mv v0<|dV v0<|AI<|RZ ?_;obtain rfl:=oi hb;exact bS<|o.pk 3 [1];refine Sz<|mv v0<|R5 1 o zr yz λao o=>Su ([p1]:List aA) o [ao] l7 E9 (λM hs g=>⟨(g.sat 0 _ zr).1,zt⟩) λay w o=>?_;have o:=o.freeze 0;refine q_ hb λaz aq hb=>Sx 2 0 o ND aq λar w o=>?_;refine dV ar<|AI<|RM ?_;obtain rfl:=oi hb;exact bS<|o.pk 4 [2]
theorem mZ{p0:List aH}{res:List aA}(j:Holds E w V)(h0:V[i0]? =some (rd v0 p0))(o:il N p0=some res):c_ 57 [v0] w<|nA E V res:=by
 unfold il at o;refine enter Tryz.func57 zr zr ?_;have j:=j.dup (i0+0) h0;refine w_<|dV n_<|IT<|mv v0<|q_ o λca bg o=>RU (gL Tryz.func88) (vE N (i0:=0) j zr bg) λad w j=>dV ad<|IT<|mv ad ?_;obtain⟨ai,bh,o⟩:=bd o;have j:=j.pull 0;refine RI Nz (HC Tryz.lay89 aH zr iL.Kx iL.sz (gL Tryz.func90) (λj hi hj hr=>yF N j hi hj hr) j bh) λw j=>IT<|S7 j NA λag w j=>?_;refine RD<|w_<|mv ad<|SG 1 ai j nU<|aY 0<|AI<|SZ E V (λ(av:List Int)(a0:Value)=>[own 58 ad ai,bc 71 ag [a0],own 3 a0 av]) (λ_ _=>[(0,ad),(3,vp ag 0)]) (λaw _ _=>[(14,ad),(15,vi ai.length),(16,vi aw)]) o ?_ ?_ ?_;have j:=j.dU Int 3;exact⟨n_,j.sp 5 [2,1,0]⟩;rintro hm aw av s' _ w hk⟨bl,O,rfl,j⟩o;refine IN<|R6<|q_ o λak a1 o=>R8 0 j zr zr jL a1<|Tb 0 j a1 iL λcb j=>?_;refine Sj j pz.z λcc w j=>?_;refine Sa 0 j 1 zr iL λw j=>?_;refine AI<|IS<|R7 3 bl j ij<|AT zr iJ<|OF 0 j zr dQ cB<|AT zr lF<|OF 0 j zr gj cB ?_;have j:=(j.sc Int ak.Y0).sc Int ak.Y1;refine Su ([ak.Y0,ak.Y1]:List Int) j [vi ak.Y0,vi ak.Y1] eW Ib (λM hs g=>⟨(g.sat 1 _ zr).1,⟨(g.sat 0 _ zr).1,zt⟩⟩) λcd w j=>?_;have j:=j.freeze 0;refine q_ o λcf bm o=>Sx 7 0 j vx bm λa2 w j=>?_;refine SX 6 a2 j zr zr (kM 7 j) ij λw j=>?_;exact By<|bQ<|aF<|IS<|So hk hm<|aY ((aw+1:Nat):Int)<|By<|oi o▸⟨rfl,a2,j.sp 8 [5,6,7]⟩;rintro av _ w o⟨a3,O,rfl,j⟩;refine aF<|w_<|R7 1 a3 j ij ?_;obtain⟨ch,bn,o⟩:=bd o;have j:=j.pull 2;refine RI (gL Tryz.func91) (JT Tryz.lay91 j bn) λw j=>IT<|R7 2 a3 j ij ?_;have j:=j.pull 0;refine q_ o λah bo o=>RU (gL Tryz.func92) (u3 N j bo) λbp w j=>SX 3 bp j zr zr (kM 0 j) ij λw j=>?_;refine IT<|dV n_<|IT<|dV n_<|IT<|aM 0<|RD<|w_<|Sj j Ib.z λbq w j=>?_;have j:=j.sc Int 0;refine Sa 1 j 0 zr cB λw j=>?_;refine AI ?_;have j:=((((j.freeze 2).rE (i:=5) (x:=ah) rfl<|λM hs g=>vl (g.sat 2 _ rfl).1).ik (i:=5) rfl).dU aA 154).dU aH 58;refine q_ o λcj hN o=>Tl (λ(aa:List aA×List aH×Int×Int)U w=>∃(a4 a5:Value)(a6:Nat),SH E V [(0,ad),(3,vp ag 0),(6,a4),(7,a5),(8,vi aa.2.2.1),(9,vp a6 0)] [own 58 ad ai,pt (vp ag 0) ah,own 154 a4 aa.1,own 58 a5 aa.2.1,bx 3 a6 aa.2.2.2] U w) (λ(aa:List aA×List aH×Int×Int)U w=>∃an:Value,SH E V [(6,an)] [own 58 ad ai,pt (vp ag 0) ah,own 154 an aa.1] U w) (λ(r:Empty)_ _=>r.elim) hN ?_ ?_ ?_ ?_;exact⟨n_,n_,bq,j.sp 9 [6,7,1,0,3]⟩;rintro aa fl _ w⟨aj,bu,al,O,rfl,j⟩o;refine IN<|w_<|OF (f:=(λx=>x)) 4 j zr Fd.self cB<|RF aa.2.2.2 1<|RQ 1 ah j ij λck j=>RK 0 ah j nK<|ic (wrap .i64<|aa.2.2.2+1) ((ah.length:Int))<|AI<|dP o (λo=>?_) λo=>?_;refine RW<|R6<|mv bu ?_;have j:=j.ik (i:=5) rfl;refine Tk [vp ag 0,vp al 0] ?_;have j:=j.pull 4;refine q_ o λcm bw o=>RU (gL Tryz.func93) (sm N j ⟨94,[vp ag 0,vp al 0],rfl,(gL Tryz.func94),λw Γl v y0 r i j hi hr=>by exact gA (yG N (i0:=i) (i1:=Γl.length+2) (i2:=Γl.length+5) j hi (Dy rfl) (Dy rfl) hr) λ_ _ h=>h⟩ bw) λa7 w j=>dV a7<|RD<|SQ E V (λ(ae:List aH×Int)(ax:Value)=>[own 58 ad ai,pt (vp ag 0) ah,own 154 aj aa.1,pt (vp al 0) aa.2.2.2,own 58 ax ae.1]) (λae ax=>[(0,ad),(3,vp ag 0),(6,aj),(7,ax),(8,vi ae.2),(9,vp al 0)]) (λ_ _=>[]) o ?_ ?_ ?_;exact⟨a7,j.sp 7 [2,3,4,6,0]⟩;rintro ae fl _ w⟨ao,O,rfl,j⟩o;refine IN<|IN<|q_ o λay hj o=>RS (λ(ay:Bool)=>SH E V [(0,ad),(3,vp ag 0),(6,aj),(7,ao),(8,vi ae.2),(9,vp al 0),(57,vb ay)] [own 58 ad ai,pt (vp ag 0) ah,own 154 aj aa.1,own 58 ao ae.1,pt (vp al 0) aa.2.2.2]) ay ?_ ?_;refine SF mixed ?_;have j:=j.drew;refine SE<|aY ae.2<|AS<|mv ad<|AS<|SG 0 ai j nU<|AS<|ic ae.2 ((ai.length:Int))<|AS<|fN (decide<|ae.2<(ai.length:Int))<|fp hj (λab hj=>?_) λab hj=>?_;refine AS<|RN ad (cg ab)<|AS<|RN (vi ae.2) (cg ab)<|AS<|q_ hj λa8 aq hj=>R8 (hg:=cg ab) 0 j zr zr jL aq<|AS<|SW (α:=aH) (cg ab) (t8 0 j aq 0) iJ<|AS<|S3 0 (cg ab) j (t8 0 j aq 1) (fu aq).2.1 dQ cB<|AS<|RQ (hg:=cg ab) 1 ah j ij λcn j=>?_;refine AS<|RY (hg:=cg ab) aa.2.2.2 4 j cB<|AS<|q_ hj λaz bz hj=>RG (hg:=cg ab) 0 j eW bz λcp j=>AS<|RY (hg:=cg ab) az 0 j cB<|AS<|St a8.Y0 az (cg ab)<|AS<|eY ab (vb<|decide<|a8.Y0<=az)<|Sy ?_;exact oi hj▸⟨rfl,j.sp 7 [2,3,4,6,5]⟩;refine AS<|bK ab<|AS<|bK ab<|AS<|bK ab<|AS<|bK ab<|AS<|bK ab<|AS<|bK ab<|AS<|bK ab<|AS<|bK ab<|AS<|bK ab ?_;exact AS<|bK ab<|AS<|eY ab (vb false)<|Sy<|oi hj▸⟨rfl,j.sp 5 [0,1,2,4,3]⟩;rintro _ w⟨O,rfl,j⟩;refine aF<|dP o (λo=>?_) λo=>?_;refine SK<|Sv<|IS<|mv ao<|mv ad<|aY ae.2<|q_ o λb0 a9 o=>R8 0 j zr zr jL a9<|Tb 0 j a9 iL λb1 j=>?_;refine Su ([b0]:List aH) j [b1] jL pz (λM hs g=>⟨(g.sat 0 _ zr).1,zt⟩) λcq w j=>?_;have j:=j.freeze 0;refine q_ o λcr b2 o=>Sx 5 0 j Bm b2 λba w j=>?_;refine aY ae.2<|RF ae.2 1<|dV ba<|aM (wrap .i64<|ae.2+1)<|By<|bQ ?_;exact oi o▸⟨rfl,ba,j.sp 7 [2,3,4,6,5]⟩;exact Sh<|oi o▸⟨rfl,ao,j.sp 5 [0,1,2,4,3]⟩;rintro ae _ w o⟨bb,O,rfl,j⟩;refine aF<|Ss mixed [1,1,1,1,1,1,1,1,1,1,0,2,0,2,0] [0,1,2,3,4,5,6,7,8,9,10,11,12,13,14] ?_;have j:=j.drew;refine R3 aj zr (λw=>RN aj zt RX)<|SV ah 1 zr j ij λct a305 cu j=>S4 aa.2.2.2 5 zr j cB λa307 cv j=>?_;refine q_ o λar b3 o=>SY 2 zr j eW b3 λcw j=>S4 ar 0 zr j cB λa311 cx j=>SV ah 6 zr j ij λcy a314 cz j=>S4 aa.2.2.2 10 zr j cB λa316 c0 j=>R3 (vi<|wrap .i64<|aa.2.2.2+1) zr (λw=>RF aa.2.2.2 1 RX)<|q_ o λau b4 o=>SY 2 zr j eW b4 λc1 j=>S4 au 0 zr j cB λa320 c2 j=>RR zr<|mv bb<|pR zr ?_;have j:=j.pull 14;refine q_ o λb5 b6 o=>RU (gL Tryz.func96) (xQ N j b6) λb7 w j=>Sg (⟨⟨⟨⟨⟨⟨zt,j.f9 10⟩,j.f9 9⟩,j.f9 7⟩,j.f9 5⟩,j.f9 4⟩,j.f9 2⟩)<|RR zr ?_;have j:=((j.sc Int ar).sc Int au).freeze 2;refine SI (⟨ar,au,b5.1⟩:aA) trivial rfl j [(0,vi ar),(1,vi au),(2,b7)] rfl LI rfl (λM hs g=>by have h:=yx M;exact cO.cons (f:=λ(x:aA)y=>{x with Y0:=y}) h uR (g.sat 1 _ rfl).1 λ_ h=>cO.cons (f:=λ(x:aA)y=>{x with Y1:=y}) h qq (g.sat 0 _ rfl).1 λ_ h=>cO.cons (f:=λ(x:aA)y=>{x with Xs:=y}) h uS (g.sat 2 _ rfl).1 λ_ h=>cO.nil h) λc3 j=>?_;refine pR zr ?_;have j:=j.pull 17;refine q_ o λc4 b8 o=>RU NF (sM N (i1:=0) j zr b8) λbf w j=>Sg (⟨⟨⟨⟨⟨⟨zt,j.f9 14⟩,j.f9 13⟩,j.f9 11⟩,j.f9 9⟩,j.f9 8⟩,j.f9 6⟩)<|RR zr<|dV bf<|RT ?_;have j:=j.pl 21 [0,1,2,3,4,5,7,10,12,15,16,17,18,19,20];refine Sd<|bQ<|aF<|IN<|w_<|RY aa.2.2.2 13 j cB<|AI<|IS<|Sj j Ib.z λb9 w j=>?_;have j:=j.sc Int aa.2.2.2;refine Sa 1 j 0 zr cB λw j=>?_;refine AI<|IS<|OF (f:=(λx=>x)) 1 j zr Fd.self cB<|RF aa.2.2.2 1 ?_;have j:=j.sc Int<|wrap .i64<|aa.2.2.2+1;refine Te 2 j 0 zr cB λw j=>?_;exact By<|oi o▸⟨rfl,bf,bb,b9,j.sp 18 [13,14,3,8,2]⟩;exact Sh<|oi o▸⟨rfl,aj,j.sp 6 [1,2,3]⟩;intro r _ _ _ _;exact r.elim;rintro aa _ w rfl⟨an,O,rfl,j⟩;rw[Fo.Jc]at o;refine aF<|w_<|mv an<|dV an<|AI<|RM ?_;obtain rfl:=oi o;exact bS<|j.pk 3 [2]
theorem ov{p0:List aA}{res:List aH}(j:Holds E w V)(h0:V[i0]? =some (rd v0 p0))(o:jJ N p0=some res):c_ 58 [v0] w<|fU E V res:=by
 unfold jJ at o;refine enter Tryz.func58 zr zr ?_;have j:=j.dup (i0+0) h0;refine w_<|dV n_<|IT<|dV n_<|RD<|w_<|mv v0<|RK 0 p0 j qF<|aY 0<|AI<|SZ E V (λ(ag:List aH)(ah:Value)=>[rd v0 p0,own 58 ah ag]) (λ_ ah=>[(3,ah)]) (λaf _ _=>[(7,v0),(8,vi p0.length),(9,vi af)]) o ?_ ?_ ?_;have j:=j.dU aH 58;exact⟨n_,j.sp 2 [1,0]⟩;rintro hm af ag s' _ w hk⟨ar,O,rfl,j⟩o;refine IN<|R6<|q_ o λab au o=>RG 0 j l7 au λa0 j=>RQ 0 ab j yz λa1 j=>Sj j E9.z λak w j=>?_;refine Sa 0 j 1 zr yz λw j=>?_;refine IT<|aM 0<|AI<|SQ E V (λ(aa:List aH×Int)(ai:Value)=>[bx 154 ak ab,rd v0 p0,own 58 ai aa.1]) (λ_ ai=>[(3,ai),(7,v0),(8,vi p0.length),(9,vi af)]) (λaa _=>[(5,vp ak 0),(6,vi aa.2)]) o ?_ ?_ ?_;exact⟨ar,j.sp 5 [0,3,4]⟩;rintro aa fl _ w⟨aj,O,rfl,j⟩o;refine IN<|w_<|aY aa.2<|AT zr mI<|R2 0 j zr eD ij λa3 j=>RK 0 ab.Xs j nK<|ic aa.2 ((ab.Xs.length:Int))<|AI<|dP o (λo=>?_) λo=>?_;refine RW<|Sv<|Ss mixed [1,0,0,0,0,0,0,0,0,0,0,0,0,0,0,0,0,2,2,0] [0,1,2,3,4,5,6,7,8,9,10,11,12,13,14,15,16,17,18,19] ?_;have j:=j.drew;refine R3 aj zr (λw=>RN aj zt RX)<|RR zr<|AT zr mI<|bC zr<|R2 1 j zr eD ij λa4 j=>bC zr<|aY aa.2<|bC zr<|q_ o λad av o=>RG 0 j eW av λa5 j=>bC zr<|RY ad 0 j cB<|bC zr<|AT zr qX<|bC zr<|OF 3 j zr hG cB<|bC zr<|AT zr mI ?_;refine bC zr<|R2 3 j zr eD ij λa6 j=>bC zr<|aY aa.2<|bC zr<|RF aa.2 1<|bC zr<|q_ o λae aw o=>RG 0 j eW aw λa7 j=>bC zr<|RY ae 0 j cB<|bC zr<|AT zr og<|bC zr<|OF 5 j zr fO cB<|bC zr ?_;have j:=(((j.sc Int ad).sc Int ab.Y0).sc Int ae).sc Int ab.Y1;refine SI (⟨ad,ab.Y0,ae,ab.Y1⟩:aH) trivial rfl j [(0,vi ad),(1,vi ab.Y0),(2,vi ae),(3,vi ab.Y1)] rfl Fa rfl (λM hs g=>by have h:=uq M;exact cO.cons (f:=λ(x:aH)y=>{x with X0:=y}) h ru (g.sat 3 _ rfl).1 λ_ h=>cO.cons (f:=λ(x:aH)y=>{x with Y0:=y}) h tu (g.sat 2 _ rfl).1 λ_ h=>cO.cons (f:=λ(x:aH)y=>{x with X1:=y}) h pI (g.sat 1 _ rfl).1 λ_ h=>cO.cons (f:=λ(x:aH)y=>{x with Y1:=y}) h ry (g.sat 0 _ rfl).1 λ_ h=>cO.nil h) λax j=>?_;refine pR zr<|Su ([(⟨ad,ab.Y0,ae,ab.Y1⟩:aH)]:List aH) j [ax] jL pz (λM hs g=>⟨(g.sat 0 _ zr).1,zt⟩) λa8 w j=>Jr zr ?_;have j:=j.freeze 0;refine q_ o λa9 ay o=>Sx 13 0 j Bm ay λal w j=>?_;refine ud zr<|dV al<|RT<|Sd<|bQ<|aF<|IS<|aY aa.2<|RF aa.2 2<|aM (wrap .i64<|aa.2+2)<|By ?_;exact oi o▸⟨rfl,al,j.sp 14 [11,12,13]⟩;exact Sh<|oi o▸⟨rfl,aj,j.sp 4 [1,2,3]⟩;rintro aa _ w o⟨az,O,rfl,j⟩;exact bQ<|aF<|IS<|So hk hm<|aY ((af+1:Nat):Int)<|By<|oi o▸⟨rfl,az,j.sp 3 [1,2]⟩;rintro ag _ w o⟨an,O,rfl,j⟩;refine aF<|w_<|mv an<|dV an<|AI<|RM ?_;obtain rfl:=oi o;exact bS<|j.pk 2 [1]
theorem vG{p0:List aH}{p1:List aH}{res:Bool}(j:Holds E w V)(h0:V[i0]? =some (rd v0 p0))(h1:V[i1]? =some (rd v1 p1))(o:kN N p0 p1=some res):c_ 56 [v0,v1] w<|aX E V res:=by
 unfold kN at o;refine enter Tryz.func56 zr zr ?_;have j:=(j.dup (i0+0) h0).dup (i1+1) h1;refine w_<|bZ false<|RD<|w_<|mv v0<|RK 1 p0 j nU<|mv v1<|RK 0 p1 j nU<|ic ((p0.length:Int)) ((p1.length:Int))<|AI<|dP o (λo=>?_) λo=>?_;exact w_<|bZ false<|AI<|RZ<|oi o▸bS ⟨rfl,j.drop 2⟩;refine RW<|w_<|mv v0<|RK 1 p0 j nU<|aY 0<|AI<|SM E V (λ(ab:Unit)=>[rd v0 p0,rd v1 p1]) (λ_=>[]) (λaa _=>[(0,v0),(1,v1),(12,vi p0.length),(13,vi aa)]) (λr=>lK bI 26 Tryz.f56 (aX E V r) .ret) o ?_ ?_ ?_ ?_;exact j.sp 2 [1,0];rintro hm aa ab fl _ w hk⟨O,rfl,j⟩o;refine IN<|R6<|aY (aa:Int)<|aM (aa:Int)<|RD<|SF mixed ?_;have j:=j.drew;refine SE<|mv v0<|AS<|aY (aa:Int)<|AS<|q_ o λad ah o=>RG 0 j jL ah λal j=>AS<|RQ 0 ad j iL λan j=>AS<|mv v1<|AS<|aY (aa:Int)<|AS ?_;refine q_ o λae ai o=>RG 3 j jL ai λao j=>AS<|RQ 0 ae j iL λaq j=>AS<|TB 2 0 ad ae zt zr j zr zr zr zr LJ zr<|Sy<|aF<|dP o (λo=>?_) λo=>?_;exact w_<|bZ false<|AI<|Sp<|bH<|oi o▸⟨rfl,bS ⟨rfl,j.drop 6⟩⟩;exact Se<|bQ<|aF<|IS<|So hk hm<|aY ((aa+1:Nat):Int)<|By<|oi o▸⟨rfl,j.sp 6 [4,5]⟩;intro r U w o hK;exact bH<|oi o▸hK;rintro ab _ w o⟨O,rfl,j⟩;exact aF<|w_<|bZ true<|AI<|RM<|oi o▸bS ⟨rfl,j.drop 2⟩
theorem qd{p0:List aH}(j:Holds E w V)(h0:V[i0]? =some (rd v0 p0))(hb:jz N p0=some res):c_ 32 [v0] w<|aN E V res:=by
 unfold jz at hb;refine enter Tryz.func32 zr zr ?_;have j:=j.dup (i0+0) h0;refine w_<|aM 0<|RD<|w_<|mv v0<|q_ hb λau ax hb=>RI (gL Tryz.func55) (wX N (i0:=0) j zr ax) λw j=>aM au<|IT<|aY au<|ic au 0<|AI<|dP hb (λhb=>?_) λhb=>?_;exact w_<|aY au<|aM au<|AI<|RZ<|oi hb▸bS ⟨rfl,j.drop 1⟩;refine RW<|w_<|aM 1<|AI<|SN E V (λ(ao:Int)=>[rd v0 p0]) (λ_=>[(0,v0)]) (λao=>[(4,vi ao)]) (λr=>lK bI 52 Tryz.f32 (aN E V r) .ret) hb ?_ ?_ ?_ ?_;exact j.sp 1 [0];rintro ao fl _ w⟨O,rfl,j⟩hb;refine IN<|w_<|aY ao<|mv v0<|RK 0 p0 j nU<|ic ao ((p0.length:Int))<|AI<|dP hb (λhb=>?_) λhb=>?_;refine RW<|Sv<|IN ?_;obtain⟨o,ay,hb⟩:=bd hb;refine q_ hb λaa a0 hb=>SU E V mixed [1,1,1,0,0,1,1,0,0,0,0,0,0] [3,4,7,8,9,10,11,12] (λ(x:Value×Value×Value×Value×Nat×Nat)=>(λah ai aj ak ad ae=>[(0,18,v0),(1,19,vi ao),(2,20,vi<|wrap .i64<|ao - 1),(3,21,ah),(4,22,ai),(5,23,v0),(6,24,vi ao),(7,25,aj),(8,26,ak),(9,5,vp ad 0),(10,6,vp ae 0)]) x.1 x.2.1 x.2.2.1 x.2.2.2.1 x.2.2.2.2.1 x.2.2.2.2.2) [(0,v0),(4,vi ao)] [] (λ(D:Nat->Bool)(x:Value×Value×Value×Value×Nat×Nat)=>(λah ai aj ak ad ae=>[bif D 0 then pt ah o else aS,bif D 1 then rd ai o else aS,bif D 2 then pt aj aa else aS,bif D 3 then rd ak aa else aS,bif D 6 then bx 58 ad o else(bif D 4 then raw 58 ad 4 else aS),bif D 7 then bx 58 ae aa else(bif D 5 then raw 58 ae 4 else aS),rd v0 p0]) x.1 x.2.1 x.2.2.1 x.2.2.2.1 x.2.2.2.2.1 x.2.2.2.2.2) (λx=>by kernel_rfl) ?_ ⟨λ_=>lA gn,λ_=>lA gn,λ_=>KN gn rfl,?_,?_,λ_=>lA gn,λ_=>lA gn,?_,?_,?_,?_,?_,?_,trivial⟩ ?_;have j:=((((((j.drew).aS).aS).aS).aS).aS).aS;exact⟨(undef,undef,undef,undef,0,0),dX.none,Ex zr,zt,j⟩;rintro D U w hD ag aq⟨⟨ah,ai,aj,ak,ad,ae⟩,hv,ha,_,j⟩;obtain⟨O,rfl⟩:=hv.o2 0 2 ag;have j:=j.bU 0 hD;refine RG 6 j jL ay λa1 j=>?_;have j:=j.nw 0;exact RH (a1,ai,aj,ak,ad,ae) 3 hv ha j;rintro D U w hD ag aq⟨⟨ah,ai,aj,ak,ad,ae⟩,hv,ha,_,j⟩;obtain⟨O,rfl⟩:=hv.o1 3 ag;have j:=(j.cV 0<|ag.1 rfl).bU 1 hD;refine RQ 0 o j iL λa2 j=>?_;have j:=((j.pl 8 [1,0,3,4,5,6,7]).cG 0 (D 3) (ag.1 rfl) aS).cG 1 true rfl aS;exact RH (ah,a2,aj,ak,ad,ae) 4 hv ha j;rintro D U w hD ag aq⟨⟨ah,ai,aj,ak,ad,ae⟩,hv,ha,_,j⟩;obtain⟨O,rfl⟩:=hv.o2 5 6 ag;have j:=j.bU 2 hD;refine RG 6 j jL a0 λa3 j=>?_;have j:=j.nw 2;exact RH (ah,ai,a3,ak,ad,ae) 7 hv ha j;rintro D U w hD ag aq⟨⟨ah,ai,aj,ak,ad,ae⟩,hv,ha,_,j⟩;obtain⟨O,rfl⟩:=hv.o1 7 ag;have j:=(j.cV 2<|ag.1 rfl).bU 3 hD;refine RQ 2 aa j iL λa4 j=>?_;have j:=((j.pl 8 [1,2,3,0,5,6,7]).cG 2 (D 7) (ag.1 rfl) aS).cG 3 true rfl aS;exact RH (ah,ai,aj,a4,ad,ae) 8 hv ha j;rintro D U w hD ag aq⟨⟨ah,ai,aj,ak,ad,ae⟩,hv,ha,_,j⟩;obtain⟨O,rfl⟩:=(az U).px;have j:=(j.bU 4<|nh aq hD 11).bU 4 hD;refine Sj j pz.z λav w j=>?_;have j:=(j.nw 4).gh 4 (D 11) (nh aq hD 11)<|bx 58 av o;exact RH (ah,ai,aj,ak,av,ae) 9 hv ha j;rintro D U w hD ag aq⟨⟨ah,ai,aj,ak,ad,ae⟩,hv,ha,_,j⟩;obtain⟨O,rfl⟩:=(az U).px;have j:=(j.bU 5<|nh aq hD 12).bU 5 hD;refine Sj j pz.z λaw w j=>?_;have j:=(j.nw 5).gh 5 (D 12) (nh aq hD 12)<|bx 58 aw aa;exact RH (ah,ai,aj,ak,ad,aw) 10 hv ha j;rintro D U w hD ag aq⟨⟨ah,ai,aj,ak,ad,ae⟩,hv,ha,_,j⟩;obtain⟨O,rfl⟩:=hv.o2 9 4 ag;have j:=((j.cV 1<|ag.2.1 rfl).bU 4 hD).cV 4<|ag.1 rfl;refine Sa 4 j 1 zr iL λw j=>?_;have j:=(j.cG 1 (D 4) (ag.2.1 rfl) aS).cG 4 true rfl (bif D 9 then raw 58 ad 4 else aS);exact SL (ah,ai,aj,ak,ad,ae) hv ha j;rintro D U w hD ag aq⟨⟨ah,ai,aj,ak,ad,ae⟩,hv,ha,_,j⟩;obtain⟨O,rfl⟩:=hv.o2 10 8 ag;have j:=((j.cV 3<|ag.2.1 rfl).bU 5 hD).cV 5<|ag.1 rfl;refine Sa 5 j 3 zr iL λw j=>?_;have j:=(j.cG 3 (D 8) (ag.2.1 rfl) aS).cG 5 true rfl (bif D 10 then raw 58 ae 4 else aS);exact SL (ah,ai,aj,ak,ad,ae) hv ha j;rintro D U w ar⟨⟨ah,ai,aj,ak,ad,ae⟩,hv,ha,_,j⟩;simp only[List.getD_cons_zero,List.getD_cons_succ,ar 3 (by decide),ar 4 (by decide),ar 7 (by decide),ar 8 (by decide),ar 11 (by decide),ar 12 (by decide),aO]at j;obtain⟨O,rfl⟩:=(ac (hv.at 9 rfl<|t9 ar 9)<|ac (hv.at 10 rfl<|t9 ar 10) ha).px;refine aF<|w_<|AT zr iJ<|OF 5 j zr dQ cB<|AT zr iJ<|OF 4 j zr dQ cB<|ic aa.Y0 o.Y0<|fN (decide<|aa.Y0<o.Y0)<|BY true (decide<|aa.Y0<o.Y0) (vp ae 1) zr zr zr (cX iJ) ?_;refine BY true (decide<|aa.Y0<o.Y0) (vi aa.Y0) rfl rfl rfl (bP 5 rfl j (by exact z_ (vp ae 1)) rfl dQ cB)<|BY true (decide<|aa.Y0<o.Y0) (vp ad 1) rfl rfl rfl (cX iJ)<|BY true (decide<|aa.Y0<o.Y0) (vi o.Y0) rfl rfl rfl (bP 4 rfl j (by exact z_ (vp ad 1)) rfl dQ cB)<|BY true (decide<|aa.Y0<o.Y0) (vb<|aa.Y0==o.Y0) rfl rfl rfl (dB .eql .i64 aa.Y0 o.Y0 rfl (by exact z_ (vi aa.Y0)) (by exact z_ (vi o.Y0)) rfl)<|BY true (decide<|aa.Y0<o.Y0) (vb<|aa.Y0==o.Y0) rfl rfl rfl (cF (hx:=λh=>by exact(cC h:cv (true&&(decide (aa.Y0<o.Y0)==false)) (vb<|aa.Y0==o.Y0)= vb (aa.Y0==o.Y0))))<|BY (true&&(decide (aa.Y0<o.Y0)==false)) (aa.Y0==o.Y0) (vp ae 0) rfl rfl rfl (cX iT)<|BY (true&&(decide (aa.Y0<o.Y0)==false)) (aa.Y0==o.Y0) (vi aa.X0) rfl rfl rfl (bP 5 rfl j (by exact z_ (vp ae 0)) rfl dW cB)<|BY (true&&(decide (aa.Y0<o.Y0)==false)) (aa.Y0==o.Y0) (vp ad 0) rfl rfl rfl (cX iT)<|BY (true&&(decide (aa.Y0<o.Y0)==false)) (aa.Y0==o.Y0) (vi o.X0) rfl rfl rfl (bP 4 rfl j (by exact z_ (vp ad 0)) rfl dW cB) ?_;refine BY (true&&(decide (aa.Y0<o.Y0)==false)) (aa.Y0==o.Y0) (vb<|decide<|aa.X0<=o.X0) rfl rfl rfl (dB .leq .i64 aa.X0 o.X0 rfl (by exact z_ (vi aa.X0)) (by exact z_ (vi o.X0)) rfl)<|BY true (decide<|aa.Y0<o.Y0) (vb<|(aa.Y0==o.Y0)&&decide (aa.X0<=o.X0)) rfl rfl rfl (kr (aa.Y0==o.Y0) rfl (by exact z_ (vb<|aa.Y0==o.Y0)) (λh=>by exact fE (h:=h)<|true&&(decide (aa.Y0<o.Y0)==false)))<|Sb (decide<|aa.Y0<o.Y0) (vb<|decide (aa.Y0<o.Y0)||((aa.Y0==o.Y0)&&decide (aa.X0<=o.X0))) (nG true)<|AI<|dP hb (λhb=>?_) λhb=>?_;exact w_<|aM 8<|AI<|Sp<|bH<|oi hb▸⟨rfl,bS ⟨rfl,j.drop 7⟩⟩;refine Se<|bQ<|aF<|IS<|aY ao<|RF ao 1<|aM (wrap .i64<|ao+1)<|By ?_;exact oi hb▸⟨rfl,j.sp 7 [6]⟩;exact Sh<|oi hb▸⟨rfl,j.sp 1 [0]⟩;intro r U w hb hK;exact bH<|oi hb▸hK;rintro ao _ w hb⟨O,rfl,j⟩;refine aF<|IN<|w_<|mv v0<|q_ hb λbb a6 hb=>RU Ju (mZ N (i0:=0) j zr a6) λbc w j=>?_;have j:=j.freeze 0;refine q_ hb λbf a7 hb=>RU MB (ov N (i0:=0) j zr a7) λbg w j=>mv v0 ?_;have j:=j.freeze 0;refine q_ hb λa8 a9 hb=>RI (gL Tryz.func56) (vG N (i0:=0) (i1:=2) j zr zr a9) λw j=>Sk a8<|AI<|dP hb (λhb=>?_) λhb=>?_;exact w_<|aM 3<|AI<|RZ<|oi hb▸bS ⟨rfl,j.drop 3⟩;exact Sz<|aM 0<|AI<|RM<|oi hb▸bS ⟨rfl,j.drop 3⟩
theorem nB{res:Bool}(o:Holds E w V)(j:iM N p0 p1 p2=some res):c_ 60 [vi p0,vi p1,vi p2] w<|aX E V res:=by
 unfold iM at j;refine enter Tryz.func60 zr zr<|w_<|bZ false<|IT<|aY p0<|aY p1<|ic p0 p1<|fN (decide<|p0>=p1)<|BY true (decide<|p0>=p1) (vi p0) zr zr zr cF ?_;refine BY true (decide<|p0>=p1) (vi p2) rfl rfl rfl cF<|BY true (decide<|p0>=p1) (vb<|decide<|p0<=p2) rfl rfl rfl (dB .leq .i64 p0 p2 rfl (by exact z_ (vi p0)) (by exact z_ (vi p2)) rfl)<|Sb (decide<|p0>=p1) (vb<|decide (p0>=p1)&&decide (p0<=p2)) (fE true)<|bZ (decide (p0>=p1)&&decide (p0<=p2))<|AI<|RM ?_;exact oi j▸bS ⟨rfl,o.drop 0⟩
theorem tB{p0:cK}{res:Bool}(j:Holds E w V)(h0:V[i0]? =some (rd v0 p0))(hb:j4 N p0=some res):c_ 63 [v0] w<|aX E V res:=by
 unfold j4 at hb;refine enter Tryz.func63 zr zr ?_;have j:=j.dup (i0+0) h0;refine w_<|R1 0 v0 j zr λai w j=>?_;refine bZ false<|RD<|q_ hb λad o hb=>RS (λ(ad:Bool)=>SH E V [(2,vb ad)] []) ad ?_ ?_;refine IS<|AT zr nL<|OF 0 j zr gM cB<|q_ o λaf ag o=>RI C2 (mu N (p0:=p0.X) j ag) λw j=>fN af<|fp o (λaa o=>?_) λaa o=>?_;exact AT (hg:=cg aa) zr nM<|OF (hg:=cg aa) 0 j zr gN cB<|q_ o λae ah o=>RI (hg:=cg aa) C2 (mu N (p0:=p0.Y) j ah) λw j=>eY aa (vb ae)<|bZ ae<|By<|oi o▸⟨rfl,j.sp 2 []⟩;exact bK aa<|bK aa<|bK aa<|eY aa (vb false)<|bZ false<|By<|oi o▸⟨rfl,j.sp 2 []⟩;rintro _ w⟨O,rfl,j⟩;exact aF<|RM<|oi hb▸bS ⟨rfl,j.drop 0⟩
theorem jf{p0:cJ}{res:aH}(j:Holds E w V)(h0:V[i0]? =some (rd v0 p0))(o:gx N p0=some res):c_ 36 [v0] w<|pf E V res:=by
 unfold gx at o;refine enter Tryz.func36 zr zr ?_;have j:=j.dup (i0+0) h0;refine w_<|R1 0 v0 j zr λaa w j=>?_;refine Sj j pz.z λab w j=>?_;refine RD<|SF mixed ?_;have j:=j.drew;refine SE<|AT zr zH<|AS<|AT zr nL<|AS<|OF (f:=(λx=>x.At.X)) 1 j zr (Fd.comp (f:=λ(x:cJ)=>x.At) (λ(x:cK)=>x.X) rz gM) cB<|AS<|AT zr sV<|AS<|OF 1 j zr mo cB<|AS<|Tg p0.dJ 2 zr<|AS<|RF p0.At.X (wrap .i64<|Int.tdiv p0.dJ 2)<|AS<|AT zr zH<|AS<|AT zr nM ?_;refine AS<|OF (f:=(λx=>x.At.Y)) 1 j zr (Fd.comp (f:=λ(x:cJ)=>x.At) (λ(x:cK)=>x.Y) rz gN) cB<|AS<|AT zr sV<|AS<|OF 1 j zr mo cB<|AS<|Tg p0.dJ 2 zr<|AS<|RF p0.At.Y (wrap .i64<|Int.tdiv p0.dJ 2)<|AS<|aM (wrap .i64<|p0.At.X -(wrap .i64<|Int.tdiv p0.dJ 2))<|AS<|aM (wrap .i64<|p0.At.Y -(wrap .i64<|Int.tdiv p0.dJ 2))<|Sy<|aF<|w_<|aY (wrap .i64<|p0.At.X -(wrap .i64<|Int.tdiv p0.dJ 2)) ?_;refine aY (wrap .i64<|p0.At.Y -(wrap .i64<|Int.tdiv p0.dJ 2))<|aY (wrap .i64<|p0.At.X -(wrap .i64<|Int.tdiv p0.dJ 2))<|AT zr sV<|OF 1 j zr mo cB<|RF (wrap .i64<|p0.At.X -(wrap .i64<|Int.tdiv p0.dJ 2)) p0.dJ<|aY (wrap .i64<|p0.At.Y -(wrap .i64<|Int.tdiv p0.dJ 2))<|AT zr sV<|OF 1 j zr mo cB<|RF (wrap .i64<|p0.At.Y -(wrap .i64<|Int.tdiv p0.dJ 2)) p0.dJ ?_;have j:=((j.sc Int<|wrap .i64<|p0.At.X -(wrap .i64<|Int.tdiv p0.dJ 2)).sc Int<|wrap .i64<|p0.At.Y -(wrap .i64<|Int.tdiv p0.dJ 2)).sc Int<|wrap .i64<|wrap .i64 (p0.At.X -(wrap .i64<|Int.tdiv p0.dJ 2))+p0.dJ;have j:=j.sc Int<|wrap .i64<|wrap .i64 (p0.At.Y -(wrap .i64<|Int.tdiv p0.dJ 2))+p0.dJ;refine SI (⟨wrap .i64<|p0.At.X -(wrap .i64<|Int.tdiv p0.dJ 2),wrap .i64<|p0.At.Y -(wrap .i64<|Int.tdiv p0.dJ 2),wrap .i64<|wrap .i64 (p0.At.X -(wrap .i64<|Int.tdiv p0.dJ 2))+p0.dJ,wrap .i64<|wrap .i64 (p0.At.Y -(wrap .i64<|Int.tdiv p0.dJ 2))+p0.dJ⟩:aH) trivial rfl j [(0,vi<|wrap .i64<|p0.At.X -(wrap .i64<|Int.tdiv p0.dJ 2)),(1,vi<|wrap .i64<|p0.At.Y -(wrap .i64<|Int.tdiv p0.dJ 2)),(2,vi<|wrap .i64<|wrap .i64 (p0.At.X -(wrap .i64<|Int.tdiv p0.dJ 2))+p0.dJ),(3,vi<|wrap .i64<|wrap .i64 (p0.At.Y -(wrap .i64<|Int.tdiv p0.dJ 2))+p0.dJ)] rfl Fa rfl (λM hs g=>by have h:=uq M;exact cO.cons (f:=λ(x:aH)y=>{x with X0:=y}) h ru (g.sat 3 _ rfl).1 λ_ h=>cO.cons (f:=λ(x:aH)y=>{x with Y0:=y}) h tu (g.sat 2 _ rfl).1 λ_ h=>cO.cons (f:=λ(x:aH)y=>{x with X1:=y}) h pI (g.sat 1 _ rfl).1 λ_ h=>cO.cons (f:=λ(x:aH)y=>{x with Y1:=y}) h ry (g.sat 0 _ rfl).1 λ_ h=>cO.nil h) λad j=>?_;refine Sa 5 j 0 zr iL λw j=>?_;refine AI<|RM ?_;obtain rfl:=oi o;exact I9 5 zr j zr zr iL λae j=>j.pk 9 [0]
end Go.Gk
