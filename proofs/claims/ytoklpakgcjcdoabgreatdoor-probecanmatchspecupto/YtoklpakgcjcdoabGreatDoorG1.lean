/-
  Printed texts: Go functions as plain functions, and that they are. No statement of the seed is proved here.
-/
import Derived.Test.YtoklpakgcjcdoabGreatDoorProg
import Derived.Test.YtoklpakgcjcdoabGreatDoorE1
import Derived.Test.YtoklpakgcjcdoabGreatDoorA1
import Derived.Test.YtoklpakgcjcdoabGreatDoorA2
import Derived.Test.YtoklpakgcjcdoabGreatDoorRows
import Derived.Shelf.SlGeneric
import Derived.Ground.SlsfProg
import Derived.Ground.SlgmProg
set_option linter.unusedVariables false
set_option linter.unusedSimpArgs false
set_option linter.unusedSectionVars false
set_option maxRecDepth 100000
set_option maxHeartbeats 40000000
namespace Go.Gk
open Go IntKind Go.Proofs
noncomputable abbrev bI:=Tryz.prog
abbrev c_(f:Nat)(l:Z aX)(w:aY)(R:aX->aY->Prop):Prop:=Calls bI f l.toArray w (fL R)
def qf(x:aF):=(x.X0,x.Y0,x.X1,x.Y1)
instance instGTRect:GT aF:=GT.via qf
instance instKVRect:KV aF:=instKVvia (λ(x:aF)=>(x.X0,x.Y0,x.X1,x.Y1))
theorem dL:Fd 0 (λx:aF=>x.X0):= .v qf<|.fst .self
theorem qW:Fs 0 Int (λ(x:aF)y=>{x with X0:=y}):= .v qf<|.fst .self
theorem dG:Fd 1 (λx:aF=>x.Y0):= .v qf<|.snd<|.fst .self
theorem sC:Fs 1 Int (λ(x:aF)y=>{x with Y0:=y}):= .v qf<|.snd<|.fst .self
theorem eO:Fd 2 (λx:aF=>x.X1):= .v qf<|.snd<|.snd<|.fst .self
theorem pD:Fs 2 Int (λ(x:aF)y=>{x with X1:=y}):= .v qf<|.snd<|.snd<|.fst .self
theorem fw:Fd 3 (λx:aF=>x.Y1):= .v qf<|.snd<|.snd<|.snd<|.self
theorem qX:Fs 3 Int (λ(x:aF)y=>{x with Y1:=y}):= .v qf<|.snd<|.snd<|.snd<|.self
def wL(x:dW):=(x.X,x.Y)
instance instGTPoint:GT dW:=GT.via wL
instance instKVPoint:KV dW:=instKVvia (λ(x:dW)=>(x.X,x.Y))
theorem jZ:Fd 0 (λx:dW=>x.X):= .v wL<|.fst .self
theorem Fa:Fs 0 Int (λ(x:dW)y=>{x with X:=y}):= .v wL<|.fst .self
theorem iB:Fd 1 (λx:dW=>x.Y):= .v wL<|.snd<|.self
theorem Fb:Fs 1 Int (λ(x:dW)y=>{x with Y:=y}):= .v wL<|.snd<|.self
def wM(x:bV):=(x.At,x.eN,x.cM,x.To,x.fM)
instance instGTBore:GT bV:=GT.via wM
theorem uF:Fd 0 (λx:bV=>x.At):= .v wM<|.fst .self
theorem nY:Fd 2 (λx:bV=>x.eN):= .v wM<|.snd<|.fst .self
theorem mh:Fd 3 (λx:bV=>x.cM):= .v wM<|.snd<|.snd<|.fst .self
theorem nZ:Fd 4 (λx:bV=>x.To):= .v wM<|.snd<|.snd<|.snd<|.fst .self
theorem qY:Fd 5 (λx:bV=>x.fM):= .v wM<|.snd<|.snd<|.snd<|.snd<|.self
def uS(x:dA):=(x.Part,x.eK,x.cN,x.At)
instance instGTLand:GT dA:=GT.via uS
theorem pE:Fd 0 (λx:dA=>x.Part):= .v uS<|.fst .self
theorem M1:Fs 0 eJ (λ(x:dA)y=>{x with Part:=y}):= .v uS<|.fst .self
theorem sD:Fd 1 (λx:dA=>x.eK):= .v uS<|.snd<|.fst .self
theorem M3:Fs 1 eJ (λ(x:dA)y=>{x with eK:=y}):= .v uS<|.snd<|.fst .self
theorem uG:Fd 2 (λx:dA=>x.cN):= .v uS<|.snd<|.snd<|.fst .self
theorem uH:Fd 3 (λx:dA=>x.At):= .v uS<|.snd<|.snd<|.snd<|.self
def B8(x:gZ):=(x.aL,x.cS,x.aN,x.bO)
instance instGTArt:GT gZ:=GT.via B8
theorem ke:Fd 0 (λx:gZ=>x.aL):= .v B8<|.fst .self
theorem wN:Fd 1 (λx:gZ=>x.cS):= .v B8<|.snd<|.fst .self
theorem iR:Fd 2 (λx:gZ=>x.aN):= .v B8<|.snd<|.snd<|.fst .self
theorem mR:Fd 3 (λx:gZ=>x.bO):= .v B8<|.snd<|.snd<|.snd<|.self
def zU(x:eK):=(x.Part,x.eK)
instance instGTPin:GT eK:=GT.via zU
instance instKVPin:KV eK:=instKVvia (λ(x:eK)=>(x.Part,x.eK))
theorem uT:Fd 0 (λx:eK=>x.Part):= .v zU<|.fst .self
theorem B9:Fs 0 eJ (λ(x:eK)y=>{x with Part:=y}):= .v zU<|.fst .self
theorem yY:Fd 1 (λx:eK=>x.eK):= .v zU<|.snd<|.self
theorem Ca:Fs 1 eJ (λ(x:eK)y=>{x with eK:=y}):= .v zU<|.snd<|.self
def Fc(x:Test):=(x.A,x.B,x.Joined)
instance instGTTest:GT Test:=GT.via Fc
theorem kU:Fd 0 (λx:Test=>x.A):= .v Fc<|.fst .self
theorem mi:Fd 2 (λx:Test=>x.B):= .v Fc<|.snd<|.fst .self
def lS(x:aA):=(x.Y0,x.Y1,x.Xs)
instance instGTshape_Band:GT aA:=GT.via lS
theorem jf:Fd 0 (λx:aA=>x.Y0):= .v lS<|.fst .self
theorem yl:Fs 0 Int (λ(x:aA)y=>{x with Y0:=y}):= .v lS<|.fst .self
theorem gJ:Fd 1 (λx:aA=>x.Y1):= .v lS<|.snd<|.fst .self
theorem tI:Fs 1 Int (λ(x:aA)y=>{x with Y1:=y}):= .v lS<|.snd<|.fst .self
theorem fo:Fd 2 (λx:aA=>x.Xs):= .v lS<|.snd<|.snd<|.self
theorem ym:Fs 2 (Z Int) (λ(x:aA)y=>{x with Xs:=y}):= .v lS<|.snd<|.snd<|.self
def lH(x:aD):=(x.cN,x.Set,x.eD)
instance instGTcopper_Piece:GT aD:=GT.via lH
theorem oy:Fd 0 (λx:aD=>x.cN):= .v lH<|.fst .self
theorem Cb:Fs 0 Int (λ(x:aD)y=>{x with cN:=y}):= .v lH<|.fst .self
theorem Cc:Fs 1 (Z aA) (λ(x:aD)y=>{x with Set:=y}):= .v lH<|.snd<|.fst .self
theorem oz:Fd 2 (λx:aD=>x.eD):= .v lH<|.snd<|.snd<|.self
theorem Cd:Fs 2 (Z aF) (λ(x:aD)y=>{x with eD:=y}):= .v lH<|.snd<|.snd<|.self
def zV(x:bZ):=(x.fO,x.aN,x.fB)
instance instGTGroup:GT bZ:=GT.via zV
theorem xH:Fd 0 (λx:bZ=>x.fO):= .v zV<|.fst .self
theorem Lo:Fd 1 (λx:bZ=>x.aN):= .v zV<|.snd<|.fst .self
theorem Bj:Fd 2 (λx:bZ=>x.fB):= .v zV<|.snd<|.snd<|.self
def xI(x:eB):=(x.bV,x.Number)
instance instGTHop:GT eB:=GT.via xI
instance instKVHop:KV eB:=instKVvia (λ(x:eB)=>(x.bV,x.Number))
theorem qg:Fd 0 (λx:eB=>x.bV):= .v xI<|.fst .self
theorem Ce:Fs 0 Bool (λ(x:eB)y=>{x with bV:=y}):= .v xI<|.fst .self
theorem lT:Fd 1 (λx:eB=>x.Number):= .v xI<|.snd<|.self
theorem tg:Fs 1 Int (λ(x:eB)y=>{x with Number:=y}):= .v xI<|.snd<|.self
def qh(x:aU):=(x.Open,x.eB,x.A,x.B)
instance instGTFlaw:GT aU:=GT.via qh
theorem pF:Fd 0 (λx:aU=>x.Open):= .v qh<|.fst .self
theorem C5:Fs 0 Bool (λ(x:aU)y=>{x with Open:=y}):= .v qh<|.fst .self
theorem sE:Fd 1 (λx:aU=>x.eB):= .v qh<|.snd<|.fst .self
theorem C6:Fs 1 eB (λ(x:aU)y=>{x with eB:=y}):= .v qh<|.snd<|.fst .self
theorem uI:Fd 3 (λx:aU=>x.A):= .v qh<|.snd<|.snd<|.fst .self
theorem Hs:Fs 3 Int (λ(x:aU)y=>{x with A:=y}):= .v qh<|.snd<|.snd<|.fst .self
theorem uJ:Fd 4 (λx:aU=>x.B):= .v qh<|.snd<|.snd<|.snd<|.self
theorem Ht:Fs 4 Int (λ(x:aU)y=>{x with B:=y}):= .v qh<|.snd<|.snd<|.snd<|.self
def xJ(x:wh):=(x.A,x.B,x.i5,x.cM,x.To)
instance instGTGap:GT wh:=GT.via xJ
theorem JM:Fd 2 (λx:wh=>x.i5):= .v xJ<|.snd<|.snd<|.fst .self
theorem JN:Fs 2 Int (λ(x:wh)y=>{x with i5:=y}):= .v xJ<|.snd<|.snd<|.fst .self
theorem yZ:Fd 3 (λx:wh=>x.cM):= .v xJ<|.snd<|.snd<|.snd<|.fst .self
theorem JO:Fs 3 dW (λ(x:wh)y=>{x with cM:=y}):= .v xJ<|.snd<|.snd<|.snd<|.fst .self
theorem N5:Fd 5 (λx:wh=>x.To):= .v xJ<|.snd<|.snd<|.snd<|.snd<|.self
theorem JP:Fs 5 dW (λ(x:wh)y=>{x with To:=y}):= .v xJ<|.snd<|.snd<|.snd<|.snd<|.self
def iN(x:aG):=(x.from_,x.to)
instance instGTetchhouseref1_span:GT aG:=GT.via iN
instance instKVetchhouseref1_span:KV aG:=instKVvia (λ(x:aG)=>(x.from_,x.to))
theorem fz:Fd 0 (λx:aG=>x.from_):= .v iN<|.fst .self
theorem mS:Fs 0 Int (λ(x:aG)y=>{x with from_:=y}):= .v iN<|.fst .self
theorem fA:Fd 1 (λx:aG=>x.to):= .v iN<|.snd<|.self
theorem mT:Fs 1 Int (λ(x:aG)y=>{x with to:=y}):= .v iN<|.snd<|.self
def gI(x:aR):=(x.from_,x.to,x.kp)
instance instGTetchhouseref1_band:GT aR:=GT.via gI
theorem qZ:Fd 0 (λx:aR=>x.from_):= .v gI<|.fst .self
theorem q9:Fs 0 Int (λ(x:aR)y=>{x with from_:=y}):= .v gI<|.fst .self
theorem mU:Fd 1 (λx:aR=>x.to):= .v gI<|.snd<|.fst .self
theorem mV:Fs 1 Int (λ(x:aR)y=>{x with to:=y}):= .v gI<|.snd<|.fst .self
theorem ik:Fd 2 (λx:aR=>x.kp):= .v gI<|.snd<|.snd<|.self
theorem rf:Fs 2 (Z aG) (λ(x:aR)y=>{x with kp:=y}):= .v gI<|.snd<|.snd<|.self
def oR(x:cP):=(x.Em,x.wH)
instance instGTprobe_seen:GT cP:=GT.via oR
theorem Er:Fd 0 (λx:cP=>x.Em):= .v oR<|.fst .self
theorem Es:Fs 0 aU (λ(x:cP)y=>{x with Em:=y}):= .v oR<|.fst .self
theorem yn:Fd 5 (λx:cP=>x.wH):= .v oR<|.snd<|.self
theorem Et:Fs 5 (Z Bool) (λ(x:cP)y=>{x with wH:=y}):= .v oR<|.snd<|.self
theorem yo(M:fq):GT.ok M (#[(.bool false),e_]:bA aX).toList (⟨false,0⟩:eB):=⟨[(.bool false)],[e_],rfl,(show GT.ok M [(.bool false)] (false:Bool)from rfl),(show GT.ok M [e_] (0:Int)from rfl)⟩
theorem C7(M:fq):GT.ok M (#[(.bool false),(.bool false),e_,e_,e_]:bA aX).toList (⟨false,⟨false,0⟩,0,0⟩:aU):=⟨[(.bool false)],[(.bool false),e_,e_,e_],rfl,(show GT.ok M [(.bool false)] (false:Bool)from rfl),⟨[(.bool false),e_],[e_,e_],rfl,(show GT.ok M [(.bool false),e_] (⟨false,0⟩:eB)from yo M),⟨[e_],[e_],rfl,(show GT.ok M [e_] (0:Int)from rfl),(show GT.ok M [e_] (0:Int)from rfl)⟩⟩⟩
theorem Ip(M:fq):GT.ok M (#[(.bool false),(.bool false),e_,e_,e_,n_]:bA aX).toList (⟨⟨false,⟨false,0⟩,0,0⟩,[]⟩:cP):=⟨[(.bool false),(.bool false),e_,e_,e_],[n_],rfl,(show GT.ok M [(.bool false),(.bool false),e_,e_,e_] (⟨false,⟨false,0⟩,0,0⟩:aU)from C7 M),(show GT.ok M [n_] ([]:Z Bool)from⟨_,rfl,none,0,0,rfl,rfl,cJ _,by simp[maxLen],λ_ _ h=>by simp at h⟩)⟩
theorem uU(M:fq):GT.ok M (#[e_,e_,e_,e_]:bA aX).toList (⟨0,0,0,0⟩:aF):=⟨[e_],[e_,e_,e_],rfl,(show GT.ok M [e_] (0:Int)from rfl),⟨[e_],[e_,e_],rfl,(show GT.ok M [e_] (0:Int)from rfl),⟨[e_],[e_],rfl,(show GT.ok M [e_] (0:Int)from rfl),(show GT.ok M [e_] (0:Int)from rfl)⟩⟩⟩
theorem zW(M:fq):GT.ok M (#[e_,e_]:bA aX).toList (⟨0,0⟩:dW):=⟨[e_],[e_],rfl,(show GT.ok M [e_] (0:Int)from rfl),(show GT.ok M [e_] (0:Int)from rfl)⟩
theorem Rz(M:fq):GT.ok M (#[(.string ⟨#[]⟩),(.string ⟨#[]⟩),e_,e_,e_]:bA aX).toList (⟨⟨[]⟩,⟨[]⟩,0,⟨0,0⟩⟩:dA):=⟨[(.string ⟨#[]⟩)],[(.string ⟨#[]⟩),e_,e_,e_],rfl,(show GT.ok M [(.string ⟨#[]⟩)] (⟨[]⟩:eJ)from rfl),⟨[(.string ⟨#[]⟩)],[e_,e_,e_],rfl,(show GT.ok M [(.string ⟨#[]⟩)] (⟨[]⟩:eJ)from rfl),⟨[e_],[e_,e_],rfl,(show GT.ok M [e_] (0:Int)from rfl),(show GT.ok M [e_,e_] (⟨0,0⟩:dW)from zW M)⟩⟩⟩
theorem Mh(M:fq):GT.ok M (#[(.string ⟨#[]⟩),(.string ⟨#[]⟩)]:bA aX).toList (⟨⟨[]⟩,⟨[]⟩⟩:eK):=⟨[(.string ⟨#[]⟩)],[(.string ⟨#[]⟩)],rfl,(show GT.ok M [(.string ⟨#[]⟩)] (⟨[]⟩:eJ)from rfl),(show GT.ok M [(.string ⟨#[]⟩)] (⟨[]⟩:eJ)from rfl)⟩
theorem Fe(M:fq):GT.ok M (#[e_,n_,n_]:bA aX).toList (⟨0,[],[]⟩:aD):=⟨[e_],[n_,n_],rfl,(show GT.ok M [e_] (0:Int)from rfl),⟨[n_],[n_],rfl,(show GT.ok M [n_] ([]:Z aA)from⟨_,rfl,none,0,0,rfl,rfl,cJ _,by simp[maxLen],λ_ _ h=>by simp at h⟩),(show GT.ok M [n_] ([]:Z aF)from⟨_,rfl,none,0,0,rfl,rfl,cJ _,by simp[maxLen],λ_ _ h=>by simp at h⟩)⟩⟩
theorem Qx(M:fq):GT.ok M (#[e_,e_,e_,e_,e_,e_,e_]:bA aX).toList (⟨0,0,0,⟨0,0⟩,⟨0,0⟩⟩:wh):=⟨[e_],[e_,e_,e_,e_,e_,e_],rfl,(show GT.ok M [e_] (0:Int)from rfl),⟨[e_],[e_,e_,e_,e_,e_],rfl,(show GT.ok M [e_] (0:Int)from rfl),⟨[e_],[e_,e_,e_,e_],rfl,(show GT.ok M [e_] (0:Int)from rfl),⟨[e_,e_],[e_,e_],rfl,(show GT.ok M [e_,e_] (⟨0,0⟩:dW)from zW M),(show GT.ok M [e_,e_] (⟨0,0⟩:dW)from zW M)⟩⟩⟩⟩
theorem Cf(M:fq):GT.ok M (#[e_,e_,n_]:bA aX).toList (⟨0,0,[]⟩:aA):=⟨[e_],[e_,n_],rfl,(show GT.ok M [e_] (0:Int)from rfl),⟨[e_],[n_],rfl,(show GT.ok M [e_] (0:Int)from rfl),(show GT.ok M [n_] ([]:Z Int)from⟨_,rfl,none,0,0,rfl,rfl,cJ _,by simp[maxLen],λ_ _ h=>by simp at h⟩)⟩⟩
theorem th(M:fq):GT.ok M (#[e_,e_,n_]:bA aX).toList (⟨0,0,[]⟩:aR):=⟨[e_],[e_,n_],rfl,(show GT.ok M [e_] (0:Int)from rfl),⟨[e_],[n_],rfl,(show GT.ok M [e_] (0:Int)from rfl),(show GT.ok M [n_] ([]:Z aG)from⟨_,rfl,none,0,0,rfl,rfl,cJ _,by simp[maxLen],λ_ _ h=>by simp at h⟩)⟩⟩
theorem ti(M:fq):GT.ok M (#[e_,e_]:bA aX).toList (⟨0,0⟩:aG):=⟨[e_],[e_],rfl,(show GT.ok M [e_] (0:Int)from rfl),(show GT.ok M [e_] (0:Int)from rfl)⟩
structure bE where
  fO:Z Int
  aN:Z Int
  fB:RV
  deriving Inhabited
def rI(x:bE):=(x.fO,x.aN,x.fB)
instance instGTGroup_r2:GT bE:=GT.via rI
theorem AQ:Fd 0 (λx:bE=>x.fO):= .v rI<|.fst .self
theorem GS:Fd 1 (λx:bE=>x.aN):= .v rI<|.snd<|.fst .self
theorem GU:Fd 2 (λx:bE=>x.fB):= .v rI<|.snd<|.snd<|.self
theorem GV:Fs 2 RV (λ(x:bE)y=>{x with fB:=y}):= .v rI<|.snd<|.snd<|.self
def bJ:XT bE bZ:=⟨λu x=>u.fO=x.fO/\u.aN=x.aN,λM h u x=>(u.fO=x.fO/\u.aN=x.aN)/\CY 75 M h u.fB.v x.fB,λ{M M' h u x}hk hh=>⟨hh.1,(own 75 u.fB.v x.fB).mono hk hh.2⟩,λh=>h.1⟩
theorem rh:XO bJ 75 2 (λu=>u.fB) (λu r=>{u with fB:=r}) (λx=>x.fB) (λx y=>{x with fB:=y}):=⟨GU,GV,by decide,λh=>h.2,λhr ho=>⟨hr,ho⟩⟩
theorem Cg(M h:fq)(u:bE)(x:bZ)(cs:Z aX)(hd:∀b o,h b=some o->M b=none)(hx:bJ.ok M h u x)(hc:GT.ok M cs u):GT.ok (we M h) cs x:=by
 obtain⟨⟨e0,e1⟩,ho⟩:=hx;obtain⟨c0,d0,hd0,a0,c1,d1,hd1,a1,a2⟩:=hc;exact⟨c0,d0,hd0,GT.mono (zP M h) (show GT.ok M c0 x.fO from e0▸(show GT.ok M c0 u.fO from a0)),⟨c1,d1,hd1,GT.mono (zP M h) (show GT.ok M c1 x.aN from e1▸(show GT.ok M c1 u.aN from a1)),⟨u.fB.v,a2,CY.sl hd ho⟩⟩⟩
theorem oe:nJ bI 27 true 4:=yw
theorem oS:pj bI 27 0 0:=ru
theorem pU:nJ bI 22 false 1:=yw
theorem rJ:Tryz.prog.underlying 22=some (.slice 23):=by kernel_rfl
theorem Iq:pj bI 27 1 1:=ru
theorem vD:nJ bI 23 false 1:=yw
theorem mG:Tryz.prog.underlying 23=some (.slice 67):=by kernel_rfl
theorem wO:Aq bI 22 23 1:=GJ
theorem hU:Aq bI 23 67 4:=GJ
theorem gm:nJ bI 67 true 4:=yw
theorem oH:DO bI 67 4:=EM<|.agg #[e_,e_,e_,e_]
theorem gW:pj bI 67 0 0:=ru
theorem cF:nJ bI 3 false 1:=yw
theorem Hu:fV bI 132:=gu Tryz.func132
theorem gK:pj bI 67 1 1:=ru
theorem jk:pj bI 67 2 2:=ru
theorem kJ:pj bI 67 3 3:=ru
theorem Qy:fV bI 117:=gu Tryz.func117
theorem mixed:Tryz.prog.follows .mixedOrders=true:=by kernel_rfl
theorem Ff:vB bI 23 67 4 32:=vB.of<|.agg #[e_,e_,e_,e_]
theorem Qz:fV bI 119:=gu Tryz.func119
theorem SQ:Sq bI 83 [n_]:=⟨n_,λ_=>by kernel_rfl,rfl⟩
theorem fN:nJ bI 83 false 1:=yw
theorem dJ:Aq bI 83 3 1:=GJ
theorem GK:DO bI 3 1:=EM<|.int .i64 0
theorem sF:vB bI 83 3 1 8:=vB.of<|.int .i64 0
theorem ma:Tryz.prog.underlying 83=some (.slice 3):=by kernel_rfl
theorem QA:NN bI 3 (0:Int):=NN.of e_<|λM=>rfl
theorem QB:fV bI 136:=gu Tryz.func136
theorem UW:NN bI 67 (⟨0,0,0,0⟩:aF):=NN.of (.agg #[e_,e_,e_,e_])<|λM=>uU M
theorem QC:xz bI 185 [(0,1),(1,1),(2,1)] #[e_,e_,n_]:=xz.of (.agg #[e_,e_,n_]) Tryz.underlying185
theorem oA:pj bI 185 2 2:=ru
theorem qG:pj bI 185 1 1:=ru
theorem uc:pj bI 185 0 0:=ru
theorem As:Tryz.prog.underlying 96=some (.slice 185):=by kernel_rfl
theorem tJ:Aq bI 96 185 3:=GJ
theorem Ch:nJ bI 185 true 3:=yw
theorem JQ:DO bI 185 3:=EM<|.agg #[e_,e_,n_]
theorem UX:vB bI 96 185 3 40:=vB.of<|.agg #[e_,e_,n_]
theorem QD:fV bI 125:=gu Tryz.func125
theorem N6:fV bI 83:=gu Tryz.func83
theorem GW:xz bI 67 [(0,1),(1,1),(2,1),(3,1)] #[e_,e_,e_,e_]:=xz.of (.agg #[e_,e_,e_,e_]) Tryz.underlying67
theorem RA:fV bI 84:=gu Tryz.func84
theorem Mi:Tryz.prog.underlying 3=some (.int .i64):=by kernel_rfl
theorem QE:Qt bI 67 aF:=⟨λM cs ds a b w ha hb=>by
  obtain⟨_,_,rfl,rfl,⟨_,_,rfl,rfl,⟨_,_,rfl,rfl,rfl⟩⟩⟩:=ha
  obtain⟨_,_,rfl,rfl,⟨_,_,rfl,rfl,⟨_,_,rfl,rfl,rfl⟩⟩⟩:=hb
  refine(lF 9999 Tryz.underlying67<|DQ.cons (by decide) (eF cF _) (eF cF _) (lM Mi _ _ w)<|DQ.cons (by decide) (eF cF _) (eF cF _) (lM Mi _ _ w)<|DQ.cons (by decide) (eF cF _) (eF cF _) (lM Mi _ _ w)<|DQ.cons (by decide) (eF cF _) (eF cF _) (lM Mi _ _ w) DQ.nil).trans ?_
  congr 1
  cases a;cases b;unfold qf
  rw[jQ]
  simp,by kernel_rfl⟩
theorem SZ:fV bI 43:=gu Tryz.func43
theorem gL:pj bI 27 2 2:=ru
theorem nM:nJ bI 24 false 1:=yw
theorem wP:Tryz.prog.underlying 24=some (.slice 117):=by kernel_rfl
theorem tK:Aq bI 24 117 6:=GJ
theorem kf:nJ bI 117 true 6:=yw
theorem Fg:DO bI 117 6:=EM<|.agg #[e_,e_,e_,e_,e_,(.bool false)]
theorem sU:pj bI 117 1 2:=ru
theorem PH:fV bI 86:=gu Tryz.func86
theorem zX:pj bI 117 0 0:=ru
theorem rK:nJ bI 69 true 2:=yw
theorem rL:pj bI 69 0 0:=ru
theorem oT:pj bI 69 1 1:=ru
theorem S3:fV bI 89:=gu Tryz.func89
theorem M4:fV bI 47:=gu Tryz.func47
theorem qH:pj bI 117 2 3:=ru
theorem sV:pj bI 117 3 4:=ru
theorem oU:pj bI 27 3 3:=ru
theorem y4:nJ bI 25 false 1:=yw
theorem GX:Tryz.prog.underlying 25=some (.slice 71):=by kernel_rfl
theorem Eu:Aq bI 25 71 5:=GJ
theorem wQ:nJ bI 71 true 5:=yw
theorem M5:DO bI 71 5:=EM<|.agg #[(.string ⟨#[]⟩),(.string ⟨#[]⟩),e_,e_,e_]
theorem xK:pj bI 71 0 0:=ru
theorem yP:nJ bI 9 false 1:=yw
theorem DU:Tryz.prog.underlying 9=some (.string):=by kernel_rfl
theorem U1(a:eJ)(b:Int)(w:aY):(callFunc 207 [str a,(.int .u8 b)].toArray).run bI w = .ok (.value<|vi ((Lib.countByte a.dV (mL b).toUInt8:Nat):Int)) w:=EZ Extern.BytealgCount.count Tryz.func207<|Lib.run_countString _ _ w
theorem MX(a:eJ)(b:Int)(w:aY):(callFunc 195 [str a,(.int .u8 b)].toArray).run bI w = .ok (.value<|vi<|Lib.indexByte a.dV (mL b).toUInt8) w:=EZ Extern.BytealgIndexByte.indexByte Tryz.func195<|Lib.run_indexByteString _ _ w
theorem QF:fV bI 162:=gu Tryz.func162
theorem QG:fV bI 194:=gu Tryz.func194
theorem S8:vB bI 187 9 1 16:=vB.of<|.string ⟨#[]⟩
theorem Ws:NN bI 9 (⟨[]⟩:eJ):=NN.of (.string ⟨#[]⟩)<|λM=>rfl
theorem JR:Aq bI 187 9 1:=GJ
theorem QH:fV bI 129:=gu Tryz.func129
theorem QI:Tryz.prog.underlying 187=some (.slice 9):=by kernel_rfl
theorem QJ:fV bI 131:=gu Tryz.func131
theorem Tb:fV bI 88:=gu Tryz.func88
theorem Bl:pj bI 71 1 1:=ru
theorem C8:pj bI 71 2 2:=ru
theorem C9:pj bI 71 3 3:=ru
theorem RB:DO bI 75 2:=EM<|.agg #[(.string ⟨#[]⟩),(.string ⟨#[]⟩)]
theorem PI:xz bI 75 [(0,1),(1,1)] #[(.string ⟨#[]⟩),(.string ⟨#[]⟩)]:=xz.of (.agg #[(.string ⟨#[]⟩),(.string ⟨#[]⟩)]) Tryz.underlying75
theorem pG:nJ bI 75 true 2:=yw
theorem PK:fV bI 53:=gu Tryz.func53
theorem Bm:pj bI 75 0 0:=ru
theorem xC(a b:eJ)(w:aY):(callFunc 138 [str a,str b].toArray).run bI w = .ok (.value<|vi<|Lib.compareBytes a.dV b.dV) w:=EZ Extern.BytealgCompare.compare Tryz.func138<|Lib.run_compareString _ _ w
theorem Tf:fV bI 54:=gu Tryz.func54
theorem Fh:pj bI 75 1 1:=ru
theorem M6:fV bI 25:=gu Tryz.func25
theorem Tg:fV bI 90:=gu Tryz.func90
theorem PL:fV bI 46:=gu Tryz.func46
theorem U4:xz bI 93 [(0,4),(4,1),(5,1),(6,1),(7,1),(8,1),(9,1),(10,1),(11,1)] #[n_,n_,n_,n_,n_,n_,n_,n_,n_,n_,n_,n_]:=xz.of (.agg #[n_,n_,n_,n_,n_,n_,n_,n_,n_,n_,n_,n_]) Tryz.underlying93
theorem rM:pj bI 93 0 0:=ru
theorem RD:fV bI 91:=gu Tryz.func91
theorem N7:Aq bI 87 96 1:=GJ
theorem RE:DO bI 96 1:=EM<|.slice none 0 0
theorem Th:Tryz.prog.underlying 87=some (.slice 96):=by kernel_rfl
theorem Ti:nJ bI 96 false 1:=yw
theorem QK:fV bI 164:=gu Tryz.func164
theorem RF:Tryz.prog.underlying 4=some (.bool):=by kernel_rfl
theorem N8:pj bI 93 1 4:=ru
theorem Tm:nJ bI 87 false 1:=yw
theorem Tn:vB bI 87 96 1 24:=vB.of<|.slice none 0 0
theorem N9:fV bI 135:=gu Tryz.func135
theorem DV:Jr bI 132 3 3 Int Int (0:Int):=⟨by kernel_rfl,GO.int Mi,Ib e_<|λM=>⟨_,rfl,rfl⟩⟩
theorem PM:DO bI 23 1:=EM<|.slice none 0 0
theorem Oa:vB bI 22 23 1 24:=vB.of<|.slice none 0 0
theorem tL:pj bI 93 2 5:=ru
theorem Ev:nJ bI 88 false 1:=yw
theorem U8:xz bI 98 [(0,1),(1,1),(2,1)] #[e_,n_,n_]:=xz.of (.agg #[e_,n_,n_]) Tryz.underlying98
theorem M7:Aq bI 88 98 3:=GJ
theorem PN:DO bI 98 3:=EM<|.agg #[e_,n_,n_]
theorem U9:vB bI 88 98 3 56:=vB.of<|.agg #[e_,n_,n_]
theorem JS:Tryz.prog.underlying 88=some (.slice 98):=by kernel_rfl
theorem M8:nJ bI 98 true 3:=yw
theorem vU:pj bI 117 4 5:=ru
theorem sW:nJ bI 4 false 1:=yw
theorem Ir:pj bI 98 0 0:=ru
theorem Is:pj bI 98 2 2:=ru
theorem Tp:fV bI 95:=gu Tryz.func95
theorem It:pj bI 93 3 6:=ru
theorem Ci:nJ bI 89 false 1:=yw
theorem Da:Aq bI 89 83 1:=GJ
theorem RG:DO bI 83 1:=EM<|.slice none 0 0
theorem RH:vB bI 89 83 1 24:=vB.of<|.slice none 0 0
theorem Tq:xz bI 164 [(0,1)] #[n_]:=xz.of (.agg #[n_]) Tryz.underlying164
theorem ud:pj bI 164 0 0:=ru
theorem Tr:fV bI 59:=gu Tryz.func59
theorem Lp:Tryz.prog.underlying 89=some (.slice 83):=by kernel_rfl
theorem M9:fV bI 62:=gu Tryz.func62
theorem Ts:fV bI 61:=gu Tryz.func61
theorem Db:pj bI 93 5 8:=ru
theorem Fi:pj bI 93 6 9:=ru
theorem RI:Sq bI 86 [n_,n_,n_]:=⟨(.agg #[n_,n_,n_]),λ_=>by kernel_rfl,rfl⟩
theorem Bn:pj bI 93 4 7:=ru
theorem tj:nJ bI 90 false 1:=yw
theorem Ob:Tryz.prog.underlying 90=some (.slice 86):=by kernel_rfl
theorem uV:pj bI 86 0 0:=ru
theorem Bo:pj bI 86 1 1:=ru
theorem Oc:nJ bI 86 true 3:=yw
theorem yx:Aq bI 90 86 3:=GJ
theorem RJ:DO bI 86 3:=EM<|.agg #[n_,n_,n_]
theorem RK:vB bI 90 86 3 72:=vB.of<|.agg #[n_,n_,n_]
theorem JT:DO bI 39 2:=EM<|.agg #[(.bool false),e_]
theorem QL:fV bI 137:=gu Tryz.func137
theorem Fj:xz bI 39 [(0,1),(1,1)] #[(.bool false),e_]:=xz.of (.agg #[(.bool false),e_]) Tryz.underlying39
theorem qj:nJ bI 39 true 2:=yw
theorem wj:pj bI 39 0 0:=ru
theorem qK:pj bI 39 1 1:=ru
theorem Bp:pj bI 86 2 2:=ru
theorem Lq:nJ bI 84 false 1:=yw
theorem Tv:Aq bI 84 75 2:=GJ
theorem Tw:vB bI 84 75 2 32:=vB.of<|.agg #[(.string ⟨#[]⟩),(.string ⟨#[]⟩)]
theorem Lr:pj bI 93 7 10:=ru
theorem Ls:pj bI 93 8 11:=ru
theorem RM:nJ bI 91 false 1:=yw
theorem Tx:Aq bI 91 39 2:=GJ
theorem Vg:vB bI 91 39 2 16:=vB.of<|.agg #[(.bool false),e_]
theorem Ty:fV bI 23:=gu Tryz.func23
theorem Fk:Tryz.prog.underlying 28=some (.slice 78):=by kernel_rfl
theorem Dc:Aq bI 28 78 5:=GJ
theorem Ew:nJ bI 78 true 5:=yw
theorem RN:DO bI 78 5:=EM<|.agg #[(.string ⟨#[]⟩),(.string ⟨#[]⟩),(.string ⟨#[]⟩),(.string ⟨#[]⟩),(.bool false)]
theorem rN:pj bI 78 0 0:=ru
theorem QM:Tryz.prog.underlying 162=some (.int .u64):=by kernel_rfl
theorem JU:fV bI 24:=gu Tryz.func24
theorem tM:pj bI 78 1 2:=ru
theorem Tz:fV bI 26:=gu Tryz.func26
theorem TA:fV bI 12:=gu Tryz.func12
theorem RP:fV bI 27:=gu Tryz.func27
theorem Vl:Sq bI 30 [n_]:=⟨n_,λ_=>by kernel_rfl,rfl⟩
theorem Ex:nJ bI 45 false 1:=yw
theorem RQ:Tryz.prog.underlying 84=some (.slice 75):=by kernel_rfl
theorem Ey:nJ bI 30 false 1:=yw
theorem Od:xz bI 41 [(0,1),(1,2),(3,1),(4,1)] #[(.bool false),(.bool false),e_,e_,e_]:=xz.of (.agg #[(.bool false),(.bool false),e_,e_,e_]) Tryz.underlying41
theorem oV:Aq bI 30 41 5:=GJ
theorem yy:DO bI 41 5:=EM<|.agg #[(.bool false),(.bool false),e_,e_,e_]
theorem GY:vB bI 30 41 5 40:=vB.of<|.agg #[(.bool false),(.bool false),e_,e_,e_]
theorem TB:fV bI 28:=gu Tryz.func28
theorem Oe:DO bI 100 7:=EM<|.agg #[e_,e_,e_,e_,e_,e_,e_]
theorem QN:xz bI 100 [(0,1),(1,1),(2,1),(3,2),(5,2)] #[e_,e_,e_,e_,e_,e_,e_]:=xz.of (.agg #[e_,e_,e_,e_,e_,e_,e_]) Tryz.underlying100
theorem Hv:nJ bI 100 true 7:=yw
theorem Lt:DO bI 69 2:=EM<|.agg #[e_,e_]
theorem RR:xz bI 69 [(0,1),(1,1)] #[e_,e_]:=xz.of (.agg #[e_,e_]) Tryz.underlying69
theorem TC:fV bI 56:=gu Tryz.func56
theorem zY:pj bI 100 3 3:=ru
theorem TD:fV bI 57:=gu Tryz.func57
theorem Mj:pj bI 100 4 5:=ru
theorem Mk:UT bI 100 2 3 2:=⟨λ_ _=>by kernel_rfl⟩
theorem yz:Tryz.prog.underlying 30=some (.slice 41):=by kernel_rfl
theorem TE:fV bI 13:=gu Tryz.func13
theorem Fm:Tryz.prog.underlying 29=some (.slice 4):=by kernel_rfl
theorem tk:nJ bI 41 true 5:=yw
theorem TF:Sq bI 128 [(.map none)]:=⟨(.map none),λ_=>by kernel_rfl,rfl⟩
theorem JV:nJ bI 128 false 1:=yw
theorem xL:pj bI 41 0 0:=ru
theorem Bq:pj bI 41 1 1:=ru
theorem TG:fV bI 58:=gu Tryz.func58
theorem Ml:Jr bI 128 3 4 Int Bool (false:Bool):=⟨by kernel_rfl,GO.int Mi,Ib (.bool false)<|λM=>⟨_,rfl,rfl⟩⟩
theorem TH:Sq bI 129 [(.pointer none)]:=⟨(.pointer none),λ_=>by kernel_rfl,rfl⟩
theorem JW:nJ bI 129 false 1:=yw
theorem TI:fV bI 60:=gu Tryz.func60
theorem Dd:pj bI 41 2 3:=ru
theorem De:pj bI 41 3 4:=ru
theorem Vn:Tryz.prog.underlying 91=some (.slice 39):=by kernel_rfl
theorem PO:fV bI 30:=gu Tryz.func30
theorem ue:Aq bI 29 4 1:=GJ
theorem Vo:DO bI 4 1:=EM<|.bool false
theorem Lu:vB bI 29 4 1 1:=vB.of<|.bool false
theorem RS:fV bI 15:=gu Tryz.func15
theorem TJ:fV bI 14:=gu Tryz.func14
theorem AR:fV bI 150:=gu Tryz.func150
theorem QO:fV bI 139:=gu Tryz.func139
theorem Hx:fV bI 167:=gu Tryz.func167
theorem QP:fV bI 140:=gu Tryz.func140
theorem QQ:xz bI 215 [(0,1),(1,1)] #[e_,e_]:=xz.of (.agg #[e_,e_]) Tryz.underlying215
theorem AU:Tryz.prog.underlying 195=some (.slice 215):=by kernel_rfl
theorem si:Aq bI 195 215 2:=GJ
theorem ug:pj bI 215 1 1:=ru
theorem uh:pj bI 215 0 0:=ru
theorem Mm:nJ bI 215 true 2:=yw
theorem QR:DO bI 215 2:=EM<|.agg #[e_,e_]
theorem Of:vB bI 195 215 2 16:=vB.of<|.agg #[e_,e_]
theorem QT:fV bI 169:=gu Tryz.func169
theorem Mn:fV bI 142:=gu Tryz.func142
theorem QU:xz bI 198 [(0,1),(1,1),(2,1)] #[e_,e_,n_]:=xz.of (.agg #[e_,e_,n_]) Tryz.underlying198
theorem zZ:pj bI 198 2 2:=ru
theorem Hy:nJ bI 195 false 1:=yw
theorem QV:Tryz.prog.underlying 193=some (.slice 198):=by kernel_rfl
theorem Cj:Aq bI 193 198 3:=GJ
theorem EN:pj bI 198 1 1:=ru
theorem Mo:pj bI 198 0 0:=ru
theorem RT:Qt bI 215 aG:=⟨λM cs ds a b w ha hb=>by
  obtain⟨_,_,rfl,rfl,rfl⟩:=ha
  obtain⟨_,_,rfl,rfl,rfl⟩:=hb
  refine(lF 9999 Tryz.underlying215<|DQ.cons (by decide) (eF cF _) (eF cF _) (lM Mi _ _ w)<|DQ.cons (by decide) (eF cF _) (eF cF _) (lM Mi _ _ w) DQ.nil).trans ?_
  congr 1
  cases a;cases b;unfold iN
  rw[jQ]
  simp,by kernel_rfl⟩
theorem TN:nJ bI 198 true 3:=yw
theorem TO:DO bI 198 3:=EM<|.agg #[e_,e_,n_]
theorem TP:vB bI 193 198 3 40:=vB.of<|.agg #[e_,e_,n_]
theorem QW:fV bI 141:=gu Tryz.func141
theorem QX:fV bI 143:=gu Tryz.func143
theorem Og:fV bI 104:=gu Tryz.func104
theorem QY:fV bI 111:=gu Tryz.func111
theorem JX:fV bI 113:=gu Tryz.func113
theorem QZ:fV bI 149:=gu Tryz.func149
theorem Na:fV bI 67:=gu Tryz.func67
theorem Q0:fV bI 152:=gu Tryz.func152
theorem PQ:fV bI 65:=gu Tryz.func65
theorem Oh:fV bI 153:=gu Tryz.func153
theorem TX:fV bI 64:=gu Tryz.func64
theorem UK:NN bI 4 (false:Bool):=NN.of (.bool false)<|λM=>rfl
theorem T0:fV bI 63:=gu Tryz.func63
theorem PR:fV bI 35:=gu Tryz.func35
theorem RU:fV bI 36:=gu Tryz.func36
theorem T1:Qt bI 75 eK:=⟨λM cs ds a b w ha hb=>by
  obtain⟨_,_,rfl,rfl,rfl⟩:=ha
  obtain⟨_,_,rfl,rfl,rfl⟩:=hb
  refine(lF 9999 Tryz.underlying75<|DQ.cons (by decide) (eF yP _) (eF yP _) (Bc DU _ _ w)<|DQ.cons (by decide) (eF yP _) (eF yP _) (Bc DU _ _ w) DQ.nil).trans ?_
  congr 1
  cases a;cases b;unfold zU
  rw[jQ]
  simp,by kernel_rfl⟩
theorem T2:fV bI 17:=gu Tryz.func17
theorem T3:xz bI 111 [(0,4),(4,1),(5,1),(6,1),(7,1)] #[n_,n_,n_,n_,n_,n_,n_,n_]:=xz.of (.agg #[n_,n_,n_,n_,n_,n_,n_,n_]) Tryz.underlying111
theorem xM:pj bI 111 1 4:=ru
theorem mJ:pj bI 111 2 5:=ru
theorem sX:pj bI 111 4 7:=ru
theorem ly:pj bI 111 3 6:=ru
theorem T4:xz bI 86 [(0,1),(1,1),(2,1)] #[n_,n_,n_]:=xz.of (.agg #[n_,n_,n_]) Tryz.underlying86
theorem Fp:fV bI 108:=gu Tryz.func108
theorem Q1:fV bI 145:=gu Tryz.func145
theorem nk:pj bI 111 0 0:=ru
theorem Q2:fV bI 115:=gu Tryz.func115
theorem T6:fV bI 78:=gu Tryz.func78
theorem T7:fV bI 70:=gu Tryz.func70
theorem Q3:fV bI 171:=gu Tryz.func171
theorem Q4:fV bI 146:=gu Tryz.func146
theorem Q5:fV bI 110:=gu Tryz.func110
theorem Ua:fV bI 16:=gu Tryz.func16
theorem RW:fV bI 75:=gu Tryz.func75
theorem Ub:fV bI 77:=gu Tryz.func77
theorem RX:fV bI 38:=gu Tryz.func38
theorem RY:fV bI 39:=gu Tryz.func39
theorem RZ:fV bI 19:=gu Tryz.func19
theorem R0:fV bI 18:=gu Tryz.func18
theorem VD:xz bI 61 [(0,5),(5,1)] #[(.bool false),(.bool false),e_,e_,e_,n_]:=xz.of (.agg #[(.bool false),(.bool false),e_,e_,e_,n_]) Tryz.underlying61
theorem Uc:Aq bI 56 61 6:=GJ
theorem Ud:DO bI 61 6:=EM<|.agg #[(.bool false),(.bool false),e_,e_,e_,n_]
theorem VE:vB bI 56 61 6 64:=vB.of<|.agg #[(.bool false),(.bool false),e_,e_,e_,n_]
theorem VG:Tryz.prog.underlying 56=some (.slice 61):=by kernel_rfl
theorem Ue:nJ bI 61 true 6:=yw
theorem Oi:pj bI 61 1 5:=ru
theorem R1:nJ bI 29 false 1:=yw
theorem Uf:Aq bI 62 5 1:=GJ
theorem Wh:DO bI 5 1:=EM<|.int .u8 0
theorem Ug:vB bI 62 5 1 1:=vB.of<|.int .u8 0
theorem Uh:Tryz.prog.underlying 62=some (.slice 5):=by kernel_rfl
theorem Wi:Tryz.prog.underlying 5=some (.int .u8):=by kernel_rfl
theorem Ui:Jr bI 59 9 3 eJ Int (0:Int):=⟨by kernel_rfl,GO.str DU,Ib e_<|λM=>⟨_,rfl,rfl⟩⟩
theorem PT:Tryz.prog.underlying 34=some (.slice 30):=by kernel_rfl
theorem JY:Aq bI 34 30 1:=GJ
theorem Uj:DO bI 30 1:=EM<|.slice none 0 0
theorem Uk:vB bI 34 30 1 24:=vB.of<|.slice none 0 0
theorem R2:pj bI 61 0 0:=ru
theorem Ul:Tryz.prog.underlying 65=some (.slice 29):=by kernel_rfl
theorem Um:Aq bI 65 29 1:=GJ
theorem VJ:DO bI 29 1:=EM<|.slice none 0 0
theorem VK:vB bI 65 29 1 24:=vB.of<|.slice none 0 0
theorem Q6:Qt bI 41 aU:=⟨λM cs ds a b w ha hb=>by
  obtain⟨_,_,rfl,rfl,⟨_,_,rfl,⟨_,_,rfl,rfl,rfl⟩,⟨_,_,rfl,rfl,rfl⟩⟩⟩:=ha
  obtain⟨_,_,rfl,rfl,⟨_,_,rfl,⟨_,_,rfl,rfl,rfl⟩,⟨_,_,rfl,rfl,rfl⟩⟩⟩:=hb
  refine(lF 9999 Tryz.underlying41<|DQ.cons (by decide) (eF sW _) (eF sW _) (vR RF _ _ w)<|DQ.cons (by decide) (C2 qj rfl _) (C2 qj rfl _) (lF 9998 Tryz.underlying38<|DQ.cons (by decide) (eF sW _) (eF sW _) (vR RF _ _ w)<|DQ.cons (by decide) (eF cF _) (eF cF _) (lM Mi _ _ w) DQ.nil)<|DQ.cons (by decide) (eF cF _) (eF cF _) (lM Mi _ _ w)<|DQ.cons (by decide) (eF cF _) (eF cF _) (lM Mi _ _ w) DQ.nil).trans ?_
  congr 1
  obtain⟨_,⟨_,_⟩,_,_⟩:=a;obtain⟨_,⟨_,_⟩,_,_⟩:=b;unfold qh xI
  rw[jQ]
  simp,by kernel_rfl⟩
theorem Wj:fV bI 8:=gu Tryz.func8
theorem VM:xz bI 71 [(0,1),(1,1),(2,1),(3,2)] #[(.string ⟨#[]⟩),(.string ⟨#[]⟩),e_,e_,e_]:=xz.of (.agg #[(.string ⟨#[]⟩),(.string ⟨#[]⟩),e_,e_,e_]) Tryz.underlying71
theorem VN:xz bI 27 [(0,1),(1,1),(2,1),(3,1)] #[n_,n_,n_,n_]:=xz.of (.agg #[n_,n_,n_,n_]) Tryz.underlying27
theorem VO:DO bI 27 4:=EM<|.agg #[n_,n_,n_,n_]
theorem Un:Qt bI 39 eB:=⟨λM cs ds a b w ha hb=>by
  obtain⟨_,_,rfl,rfl,rfl⟩:=ha
  obtain⟨_,_,rfl,rfl,rfl⟩:=hb
  refine(lF 9999 Tryz.underlying39<|DQ.cons (by decide) (eF sW _) (eF sW _) (vR RF _ _ w)<|DQ.cons (by decide) (eF cF _) (eF cF _) (lM Mi _ _ w) DQ.nil).trans ?_
  congr 1
  cases a;cases b;unfold xI
  rw[jQ]
  simp,by kernel_rfl⟩
theorem R3:fV bI 79:=gu Tryz.func79
def aW(E:aY)(V:Z HP)(res:Bool)(v:aX)(w:aY):Prop:=v= vb res/\Holds E w V
def aV(E:aY)(V:Z HP)(res:Int)(v:aX)(w:aY):Prop:=v= vi res/\Holds E w V
def gS(E:aY)(V:Z HP)(res:Z aF)(v:aX)(w:aY):Prop:=Holds E w<|[own 67 v res]++V
def oW(E:aY)(V:Z HP)(res:Z Int)(v:aX)(w:aY):Prop:=Holds E w<|[own 3 v res]++V
def pH(E:aY)(V:Z HP)(res:Z aA)(v:aX)(w:aY):Prop:=Holds E w<|[own 185 v res]++V
def rO(E:aY)(V:Z HP)(res:aF)(v:aX)(w:aY):Prop:=Holds E w<|[rd v res]++V
def AV(E:aY)(V:Z HP)(res:wh)(v:aX)(w:aY):Prop:=Holds E w<|[rd v res]++V
def rP(E:aY)(V:Z HP)(res:Z (Z aF))(v:aX)(w:aY):Prop:=Holds E w<|[own 23 v res]++V
def iC(E:aY)(V:Z HP)(b0:Nat)(f_ h_:aX)(a_ d_:aX)(g_ b_ e_:aX)(us0_6:Z bE)(s_:Z bZ)(i_:aX)(res:Int)(v:aX)(w:aY):Prop:=v= vi res/\Holds E w ([bc 111 b0 [f_,h_,a_,d_,g_,b_,e_,i_],own 86 e_ us0_6,gN bJ us0_6 s_ none]++V)
def ql(E:aY)(V:Z HP)(b0:Nat)(f_ h_:aX)(a_ d_:aX)(g_ b_:aX)(e_ i_:aX)(res:Z Int)(v:aX)(w:aY):Prop:=Holds E w<|[own 3 v res,bc 111 b0 [f_,h_,a_,d_,g_,b_,e_,i_]]++V
def uW(E:aY)(V:Z HP)(res:Z eJ)(v:aX)(w:aY):Prop:=Holds E w<|[own 9 v res]++V
def sY(E:aY)(V:Z HP)(res:aT (Z (Z aF)×Z aF×Z bV×Z dA×Z (Z aA)×Z aD×Z (Z Int)×Z bZ×Z Int×Z Int×Z Int×Z eB)×Int)(v:aX)(w:aY):Prop:=E3 res.1 (v = .tuple #[(.pointer none),vi res.2]/\Holds E w V) (λy=>∃(ub0:Nat)(D_ G_:aX)(H_ O_:aX)(I_ J_:aX)(E_ K_:aX)(a2_ a3_:aX)(a4_ a5_:aX),v = .tuple #[vp ub0 0,vi res.2]/\Holds E w ([bc 93 ub0 [D_,G_,H_,O_,I_,J_,E_,K_,a2_,a3_,a4_,a5_],rd D_ y.1,rd G_ y.2.1,rd H_ y.2.2.1,rd O_ y.2.2.2.1,own 96 I_ y.2.2.2.2.1,rd J_ y.2.2.2.2.2.1,rd E_ y.2.2.2.2.2.2.1,own 86 K_ y.2.2.2.2.2.2.2.1,rd a2_ y.2.2.2.2.2.2.2.2.1,rd a3_ y.2.2.2.2.2.2.2.2.2.1,own 3 a4_ y.2.2.2.2.2.2.2.2.2.2.1,own 39 a5_ y.2.2.2.2.2.2.2.2.2.2.2]++V))
def DW(E:aY)(V:Z HP)(res:Z aU×Int)(v:aX)(w:aY):Prop:=∃u0:aX,v = .tuple #[u0,vi res.2]/\Holds E w ([own 41 u0 res.1]++V)
def pV(E:aY)(V:Z HP)(res:Z Int)(v:aX)(w:aY):Prop:=Holds E w<|[rd v res]++V
def nn(E:aY)(V:Z HP)(res:Z aG)(v:aX)(w:aY):Prop:=Holds E w<|[own 215 v res]++V
def mc(E:aY)(V:Z HP)(b0:Nat)(f_ h_:aX)(a_ d_:aX)(g_ b_:aX)(e_ i_:aX)(r_ o_:aX)(m_ l_:aX)(res:Int)(v:aX)(w:aY):Prop:=v= vi res/\Holds E w ([bc 93 b0 [f_,h_,a_,d_,g_,b_,e_,i_,r_,o_,m_,l_]]++V)
def wR(E:aY)(V:Z HP)(res:Z (Z aU)×Int)(v:aX)(w:aY):Prop:=∃u0:aX,v = .tuple #[u0,vi res.2]/\Holds E w ([own 30 u0 res.1]++V)
def j3(E:aY)(V:Z HP)(b0:Nat)(f_ h_:aX)(a_ d_:aX)(g_ b_:aX)(e_ i_:aX)(res:Int)(v:aX)(w:aY):Prop:=v= vi res/\Holds E w ([bc 111 b0 [f_,h_,a_,d_,g_,b_,e_,i_]]++V)
def ri(E:aY)(V:Z HP)(b0:Nat)(f_ h_:aX)(a_ d_:aX)(g_ b_:aX)(e_ i_:aX)(res:Z aU)(v:aX)(w:aY):Prop:=Holds E w<|[own 41 v res,bc 111 b0 [f_,h_,a_,d_,g_,b_,e_,i_]]++V
def DZ(H:Type)(d:DataW H):Nat:=YtoklpakgcjcdoabGreatDoor.Rows.uptoBulk d
def Uq(H:Type)(d:List (DataW H)):Nat:=YtoklpakgcjcdoabGreatDoor.Rows.uptoBulkAll d
theorem jK:UB DZ Uq where
  str:=λH b=>by simp[DZ,YtoklpakgcjcdoabGreatDoor.Rows.uptoBulk]
  pos:=λH d=>by
    unfold DZ
    cases d with
    |lit l=>cases l <;> simp[YtoklpakgcjcdoabGreatDoor.Rows.uptoBulk]
    |nil=>simp[YtoklpakgcjcdoabGreatDoor.Rows.uptoBulk]
    |ptr d=>simp[YtoklpakgcjcdoabGreatDoor.Rows.uptoBulk]
    |slice elems spare=>simp[YtoklpakgcjcdoabGreatDoor.Rows.uptoBulk]
    |agg parts=>simp[YtoklpakgcjcdoabGreatDoor.Rows.uptoBulk]
    |iface t d=>simp[YtoklpakgcjcdoabGreatDoor.Rows.uptoBulk]
    |map entries=>simp[YtoklpakgcjcdoabGreatDoor.Rows.uptoBulk]
    |held h=>simp[YtoklpakgcjcdoabGreatDoor.Rows.uptoBulk]
  sl:=λH e s=>by simp[DZ,Uq,YtoklpakgcjcdoabGreatDoor.Rows.uptoBulk]
  ag:=λH l=>by simp[DZ,Uq,YtoklpakgcjcdoabGreatDoor.Rows.uptoBulk]
  nil:=λH=>by simp[Uq,YtoklpakgcjcdoabGreatDoor.Rows.uptoBulkAll]
  cons:=λH x l=>by simp[DZ,Uq,YtoklpakgcjcdoabGreatDoor.Rows.uptoBulkAll]
theorem Ov:ll DZ Tryz.prog 3 Int:=Ng jK (by kernel_rfl)
theorem VU:ll DZ Tryz.prog 67 aF:=nu jK (λ(x:aF)=>(x.X0,x.Y0,x.X1,x.Y1)) (λb=>⟨b.1,b.2.1,b.2.2.1,b.2.2.2⟩) (λb=>rfl) Tryz.underlying67 (iD jK Ov<|iD jK Ov<|iD jK Ov<|sH jK Ov) (λb=>by simp only[PY];omega)
theorem Ur:ll DZ Tryz.prog 23 (Z aF):=sG (e:=67) jK VU
theorem VV:ll DZ Tryz.prog 22 (Z<|Z aF):=sG (e:=23) jK Ur
theorem Us:ll DZ Tryz.prog 69 dW:=nu jK (λ(x:dW)=>(x.X,x.Y)) (λb=>⟨b.1,b.2⟩) (λb=>rfl) Tryz.underlying69 (iD jK Ov<|sH jK Ov) (λb=>by simp only[Ot];omega)
theorem VW:ll DZ Tryz.prog 4 Bool:=Ly jK (by kernel_rfl)
theorem Ut:ll DZ Tryz.prog 117 bV:=nu jK (λ(x:bV)=>(x.At,x.eN,x.cM,x.To,x.fM)) (λb=>⟨b.1,b.2.1,b.2.2.1,b.2.2.2.1,b.2.2.2.2⟩) (λb=>rfl) Tryz.underlying117 (iD jK Us<|iD jK Ov<|iD jK Ov<|iD jK Ov<|sH jK VW) (λb=>by simp only[PZ];omega)
theorem VX:ll DZ Tryz.prog 24 (Z bV):=sG (e:=117) jK Ut
theorem UL:ll DZ Tryz.prog 9 eJ:=Nh jK (by kernel_rfl)
theorem VY:ll DZ Tryz.prog 71 dA:=nu jK (λ(x:dA)=>(x.Part,x.eK,x.cN,x.At)) (λb=>⟨b.1,b.2.1,b.2.2.1,b.2.2.2⟩) (λb=>rfl) Tryz.underlying71 (iD jK UL<|iD jK UL<|iD jK Ov<|sH jK Us) (λb=>by simp only[Mr];omega)
theorem VZ:ll DZ Tryz.prog 25 (Z dA):=sG (e:=71) jK VY
theorem V0:ll DZ Tryz.prog 27 gZ:=nu jK (λ(x:gZ)=>(x.aL,x.cS,x.aN,x.bO)) (λb=>⟨b.1,b.2.1,b.2.2.1,b.2.2.2⟩) (λb=>rfl) Tryz.underlying27 (iD jK VV<|iD jK Ur<|iD jK VX<|sH jK VZ) (λb=>by simp only[Ou];omega)
theorem Uu:ll DZ Tryz.prog 75 eK:=nu jK (λ(x:eK)=>(x.Part,x.eK)) (λb=>⟨b.1,b.2⟩) (λb=>rfl) Tryz.underlying75 (iD jK UL<|sH jK UL) (λb=>by simp only[R6];omega)
theorem V1:ll DZ Tryz.prog 78 Test:=nu jK (λ(x:Test)=>(x.A,x.B,x.Joined)) (λb=>⟨b.1,b.2.1,b.2.2⟩) (λb=>rfl) Tryz.underlying78 (iD jK Uu<|iD jK Uu<|sH jK VW) (λb=>by simp only[P0];omega)
theorem V2:ll DZ Tryz.prog 28 (Z Test):=sG (e:=78) jK V1
theorem V3:ll DZ Tryz.prog 29 (Z Bool):=sG (e:=4) jK VW
end Go.Gk
namespace Go.Proofs
open Go.Shelf Go.RowKit Go.Lib Go.Sort
theorem layq{α:Type _}{a b:α}(h:a=b:=by kernel_rfl):some a=some b:=congrArg some h
def Tryz.lay119_ren : Go.Shelf.Ren := ⟨fun|6=>119|15=>155|14=>154|28=>181|29=>182|20=>173|21=>174|22=>175|23=>176|24=>177|25=>178|26=>179|27=>180|46=>196|47=>197|48=>198|49=>199|50=>200|57=>209|n=>n,fun|22=>23|24=>67|25=>118|3=>3|39=>162|0=>0|53=>225|55=>227|4=>4|46=>219|45=>218|50=>63|5=>5|9=>9|66=>233|70=>237|76=>244|77=>245|n=>n,fun|n=>n⟩
section open Tryz
theorem Tryz.lay119:Go.Proofs.SlLaysF0.n6 Tryz.prog Tryz.lay119_ren:=⟨by kernel_rfl,⟨f119.name,by decide,func119.trans layq⟩,⟨f154.name,by decide,func154.trans layq⟩,func155.trans layq,⟨f173.name,by decide,func173.trans layq⟩,⟨f174.name,by decide,func174.trans layq⟩,⟨f175.name,by decide,func175.trans layq⟩,⟨f176.name,by decide,func176.trans layq⟩,⟨f177.name,by decide,func177.trans layq⟩,⟨f178.name,by decide,func178.trans layq⟩,⟨f179.name,by decide,func179.trans layq⟩,⟨f180.name,by decide,func180.trans layq⟩,func181.trans layq,func182.trans layq,⟨f196.name,by decide,func196.trans layq⟩,func197.trans layq,func198.trans layq,⟨f199.name,by decide,func199.trans layq⟩,⟨f200.name,by decide,func200.trans layq⟩,⟨f209.name,by decide,func209.trans layq⟩,underlying0,isAgg0,sizeOf0,zeroValue0,underlying3,isAgg3,sizeOf3,zeroValue3,underlying4,isAgg4,sizeOf4,zeroValue4,underlying5,isAgg5,sizeOf5,zeroValue5,underlying9,isAgg9,sizeOf9,zeroValue9,underlying23,isAgg23,sizeOf23,zeroValue23,underlying118,isAgg118,sizeOf118,zeroValue118,underlying162,isAgg162,sizeOf162,zeroValue162,underlying218,isAgg218,sizeOf218,zeroValue218,underlying219,isAgg219,sizeOf219,zeroValue219,underlying63,isAgg63,sizeOf63,zeroValue63,underlying225,isAgg225,sizeOf225,zeroValue225,underlying227,isAgg227,sizeOf227,zeroValue227,underlying233,isAgg233,sizeOf233,zeroValue233,underlying237,isAgg237,sizeOf237,zeroValue237,underlying244,isAgg244,sizeOf244,zeroValue244,underlying245,isAgg245,sizeOf245,zeroValue245⟩
end
def Tryz.lay121_ren : Go.Shelf.Ren := ⟨fun|5=>121|8=>155|7=>156|19=>181|20=>182|10=>183|11=>184|12=>185|13=>186|14=>187|15=>188|16=>189|17=>190|18=>191|30=>201|31=>197|32=>198|33=>202|34=>203|35=>204|40=>210|n=>n,fun|23=>83|25=>3|3=>3|32=>162|22=>83|0=>0|44=>225|46=>227|4=>4|36=>219|35=>218|41=>63|5=>5|9=>9|53=>233|57=>237|63=>244|64=>245|n=>n,fun|n=>n⟩
section open Tryz
theorem Tryz.lay121:Go.Proofs.SlLaysM.n5 Tryz.prog Tryz.lay121_ren:=⟨by kernel_rfl,⟨f121.name,by decide,func121.trans layq⟩,⟨f156.name,by decide,func156.trans layq⟩,func155.trans layq,⟨f183.name,by decide,func183.trans layq⟩,⟨f184.name,by decide,func184.trans layq⟩,⟨f185.name,by decide,func185.trans layq⟩,⟨f186.name,by decide,func186.trans layq⟩,⟨f187.name,by decide,func187.trans layq⟩,⟨f188.name,by decide,func188.trans layq⟩,⟨f189.name,by decide,func189.trans layq⟩,⟨f190.name,by decide,func190.trans layq⟩,⟨f191.name,by decide,func191.trans layq⟩,func181.trans layq,func182.trans layq,⟨f201.name,by decide,func201.trans layq⟩,func197.trans layq,func198.trans layq,⟨f202.name,by decide,func202.trans layq⟩,⟨f203.name,by decide,func203.trans layq⟩,⟨f204.name,by decide,func204.trans layq⟩,⟨f210.name,by decide,func210.trans layq⟩,underlying0,isAgg0,sizeOf0,zeroValue0,underlying3,isAgg3,sizeOf3,zeroValue3,underlying4,isAgg4,sizeOf4,zeroValue4,underlying5,isAgg5,sizeOf5,zeroValue5,underlying9,isAgg9,sizeOf9,zeroValue9,underlying83,isAgg83,sizeOf83,zeroValue83,underlying83,isAgg83,sizeOf83,zeroValue83,underlying3,isAgg3,sizeOf3,zeroValue3,underlying162,isAgg162,sizeOf162,zeroValue162,underlying218,isAgg218,sizeOf218,zeroValue218,underlying219,isAgg219,sizeOf219,zeroValue219,underlying63,isAgg63,sizeOf63,zeroValue63,underlying225,isAgg225,sizeOf225,zeroValue225,underlying227,isAgg227,sizeOf227,zeroValue227,underlying233,isAgg233,sizeOf233,zeroValue233,underlying237,isAgg237,sizeOf237,zeroValue237,underlying244,isAgg244,sizeOf244,zeroValue244,underlying245,isAgg245,sizeOf245,zeroValue245⟩
end
end Go.Proofs
namespace Go.Gk
open Go IntKind Go.Proofs
variable (N:Nat){E w:aY}{i0 i1 i2:Nat}{p0 p1 p2 res:Int}{v0 v1 v2:aX}{V:Z HP}
theorem Ez{res:Bool}(o:Holds E w V)(j:xB N p0 p1 p2=some res):c_ 163 [vi p0,vi p1,vi p2] w<|aW E V res:=by
 unfold xB at j;refine enter Tryz.func163 zr zr<|w_<|bX false<|IT<|aS p0<|aS p1<|ic p0 p1<|eX (mr<|p0>=p1)<|WU (vi p0) zr zr nI ?_;exact WU (vi p2) zr zr nI<|WU (vb<|p0<=p2) zr zr (sg .leq)<|Xf (b:=mr<|p0>=p1) (v:=vb<|mr (p0>=p1)&&mr (p0<=p2)) zt zr zr (jI true)<|bX (mr (p0>=p1)&&mr (p0<=p2))<|AI<|WM<|oi j▸bT ⟨rfl,o.drop 0⟩
theorem n0{res:Bool}(o:Holds E w V)(j:ng N p0=some res):c_ 132 [vi p0] w<|aW E V res:=by
 unfold ng at j;exact enter Tryz.func132 zr zr<|w_<|bX false<|IT<|aS p0<|q_ j λaa ab j=>WK (gu Tryz.func163) (Ez N (p0:=p0) (p1:=(-1000000)) (p2:=1000000) o ab) λw o=>bX aa<|AI<|WM<|oi j▸bT ⟨rfl,o.drop 0⟩
theorem yp{p0:aF}{res:Bool}(j:Holds E w V)(h0:eo V i0 v0 p0)(hb:pq N p0=some res):c_ 117 [v0] w<|aW E V res:=by
 unfold pq at hb;refine enter Tryz.func117 zr zr ?_;have j:=j.dup (i0+0) h0;refine w_<|Xb 0 v0 j zr λaq w j=>?_;refine bX false<|WD<|q_ hb λaf o hb=>WS (λ(af:Bool)=>SH E V [(2,vb af)] []) af ?_ ?_;refine IN<|AT zr gW<|WI 0 j zr dL cF<|q_ o λaj ak o=>WK Hu (n0 N (p0:=p0.X0) j ak) λw j=>eX aj<|dT o (λaa o=>?_) λaa o=>?_;refine AT zr gK<|WI 0 j zr dG cF<|q_ o λag al o=>WK Hu (n0 N (p0:=p0.Y0) j al) λw j=>dQ aa (vb ag)<|eX ag<|dT o (λab o=>?_) λab o=>?_;refine AT zr jk<|WI 0 j zr eO cF<|q_ o λah an o=>WK Hu (n0 N (p0:=p0.X1) j an) λw j=>dQ ab (vb ah)<|eX ah<|dT o (λad o=>?_) λad o=>?_;exact AT zr kJ<|WI 0 j zr fw cF<|q_ o λai ao o=>WK Hu (n0 N (p0:=p0.Y1) j ao) λw j=>dQ ad (vb ai)<|bX ai<|By<|oi o▸⟨rfl,j.sp 2 []⟩;exact aZ ad<|aZ ad<|aZ ad<|dQ ad (vb false)<|bX false<|By<|oi o▸⟨rfl,j.sp 2 []⟩;refine aZ ab<|aZ ab<|aZ ab<|dQ ab (vb false)<|eX false<|jY<|jY<|jY<|Xf (b:=false) (v:=vb false) zt zr zr zr<|bX false<|By ?_;exact oi o▸⟨rfl,j.sp 2 []⟩;refine aZ aa<|aZ aa<|aZ aa<|dQ aa (vb false)<|eX false<|jY<|jY<|jY<|Xf (b:=false) (v:=vb false) zt zr zr zr<|eX false<|jY<|jY<|jY<|Xf (b:=false) (v:=vb false) zt zr zr zr<|bX false<|By ?_;exact oi o▸⟨rfl,j.sp 2 []⟩;rintro _ w⟨O,rfl,j⟩;exact aC<|WM<|oi hb▸bT ⟨rfl,j.drop 0⟩
theorem Au{p0:Z aF}(j:Holds E w V)(h0:eo V i0 v0 p0)(hb:mM N p0=some res):c_ 81 [v0] w<|aV E V res:=by
 unfold mM at hb;refine enter Tryz.func81 zr zr ?_;have j:=j.dup (i0+0) h0;refine w_<|aK 0<|WD<|w_<|mv v0<|WH 0 p0 j mG<|ic ((p0.length:Int)) 2000<|AI<|cY hb (λhb=>?_) λhb=>?_;exact w_<|aK 2<|AI<|W8<|oi hb▸bT ⟨rfl,j.drop 1⟩;refine WV<|w_<|mv v0<|WH 0 p0 j mG<|aS 0<|AI<|XU E V (λ(ae:Unit)=>[rd v0 p0]) (λ_=>[]) (λad _=>[(8,v0),(9,vi p0.length),(10,vi ad)]) (λr=>lf bI 30 Tryz.f81 (aV E V r) .ret) hb ?_ ?_ ?_ ?_;exact j.sp 1 [0];rintro hm ad ae fl _ w hk⟨O,rfl,j⟩hb;refine BY<|W2<|q_ hb λo ah hb=>WC 0 j hU ah λan j=>WT 0 o j gm λao j=>Xl j oH.z λab w j=>?_;refine Xg 0 j 1 zr gm λw j=>?_;refine WD<|w_<|Xc 0 j zr gm λaq j=>?_;refine q_ hb λai aj hb=>WK Qy (yp N (i0:=0) j zr aj) λw j=>Xk ai<|AI<|cY hb (λhb=>?_) λhb=>?_;exact w_<|aK 1<|AI<|W8<|kC<|bK<|oi hb▸⟨rfl,bT ⟨rfl,j.drop 5⟩⟩;refine XA<|AT rfl jk<|WI 1 j rfl eO cF<|AT rfl gW<|WI 1 j rfl dL cF<|ic o.X1 o.X0<|eX (mr<|o.X1<=o.X0)<|Xi true (o.X1<=o.X0) (vp ab 3) rfl rfl rfl (dE kJ)<|Xi true (o.X1<=o.X0) (vi o.Y1) rfl rfl rfl (bR 1 rfl j (by exact z_ (vp ab 3)) rfl fw cF) ?_;refine Xi true (o.X1<=o.X0) (vp ab 1) rfl rfl rfl (dE gK)<|Xi true (o.X1<=o.X0) (vi o.Y0) rfl rfl rfl (bR 1 rfl j (by exact z_ (vp ab 1)) rfl dG cF)<|WU (vb<|o.Y1<=o.Y0) rfl rfl (sg .leq)<|Xf (b:=mr<|o.X1<=o.X0) (v:=vb<|mr (o.X1<=o.X0)||mr (o.Y1<=o.Y0)) trivial rfl rfl (pM true)<|AI<|cY hb (λhb=>?_) λhb=>?_;exact w_<|aK 13<|AI<|Xv<|bK<|oi hb▸⟨rfl,bT ⟨rfl,j.drop 5⟩⟩;exact W6<|bG<|aC<|IN<|Xq hk hm<|aS ((ad+1:Nat):Int)<|By<|oi hb▸⟨rfl,j.sp 5 [4]⟩;intro r U w hb hK;exact bK<|oi hb▸hK;rintro ae _ w hb⟨O,rfl,j⟩;exact aC<|w_<|aK 0<|AI<|WM<|oi hb▸bT ⟨rfl,j.drop 1⟩
theorem y5{p0:Z aF}{res:Z aF}(j:Holds E w V)(h0:eo V i0 v0 p0)(o:kO N p0=some res):
    c_ 118 [v0] w<|gS E V res:=by
 unfold kO at o
 refine enter Tryz.func118 zr zr ?_
 have j:=j.dup (i0+0) h0
 refine w_<|cR n_<|WD<|w_<|mv v0<|Zt (i:=0) zt zr j zr zr zr mG<|AI<|YB (b:=PB v0) zr (λhc=>?_)<|λhc=>?_
 ·have hx:=j.UQ (i:=0) rfl hc
  rw[hx]at o
  replace o:some ([]:Z aF)=_:=o
  refine w_<|cR n_<|AI<|W8 ?_
  obtain rfl:=oi o
  have j:=j.cA aF 67
  exact bT<|j.pk 2 [0]
 refine XA<|Xh ([]:Z aF) j [] hU oH (λM hs g=>zt) λae w j=>mv v0 ?_
 obtain⟨af,ab,o⟩:=bd o
 refine Xp 0 1 j Ff ab λad w j=>?_
 refine cR ad<|AI<|WM ?_
 obtain rfl:=oi o
 exact bT<|j.pk 2 [0]
theorem Cn{p0 p1:aF}(j:Holds E w V)(h0:eo V i0 v0 p0)(h1:eo V i1 v1 p1)(o:lN N p0 p1=some res):c_ 120 [v0,v1] w<|aV E V res:=by
 unfold lN at o;refine enter Tryz.func120 zr zr ?_;have j:=(j.dup (i0+0) h0).dup (i1+1) h1;refine w_<|Xb 1 v0 j zr λaa w j=>?_;refine Xb 1 v1 j zr λab w j=>?_;refine aK 0<|IT<|AT zr gK<|WI 1 j zr dG cF<|AT zr gK<|WI 0 j zr dG cF<|WG p0.Y0 p1.Y0<|aK (cG<|p0.Y0 - p1.Y0)<|AI ?_;exact WM<|oi o▸bT ⟨rfl,j.drop 4⟩
theorem yA{p0:Z Int}{res:Z Int}(j:Holds E w (own 3 v0 p0::V))(o:jg N p0=some res):c_ 122 [v0] w<|oW E V res:=by
 unfold jg at o;refine enter Tryz.func122 zr zr<|w_<|cR n_<|WD<|w_<|mv v0<|XD (i:=0) (l:=p0) zt zr j zr zr ma<|ic ((p0.length:Int)) 2<|AI<|cY o (λo=>?_) λo=>?_;refine w_<|mv v0<|cR v0<|AI<|W8 ?_;obtain rfl:=oi o;exact bT<|j.pk 1 [0];refine WV<|w_<|aK 1<|AI<|XL E V (λ(ab:Int)=>[own 3 v0 p0]) (λ_=>[(0,v0)]) (λab=>[(3,vi ab)]) (λr=>lf bI 61 Tryz.f122 (oW E V r) .ret) o ?_ ?_ ?_ ?_;exact j.sp 1 [0];rintro ab fl _ w⟨O,rfl,j⟩o;refine BY<|w_<|aS ab<|mv v0<|XD (i:=0) (l:=p0) zt zr j zr zr ma<|ic ab ((p0.length:Int))<|AI<|cY o (λo=>?_) λo=>?_;refine WV<|Xt<|BY<|XF mixed ?_;have j:=j.drew;refine XE<|mv v0<|AS<|aS ab<|AS<|q_ o λaq aj o=>W1 0 j zr zr dJ aj<|AS<|XG 0 j aj cF<|AS<|mv v0<|AS<|aS ab<|AS<|WG ab 1 ?_;refine AS<|q_ o λar ak o=>W1 0 j zr zr dJ ak<|AS<|XG 0 j ak cF<|AS<|ic aq ar<|Xx<|aC<|cY o (λo=>?_) λo=>?_;refine w_<|mv v0<|aS ab<|q_ o λa0 ae o=>YT 0 ab zr j zr zr dJ ae<|cR (vw v0 (mL ab) 1)<|WD<|w_<|aK 1<|AI<|XQ E V (λ(aa:Z Int×Int×Int)=>[own 3 v0 aa.1]) (λaa=>[(0,v0),(3,vi aa.2.1)]) (λaa=>[(4,vw v0 (mL ab) 1),(5,vi aa.2.2)]) o ?_ ?_ ?_;exact j.sp 1 [0];rintro aa fl _ w⟨O,rfl,j⟩o;refine BY<|w_<|aS aa.2.2<|mv (vw v0 (mL ab) 1)<|Zu (i:=0) (l:=aa.1) zt zr j zr zr ma<|ic aa.2.2 ((((aa.1.length - mL ab):Nat):Int))<|AI<|cY o (λo=>?_) λo=>?_;refine WV<|Xt<|BY<|XF mixed ?_;have j:=j.drew;refine XE<|mv (vw v0 (mL ab) 1)<|AS<|aS aa.2.2<|AS<|q_ o λau af o=>YU 0 ab zr j zr zr zr dJ (Lj ae) (mf af).1 (mf af).2<|AS<|Ya (f:=(λx=>x)) 0 zt j (r7 0 j (mf af).2 0) (gh (mf af).2).2.1 Fd.self cF<|AS<|mv (vw v0 (mL ab) 1)<|AS<|aS aa.2.2<|AS<|WG aa.2.2 1 ?_;refine AS<|q_ o λav ag o=>YU 0 ab zr j zr zr zr dJ (Lj ae) (mf ag).1 (mf ag).2<|AS<|Ya (f:=(λx=>x)) 0 zt j (r7 0 j (mf ag).2 0) (gh (mf ag).2).2.1 Fd.self cF<|AS<|ic au av<|Xx<|aC<|q_ o λah hj o=>WS (λ(ah:Z Int×Int)=>SH E V [(0,v0),(3,vi ah.2),(4,vw v0 (mL ab) 1),(5,vi aa.2.2)] [own 3 v0 ah.1]) ah ?_ ?_;refine cY hj (λhj=>?_) λhj=>?_;refine w_<|mv v0<|aS aa.2.1<|mv (vw v0 (mL ab) 1)<|aS aa.2.2<|q_ hj λaw ai hj=>YU 0 ab zr j zr zr zr dJ (Lj ae) (mf ai).1 (mf ai).2<|Ya (f:=(λx=>x)) 0 zt j (r7 0 j (mf ai).2 0) (gh (mf ai).2).2.1 Fd.self cF<|q_ hj λa1 al hj=>W1 0 j zr zr dJ al ?_;have j:=j.sc Int aw;refine XM 1 0 j al cF λw j=>?_;refine AI<|IN<|aS aa.2.1<|WG aa.2.1 1<|aK (cG<|aa.2.1+1)<|By ?_;exact oi hj▸⟨rfl,j.sp 2 [1]⟩;exact W6<|oi hj▸⟨rfl,j.sp 1 [0]⟩;rintro _ w⟨O,rfl,j⟩;refine bG<|aC<|IN<|aS aa.2.2<|WG aa.2.2 1<|aK (cG<|aa.2.2+1)<|By ?_;exact oi o▸⟨rfl,j.sp 1 [0]⟩;exact W3<|oi o▸⟨rfl,j.sp 1 [0]⟩;rintro aa _ w o⟨O,rfl,j⟩;refine aC<|w_<|mv v0<|aS aa.2.1<|q_ o λa2 an o=>YT 0 aa.2.1 zr j zr zr dJ an<|Zf 0 zt j zr zr sF QA (NY an) λw j=>IT<|mv v0<|aS aa.2.1<|q_ o λa3 ax o=>YR 0 zr j zr zr dJ (.inr ⟨rfl,zr⟩) ax λay j=>cR ay<|AI<|Xv<|bK ?_;obtain rfl:=oi o;exact⟨rfl,bT<|j.pk 1 [0]⟩;refine W6<|bG<|aC<|IN<|aS ab<|WG ab 1<|aK (cG<|ab+1)<|By ?_;exact oi o▸⟨rfl,j.sp 1 [0]⟩;exact W3<|oi o▸⟨rfl,j.sp 1 [0]⟩;intro r U w o hK;exact bK<|oi o▸hK;rintro ab _ w o⟨O,rfl,j⟩;refine aC<|w_<|mv v0<|cR v0<|AI<|WM ?_;obtain rfl:=oi o;exact bT<|j.pk 1 [0]
theorem Co{p0:aF}{p1:Z Int}{res:Bool}(j:Holds E w V)(h0:eo V i0 v0 p0)(h1:eT V i1 v1 p1)(h2:eT V i2 v2 p2)(o:rE N p0 p1 p2=some res):c_ 124 [v0,v1,v2] w<|aW E V res:=by
 unfold rE at o;refine enter Tryz.func124 zr zr ?_;have j:=((j.dup (i0+0) h0).EW (i:=i1+1) h1).EW (i:=i2+2) h2;refine w_<|Xb 2 v0 j zr λad w j=>?_;refine bX false<|WD<|XF mixed ?_;have j:=j.drew;refine XE<|AT zr kJ<|AS<|WI 0 j zr fw cF<|AS<|WT 2 p1 j fN λae j=>AS<|WX p2 2 j cF<|AS<|q_ o λaa ab o=>WC 0 j dJ ab λaf j=>AS<|WX aa 0 j cF<|AS<|ic p0.Y1 aa<|AS<|bX (mr<|p0.Y1<=aa)<|Xx<|aC ?_;exact WM<|oi o▸bT ⟨rfl,j.drop 6⟩
theorem wm{p0:Z aF}{p1:aF->aT Bool}(o:Holds E w V)(h0:eo V i0 v0 p0)(h1:Pk bI E V v1 p1 (λ(r:Bool)=>Value.bool r))(j:n9 N p0 p1=some res):c_ 136 [v0,v1] w<|aV E V res:=by
 unfold n9 at j;refine enter Tryz.func136 zr zr ?_;have o:=o.dup (i0+0) h0;refine w_<|aK 0<|WD<|w_<|mv v0<|WH 0 p0 o mG<|aS 0<|AI<|XU E V (λ(ab:Unit)=>[rd v0 p0]) (λ_=>[]) (λaa _=>[(0,v0),(1,v1),(7,vi p0.length),(8,vi aa)]) (λr=>lf bI 19 Tryz.f136 (aV E V r) .ret) j ?_ ?_ ?_ ?_;exact o.sp 1 [0];rintro hm aa ab fl _ w hk⟨O,rfl,o⟩j;refine BY<|W2<|aS (aa:Int)<|aK (aa:Int)<|IT<|mv v1<|mv v0<|aS (aa:Int)<|q_ j λaf ag j=>WC 0 o hU ag λak o=>WT 0 af o gm λal o=>?_;refine q_ j λan ah j=>YE 0 zr o zr h1 3 zr zr zr ah λw o=>AI<|cY j (λj=>?_) λj=>?_;exact w_<|aS (aa:Int)<|aK (aa:Int)<|AI<|Xv<|bK<|oi j▸⟨rfl,bT ⟨rfl,o.drop 3⟩⟩;exact W6<|bG<|aC<|IN<|Xq hk hm<|aS ((aa+1:Nat):Int)<|By<|oi j▸⟨rfl,o.sp 3 [2]⟩;intro r U w j hK;exact bK<|oi j▸hK;rintro ab _ w j⟨O,rfl,o⟩;exact aC<|w_<|aK (-1)<|AI<|WM<|oi j▸bT ⟨rfl,o.drop 1⟩
def oX(E:aY)(V:Z HP)(v0:aX)(p0:Z aF)(res:Int)(v:aX)(w:aY):Prop:=v= vi res/\Holds E w ([own 67 v0 p0]++V)
theorem ui{p0:Z aF}{p1:aF->aT Bool}(o:Holds E w (own 67 v0 p0::V))(h1:Pk bI E V v1 p1 (λ(r:Bool)=>Value.bool r))(j:mD N p0 p1=some res):c_ 136 [v0,v1] w<|oX E V v0 p0 res:=by
 unfold mD at j;refine enter Tryz.func136 zr zr<|w_<|aK 0<|WD<|w_<|mv v0<|XD (i:=0) (l:=p0) zt zr o zr zr mG<|aS 0<|AI<|XU E V (λ(ab:Unit)=>[own 67 v0 p0]) (λ_=>[(0,v0)]) (λaa _=>[(1,v1),(7,vi p0.length),(8,vi aa)]) (λr=>lf bI 19 Tryz.f136 (oX E V v0 p0 r) .ret) j ?_ ?_ ?_ ?_;exact o.sp 1 [0];rintro hm aa ab fl _ w hk⟨O,rfl,o⟩j;refine BY<|W2<|aS (aa:Int)<|aK (aa:Int)<|IT<|mv v1<|mv v0<|aS (aa:Int)<|q_ j λaj ad j=>W1 0 o zr zr hU ad<|X4 0 o ad gm λak o=>?_;refine q_ j λal ag j=>YE 0 zr o zr h1 2 zr zr zr ag λw o=>AI<|cY j (λj=>?_) λj=>?_;exact w_<|aS (aa:Int)<|aK (aa:Int)<|AI<|Xv<|bK<|oi j▸⟨rfl,bT ⟨rfl,o.pk 2 [1]⟩⟩;exact W6<|bG<|aC<|IN<|Xq hk hm<|aS ((aa+1:Nat):Int)<|By<|oi j▸⟨rfl,o.sp 2 [1]⟩;intro r U w j hK;exact bK<|oi j▸hK;rintro ab _ w j⟨O,rfl,o⟩;exact aC<|w_<|aK (-1)<|AI<|WM<|oi j▸bT ⟨rfl,o.pk 1 [0]⟩
theorem vE{p0:Z aF}{p1:aF->aT Bool}{res:Z aF}(j:Holds E w (own 67 v0 p0::V))(h1:Pk bI E V v1 p1 (λ(r:Bool)=>Value.bool r))(o:jT N p0 p1=some res):c_ 123 [v0,v1] w<|gS E V res:=by
 unfold jT at o;refine enter Tryz.func123 zr zr<|w_<|cR n_<|IT<|mv v0<|mv v1 ?_;have j:=j.pull 0;refine q_ o λad ai o=>WK QB (ui N j (h1.lift 1 zr) ai) λw j=>aK ad<|WD<|w_<|aS ad<|ic ad ((-1))<|AI<|cY o (λo=>?_) λo=>?_;refine w_<|mv v0<|cR v0<|AI<|W8 ?_;obtain rfl:=oi o;exact bT<|j.pk 2 [0];refine WV<|w_<|aS ad<|WG ad 1<|aK (cG<|ad+1)<|AI<|XQ E V (λ(aa:Z aF×Int×Int)=>[own 67 v0 aa.1]) (λaa=>[(0,v0),(5,vi aa.2.1)]) (λaa=>[(1,v1),(6,vi aa.2.2)]) o ?_ ?_ ?_;exact j.sp 2 [0];rintro aa fl _ w⟨O,rfl,j⟩o;refine BY<|w_<|aS aa.2.2<|mv v0<|XD (i:=0) (l:=aa.1) zt zr j zr zr mG<|ic aa.2.2 ((aa.1.length:Int))<|AI<|cY o (λo=>?_) λo=>?_;refine WV<|W2<|mv v0<|aS aa.2.2<|q_ o λaq af o=>W1 0 j zr zr hU af<|X4 0 j af gm λar j=>?_;refine Xl j oH.z λau w j=>?_;refine Xg 0 j 1 zr gm λw j=>?_;refine IT<|mv v1<|Xc 0 j zr gm λav j=>?_;refine q_ o λaj ak o=>YE 0 zr j zr h1 4 zr zr zr ak λw j=>Xk aj<|AI<|q_ o λae hj o=>WS (λ(ae:Z aF×Int)=>SH E V [(0,v0),(1,v1),(5,vi ae.2),(6,vi aa.2.2)] [own 67 v0 ae.1]) ae ?_ ?_;refine cY hj (λhj=>?_) λhj=>?_;refine w_<|mv v0<|aS aa.2.1<|Xc 1 j zr gm λaw j=>?_;refine q_ hj λax ag hj=>W1 4 j zr zr hU ag<|XM 4 0 j ag gm λw j=>?_;refine AI<|IN<|aS aa.2.1<|WG aa.2.1 1<|aK (cG<|aa.2.1+1)<|By ?_;exact oi hj▸⟨rfl,j.sp 5 [4]⟩;exact W6<|oi hj▸⟨rfl,j.sp 4 [3]⟩;rintro _ w⟨O,rfl,j⟩;refine bG<|aC<|IN<|aS aa.2.2<|WG aa.2.2 1<|aK (cG<|aa.2.2+1)<|By ?_;exact oi o▸⟨rfl,j.sp 1 [0]⟩;exact W3<|oi o▸⟨rfl,j.sp 1 [0]⟩;rintro aa _ w o⟨O,rfl,j⟩;refine aC<|w_<|mv v0<|aS aa.2.1<|q_ o λay ah o=>YT 0 aa.2.1 zr j zr zr hU ah<|Zf 0 zt j zr zr Ff UW (NY ah) λw j=>IT<|mv v0<|aS aa.2.1<|q_ o λaz al o=>YR 0 zr j zr zr hU (.inr ⟨rfl,zr⟩) al λan j=>cR an<|AI<|WM ?_;obtain rfl:=oi o;exact bT<|j.pk 1 [0]
theorem yB{p0 p1:aF}(j:Holds E w V)(h0:eo V i0 v0 p0)(h1:eo V i1 v1 p1)(o:jh N p0 p1=some res):c_ 158 [v0,v1] w<|aV E V res:=by
 unfold jh at o;refine enter Tryz.func158 zr zr ?_;have j:=(j.dup (i0+0) h0).dup (i1+1) h1;refine w_<|Xb 1 v0 j zr λaa w j=>?_;refine Xb 1 v1 j zr λab w j=>?_;refine aK 0<|IT<|AT zr gW<|WI 1 j zr dL cF<|AT zr gW<|WI 0 j zr dL cF<|WG p0.X0 p1.X0<|aK (cG<|p0.X0 - p1.X0)<|AI ?_;exact WM<|oi o▸bT ⟨rfl,j.drop 4⟩
def Cp(E:aY)(V:Z HP)(v0:aX)(res:Z Int×Z aF)(v:aX)(w:aY):Prop:=Holds E w<|[own 3 v res.1,own 67 v0 res.2]++V
theorem Bv{p0:Z aF}{res:Z Int×Z aF}(j:Holds E w (own 67 v0 p0::V))(hb:kZ N p0=some res):c_ 126 [v0] w<|Cp E V v0 res:=by
 unfold kZ at hb;refine enter Tryz.func126 zr zr<|w_<|cR n_<|IT<|mv v0 ?_;obtain⟨ag,az,hb⟩:=bd hb;have j:=j.pull 0;refine WK Qz (Ms Tryz.lay119 aF zr gm.Pj gm.sz (gu Tryz.func158) (λj hi o hr=>yB N j hi o hr) j az) λw j=>IT<|cR n_<|WD<|w_<|mv v0<|XD (i:=0) (l:=ag) zt zr j zr zr mG<|aS 0<|AI ?_;have j:=j.cA Int 3;refine XW E V (λ(ad:Z Int)(aj:aX)=>[own 67 v0 ag,own 3 aj ad]) (λ_ aj=>[(0,v0),(3,aj)]) (λah _ _=>[(9,v0),(10,vi ag.length),(11,vi ah)]) hb ?_ ?_ ?_;exact⟨n_,j.sp 3 [1,0]⟩;rintro hm ah ad s' _ w hk⟨af,O,rfl,j⟩hb;refine BY<|W2<|q_ hb λae ao hb=>W1 0 j zr zr hU ao<|X4 0 j ao gm λa3 j=>?_;refine Xl j oH.z λaq w j=>?_;refine Xg 0 j 1 zr gm λw j=>?_;refine IT<|mv af<|XD (i:=3) (l:=ad) zt zr j zr zr ma<|WG (ad.length:Int) 1<|aK (cG<|(ad.length:Int) - 1)<|WD<|q_ hb λak o hb=>WS (λ(ak:Bool)=>SH E V [(0,v0),(3,af),(5,vp aq 0),(6,vi<|cG<|(ad.length:Int) - 1),(9,v0),(10,vi ag.length),(11,vi ah),(28,vb ak)] [own 67 v0 ag,own 3 af ad,bx 67 aq ae]) ak ?_ ?_;refine XF mixed ?_;have j:=j.drew;refine XE<|aS (cG<|(ad.length:Int) - 1)<|AS<|ic (cG<|(ad.length:Int) - 1) 0<|AS<|eX (mr<|cG ((ad.length:Int) - 1)>=0)<|dT o (λaa o=>?_) λaa o=>?_;refine AS<|AT zr gW<|AS<|WI 0 j zr dL cF<|AS<|WE af (cg aa)<|AS<|WE (vi<|cG<|(ad.length:Int) - 1) (cg aa)<|AS ?_;refine q_ o λar au o=>W1 3 j zr zr dJ au<|AS<|XG 3 j au cF<|AS<|Xy ae.X0 ar (cg aa)<|AS<|dQ aa (vb<|ae.X0<=ar)<|Xx ?_;exact oi o▸⟨rfl,j.sp 4 [2,3,0]⟩;refine AS<|aZ aa<|AS<|aZ aa<|AS<|aZ aa<|AS<|aZ aa<|AS<|aZ aa<|AS<|aZ aa<|AS<|aZ aa<|AS<|dQ aa (vb false)<|Xx ?_;exact oi o▸⟨rfl,j.sp 4 [2,3,0]⟩;rintro _ w⟨O,rfl,j⟩;refine aC<|q_ hb λal o hb=>WS (λ(al:Z Int)U w=>∃ai:aX,SH E V [(0,v0),(3,ai),(9,v0),(10,vi ag.length),(11,vi ah)] [own 67 v0 ag,own 3 ai al] U w) al ?_ ?_;refine cY o (λo=>?_) λo=>?_;refine Xz mixed (jn 11 20000000000) (f0 0 11 []) ?_;have j:=j.drew;refine WL zr zr<|mv af<|aO zr<|aS (cG<|(ad.length:Int) - 1)<|aO zr<|mv af<|aO zr<|aS (cG<|(ad.length:Int) - 1)<|aO zr ?_;refine q_ o λan aw o=>W1 1 j zr zr dJ aw<|aO zr<|XG 1 j aw cF<|aO zr<|AT zr jk<|aO zr<|WI 2 j zr eO cF<|aO zr<|X3 an ae.X1<|aO zr ?_;refine q_ o λa6 ax o=>W1 1 j zr zr dJ ax<|m7 zr ?_;have j:=j.sc Int (cZ an ae.X1);refine XM 2 0 j ax cF λw j=>?_;exact Xd zt<|W7<|oi o▸⟨rfl,af,j.sp 4 [1,2]⟩;refine IN<|mv af<|AT zr gW<|WI 2 j zr dL cF<|AT zr jk<|WI 2 j zr eO cF ?_;have j:=(j.sc Int ae.X0).sc Int ae.X1;refine Xh ([ae.X0,ae.X1]:Z Int) j [vi ae.X0,vi ae.X1] dJ GK (λM hs g=>⟨(g.sat 1 _ zr).1,⟨(g.sat 0 _ zr).1,zt⟩⟩) λa4 w j=>?_;have j:=j.freeze 0;refine q_ o λa5 a2 o=>Xp 4 0 j sF a2 λav w j=>?_;exact cR av<|By<|oi o▸⟨rfl,av,j.sp 6 [3,4]⟩;rintro _ w⟨ai,O,rfl,j⟩;exact bG<|aC<|IN<|Xq hk hm<|aS ((ah+1:Nat):Int)<|By<|oi hb▸⟨rfl,ai,j.sp 2 [0,1]⟩;rintro ad _ w hb⟨ay,O,rfl,j⟩;refine aC<|w_<|mv ay<|cR ay<|AI<|WM ?_;obtain rfl:=oi hb;exact bT<|j.pk 2 [1,0]
theorem Av{p0:Z Int}{p1:Z Int}{res:Bool}(j:Holds E w V)(h0:eo V i0 v0 p0)(h1:eo V i1 v1 p1)(o:pr N p0 p1=some res):c_ 157 [v0,v1] w<|aW E V res:=by
 unfold pr at o;refine enter Tryz.func157 zr zr ?_;have j:=(j.dup (i0+0) h0).dup (i1+1) h1;refine w_<|bX false<|WD<|w_<|mv v0<|WH 1 p0 j ma<|mv v1<|WH 0 p1 j ma<|ic ((p0.length:Int)) ((p1.length:Int))<|AI<|cY o (λo=>?_) λo=>?_;exact w_<|bX false<|AI<|W8<|oi o▸bT ⟨rfl,j.drop 2⟩;refine WV<|w_<|mv v0<|WH 1 p0 j ma<|aS 0<|AI<|XU E V (λ(ab:Unit)=>[rd v0 p0,rd v1 p1]) (λ_=>[]) (λaa _=>[(0,v0),(1,v1),(12,vi p0.length),(13,vi aa)]) (λr=>lf bI 26 Tryz.f157 (aW E V r) .ret) o ?_ ?_ ?_ ?_;exact j.sp 2 [1,0];rintro hm aa ab fl _ w hk⟨O,rfl,j⟩o;refine BY<|W2<|aS (aa:Int)<|aK (aa:Int)<|WD<|XF mixed ?_;have j:=j.drew;refine XE<|mv v0<|AS<|aS (aa:Int)<|AS<|q_ o λad ah o=>WC 0 j dJ ah λal j=>AS<|WX ad 0 j cF<|AS<|mv v1<|AS<|aS (aa:Int)<|AS ?_;refine q_ o λae ai o=>WC 2 j dJ ai λan j=>AS<|WX ae 0 j cF<|AS<|ic ad ae<|Xx<|aC<|cY o (λo=>?_) λo=>?_;exact w_<|bX false<|AI<|Xv<|bK<|oi o▸⟨rfl,bT ⟨rfl,j.drop 4⟩⟩;exact W6<|bG<|aC<|IN<|Xq hk hm<|aS ((aa+1:Nat):Int)<|By<|oi o▸⟨rfl,j.sp 4 [2,3]⟩;intro r U w o hK;exact bK<|oi o▸hK;rintro ab _ w o⟨O,rfl,j⟩;exact aC<|w_<|bX true<|AI<|WM<|oi o▸bT ⟨rfl,j.drop 2⟩
theorem vV{p0:Z aA}{p1:aA}{res:Z aA}(o:Holds E w (own 185 v0 p0::V))(h1:eo V i1 v1 p1)(hb:kD N p0 p1=some res):c_ 125 [v0,v1] w<|pH E V res:=by
 unfold kD at hb;refine enter Tryz.func125 zr zr ?_;have o:=o.dup (i1+1) h1;refine w_<|Xb 0 v1 o zr λaf w o=>?_;refine cR n_<|WD<|w_<|AT zr oA<|Xe 0 o zr fo fN λau o=>WH 0 p1.Xs o ma<|ic ((p1.Xs.length:Int)) 0<|eX ((p1.Xs.length:Int)==0)<|Xi true ((p1.Xs.length:Int)==0) (vp af 1) zr zr zr (dE qG) ?_;refine Xi true ((p1.Xs.length:Int)==0) (vi p1.Y1) rfl rfl rfl (bR 1 rfl o (by exact z_ (vp af 1)) rfl gJ cF)<|Xi true ((p1.Xs.length:Int)==0) (vp af 0) rfl rfl rfl (dE uc)<|Xi true ((p1.Xs.length:Int)==0) (vi p1.Y0) rfl rfl rfl (bR 1 rfl o (by exact z_ (vp af 0)) rfl jf cF)<|WU (vb<|p1.Y1<=p1.Y0) rfl rfl (sg .leq)<|Xf (b:=(p1.Xs.length:Int)==0) (v:=vb<|((p1.Xs.length:Int)==0)||mr (p1.Y1<=p1.Y0)) trivial rfl rfl (pM true)<|AI<|cY hb (λhb=>?_) λhb=>?_;refine w_<|mv v0<|cR v0<|AI<|W8 ?_;obtain rfl:=oi hb;exact bT<|o.pk 4 [3];refine WV<|w_<|mv v0<|XD (i:=3) (l:=p0) zt zr o zr zr As<|WG (p0.length:Int) 1<|aK (cG<|(p0.length:Int) - 1)<|WD<|q_ hb λaj hj hb=>WS (λ(aj:Bool)=>SH E V [(0,v0),(3,vp af 0),(5,vi<|cG<|(p0.length:Int) - 1),(42,vb aj)] [own 185 v0 p0,bx 185 af p1]) aj ?_ ?_;refine Xz mixed (jn 22 200000000000000000000) (f0 0 22 []) ?_;have o:=o.drew;refine WL zr zr<|aS (cG<|(p0.length:Int) - 1)<|aO zr<|ic (cG<|(p0.length:Int) - 1) 0<|aO zr<|eX (mr<|cG ((p0.length:Int) - 1)>=0)<|WO<|dT hj (λaa hj=>?_) λaa hj=>?_;refine WL zr zr<|WE v0 (cg aa)<|aO zr<|WE (vi<|cG<|(p0.length:Int) - 1) (cg aa)<|aO zr<|q_ hj λak ag hj=>W1 3 o zr zr tJ ag<|aO zr<|XX (α:=aA) (cg aa) (r7 3 o ag 0) qG<|aO zr<|Ya 3 (cg aa) o (r7 3 o ag 1) (gh ag).2.1 gJ cF<|aO zr<|AT zr uc<|aO zr<|WI 1 o zr jf cF ?_;refine aO zr<|Xy ak.Y1 p1.Y0 (cg aa)<|aO zr<|dQ aa (vb<|ak.Y1==p1.Y0)<|aO zr<|eX (ak.Y1==p1.Y0)<|WO<|dT hj (λab hj=>?_) λab hj=>?_;refine WL zr zr<|WE v0 (cg ab)<|aO zr<|WE (vi<|cG<|(p0.length:Int) - 1) (cg ab)<|aO zr<|q_ hj λav ah hj=>W1 3 o zr zr tJ ah<|aO zr<|XX (α:=aA) (cg ab) (r7 3 o ah 0) oA<|aO zr<|Yx (i:=3) (cg ab) zr o zr (r7 3 o ah 2) zr (gh ah).2.1 fo fN λaw o=>?_;exact aO zr<|AT zr oA<|aO zr<|Xe 2 o zr fo fN λax o=>m7 zr<|q_ hj λal an hj=>WK (gu Tryz.func157) (Av N (i0:=1) (i1:=0) o zr zr an) λw o=>pC zr<|dQ ab (vb al)<|WO<|W7<|oi hj▸⟨rfl,o.sp 6 [5,3]⟩;refine WL zr zr<|aZ ab<|aO zr<|aZ ab<|aO zr<|aZ ab<|aO zr<|aZ ab<|aO zr<|aZ ab<|aO zr<|aZ ab<|aO zr<|aZ ab<|m7 zr<|aZ ab<|pC zr<|dQ ab (vb false) ?_;exact WO<|W7<|oi hj▸⟨rfl,o.sp 4 [3,1]⟩;refine WL zr zr<|aZ aa<|aO zr<|aZ aa<|aO zr<|aZ aa<|aO zr<|aZ aa<|aO zr<|aZ aa<|aO zr<|aZ aa<|aO zr<|aZ aa<|aO zr<|aZ aa<|aO zr<|dQ aa (vb false) ?_;refine aO zr<|eX false<|aO zr<|jY<|aO zr<|jY<|aO zr<|jY<|aO zr<|jY<|aO zr<|jY<|aO zr<|jY<|aO zr<|jY<|m7 zr<|jY ?_;exact pC zr<|Xf (b:=false) (v:=vb false) zt zr zr zr<|WO<|W7<|oi hj▸⟨rfl,o.sp 4 [3,1]⟩;rintro _ w⟨O,rfl,o⟩;refine aC<|cY hb (λhb=>?_) λhb=>?_;refine w_<|mv v0<|aS (cG<|(p0.length:Int) - 1)<|AT zr qG<|WI 1 o zr gJ cF<|q_ hb λa0 ai hb=>W1 0 o zr zr tJ ai<|XX (α:=aA) zt (r7 0 o ai 0) qG ?_;have o:=o.sc Int p1.Y1;refine YH (i:=1) (j:=0) trivial o rfl rfl (r7 1 o ai 1) rfl (gh ai).2.1 rfl tI (by decide) cF λw o=>?_;refine IT<|mv v0<|cR v0<|AI<|W8 ?_;obtain rfl:=oi hb;exact bT<|o.pk 3 [1];refine XA<|mv v0<|Xc 1 o zr Ch λao o=>Xh ([p1]:Z aA) o [ao] tJ JQ (λ_ _=>mm) λay w o=>?_;have o:=o.freeze 0;refine q_ hb λaz aq hb=>Xp 2 0 o UX aq λar w o=>?_;refine cR ar<|AI<|WM ?_;obtain rfl:=oi hb;exact bT<|o.pk 4 [2]
theorem oY{p0:Z aF}{res:Z aA}(j:Holds E w V)(h0:eo V i0 v0 p0)(o:jm N p0=some res):c_ 83 [v0] w<|pH E V res:=by
 unfold jm at o;refine enter Tryz.func83 zr zr ?_;have j:=j.dup (i0+0) h0;refine w_<|cR n_<|IT<|mv v0<|q_ o λca bg o=>WW (gu Tryz.func118) (y5 N (i0:=0) j zr bg) λad w j=>cR ad<|IT<|mv ad ?_;obtain⟨ai,bh,o⟩:=bd o;have j:=j.pull 0;refine WK Qz (Ms Tryz.lay119 aF zr gm.Pj gm.sz (gu Tryz.func120) (λj hi hj hr=>Cn N j hi hj hr) j bh) λw j=>IT<|Yl j SQ λag w j=>?_;refine WD<|w_<|mv ad<|XD (i:=1) (l:=ai) zt zr j zr zr mG<|aS 0<|AI<|XW E V (λ(av:Z Int)(a0:aX)=>[own 67 ad ai,bc 83 ag [a0],own 3 a0 av]) (λ_ _=>[(0,ad),(3,vp ag 0)]) (λaw _ _=>[(14,ad),(15,vi ai.length),(16,vi aw)]) o ?_ ?_ ?_;exact⟨n_,(j.cA Int 3).sp 5 [2,1,0]⟩;rintro hm aw av s' _ w hk⟨bl,O,rfl,j⟩o;refine BY<|W2<|q_ o λak a1 o=>W1 0 j zr zr hU a1<|X4 0 j a1 gm λcb j=>?_;refine Xl j oH.z λcc w j=>?_;refine Xg 0 j 1 zr gm λw j=>?_;refine AI<|IN<|WN 3 bl j fN<|AT zr gK<|WI 0 j zr dG cF<|AT zr kJ<|WI 0 j zr fw cF ?_;have j:=(j.sc Int ak.Y0).sc Int ak.Y1;refine Xh ([ak.Y0,ak.Y1]:Z Int) j [vi ak.Y0,vi ak.Y1] dJ GK (λM hs g=>⟨(g.sat 1 _ zr).1,⟨(g.sat 0 _ zr).1,zt⟩⟩) λcd w j=>?_;have j:=j.freeze 0;refine q_ o λcf bm o=>Xp 7 0 j sF bm λa2 w j=>?_;refine XN 6 a2 j zr zr (iK 7 j) fN λw j=>?_;exact By<|bG<|aC<|IN<|Xq hk hm<|aS ((aw+1:Nat):Int)<|By<|oi o▸⟨rfl,a2,j.sp 8 [5,6,7]⟩;rintro av _ w o⟨a3,O,rfl,j⟩;refine aC<|w_<|WN 1 a3 j fN ?_;obtain⟨ch,bn,o⟩:=bd o;have j:=j.pull 2;refine WK (gu Tryz.func121) (Ox Tryz.lay121 j bn) λw j=>IT<|WN 2 a3 j fN ?_;have j:=j.pull 0;refine q_ o λah bo o=>WW (gu Tryz.func122) (yA N j bo) λbp w j=>XN 3 bp j zr zr (iK 0 j) fN λw j=>?_;refine IT<|cR n_<|IT<|cR n_<|IT<|aK 0<|WD<|w_<|Xl j GK.z λbq w j=>?_;have j:=j.sc Int 0;refine Xg 1 j 0 zr cF λw j=>?_;refine AI ?_;have j:=((((j.freeze 2).NV (i:=5) (x:=ah) rfl<|λM hs g=>jJ (g.sat 2 _ rfl).1).ig (i:=5) rfl).cA aA 185).cA aF 67;refine q_ o λcj hN o=>Yd (λ(aa:Z aA×Z aF×Int×Int)U w=>∃(a4 a5:aX)(a6:Nat),SH E V [(0,ad),(3,vp ag 0),(6,a4),(7,a5),(8,vi aa.2.2.1),(9,vp a6 0)] [own 67 ad ai,pt (vp ag 0) ah,own 185 a4 aa.1,own 67 a5 aa.2.1,bx 3 a6 aa.2.2.2] U w) (λ(aa:Z aA×Z aF×Int×Int)U w=>∃an:aX,SH E V [(6,an)] [own 67 ad ai,pt (vp ag 0) ah,own 185 an aa.1] U w) (λ(r:Empty)_ _=>r.elim) hN ?_ ?_ ?_ ?_;exact⟨n_,n_,bq,j.sp 9 [6,7,1,0,3]⟩;rintro aa fl _ w⟨aj,bu,al,O,rfl,j⟩o;refine BY<|w_<|WI (f:=(λx=>x)) 4 j zr Fd.self cF<|WG aa.2.2.2 1<|WT 1 ah j fN λck j=>WH 0 ah j ma<|ic (cG<|aa.2.2.2+1) ((ah.length:Int))<|AI<|cY o (λo=>?_) λo=>?_;refine WV<|W2<|mv bu ?_;have j:=j.ig (i:=5) rfl;refine Yk [vp ag 0,vp al 0] ?_;have j:=j.pull 4;refine q_ o λcm bw o=>WW (gu Tryz.func123) (vE N j ⟨124,[vp ag 0,vp al 0],rfl,(gu Tryz.func124),λw Γl v y0 r i j hi hr=>by exact gz (Co N (i0:=i) (i1:=Γl.length+2) (i2:=Γl.length+5) j hi (H7 rfl) (H7 rfl) hr) λ_ _ h=>h⟩ bw) λa7 w j=>cR a7<|WD<|XK E V (λ(ae:Z aF×Int)(ax:aX)=>[own 67 ad ai,pt (vp ag 0) ah,own 185 aj aa.1,pt (vp al 0) aa.2.2.2,own 67 ax ae.1]) (λae ax=>[(0,ad),(3,vp ag 0),(6,aj),(7,ax),(8,vi ae.2),(9,vp al 0)]) (λ_ _=>[]) o ?_ ?_ ?_;exact⟨a7,j.sp 7 [2,3,4,6,0]⟩;rintro ae fl _ w⟨ao,O,rfl,j⟩o;refine BY<|BY<|q_ o λay hj o=>WS (λ(ay:Bool)=>SH E V [(0,ad),(3,vp ag 0),(6,aj),(7,ao),(8,vi ae.2),(9,vp al 0),(57,vb ay)] [own 67 ad ai,pt (vp ag 0) ah,own 185 aj aa.1,own 67 ao ae.1,pt (vp al 0) aa.2.2.2]) ay ?_ ?_;refine XF mixed ?_;have j:=j.drew;refine XE<|aS ae.2<|AS<|mv ad<|AS<|XD (i:=0) (l:=ai) zt zr j zr zr mG<|AS<|ic ae.2 ((ai.length:Int))<|AS<|eX (mr<|ae.2<(ai.length:Int))<|dT hj (λab hj=>?_) λab hj=>?_;refine AS<|WE ad (cg ab)<|AS<|WE (vi ae.2) (cg ab)<|AS<|q_ hj λa8 aq hj=>W1 0 j zr zr hU aq<|AS<|XX (α:=aF) (cg ab) (r7 0 j aq 0) gK<|AS<|Ya 0 (cg ab) j (r7 0 j aq 1) (gh aq).2.1 dG cF<|AS<|WT 1 ah j fN λcn j=>?_;refine AS<|WX aa.2.2.2 4 j cF<|AS<|q_ hj λaz bz hj=>WC 0 j dJ bz λcp j=>AS<|WX az 0 j cF<|AS<|Xy a8.Y0 az (cg ab)<|AS<|dQ ab (vb<|a8.Y0<=az)<|Xx ?_;exact oi hj▸⟨rfl,j.sp 7 [2,3,4,6,5]⟩;refine AS<|aZ ab<|AS<|aZ ab<|AS<|aZ ab<|AS<|aZ ab<|AS<|aZ ab<|AS<|aZ ab<|AS<|aZ ab<|AS<|aZ ab<|AS<|aZ ab ?_;exact AS<|aZ ab<|AS<|dQ ab (vb false)<|Xx<|oi hj▸⟨rfl,j.sp 5 [0,1,2,4,3]⟩;rintro _ w⟨O,rfl,j⟩;refine aC<|cY o (λo=>?_) λo=>?_;refine XR<|Xt<|IN<|mv ao<|mv ad<|aS ae.2<|q_ o λb0 a9 o=>W1 0 j zr zr hU a9<|X4 0 j a9 gm λb1 j=>?_;refine Xh ([b0]:Z aF) j [b1] hU oH (λ_ _=>mm) λcq w j=>?_;have j:=j.freeze 0;refine q_ o λcr b2 o=>Xp 5 0 j Ff b2 λba w j=>?_;refine aS ae.2<|WG ae.2 1<|cR ba<|aK (cG<|ae.2+1)<|By<|bG ?_;exact oi o▸⟨rfl,ba,j.sp 7 [2,3,4,6,5]⟩;exact W3<|oi o▸⟨rfl,ao,j.sp 5 [0,1,2,4,3]⟩;rintro ae _ w o⟨bb,O,rfl,j⟩;refine aC<|Xz mixed (jn 15 20201111111111) (f0 0 15 []) ?_;have j:=j.drew;refine W0 aj zr (λw=>WE aj zt WY)<|XY ah 1 zr j fN λct a305 cu j=>Yb aa.2.2.2 5 zr j cF λa307 cv j=>?_;refine q_ o λar b3 o=>X6 2 zr j dJ b3 λcw j=>Yb ar 0 zr j cF λa311 cx j=>XY ah 6 zr j fN λcy a314 cz j=>Yb aa.2.2.2 10 zr j cF λa316 c0 j=>W0 (vi<|cG<|aa.2.2.2+1) zr (λw=>WG aa.2.2.2 1 WY)<|q_ o λau b4 o=>X6 2 zr j dJ b4 λc1 j=>Yb au 0 zr j cF λa320 c2 j=>WL zr zr<|mv bb<|m7 zr ?_;have j:=j.pull 14;refine q_ o λb5 b6 o=>WW (gu Tryz.func126) (Bv N j b6) λb7 w j=>Xd (⟨⟨⟨⟨⟨⟨zt,j.fU 10⟩,j.fU 9⟩,j.fU 7⟩,j.fU 5⟩,j.fU 4⟩,j.fU 2⟩)<|WL zr zr ?_;have j:=((j.sc Int ar).sc Int au).freeze 2;refine XB (⟨ar,au,b5.1⟩:aA) trivial rfl j [(0,vi ar),(1,vi au),(2,b7)] rfl QC rfl (λM hs g=>by have h:=Cf M;exact cE.cons (f:=λ(x:aA)y=>{x with Y0:=y}) h yl (g.sat 1 _ rfl).1 λ_ h=>cE.cons (f:=λ(x:aA)y=>{x with Y1:=y}) h tI (g.sat 0 _ rfl).1 λ_ h=>cE.cons (f:=λ(x:aA)y=>{x with Xs:=y}) h ym (g.sat 2 _ rfl).1 λ_ h=>cE.nil h) λc3 j=>?_;refine m7 zr ?_;have j:=j.pull 17;refine q_ o λc4 b8 o=>WW QD (vV N (i1:=0) j zr b8) λbf w j=>Xd (⟨⟨⟨⟨⟨⟨zt,j.fU 14⟩,j.fU 13⟩,j.fU 11⟩,j.fU 9⟩,j.fU 8⟩,j.fU 6⟩)<|WL zr zr<|cR bf<|WO ?_;have j:=j.pl 21 [0,1,2,3,4,5,7,10,12,15,16,17,18,19,20];refine W7<|bG<|aC<|BY<|w_<|WX aa.2.2.2 13 j cF<|AI<|IN<|Xl j GK.z λb9 w j=>?_;have j:=j.sc Int aa.2.2.2;refine Xg 1 j 0 zr cF λw j=>?_;refine AI<|IN<|WI (f:=(λx=>x)) 1 j zr Fd.self cF<|WG aa.2.2.2 1 ?_;have j:=j.sc Int<|cG<|aa.2.2.2+1;refine Y7 2 zt j zr zr zr 0 zr cF λw j=>?_;exact By<|oi o▸⟨rfl,bf,bb,b9,j.sp 18 [13,14,3,8,2]⟩;exact W3<|oi o▸⟨rfl,aj,j.sp 6 [1,2,3]⟩;intro r _ _ _ _;exact r.elim;rintro aa _ w rfl⟨an,O,rfl,j⟩;rw[Fo.BX]at o;refine aC<|w_<|mv an<|cR an<|AI<|WM ?_;obtain rfl:=oi o;exact bT<|j.pk 3 [2]
theorem qL{p0:Z aA}{res:Z aF}(j:Holds E w V)(h0:eo V i0 v0 p0)(o:k6 N p0=some res):c_ 84 [v0] w<|gS E V res:=by
 unfold k6 at o;refine enter Tryz.func84 zr zr ?_;have j:=j.dup (i0+0) h0;refine w_<|cR n_<|IT<|cR n_<|WD<|w_<|mv v0<|WH 0 p0 j As<|aS 0<|AI<|XW E V (λ(ag:Z aF)(ah:aX)=>[rd v0 p0,own 67 ah ag]) (λ_ ah=>[(3,ah)]) (λaf _ _=>[(7,v0),(8,vi p0.length),(9,vi af)]) o ?_ ?_ ?_;exact⟨n_,(j.cA aF 67).sp 2 [1,0]⟩;rintro hm af ag s' _ w hk⟨ar,O,rfl,j⟩o;refine BY<|W2<|q_ o λab au o=>WC 0 j tJ au λa0 j=>WT 0 ab j Ch λa1 j=>Xl j JQ.z λak w j=>?_;refine Xg 0 j 1 zr Ch λw j=>?_;refine IT<|aK 0<|AI<|XK E V (λ(aa:Z aF×Int)(ai:aX)=>[bx 185 ak ab,rd v0 p0,own 67 ai aa.1]) (λ_ ai=>[(3,ai),(7,v0),(8,vi p0.length),(9,vi af)]) (λaa _=>[(5,vp ak 0),(6,vi aa.2)]) o ?_ ?_ ?_;exact⟨ar,j.sp 5 [0,3,4]⟩;rintro aa fl _ w⟨aj,O,rfl,j⟩o;refine BY<|w_<|aS aa.2<|AT zr oA<|Xe 0 j zr fo fN λa3 j=>WH 0 ab.Xs j ma<|ic aa.2 ((ab.Xs.length:Int))<|AI<|cY o (λo=>?_) λo=>?_;refine WV<|Xt<|Xz mixed (jn 20 2200000000000000001) (f0 0 20 []) ?_;have j:=j.drew;refine W0 aj zr (λw=>WE aj zt WY)<|WL zr zr<|AT zr oA<|aO zr<|Xe 1 j zr fo fN λa4 j=>aO zr<|aS aa.2<|aO zr<|q_ o λad av o=>WC 0 j dJ av λa5 j=>aO zr<|WX ad 0 j cF<|aO zr<|AT zr uc<|aO zr<|WI 3 j zr jf cF<|aO zr<|AT zr oA ?_;refine aO zr<|Xe 3 j zr fo fN λa6 j=>aO zr<|aS aa.2<|aO zr<|WG aa.2 1<|aO zr<|q_ o λae aw o=>WC 0 j dJ aw λa7 j=>aO zr<|WX ae 0 j cF<|aO zr<|AT zr qG<|aO zr<|WI 5 j zr gJ cF<|aO zr ?_;have j:=(((j.sc Int ad).sc Int ab.Y0).sc Int ae).sc Int ab.Y1;refine XB (⟨ad,ab.Y0,ae,ab.Y1⟩:aF) trivial rfl j [(0,vi ad),(1,vi ab.Y0),(2,vi ae),(3,vi ab.Y1)] rfl GW rfl (λM hs g=>by have h:=uU M;exact cE.cons (f:=λ(x:aF)y=>{x with X0:=y}) h qW (g.sat 3 _ rfl).1 λ_ h=>cE.cons (f:=λ(x:aF)y=>{x with Y0:=y}) h sC (g.sat 2 _ rfl).1 λ_ h=>cE.cons (f:=λ(x:aF)y=>{x with X1:=y}) h pD (g.sat 1 _ rfl).1 λ_ h=>cE.cons (f:=λ(x:aF)y=>{x with Y1:=y}) h qX (g.sat 0 _ rfl).1 λ_ h=>cE.nil h) λax j=>?_;refine m7 zr<|Xh ([(⟨ad,ab.Y0,ae,ab.Y1⟩:aF)]:Z aF) j [ax] hU oH (λ_ _=>mm) λa8 w j=>K4 zr ?_;have j:=j.freeze 0;refine q_ o λa9 ay o=>Xp 13 0 j Ff ay λal w j=>?_;refine pC zr<|cR al<|WO<|W7<|bG<|aC<|IN<|aS aa.2<|WG aa.2 2<|aK (cG<|aa.2+2)<|By ?_;exact oi o▸⟨rfl,al,j.sp 14 [11,12,13]⟩;exact W3<|oi o▸⟨rfl,aj,j.sp 4 [1,2,3]⟩;rintro aa _ w o⟨az,O,rfl,j⟩;exact bG<|aC<|IN<|Xq hk hm<|aS ((af+1:Nat):Int)<|By<|oi o▸⟨rfl,az,j.sp 3 [1,2]⟩;rintro ag _ w o⟨an,O,rfl,j⟩;refine aC<|w_<|mv an<|cR an<|AI<|WM ?_;obtain rfl:=oi o;exact bT<|j.pk 2 [1]
theorem y7{p0:Z aF}{p1:Z aF}{res:Bool}(j:Holds E w V)(h0:eo V i0 v0 p0)(h1:eo V i1 v1 p1)(o:mn N p0 p1=some res):c_ 82 [v0,v1] w<|aW E V res:=by
 unfold mn at o;refine enter Tryz.func82 zr zr ?_;have j:=(j.dup (i0+0) h0).dup (i1+1) h1;refine w_<|bX false<|WD<|w_<|mv v0<|WH 1 p0 j mG<|mv v1<|WH 0 p1 j mG<|ic ((p0.length:Int)) ((p1.length:Int))<|AI<|cY o (λo=>?_) λo=>?_;exact w_<|bX false<|AI<|W8<|oi o▸bT ⟨rfl,j.drop 2⟩;refine WV<|w_<|mv v0<|WH 1 p0 j mG<|aS 0<|AI<|XU E V (λ(ab:Unit)=>[rd v0 p0,rd v1 p1]) (λ_=>[]) (λaa _=>[(0,v0),(1,v1),(12,vi p0.length),(13,vi aa)]) (λr=>lf bI 26 Tryz.f82 (aW E V r) .ret) o ?_ ?_ ?_ ?_;exact j.sp 2 [1,0];rintro hm aa ab fl _ w hk⟨O,rfl,j⟩o;refine BY<|W2<|aS (aa:Int)<|aK (aa:Int)<|WD<|XF mixed ?_;have j:=j.drew;refine XE<|mv v0<|AS<|aS (aa:Int)<|AS<|q_ o λad ah o=>WC 0 j hU ah λal j=>AS<|WT 0 ad j gm λan j=>AS<|mv v1<|AS<|aS (aa:Int)<|AS ?_;refine q_ o λae ai o=>WC 3 j hU ai λao j=>AS<|WT 0 ae j gm λaq j=>AS<|Yw 2 0 ad ae zr j zr zr zr zr QE zr<|Xx<|aC<|cY o (λo=>?_) λo=>?_;exact w_<|bX false<|AI<|Xv<|bK<|oi o▸⟨rfl,bT ⟨rfl,j.drop 6⟩⟩;exact W6<|bG<|aC<|IN<|Xq hk hm<|aS ((aa+1:Nat):Int)<|By<|oi o▸⟨rfl,j.sp 6 [4,5]⟩;intro r U w o hK;exact bK<|oi o▸hK;rintro ab _ w o⟨O,rfl,j⟩;exact aC<|w_<|bX true<|AI<|WM<|oi o▸bT ⟨rfl,j.drop 2⟩
theorem tn{p0:Z aF}(j:Holds E w V)(h0:eo V i0 v0 p0)(o:kP N p0=some res):c_ 43 [v0] w<|aV E V res:=by
 unfold kP at o;refine enter Tryz.func43 zr zr ?_;have j:=j.dup (i0+0) h0;refine w_<|aK 0<|WD<|w_<|mv v0<|q_ o λau ax o=>WK (gu Tryz.func81) (Au N (i0:=0) j zr ax) λw j=>aK au<|IT<|aS au<|ic au 0<|AI<|cY o (λo=>?_) λo=>?_;exact w_<|aS au<|aK au<|AI<|W8<|oi o▸bT ⟨rfl,j.drop 1⟩;refine WV<|w_<|aK 1<|AI<|XL E V (λ(ao:Int)=>[rd v0 p0]) (λ_=>[(0,v0)]) (λao=>[(4,vi ao)]) (λr=>lf bI 52 Tryz.f43 (aV E V r) .ret) o ?_ ?_ ?_ ?_;exact j.sp 1 [0];rintro ao fl _ w⟨O,rfl,j⟩o;refine BY<|w_<|aS ao<|mv v0<|WH 0 p0 j mG<|ic ao ((p0.length:Int))<|AI<|cY o (λo=>?_) λo=>?_;refine WV<|Xt<|BY ?_;obtain⟨aa,ay,o⟩:=bd o;refine q_ o λab az o=>XZ E V mixed [1,1,1,0,0,1,1,0,0,0,0,0,0] [3,4,7,8,9,10,11,12] (λ(x:aX×aX×aX×aX×Nat×Nat)=>(λah ai aj ak ad ae=>[(0,18,v0),(1,19,vi ao),(2,20,vi<|cG<|ao - 1),(3,21,ah),(4,22,ai),(5,23,v0),(6,24,vi ao),(7,25,aj),(8,26,ak),(9,5,vp ad 0),(10,6,vp ae 0)]) x.1 x.2.1 x.2.2.1 x.2.2.2.1 x.2.2.2.2.1 x.2.2.2.2.2) [(0,v0),(4,vi ao)] [] (λ(D:Nat->Bool)(x:aX×aX×aX×aX×Nat×Nat)=>(λah ai aj ak ad ae=>[bif D 0 then pt ah aa else bH,bif D 1 then rd ai aa else bH,bif D 2 then pt aj ab else bH,bif D 3 then rd ak ab else bH,bif D 6 then bx 67 ad aa else(bif D 4 then raw 67 ad 4 else bH),bif D 7 then bx 67 ae ab else(bif D 5 then raw 67 ae 4 else bH),rd v0 p0]) x.1 x.2.1 x.2.2.1 x.2.2.2.1 x.2.2.2.2.1 x.2.2.2.2.2) (λx=>by kernel_rfl) ?_ ⟨λ_=>iJ gn,λ_=>iJ gn,λ_=>PE gn rfl,?_,?_,λ_=>iJ gn,λ_=>iJ gn,?_,?_,?_,?_,?_,?_,trivial⟩ ?_;exact⟨(undef,undef,undef,undef,0,0),eH.none,GQ zr,zt,((((((j.drew).bH).bH).bH).bH).bH).bH⟩;rintro D U w hD ag aq⟨⟨ah,ai,aj,ak,ad,ae⟩,hv,ha,_,j⟩;obtain⟨O,rfl⟩:=hv.o2 0 2 ag;have j:=j.bU 0 hD;refine WC 6 j hU ay λa0 j=>?_;exact WQ (a0,ai,aj,ak,ad,ae) 3 hv ha (j.nw 0);rintro D U w hD ag aq⟨⟨ah,ai,aj,ak,ad,ae⟩,hv,ha,_,j⟩;obtain⟨O,rfl⟩:=hv.o1 3 ag;have j:=(j.dS 0<|ag.1 rfl).bU 1 hD;refine WT 0 aa j gm λa1 j=>?_;exact WQ (ah,a1,aj,ak,ad,ae) 4 hv ha (((j.pl 8 [1,0,3,4,5,6,7]).cX 0 (D 3) (ag.1 rfl) bH).cX 1 true rfl bH);rintro D U w hD ag aq⟨⟨ah,ai,aj,ak,ad,ae⟩,hv,ha,_,j⟩;obtain⟨O,rfl⟩:=hv.o2 5 6 ag;have j:=j.bU 2 hD;refine WC 6 j hU az λa2 j=>?_;exact WQ (ah,ai,a2,ak,ad,ae) 7 hv ha (j.nw 2);rintro D U w hD ag aq⟨⟨ah,ai,aj,ak,ad,ae⟩,hv,ha,_,j⟩;obtain⟨O,rfl⟩:=hv.o1 7 ag;have j:=(j.dS 2<|ag.1 rfl).bU 3 hD;refine WT 2 ab j gm λa3 j=>?_;exact WQ (ah,ai,aj,a3,ad,ae) 8 hv ha (((j.pl 8 [1,2,3,0,5,6,7]).cX 2 (D 7) (ag.1 rfl) bH).cX 3 true rfl bH);rintro D U w hD ag aq⟨⟨ah,ai,aj,ak,ad,ae⟩,hv,ha,_,j⟩;obtain⟨O,rfl⟩:=UJ U;have j:=(j.bU 4<|nh aq hD 11).bU 4 hD;refine Xl j oH.z λav w j=>?_;exact WQ (ah,ai,aj,ak,av,ae) 9 hv ha ((j.nw 4).eC 4 (D 11) (nh aq hD 11)<|bx 67 av aa);rintro D U w hD ag aq⟨⟨ah,ai,aj,ak,ad,ae⟩,hv,ha,_,j⟩;obtain⟨O,rfl⟩:=UJ U;have j:=(j.bU 5<|nh aq hD 12).bU 5 hD;refine Xl j oH.z λaw w j=>?_;exact WQ (ah,ai,aj,ak,ad,aw) 10 hv ha ((j.nw 5).eC 5 (D 12) (nh aq hD 12)<|bx 67 aw ab);rintro D U w hD ag aq⟨⟨ah,ai,aj,ak,ad,ae⟩,hv,ha,_,j⟩;obtain⟨O,rfl⟩:=hv.o2 9 4 ag;have j:=((j.dS 1<|ag.2.1 rfl).bU 4 hD).dS 4<|ag.1 rfl;refine Xg 4 j 1 zr gm λw j=>?_;exact X7 (ah,ai,aj,ak,ad,ae) hv ha ((j.cX 1 (D 4) (ag.2.1 rfl) bH).cX 4 true rfl (bif D 9 then raw 67 ad 4 else bH));rintro D U w hD ag aq⟨⟨ah,ai,aj,ak,ad,ae⟩,hv,ha,_,j⟩;obtain⟨O,rfl⟩:=hv.o2 10 8 ag;have j:=((j.dS 3<|ag.2.1 rfl).bU 5 hD).dS 5<|ag.1 rfl;refine Xg 5 j 3 zr gm λw j=>?_;exact X7 (ah,ai,aj,ak,ad,ae) hv ha ((j.cX 3 (D 8) (ag.2.1 rfl) bH).cX 5 true rfl (bif D 10 then raw 67 ae 4 else bH));rintro D U w ar⟨⟨ah,ai,aj,ak,ad,ae⟩,hv,ha,_,j⟩;simp only[List.getD_cons_zero,List.getD_cons_succ,ar 3 (by decide),ar 4 (by decide),ar 7 (by decide),ar 8 (by decide),ar 11 (by decide),ar 12 (by decide),aP]at j;obtain⟨O,rfl⟩:=(ac (hv.at 9 rfl<|rD ar 9)<|ac (hv.at 10 rfl<|rD ar 10) ha).tF;refine aC<|w_<|AT zr gK<|WI 5 j zr dG cF<|AT zr gK<|WI 4 j zr dG cF<|ic ab.Y0 aa.Y0<|eX (mr<|ab.Y0<aa.Y0)<|Xi true (ab.Y0<aa.Y0) (vp ae 1) zr zr zr (dE gK) ?_;refine Xi true (ab.Y0<aa.Y0) (vi ab.Y0) rfl rfl rfl (bR 5 rfl j (by exact z_ (vp ae 1)) rfl dG cF)<|Xi true (ab.Y0<aa.Y0) (vp ad 1) rfl rfl rfl (dE gK)<|Xi true (ab.Y0<aa.Y0) (vi aa.Y0) rfl rfl rfl (bR 4 rfl j (by exact z_ (vp ad 1)) rfl dG cF)<|WU (vb<|ab.Y0==aa.Y0) rfl rfl (sg .eql)<|WU (vb<|ab.Y0==aa.Y0) rfl rfl nI<|Xo (vp ae 0) rfl rfl (dE gW)<|Xo (vi ab.X0) rfl rfl (bR 5 rfl j (by exact z_ (vp ae 0)) rfl dL cF)<|Xo (vp ad 0) rfl rfl (dE gW)<|Xo (vi aa.X0) rfl rfl (bR 4 rfl j (by exact z_ (vp ad 0)) rfl dL cF) ?_;refine Xo (vb<|ab.X0<=aa.X0) zr zr (sg .leq)<|WU (vb<|(ab.Y0==aa.Y0)&&mr (ab.X0<=aa.X0)) zr zr Ln<|Xf (b:=mr<|ab.Y0<aa.Y0) (v:=vb<|mr (ab.Y0<aa.Y0)||((ab.Y0==aa.Y0)&&mr (ab.X0<=aa.X0))) zt zr zr (pM true)<|AI<|cY o (λo=>?_) λo=>?_;exact w_<|aK 8<|AI<|Xv<|bK<|oi o▸⟨rfl,bT ⟨rfl,j.drop 7⟩⟩;refine W6<|bG<|aC<|IN<|aS ao<|WG ao 1<|aK (cG<|ao+1)<|By ?_;exact oi o▸⟨rfl,j.sp 7 [6]⟩;exact W3<|oi o▸⟨rfl,j.sp 1 [0]⟩;intro r U w o hK;exact bK<|oi o▸hK;rintro ao _ w o⟨O,rfl,j⟩;refine aC<|BY<|w_<|mv v0<|q_ o λba a5 o=>WW N6 (oY N (i0:=0) j zr a5) λbb w j=>?_;have j:=j.freeze 0;refine q_ o λbc a6 o=>WW RA (qL N (i0:=0) j zr a6) λbf w j=>mv v0 ?_;have j:=j.freeze 0;refine q_ o λa7 a8 o=>WK (gu Tryz.func82) (y7 N (i0:=0) (i1:=2) j zr zr a8) λw j=>Xk a7<|AI<|cY o (λo=>?_) λo=>?_;exact w_<|aK 3<|AI<|W8<|oi o▸bT ⟨rfl,j.drop 3⟩;exact XA<|aK 0<|AI<|WM<|oi o▸bT ⟨rfl,j.drop 3⟩
theorem pJ{res:Bool}(o:Holds E w V)(j:jM N p0 p1 p2=some res):c_ 86 [vi p0,vi p1,vi p2] w<|aW E V res:=by
 unfold jM at j;refine enter Tryz.func86 zr zr<|w_<|bX false<|IT<|aS p0<|aS p1<|ic p0 p1<|eX (mr<|p0>=p1)<|WU (vi p0) zr zr nI ?_;exact WU (vi p2) zr zr nI<|WU (vb<|p0<=p2) zr zr (sg .leq)<|Xf (b:=mr<|p0>=p1) (v:=vb<|mr (p0>=p1)&&mr (p0<=p2)) zt zr zr (jI true)<|bX (mr (p0>=p1)&&mr (p0<=p2))<|AI<|WM<|oi j▸bT ⟨rfl,o.drop 0⟩
theorem wU{p0:dW}{res:Bool}(j:Holds E w V)(h0:eo V i0 v0 p0)(hb:lC N p0=some res):c_ 89 [v0] w<|aW E V res:=by
 unfold lC at hb;refine enter Tryz.func89 zr zr ?_;have j:=j.dup (i0+0) h0;refine w_<|Xb 0 v0 j zr λai w j=>?_;refine bX false<|WD<|q_ hb λad o hb=>WS (λ(ad:Bool)=>SH E V [(2,vb ad)] []) ad ?_ ?_;refine IN<|AT zr rL<|WI 0 j zr jZ cF<|q_ o λaf ag o=>WK Hu (n0 N (p0:=p0.X) j ag) λw j=>eX af<|dT o (λaa o=>?_) λaa o=>?_;exact AT zr oT<|WI 0 j zr iB cF<|q_ o λae ah o=>WK Hu (n0 N (p0:=p0.Y) j ah) λw j=>dQ aa (vb ae)<|bX ae<|By<|oi o▸⟨rfl,j.sp 2 []⟩;exact aZ aa<|aZ aa<|aZ aa<|dQ aa (vb false)<|bX false<|By<|oi o▸⟨rfl,j.sp 2 []⟩;rintro _ w⟨O,rfl,j⟩;exact aC<|WM<|oi hb▸bT ⟨rfl,j.drop 0⟩
theorem kn{p0:bV}{res:aF}(j:Holds E w V)(h0:eo V i0 v0 p0)(o:iH N p0=some res):c_ 47 [v0] w<|rO E V res:=by
 unfold iH at o;refine enter Tryz.func47 zr zr ?_;have j:=j.dup (i0+0) h0;refine w_<|Xb 0 v0 j zr λaa w j=>?_;refine Xl j oH.z λab w j=>?_;refine WD<|XF mixed ?_;have j:=j.drew;refine XE<|AT zr zX<|AS<|AT zr rL<|AS<|WI (f:=(λx=>x.At.X)) 1 j zr (Fd.comp (f:=λ(x:bV)=>x.At) (λ(x:dW)=>x.X) uF jZ) cF<|AS<|AT zr sU<|AS<|WI 1 j zr nY cF<|AS<|Yo p0.eN 2<|AS<|WG p0.At.X (cG<|Int.tdiv p0.eN 2)<|AS<|AT zr zX<|AS<|AT zr oT ?_;refine AS<|WI (f:=(λx=>x.At.Y)) 1 j zr (Fd.comp (f:=λ(x:bV)=>x.At) (λ(x:dW)=>x.Y) uF iB) cF<|AS<|AT zr sU<|AS<|WI 1 j zr nY cF<|AS<|Yo p0.eN 2<|AS<|WG p0.At.Y (cG<|Int.tdiv p0.eN 2)<|AS<|aK (cG<|p0.At.X -(cG<|Int.tdiv p0.eN 2))<|AS<|aK (cG<|p0.At.Y -(cG<|Int.tdiv p0.eN 2))<|Xx<|aC<|w_<|aS (cG<|p0.At.X -(cG<|Int.tdiv p0.eN 2)) ?_;refine aS (cG<|p0.At.Y -(cG<|Int.tdiv p0.eN 2))<|aS (cG<|p0.At.X -(cG<|Int.tdiv p0.eN 2))<|AT zr sU<|WI 1 j zr nY cF<|WG (cG<|p0.At.X -(cG<|Int.tdiv p0.eN 2)) p0.eN<|aS (cG<|p0.At.Y -(cG<|Int.tdiv p0.eN 2))<|AT zr sU<|WI 1 j zr nY cF<|WG (cG<|p0.At.Y -(cG<|Int.tdiv p0.eN 2)) p0.eN ?_;have j:=((j.sc Int<|cG<|p0.At.X -(cG<|Int.tdiv p0.eN 2)).sc Int<|cG<|p0.At.Y -(cG<|Int.tdiv p0.eN 2)).sc Int<|cG<|cG (p0.At.X -(cG<|Int.tdiv p0.eN 2))+p0.eN;have j:=j.sc Int<|cG<|cG (p0.At.Y -(cG<|Int.tdiv p0.eN 2))+p0.eN;refine XB (⟨cG<|p0.At.X -(cG<|Int.tdiv p0.eN 2),cG<|p0.At.Y -(cG<|Int.tdiv p0.eN 2),cG<|cG (p0.At.X -(cG<|Int.tdiv p0.eN 2))+p0.eN,cG<|cG (p0.At.Y -(cG<|Int.tdiv p0.eN 2))+p0.eN⟩:aF) trivial rfl j [(0,vi<|cG<|p0.At.X -(cG<|Int.tdiv p0.eN 2)),(1,vi<|cG<|p0.At.Y -(cG<|Int.tdiv p0.eN 2)),(2,vi<|cG<|cG (p0.At.X -(cG<|Int.tdiv p0.eN 2))+p0.eN),(3,vi<|cG<|cG (p0.At.Y -(cG<|Int.tdiv p0.eN 2))+p0.eN)] rfl GW rfl (λM hs g=>by have h:=uU M;exact cE.cons (f:=λ(x:aF)y=>{x with X0:=y}) h qW (g.sat 3 _ rfl).1 λ_ h=>cE.cons (f:=λ(x:aF)y=>{x with Y0:=y}) h sC (g.sat 2 _ rfl).1 λ_ h=>cE.cons (f:=λ(x:aF)y=>{x with X1:=y}) h pD (g.sat 1 _ rfl).1 λ_ h=>cE.cons (f:=λ(x:aF)y=>{x with Y1:=y}) h qX (g.sat 0 _ rfl).1 λ_ h=>cE.nil h) λad j=>?_;refine Xg 5 j 0 zr gm λw j=>?_;refine AI<|WM ?_;obtain rfl:=oi o;exact Lg 5 j gm λae j=>j.pk 9 [0]
end Go.Gk
