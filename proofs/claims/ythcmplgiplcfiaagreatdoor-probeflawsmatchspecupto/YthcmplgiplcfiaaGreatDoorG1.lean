/-
  Printed texts: Go functions as plain functions, and that they are. No statement of the seed is proved here.
-/
import Derived.Test.YthcmplgiplcfiaaGreatDoorProg
import Derived.Test.YthcmplgiplcfiaaGreatDoorE1
import Derived.Test.YthcmplgiplcfiaaGreatDoorA1
import Derived.Test.YthcmplgiplcfiaaGreatDoorA2
import Derived.Test.YthcmplgiplcfiaaGreatDoorRows
import Derived.Shelf.SlGeneric
import Derived.Ground.SlsfProg
import Derived.Ground.SlgmProg
set_option linter.unusedVariables false
set_option linter.unusedSimpArgs false
set_option linter.unusedSectionVars false
set_option maxRecDepth 100000
set_option maxHeartbeats 40000000
namespace Go.Gk
open Go IntKind Go.Proofs
noncomputable abbrev bO:=Tryz.prog
abbrev c_(f:Nat)(l:List Value)(w:World)(R:Value->World->Prop):Prop:=Calls bO f l.toArray w (gj R)
def pd(x:aI):=(x.X0,x.Y0,x.X1,x.Y1)
instance instGTRect:GT aI:=GT.via pd
instance instKVRect:KV aI:=instKVvia (λ(x:aI)=>(x.X0,x.Y0,x.X1,x.Y1))
theorem eD:Fd 0 (λx:aI=>x.X0):= .v pd<|.fst .self
theorem sU:Fs 0 Int (λ(x:aI)y=>{x with X0:=y}):= .v pd<|.fst .self
theorem dT:Fd 1 (λx:aI=>x.Y0):= .v pd<|.snd<|.fst .self
theorem uY:Fs 1 Int (λ(x:aI)y=>{x with Y0:=y}):= .v pd<|.snd<|.fst .self
theorem eX:Fd 2 (λx:aI=>x.X1):= .v pd<|.snd<|.snd<|.fst .self
theorem qQ:Fs 2 Int (λ(x:aI)y=>{x with X1:=y}):= .v pd<|.snd<|.snd<|.fst .self
theorem gm:Fd 3 (λx:aI=>x.Y1):= .v pd<|.snd<|.snd<|.snd<|.self
theorem sV:Fs 3 Int (λ(x:aI)y=>{x with Y1:=y}):= .v pd<|.snd<|.snd<|.snd<|.self
def A2(x:j6):=(x.X,x.Y)
instance instGTPoint:GT j6:=GT.via A2
instance instKVPoint:KV j6:=instKVvia (λ(x:j6)=>(x.X,x.Y))
theorem pH:Fd 0 (λx:j6=>x.X):= .v A2<|.fst .self
theorem pI:Fd 1 (λx:j6=>x.Y):= .v A2<|.snd<|.self
def uZ(x:bT):=(x.At,x.dW,x.cS,x.To,x.eP)
instance instGTBore:GT bT:=GT.via uZ
theorem sW:Fd 0 (λx:bT=>x.At):= .v uZ<|.fst .self
theorem nk:Fd 2 (λx:bT=>x.dW):= .v uZ<|.snd<|.fst .self
theorem lH:Fd 3 (λx:bT=>x.cS):= .v uZ<|.snd<|.snd<|.fst .self
theorem nn:Fd 4 (λx:bT=>x.To):= .v uZ<|.snd<|.snd<|.snd<|.fst .self
theorem pS:Fd 5 (λx:bT=>x.eP):= .v uZ<|.snd<|.snd<|.snd<|.snd<|.self
def th(x:cX):=(x.Part,x.dO,x.dJ,x.At)
instance instGTLand:GT cX:=GT.via th
theorem oJ:Fd 0 (λx:cX=>x.Part):= .v th<|.fst .self
theorem JA:Fs 0 eQ (λ(x:cX)y=>{x with Part:=y}):= .v th<|.fst .self
theorem qR:Fd 1 (λx:cX=>x.dO):= .v th<|.snd<|.fst .self
theorem JB:Fs 1 eQ (λ(x:cX)y=>{x with dO:=y}):= .v th<|.snd<|.fst .self
theorem sX:Fd 2 (λx:cX=>x.dJ):= .v th<|.snd<|.snd<|.fst .self
theorem sY:Fd 3 (λx:cX=>x.At):= .v th<|.snd<|.snd<|.snd<|.self
def zV(x:jr):=(x.aJ,x.cN,x.aQ,x.bM)
instance instGTArt:GT jr:=GT.via zV
theorem jN:Fd 0 (λx:jr=>x.aJ):= .v zV<|.fst .self
theorem u4:Fd 1 (λx:jr=>x.cN):= .v zV<|.snd<|.fst .self
theorem iD:Fd 2 (λx:jr=>x.aQ):= .v zV<|.snd<|.snd<|.fst .self
theorem mj:Fd 3 (λx:jr=>x.bM):= .v zV<|.snd<|.snd<|.snd<|.self
def x9(x:dO):=(x.Part,x.dO)
instance instGTPin:GT dO:=GT.via x9
instance instKVPin:KV dO:=instKVvia (λ(x:dO)=>(x.Part,x.dO))
theorem ti:Fd 0 (λx:dO=>x.Part):= .v x9<|.fst .self
theorem zW:Fs 0 eQ (λ(x:dO)y=>{x with Part:=y}):= .v x9<|.fst .self
theorem xm:Fd 1 (λx:dO=>x.dO):= .v x9<|.snd<|.self
theorem zX:Fs 1 eQ (λ(x:dO)y=>{x with dO:=y}):= .v x9<|.snd<|.self
def CR(x:Test):=(x.A,x.B,x.Joined)
instance instGTTest:GT Test:=GT.via CR
theorem lI:Fd 0 (λx:Test=>x.A):= .v CR<|.fst .self
theorem np:Fd 2 (λx:Test=>x.B):= .v CR<|.snd<|.fst .self
def vW(x:dP):=(x.bT,x.Number)
instance instGTHop:GT dP:=GT.via vW
instance instKVHop:KV dP:=instKVvia (λ(x:dP)=>(x.bT,x.Number))
theorem qx:Fd 0 (λx:dP=>x.bT):= .v vW<|.fst .self
theorem GF:Fs 0 Bool (λ(x:dP)y=>{x with bT:=y}):= .v vW<|.fst .self
theorem lk:Fd 1 (λx:dP=>x.Number):= .v vW<|.snd<|.self
theorem zY:Fs 1 Int (λ(x:dP)y=>{x with Number:=y}):= .v vW<|.snd<|.self
def u5(x:fo):=(x.Open,x.dP,x.A,x.B)
instance instGTFlaw:GT fo:=GT.via u5
theorem lJ:Fd 0 (λx:fo=>x.Open):= .v u5<|.fst .self
theorem kW:Fd 1 (λx:fo=>x.dP):= .v u5<|.snd<|.fst .self
theorem oK:Fd 3 (λx:fo=>x.A):= .v u5<|.snd<|.snd<|.fst .self
theorem oL:Fd 4 (λx:fo=>x.B):= .v u5<|.snd<|.snd<|.snd<|.self
def ll(x:aA):=(x.Y0,x.Y1,x.Xs)
instance instGTshape_Band:GT aA:=GT.via ll
theorem iV:Fd 0 (λx:aA=>x.Y0):= .v ll<|.fst .self
theorem wH:Fs 0 Int (λ(x:aA)y=>{x with Y0:=y}):= .v ll<|.fst .self
theorem gx:Fd 1 (λx:aA=>x.Y1):= .v ll<|.snd<|.fst .self
theorem rN:Fs 1 Int (λ(x:aA)y=>{x with Y1:=y}):= .v ll<|.snd<|.fst .self
theorem eT:Fd 2 (λx:aA=>x.Xs):= .v ll<|.snd<|.snd<|.self
theorem wI:Fs 2 (List Int) (λ(x:aA)y=>{x with Xs:=y}):= .v ll<|.snd<|.snd<|.self
def kX(x:aH):=(x.dJ,x.Set,x.iq)
instance instGTcopper_Piece:GT aH:=GT.via kX
theorem t8:Fd 0 (λx:aH=>x.dJ):= .v kX<|.fst .self
theorem zZ:Fs 0 Int (λ(x:aH)y=>{x with dJ:=y}):= .v kX<|.fst .self
theorem z5:Fs 1 (List aA) (λ(x:aH)y=>{x with Set:=y}):= .v kX<|.snd<|.fst .self
theorem t9:Fd 2 (λx:aH=>x.iq):= .v kX<|.snd<|.snd<|.self
theorem z6:Fs 2 (List aI) (λ(x:aH)y=>{x with iq:=y}):= .v kX<|.snd<|.snd<|.self
def JC(x:cK):=(x.k8,x.aQ,x.gS)
instance instGTGroup:GT cK:=GT.via JC
def iw(x:aG):=(x.from_,x.to)
instance instGTetchhouseref1_span:GT aG:=GT.via iw
instance instKVetchhouseref1_span:KV aG:=instKVvia (λ(x:aG)=>(x.from_,x.to))
theorem eY:Fd 0 (λx:aG=>x.from_):= .v iw<|.fst .self
theorem ml:Fs 0 Int (λ(x:aG)y=>{x with from_:=y}):= .v iw<|.fst .self
theorem eZ:Fd 1 (λx:aG=>x.to):= .v iw<|.snd<|.self
theorem mm:Fs 1 Int (λ(x:aG)y=>{x with to:=y}):= .v iw<|.snd<|.self
def gw(x:aP):=(x.from_,x.to,x.jK)
instance instGTetchhouseref1_band:GT aP:=GT.via gw
theorem pT:Fd 0 (λx:aP=>x.from_):= .v gw<|.fst .self
theorem pU:Fs 0 Int (λ(x:aP)y=>{x with from_:=y}):= .v gw<|.fst .self
theorem mn:Fd 1 (λx:aP=>x.to):= .v gw<|.snd<|.fst .self
theorem mo:Fs 1 Int (λ(x:aP)y=>{x with to:=y}):= .v gw<|.snd<|.fst .self
theorem gV:Fd 2 (λx:aP=>x.jK):= .v gw<|.snd<|.snd<|.self
theorem pV:Fs 2 (List aG) (λ(x:aP)y=>{x with jK:=y}):= .v gw<|.snd<|.snd<|.self
theorem IK(M:fz):GT.ok M (#[(.string ⟨#[]⟩),(.string ⟨#[]⟩)]:Array Value).toList (⟨⟨[]⟩,⟨[]⟩⟩:dO):=⟨[(.string ⟨#[]⟩)],[(.string ⟨#[]⟩)],rfl,(show GT.ok M [(.string ⟨#[]⟩)] (⟨[]⟩:eQ)from rfl),(show GT.ok M [(.string ⟨#[]⟩)] (⟨[]⟩:eQ)from rfl)⟩
theorem vX(M:fz):GT.ok M (#[(.int .i64 0),(.int .i64 0),(.int .i64 0),(.int .i64 0)]:Array Value).toList (⟨0,0,0,0⟩:aI):=⟨[(.int .i64 0)],[(.int .i64 0),(.int .i64 0),(.int .i64 0)],rfl,(show GT.ok M [(.int .i64 0)] (0:Int)from rfl),⟨[(.int .i64 0)],[(.int .i64 0),(.int .i64 0)],rfl,(show GT.ok M [(.int .i64 0)] (0:Int)from rfl),⟨[(.int .i64 0)],[(.int .i64 0)],rfl,(show GT.ok M [(.int .i64 0)] (0:Int)from rfl),(show GT.ok M [(.int .i64 0)] (0:Int)from rfl)⟩⟩⟩
theorem L4(M:fz):GT.ok M (#[(.int .i64 0),(.int .i64 0)]:Array Value).toList (⟨0,0⟩:j6):=⟨[(.int .i64 0)],[(.int .i64 0)],rfl,(show GT.ok M [(.int .i64 0)] (0:Int)from rfl),(show GT.ok M [(.int .i64 0)] (0:Int)from rfl)⟩
theorem NJ(M:fz):GT.ok M (#[(.string ⟨#[]⟩),(.string ⟨#[]⟩),(.int .i64 0),(.int .i64 0),(.int .i64 0)]:Array Value).toList (⟨⟨[]⟩,⟨[]⟩,0,⟨0,0⟩⟩:cX):=⟨[(.string ⟨#[]⟩)],[(.string ⟨#[]⟩),(.int .i64 0),(.int .i64 0),(.int .i64 0)],rfl,(show GT.ok M [(.string ⟨#[]⟩)] (⟨[]⟩:eQ)from rfl),⟨[(.string ⟨#[]⟩)],[(.int .i64 0),(.int .i64 0),(.int .i64 0)],rfl,(show GT.ok M [(.string ⟨#[]⟩)] (⟨[]⟩:eQ)from rfl),⟨[(.int .i64 0)],[(.int .i64 0),(.int .i64 0)],rfl,(show GT.ok M [(.int .i64 0)] (0:Int)from rfl),(show GT.ok M [(.int .i64 0),(.int .i64 0)] (⟨0,0⟩:j6)from L4 M)⟩⟩⟩
theorem BN(M:fz):GT.ok M (#[(.bool false),(.int .i64 0)]:Array Value).toList (⟨false,0⟩:dP):=⟨[(.bool false)],[(.int .i64 0)],rfl,(show GT.ok M [(.bool false)] (false:Bool)from rfl),(show GT.ok M [(.int .i64 0)] (0:Int)from rfl)⟩
theorem CS(M:fz):GT.ok M (#[(.int .i64 0),n_,n_]:Array Value).toList (⟨0,[],[]⟩:aH):=⟨[(.int .i64 0)],[n_,n_],rfl,(show GT.ok M [(.int .i64 0)] (0:Int)from rfl),⟨[n_],[n_],rfl,(show GT.ok M [n_] ([]:List aA)from⟨_,rfl,none,0,0,rfl,rfl,bZ _,by simp[maxLen],λ_ _ h=>by simp at h⟩),(show GT.ok M [n_] ([]:List aI)from⟨_,rfl,none,0,0,rfl,rfl,bZ _,by simp[maxLen],λ_ _ h=>by simp at h⟩)⟩⟩
theorem z7(M:fz):GT.ok M (#[(.int .i64 0),(.int .i64 0),n_]:Array Value).toList (⟨0,0,[]⟩:aA):=⟨[(.int .i64 0)],[(.int .i64 0),n_],rfl,(show GT.ok M [(.int .i64 0)] (0:Int)from rfl),⟨[(.int .i64 0)],[n_],rfl,(show GT.ok M [(.int .i64 0)] (0:Int)from rfl),(show GT.ok M [n_] ([]:List Int)from⟨_,rfl,none,0,0,rfl,rfl,bZ _,by simp[maxLen],λ_ _ h=>by simp at h⟩)⟩⟩
theorem rn(M:fz):GT.ok M (#[(.int .i64 0),(.int .i64 0),n_]:Array Value).toList (⟨0,0,[]⟩:aP):=⟨[(.int .i64 0)],[(.int .i64 0),n_],rfl,(show GT.ok M [(.int .i64 0)] (0:Int)from rfl),⟨[(.int .i64 0)],[n_],rfl,(show GT.ok M [(.int .i64 0)] (0:Int)from rfl),(show GT.ok M [n_] ([]:List aG)from⟨_,rfl,none,0,0,rfl,rfl,bZ _,by simp[maxLen],λ_ _ h=>by simp at h⟩)⟩⟩
theorem rp(M:fz):GT.ok M (#[(.int .i64 0),(.int .i64 0)]:Array Value).toList (⟨0,0⟩:aG):=⟨[(.int .i64 0)],[(.int .i64 0)],rfl,(show GT.ok M [(.int .i64 0)] (0:Int)from rfl),(show GT.ok M [(.int .i64 0)] (0:Int)from rfl)⟩
structure aW where
  k8:List Int
  aQ:List Int
  gS:RV
  deriving Inhabited
def qy(x:aW):=(x.k8,x.aQ,x.gS)
instance instGTGroup_r2:GT aW:=GT.via qy
theorem yM:Fd 0 (λx:aW=>x.k8):= .v qy<|.fst .self
theorem D1:Fd 1 (λx:aW=>x.aQ):= .v qy<|.snd<|.fst .self
theorem D2:Fd 2 (λx:aW=>x.gS):= .v qy<|.snd<|.snd<|.self
theorem D3:Fs 2 RV (λ(x:aW)y=>{x with gS:=y}):= .v qy<|.snd<|.snd<|.self
def bE:XT aW cK:=⟨λu x=>u.k8=x.k8/\u.aQ=x.aQ,λM h u x=>(u.k8=x.k8/\u.aQ=x.aQ)/\yX 31 M h u.gS.v x.gS,λ{M M' h u x}hk hh=>⟨hh.1,(own 31 u.gS.v x.gS).mono hk hh.2⟩,λh=>h.1⟩
theorem pW:XO bE 31 2 (λu=>u.gS) (λu r=>{u with gS:=r}) (λx=>x.gS) (λx y=>{x with gS:=y}):=⟨D2,D3,by decide,λh=>h.2,λhr ho=>⟨hr,ho⟩⟩
theorem z8(M h:fz)(u:aW)(x:cK)(cs:List Value)(hd:∀b o,h b=some o->M b=none)(hx:bE.ok M h u x)(hc:GT.ok M cs u):GT.ok (tO M h) cs x:=by
 obtain⟨⟨e0,e1⟩,ho⟩:=hx;obtain⟨c0,d0,hd0,a0,c1,d1,hd1,a1,a2⟩:=hc;exact⟨c0,d0,hd0,GT.mono (x6 M h) (show GT.ok M c0 x.k8 from e0▸(show GT.ok M c0 u.k8 from a0)),⟨c1,d1,hd1,GT.mono (x6 M h) (show GT.ok M c1 x.aQ from e1▸(show GT.ok M c1 u.aQ from a1)),⟨u.gS.v,a2,yX.sl hd ho⟩⟩⟩
theorem nX:ox bO 27 true 4:=yr
theorem nO:ox bO 31 true 2:=yr
theorem nY:o7 bO 27 0 0:=qI
theorem qf:ox bO 22 false 1:=yr
theorem qJ:Tryz.prog.underlying 22=some (.slice 23):=by kernel_rfl
theorem Fk:o7 bO 27 1 1:=qI
theorem wP:ox bO 23 false 1:=yr
theorem oY:Tryz.prog.underlying 23=some (.slice 58):=by kernel_rfl
theorem wQ:yJ bO 22 23 1:=FZ
theorem jO:yJ bO 23 58 4:=FZ
theorem ju:ox bO 58 true 4:=yr
theorem qz:E4 bO 58 4:=GD<|.agg #[(.int .i64 0),(.int .i64 0),(.int .i64 0),(.int .i64 0)]
theorem iZ:o7 bO 58 0 0:=qI
theorem cF:ox bO 3 false 1:=yr
theorem EE:gC bO 109:=gU Tryz.func109
theorem iQ:o7 bO 58 1 1:=qI
theorem jX:o7 bO 58 2 2:=qI
theorem lC:o7 bO 58 3 3:=qI
theorem ON:gC bO 94:=gU Tryz.func94
theorem mixed:Tryz.prog.follows .mixedOrders=true:=by kernel_rfl
theorem CT:w7 bO 23 58 4 32:=w7.of<|.agg #[(.int .i64 0),(.int .i64 0),(.int .i64 0),(.int .i64 0)]
theorem OO:gC bO 96:=gU Tryz.func96
theorem OP:Oz bO 44 [n_]:=⟨n_,λ_=>by kernel_rfl,rfl⟩
theorem gh:ox bO 44 false 1:=yr
theorem dQ:yJ bO 44 3 1:=FZ
theorem DU:E4 bO 3 1:=GD<|.int .i64 0
theorem rq:w7 bO 44 3 1 8:=w7.of<|.int .i64 0
theorem mq:Tryz.prog.underlying 44=some (.slice 3):=by kernel_rfl
theorem NK:Kj bO 3 (0:Int):=Kj.of (.int .i64 0)<|λM=>rfl
theorem ML:gC bO 113:=gU Tryz.func113
theorem Qy:Kj bO 58 (⟨0,0,0,0⟩:aI):=Kj.of (.agg #[(.int .i64 0),(.int .i64 0),(.int .i64 0),(.int .i64 0)])<|λM=>vX M
theorem MM:yY bO 152 [(0,1),(1,1),(2,1)] #[(.int .i64 0),(.int .i64 0),n_]:=yY.of (.agg #[(.int .i64 0),(.int .i64 0),n_]) Tryz.underlying152
theorem nG:o7 bO 152 2 2:=qI
theorem pD:o7 bO 152 1 1:=qI
theorem sA:o7 bO 152 0 0:=qI
theorem sd:Tryz.prog.underlying 112=some (.slice 152):=by kernel_rfl
theorem mX:yJ bO 112 152 3:=FZ
theorem z9:ox bO 152 true 3:=yr
theorem GG:E4 bO 152 3:=GD<|.agg #[(.int .i64 0),(.int .i64 0),n_]
theorem OV:w7 bO 112 152 3 40:=w7.of<|.agg #[(.int .i64 0),(.int .i64 0),n_]
theorem MN:gC bO 102:=gU Tryz.func102
theorem KC:gC bO 61:=gU Tryz.func61
theorem GH:yY bO 58 [(0,1),(1,1),(2,1),(3,1)] #[(.int .i64 0),(.int .i64 0),(.int .i64 0),(.int .i64 0)]:=yY.of (.agg #[(.int .i64 0),(.int .i64 0),(.int .i64 0),(.int .i64 0)]) Tryz.underlying58
theorem NL:gC bO 62:=gU Tryz.func62
theorem IL:Tryz.prog.underlying 3=some (.int .i64):=by kernel_rfl
theorem MO:LS bO 58 aI:=⟨λM cs ds a b w ha hb=>by
  obtain⟨_,_,rfl,rfl,⟨_,_,rfl,rfl,⟨_,_,rfl,rfl,rfl⟩⟩⟩:=ha
  obtain⟨_,_,rfl,rfl,⟨_,_,rfl,rfl,⟨_,_,rfl,rfl,rfl⟩⟩⟩:=hb
  refine(kT 9999 Tryz.underlying58<|BK.cons (by decide) (eC cF _) (eC cF _) (k7 IL _ _ w)<|BK.cons (by decide) (eC cF _) (eC cF _) (k7 IL _ _ w)<|BK.cons (by decide) (eC cF _) (eC cF _) (k7 IL _ _ w)<|BK.cons (by decide) (eC cF _) (eC cF _) (k7 IL _ _ w) BK.nil).trans ?_
  congr 1
  cases a;cases b;unfold pd
  rw[dY]
  simp,by kernel_rfl⟩
theorem OW:gC bO 24:=gU Tryz.func24
theorem gz:o7 bO 27 2 2:=qI
theorem mY:ox bO 24 false 1:=yr
theorem u6:Tryz.prog.underlying 24=some (.slice 65):=by kernel_rfl
theorem rO:yJ bO 24 65 6:=FZ
theorem nA:ox bO 65 true 6:=yr
theorem HU:E4 bO 65 6:=GD<|.agg #[(.int .i64 0),(.int .i64 0),(.int .i64 0),(.int .i64 0),(.int .i64 0),(.bool false)]
theorem uy:o7 bO 65 1 2:=qI
theorem L5:gC bO 64:=gU Tryz.func64
theorem A3:o7 bO 65 0 0:=qI
theorem GI:ox bO 60 true 2:=yr
theorem y9:o7 bO 60 0 0:=qI
theorem za:o7 bO 60 1 1:=qI
theorem OX:gC bO 67:=gU Tryz.func67
theorem JD:gC bO 28:=gU Tryz.func28
theorem rP:o7 bO 65 2 3:=qI
theorem uz:o7 bO 65 3 4:=qI
theorem nZ:o7 bO 27 3 3:=qI
theorem xn:ox bO 25 false 1:=yr
theorem D4:Tryz.prog.underlying 25=some (.slice 62):=by kernel_rfl
theorem Cd:yJ bO 25 62 5:=FZ
theorem u7:ox bO 62 true 5:=yr
theorem JE:E4 bO 62 5:=GD<|.agg #[(.string ⟨#[]⟩),(.string ⟨#[]⟩),(.int .i64 0),(.int .i64 0),(.int .i64 0)]
theorem vY:o7 bO 62 0 0:=qI
theorem w8:ox bO 9 false 1:=yr
theorem CU:Tryz.prog.underlying 9=some (.string):=by kernel_rfl
theorem Fb(a:eQ)(b:Int)(w:World):(callFunc 185 [str a,(.int .u8 b)].toArray).run bO w = .ok (.value<|vi ((Lib.countByte a.dN (Int.toNat b).toUInt8:Nat):Int)) w:=CG Extern.BytealgCount.count Tryz.func185<|Lib.run_countString _ _ w
theorem QC(a:eQ)(b:Int)(w:World):(callFunc 173 [str a,(.int .u8 b)].toArray).run bO w = .ok (.value<|vi<|Lib.indexByte a.dN (Int.toNat b).toUInt8) w:=CG Extern.BytealgIndexByte.indexByte Tryz.func173<|Lib.run_indexByteString _ _ w
theorem MP:gC bO 140:=gU Tryz.func140
theorem MQ:gC bO 172:=gU Tryz.func172
theorem O2:w7 bO 154 9 1 16:=w7.of<|.string ⟨#[]⟩
theorem R7:Kj bO 9 (⟨[]⟩:eQ):=Kj.of (.string ⟨#[]⟩)<|λM=>rfl
theorem GJ:yJ bO 154 9 1:=FZ
theorem MR:gC bO 106:=gU Tryz.func106
theorem MS:Tryz.prog.underlying 154=some (.slice 9):=by kernel_rfl
theorem MT:gC bO 108:=gU Tryz.func108
theorem O5:gC bO 66:=gU Tryz.func66
theorem zb:o7 bO 62 1 1:=qI
theorem A4:o7 bO 62 2 2:=qI
theorem A5:o7 bO 62 3 3:=qI
theorem NM:E4 bO 31 2:=GD<|.agg #[(.string ⟨#[]⟩),(.string ⟨#[]⟩)]
theorem L6:yY bO 31 [(0,1),(1,1)] #[(.string ⟨#[]⟩),(.string ⟨#[]⟩)]:=yY.of (.agg #[(.string ⟨#[]⟩),(.string ⟨#[]⟩)]) Tryz.underlying31
theorem L7:gC bO 38:=gU Tryz.func38
theorem zc:o7 bO 31 0 0:=qI
theorem Ca(a b:eQ)(w:World):(callFunc 145 [str a,str b].toArray).run bO w = .ok (.value<|vi<|Lib.compareBytes a.dN b.dN) w:=CG Extern.BytealgCompare.compare Tryz.func145<|Lib.run_compareString _ _ w
theorem O9:gC bO 80:=gU Tryz.func80
theorem CV:o7 bO 31 1 1:=qI
theorem JF:gC bO 37:=gU Tryz.func37
theorem Pa:gC bO 68:=gU Tryz.func68
theorem QG:yY bO 74 [(0,4),(4,1),(5,1),(6,1),(7,1),(8,1),(9,1),(10,1),(11,1)] #[n_,n_,n_,n_,n_,n_,n_,n_,n_,n_,n_,n_]:=yY.of (.agg #[n_,n_,n_,n_,n_,n_,n_,n_,n_,n_,n_,n_]) Tryz.underlying74
theorem rQ:o7 bO 74 0 0:=qI
theorem NN:gC bO 69:=gU Tryz.func69
theorem KD:yJ bO 68 112 1:=FZ
theorem KE:E4 bO 112 1:=GD<|.slice none 0 0
theorem Pb:Tryz.prog.underlying 68=some (.slice 112):=by kernel_rfl
theorem MU:ox bO 112 false 1:=yr
theorem MV:gC bO 142:=gU Tryz.func142
theorem Pc:Tryz.prog.underlying 4=some (.bool):=by kernel_rfl
theorem KF:o7 bO 74 1 4:=qI
theorem Pg:ox bO 68 false 1:=yr
theorem Ph:w7 bO 68 112 1 24:=w7.of<|.slice none 0 0
theorem KG:gC bO 112:=gU Tryz.func112
theorem GK:HN bO 92 3 3 Int Int (0:Int):=⟨by kernel_rfl,CH.int IL,Iz (.int .i64 0)<|λM=>⟨_,rfl,rfl⟩⟩
theorem L8:E4 bO 23 1:=GD<|.slice none 0 0
theorem KH:w7 bO 22 23 1 24:=w7.of<|.slice none 0 0
theorem xo:o7 bO 74 2 5:=qI
theorem GL:ox bO 69 false 1:=yr
theorem Pj:yY bO 124 [(0,1),(1,1),(2,1)] #[(.int .i64 0),n_,n_]:=yY.of (.agg #[(.int .i64 0),n_,n_]) Tryz.underlying124
theorem NO:yJ bO 69 124 3:=FZ
theorem KI:E4 bO 124 3:=GD<|.agg #[(.int .i64 0),n_,n_]
theorem QK:w7 bO 69 124 3 56:=w7.of<|.agg #[(.int .i64 0),n_,n_]
theorem JG:Tryz.prog.underlying 69=some (.slice 124):=by kernel_rfl
theorem IM:ox bO 124 true 3:=yr
theorem xp:o7 bO 65 4 5:=qI
theorem rR:ox bO 4 false 1:=yr
theorem IP:o7 bO 124 0 0:=qI
theorem IQ:o7 bO 124 2 2:=qI
theorem Pk:gC bO 73:=gU Tryz.func73
theorem Fm:o7 bO 74 3 6:=qI
theorem Aa:ox bO 70 false 1:=yr
theorem A6:yJ bO 70 44 1:=FZ
theorem NP:E4 bO 44 1:=GD<|.slice none 0 0
theorem NQ:w7 bO 70 44 1 24:=w7.of<|.slice none 0 0
theorem Pl:yY bO 135 [(0,1)] #[n_]:=yY.of (.agg #[n_]) Tryz.underlying135
theorem sB:o7 bO 135 0 0:=qI
theorem Pm:gC bO 40:=gU Tryz.func40
theorem HV:Tryz.prog.underlying 70=some (.slice 44):=by kernel_rfl
theorem JH:gC bO 43:=gU Tryz.func43
theorem Pn:gC bO 42:=gU Tryz.func42
theorem HW:o7 bO 74 5 8:=qI
theorem Fp:o7 bO 74 6 9:=qI
theorem KJ:Oz bO 130 [n_,n_,n_]:=⟨(.agg #[n_,n_,n_]),λ_=>by kernel_rfl,rfl⟩
theorem A7:o7 bO 74 4 7:=qI
theorem yt:ox bO 71 false 1:=yr
theorem NR:Tryz.prog.underlying 71=some (.slice 130):=by kernel_rfl
theorem vZ:o7 bO 130 0 0:=qI
theorem ya:o7 bO 130 1 1:=qI
theorem GM:ox bO 130 true 3:=yr
theorem D5:yJ bO 71 130 3:=FZ
theorem KK:E4 bO 130 3:=GD<|.agg #[n_,n_,n_]
theorem NS:w7 bO 71 130 3 72:=w7.of<|.agg #[n_,n_,n_]
theorem HX:E4 bO 78 2:=GD<|.agg #[(.bool false),(.int .i64 0)]
theorem MW:gC bO 114:=gU Tryz.func114
theorem GN:yY bO 78 [(0,1),(1,1)] #[(.bool false),(.int .i64 0)]:=yY.of (.agg #[(.bool false),(.int .i64 0)]) Tryz.underlying78
theorem qA:ox bO 78 true 2:=yr
theorem v7:o7 bO 78 0 0:=qI
theorem pJ:o7 bO 78 1 1:=qI
theorem Cr:o7 bO 130 2 2:=qI
theorem IU:ox bO 128 false 1:=yr
theorem MX:yJ bO 128 31 2:=FZ
theorem MY:w7 bO 128 31 2 32:=w7.of<|.agg #[(.string ⟨#[]⟩),(.string ⟨#[]⟩)]
theorem HY:o7 bO 74 7 10:=qI
theorem HZ:o7 bO 74 8 11:=qI
theorem NT:ox bO 72 false 1:=yr
theorem Pp:yJ bO 72 78 2:=FZ
theorem QT:w7 bO 72 78 2 16:=w7.of<|.agg #[(.bool false),(.int .i64 0)]
theorem NU:gC bO 11:=gU Tryz.func11
theorem Fq:Tryz.prog.underlying 29=some (.slice 80):=by kernel_rfl
theorem NV:ox bO 39 false 1:=yr
theorem Pq:gC bO 33:=gU Tryz.func33
theorem zd:yJ bO 29 80 5:=FZ
theorem A8:ox bO 80 true 5:=yr
theorem NW:E4 bO 80 5:=GD<|.agg #[(.bool false),(.bool false),(.int .i64 0),(.int .i64 0),(.int .i64 0)]
theorem rS:o7 bO 80 0 0:=qI
theorem v8:o7 bO 80 2 3:=qI
theorem v9:o7 bO 80 3 4:=qI
theorem qS:o7 bO 80 1 1:=qI
theorem MZ:LS bO 78 dP:=⟨λM cs ds a b w ha hb=>by
  obtain⟨_,_,rfl,rfl,rfl⟩:=ha
  obtain⟨_,_,rfl,rfl,rfl⟩:=hb
  refine(kT 9999 Tryz.underlying78<|BK.cons (by decide) (eC rR _) (eC rR _) (rj Pc _ _ w)<|BK.cons (by decide) (eC cF _) (eC cF _) (k7 IL _ _ w) BK.nil).trans ?_
  congr 1
  cases a;cases b;unfold vW
  rw[dY]
  simp,by kernel_rfl⟩
theorem NX:gC bO 32:=gU Tryz.func32
theorem M1:LS bO 80 fo:=⟨λM cs ds a b w ha hb=>by
  obtain⟨_,_,rfl,rfl,⟨_,_,rfl,⟨_,_,rfl,rfl,rfl⟩,⟨_,_,rfl,rfl,rfl⟩⟩⟩:=ha
  obtain⟨_,_,rfl,rfl,⟨_,_,rfl,⟨_,_,rfl,rfl,rfl⟩,⟨_,_,rfl,rfl,rfl⟩⟩⟩:=hb
  refine(kT 9999 Tryz.underlying80<|BK.cons (by decide) (eC rR _) (eC rR _) (rj Pc _ _ w)<|BK.cons (by decide) (Er qA rfl _) (Er qA rfl _) (kT 9998 Tryz.underlying77<|BK.cons (by decide) (eC rR _) (eC rR _) (rj Pc _ _ w)<|BK.cons (by decide) (eC cF _) (eC cF _) (k7 IL _ _ w) BK.nil)<|BK.cons (by decide) (eC cF _) (eC cF _) (k7 IL _ _ w)<|BK.cons (by decide) (eC cF _) (eC cF _) (k7 IL _ _ w) BK.nil).trans ?_
  congr 1
  obtain⟨_,⟨_,_⟩,_,_⟩:=a;obtain⟨_,⟨_,_⟩,_,_⟩:=b;unfold u5 vW
  rw[dY]
  simp,by kernel_rfl⟩
theorem Ps:gC bO 12:=gU Tryz.func12
theorem M3:Tryz.prog.underlying 132=some (.int .u64):=by kernel_rfl
theorem JI:gC bO 13:=gU Tryz.func13
theorem QZ:Oz bO 88 [(.map none)]:=⟨(.map none),λ_=>by kernel_rfl,rfl⟩
theorem KL:ox bO 88 false 1:=yr
theorem Pt:gC bO 39:=gU Tryz.func39
theorem L9:HN bO 88 3 4 Int Bool (false:Bool):=⟨by kernel_rfl,CH.int IL,Iz (.bool false)<|λM=>⟨_,rfl,rfl⟩⟩
theorem Q0:Oz bO 89 [(.pointer none)]:=⟨(.pointer none),λ_=>by kernel_rfl,rfl⟩
theorem KM:ox bO 89 false 1:=yr
theorem Pv:gC bO 41:=gU Tryz.func41
theorem Q1:Tryz.prog.underlying 72=some (.slice 78):=by kernel_rfl
theorem RW:gC bO 4:=gU Tryz.func4
theorem yN:gC bO 129:=gU Tryz.func129
theorem M4:gC bO 118:=gU Tryz.func118
theorem EF:gC bO 147:=gU Tryz.func147
theorem M5:gC bO 119:=gU Tryz.func119
theorem M6:yY bO 182 [(0,1),(1,1)] #[(.int .i64 0),(.int .i64 0)]:=yY.of (.agg #[(.int .i64 0),(.int .i64 0)]) Tryz.underlying182
theorem yO:Tryz.prog.underlying 161=some (.slice 182):=by kernel_rfl
theorem qL:yJ bO 161 182 2:=FZ
theorem sC:o7 bO 182 1 1:=qI
theorem sD:o7 bO 182 0 0:=qI
theorem IV:ox bO 182 true 2:=yr
theorem M7:E4 bO 182 2:=GD<|.agg #[(.int .i64 0),(.int .i64 0)]
theorem KN:w7 bO 161 182 2 16:=w7.of<|.agg #[(.int .i64 0),(.int .i64 0)]
theorem M8:gC bO 146:=gU Tryz.func146
theorem IW:gC bO 117:=gU Tryz.func117
theorem M9:yY bO 166 [(0,1),(1,1),(2,1)] #[(.int .i64 0),(.int .i64 0),n_]:=yY.of (.agg #[(.int .i64 0),(.int .i64 0),n_]) Tryz.underlying166
theorem yb:o7 bO 166 2 2:=qI
theorem EG:ox bO 161 false 1:=yr
theorem Na:Tryz.prog.underlying 163=some (.slice 166):=by kernel_rfl
theorem Ab:yJ bO 163 166 3:=FZ
theorem Cs:o7 bO 166 1 1:=qI
theorem IX:o7 bO 166 0 0:=qI
theorem NY:LS bO 182 aG:=⟨λM cs ds a b w ha hb=>by
  obtain⟨_,_,rfl,rfl,rfl⟩:=ha
  obtain⟨_,_,rfl,rfl,rfl⟩:=hb
  refine(kT 9999 Tryz.underlying182<|BK.cons (by decide) (eC cF _) (eC cF _) (k7 IL _ _ w)<|BK.cons (by decide) (eC cF _) (eC cF _) (k7 IL _ _ w) BK.nil).trans ?_
  congr 1
  cases a;cases b;unfold iw
  rw[dY]
  simp,by kernel_rfl⟩
theorem Pz:ox bO 166 true 3:=yr
theorem PA:E4 bO 166 3:=GD<|.agg #[(.int .i64 0),(.int .i64 0),n_]
theorem PB:w7 bO 163 166 3 40:=w7.of<|.agg #[(.int .i64 0),(.int .i64 0),n_]
theorem Nb:gC bO 120:=gU Tryz.func120
theorem Nc:gC bO 121:=gU Tryz.func121
theorem NZ:gC bO 84:=gU Tryz.func84
theorem PD:gC bO 89:=gU Tryz.func89
theorem KO:gC bO 91:=gU Tryz.func91
theorem Nd:gC bO 128:=gU Tryz.func128
theorem JJ:gC bO 52:=gU Tryz.func52
theorem Nf:gC bO 131:=gU Tryz.func131
theorem Ma:gC bO 50:=gU Tryz.func50
theorem KP:gC bO 116:=gU Tryz.func116
theorem PI:gC bO 49:=gU Tryz.func49
theorem Mb:w7 bO 96 4 1 1:=w7.of<|.bool false
theorem Qi:Kj bO 4 (false:Bool):=Kj.of (.bool false)<|λM=>rfl
theorem yu:yJ bO 96 4 1:=FZ
theorem PK:gC bO 48:=gU Tryz.func48
theorem PL:gC bO 20:=gU Tryz.func20
theorem Rb:yY bO 95 [(0,4),(4,1),(5,1),(6,1),(7,1)] #[n_,n_,n_,n_,n_,n_,n_,n_]:=yY.of (.agg #[n_,n_,n_,n_,n_,n_,n_,n_]) Tryz.underlying95
theorem CW:o7 bO 95 1 4:=qI
theorem qT:o7 bO 95 2 5:=qI
theorem uA:o7 bO 95 4 7:=qI
theorem uB:o7 bO 95 3 6:=qI
theorem Ng:yY bO 130 [(0,1),(1,1),(2,1)] #[n_,n_,n_]:=yY.of (.agg #[n_,n_,n_]) Tryz.underlying130
theorem IY:gC bO 123:=gU Tryz.func123
theorem Nh:gC bO 124:=gU Tryz.func124
theorem qU:o7 bO 95 0 0:=qI
theorem PM:gC bO 81:=gU Tryz.func81
theorem PN:gC bO 47:=gU Tryz.func47
theorem PQ:gC bO 18:=gU Tryz.func18
theorem Mc:gC bO 93:=gU Tryz.func93
theorem RX:gC bO 9:=gU Tryz.func9
theorem Md:gC bO 15:=gU Tryz.func15
theorem N0:gC bO 44:=gU Tryz.func44
theorem Rk:Tryz.prog.underlying 96=some (.slice 4):=by kernel_rfl
theorem PR:gC bO 46:=gU Tryz.func46
theorem JK:Tryz.prog.underlying 28=some (.slice 53):=by kernel_rfl
theorem D6:yJ bO 28 53 5:=FZ
theorem D7:ox bO 53 true 5:=yr
theorem PT:E4 bO 53 5:=GD<|.agg #[(.string ⟨#[]⟩),(.string ⟨#[]⟩),(.string ⟨#[]⟩),(.string ⟨#[]⟩),(.bool false)]
theorem rT:o7 bO 53 0 0:=qI
theorem uC:o7 bO 53 1 2:=qI
theorem PU:gC bO 54:=gU Tryz.func54
theorem N1:gC bO 21:=gU Tryz.func21
theorem PV:LS bO 31 dO:=⟨λM cs ds a b w ha hb=>by
  obtain⟨_,_,rfl,rfl,rfl⟩:=ha
  obtain⟨_,_,rfl,rfl,rfl⟩:=hb
  refine(kT 9999 Tryz.underlying31<|BK.cons (by decide) (eC w8 _) (eC w8 _) (yZ CU _ _ w)<|BK.cons (by decide) (eC w8 _) (eC w8 _) (yZ CU _ _ w) BK.nil).trans ?_
  congr 1
  cases a;cases b;unfold x9
  rw[dY]
  simp,by kernel_rfl⟩
theorem Rr:yY bO 62 [(0,1),(1,1),(2,1),(3,2)] #[(.string ⟨#[]⟩),(.string ⟨#[]⟩),(.int .i64 0),(.int .i64 0),(.int .i64 0)]:=yY.of (.agg #[(.string ⟨#[]⟩),(.string ⟨#[]⟩),(.int .i64 0),(.int .i64 0),(.int .i64 0)]) Tryz.underlying62
theorem Rs:yY bO 27 [(0,1),(1,1),(2,1),(3,1)] #[n_,n_,n_,n_]:=yY.of (.agg #[n_,n_,n_,n_]) Tryz.underlying27
theorem Ru:E4 bO 27 4:=GD<|.agg #[n_,n_,n_,n_]
def lD(E:World)(V:List HP)(b0:Nat)(e_ h_:Value)(a_ d_:Value)(f_ b_:Value)(g_ j_:Value)(p_ o_:Value)(m_ l_:Value)(res:Int)(v:Value)(w:World):Prop:=v= vi res/\Holds E w ([bc 74 b0 [e_,h_,a_,d_,f_,b_,g_,j_,p_,o_,m_,l_]]++V)
def aX(E:World)(V:List HP)(res:Bool)(v:Value)(w:World):Prop:=v= vb res/\Holds E w V
def aS(E:World)(V:List HP)(res:Int)(v:Value)(w:World):Prop:=v= vi res/\Holds E w V
def gH(E:World)(V:List HP)(res:List aI)(v:Value)(w:World):Prop:=Holds E w<|[own 58 v res]++V
def n0(E:World)(V:List HP)(res:List Int)(v:Value)(w:World):Prop:=Holds E w<|[own 3 v res]++V
def oM(E:World)(V:List HP)(res:List aA)(v:Value)(w:World):Prop:=Holds E w<|[own 152 v res]++V
def qB(E:World)(V:List HP)(res:aI)(v:Value)(w:World):Prop:=Holds E w<|[rd v res]++V
def uc(E:World)(V:List HP)(res:Bool×Int)(v:Value)(w:World):Prop:=v = .tuple #[vb res.1,vi res.2]/\Holds E w V
def oZ(E:World)(V:List HP)(res:List Int)(v:Value)(w:World):Prop:=Holds E w<|[rd v res]++V
def tj(E:World)(V:List HP)(res:List eQ)(v:Value)(w:World):Prop:=Holds E w<|[own 9 v res]++V
def qC(E:World)(V:List HP)(res:List (List aI))(v:Value)(w:World):Prop:=Holds E w<|[own 23 v res]++V
def jE(E:World)(V:List HP)(b0:Nat)(e_ h_:Value)(a_ d_:Value)(f_ b_:Value)(g_ j_:Value)(res:Int)(v:Value)(w:World):Prop:=v= vi res/\Holds E w ([bc 95 b0 [e_,h_,a_,d_,f_,b_,g_,j_]]++V)
def ig(E:World)(V:List HP)(b0:Nat)(e_ h_:Value)(a_ d_:Value)(f_ b_ g_:Value)(us0_6:List aW)(s_:List cK)(j_:Value)(res:Int)(v:Value)(w:World):Prop:=v= vi res/\Holds E w ([bc 95 b0 [e_,h_,a_,d_,f_,b_,g_,j_],own 130 g_ us0_6,jv bE us0_6 s_ none]++V)
def re(E:World)(V:List HP)(res:Option (List (List aI)×List aI×List bT×List cX×List (List aA)×List aH×List (List Int)×List cK×List Int×List Int×List Int×List dP)×Int)(v:Value)(w:World):Prop:=Gq res.1 (v = .tuple #[(.pointer none),vi res.2]/\Holds E w V) (λy=>∃(ub0:Nat)(A_ H_:Value)(I_ O_:Value)(J_ K_:Value)(E_ L_:Value)(P_ Q_:Value)(R_ S_:Value),v = .tuple #[vp ub0 0,vi res.2]/\Holds E w ([bc 74 ub0 [A_,H_,I_,O_,J_,K_,E_,L_,P_,Q_,R_,S_],rd A_ y.1,rd H_ y.2.1,rd I_ y.2.2.1,rd O_ y.2.2.2.1,own 112 J_ y.2.2.2.2.1,rd K_ y.2.2.2.2.2.1,rd E_ y.2.2.2.2.2.2.1,own 130 L_ y.2.2.2.2.2.2.2.1,rd P_ y.2.2.2.2.2.2.2.2.1,rd Q_ y.2.2.2.2.2.2.2.2.2.1,own 3 R_ y.2.2.2.2.2.2.2.2.2.2.1,own 78 S_ y.2.2.2.2.2.2.2.2.2.2.2]++V))
def mK(E:World)(V:List HP)(res:List aG)(v:Value)(w:World):Prop:=Holds E w<|[own 182 v res]++V
def Af(H:Type)(d:DataW H):Nat:=YthcmplgiplcfiaaGreatDoor.Rows.uptoBulk d
def PX(H:Type)(d:List (DataW H)):Nat:=YthcmplgiplcfiaaGreatDoor.Rows.uptoBulkAll d
theorem gW:UB Af PX where
  str:=λH b=>by simp[Af,YthcmplgiplcfiaaGreatDoor.Rows.uptoBulk]
  pos:=λH d=>by
    unfold Af
    cases d with
    |lit l=>cases l <;> simp[YthcmplgiplcfiaaGreatDoor.Rows.uptoBulk]
    |nil=>simp[YthcmplgiplcfiaaGreatDoor.Rows.uptoBulk]
    |ptr d=>simp[YthcmplgiplcfiaaGreatDoor.Rows.uptoBulk]
    |slice elems spare=>simp[YthcmplgiplcfiaaGreatDoor.Rows.uptoBulk]
    |agg parts=>simp[YthcmplgiplcfiaaGreatDoor.Rows.uptoBulk]
    |iface t d=>simp[YthcmplgiplcfiaaGreatDoor.Rows.uptoBulk]
    |map entries=>simp[YthcmplgiplcfiaaGreatDoor.Rows.uptoBulk]
    |held h=>simp[YthcmplgiplcfiaaGreatDoor.Rows.uptoBulk]
  sl:=λH e s=>by simp[Af,PX,YthcmplgiplcfiaaGreatDoor.Rows.uptoBulk]
  ag:=λH l=>by simp[Af,PX,YthcmplgiplcfiaaGreatDoor.Rows.uptoBulk]
  nil:=λH=>by simp[PX,YthcmplgiplcfiaaGreatDoor.Rows.uptoBulkAll]
  cons:=λH x l=>by simp[Af,PX,YthcmplgiplcfiaaGreatDoor.Rows.uptoBulkAll]
theorem JS:kB Af Tryz.prog 3 Int:=JP gW (by kernel_rfl)
theorem Rw:kB Af Tryz.prog 58 aI:=kO gW (λ(x:aI)=>(x.X0,x.Y0,x.X1,x.Y1)) (λb=>⟨b.1,b.2.1,b.2.2.1,b.2.2.2⟩) (λb=>rfl) Tryz.underlying58 (fI gW JS<|fI gW JS<|fI gW JS<|oN gW JS) (λb=>by simp only[Mi];omega)
theorem PY:kB Af Tryz.prog 23 (List aI):=qV (e:=58) gW Rw
theorem Rx:kB Af Tryz.prog 22 (List<|List aI):=qV (e:=23) gW PY
theorem PZ:kB Af Tryz.prog 60 j6:=kO gW (λ(x:j6)=>(x.X,x.Y)) (λb=>⟨b.1,b.2⟩) (λb=>rfl) Tryz.underlying60 (fI gW JS<|oN gW JS) (λb=>by simp only[KY];omega)
theorem Qj:kB Af Tryz.prog 4 Bool:=H3 gW (by kernel_rfl)
theorem Ry:kB Af Tryz.prog 65 bT:=kO gW (λ(x:bT)=>(x.At,x.dW,x.cS,x.To,x.eP)) (λb=>⟨b.1,b.2.1,b.2.2.1,b.2.2.2.1,b.2.2.2.2⟩) (λb=>rfl) Tryz.underlying65 (fI gW PZ<|fI gW JS<|fI gW JS<|fI gW JS<|oN gW Qj) (λb=>by simp only[Mj];omega)
theorem Rz:kB Af Tryz.prog 24 (List bT):=qV (e:=65) gW Ry
theorem Qk:kB Af Tryz.prog 9 eQ:=JQ gW (by kernel_rfl)
theorem RA:kB Af Tryz.prog 62 cX:=kO gW (λ(x:cX)=>(x.Part,x.dO,x.dJ,x.At)) (λb=>⟨b.1,b.2.1,b.2.2.1,b.2.2.2⟩) (λb=>rfl) Tryz.underlying62 (fI gW Qk<|fI gW Qk<|fI gW JS<|oN gW PZ) (λb=>by simp only[I2];omega)
theorem RB:kB Af Tryz.prog 25 (List cX):=qV (e:=62) gW RA
theorem RD:kB Af Tryz.prog 27 jr:=kO gW (λ(x:jr)=>(x.aJ,x.cN,x.aQ,x.bM)) (λb=>⟨b.1,b.2.1,b.2.2.1,b.2.2.2⟩) (λb=>rfl) Tryz.underlying27 (fI gW Rx<|fI gW PY<|fI gW Rz<|oN gW RB) (λb=>by simp only[KZ];omega)
theorem Mm:kB Af Tryz.prog 31 dO:=kO gW (λ(x:dO)=>(x.Part,x.dO)) (λb=>⟨b.1,b.2⟩) (λb=>rfl) Tryz.underlying31 (fI gW Qk<|oN gW Qk) (λb=>by simp only[N2];omega)
theorem RE:kB Af Tryz.prog 53 Test:=kO gW (λ(x:Test)=>(x.A,x.B,x.Joined)) (λb=>⟨b.1,b.2.1,b.2.2⟩) (λb=>rfl) Tryz.underlying53 (fI gW Mm<|fI gW Mm<|oN gW Qj) (λb=>by simp only[Mk];omega)
theorem RF:kB Af Tryz.prog 28 (List Test):=qV (e:=53) gW RE
theorem RG:kB Af Tryz.prog 78 dP:=kO gW (λ(x:dP)=>(x.bT,x.Number)) (λb=>⟨b.1,b.2⟩) (λb=>rfl) Tryz.underlying78 (fI gW Qj<|oN gW JS) (λb=>by simp only[N3];omega)
theorem RH:kB Af Tryz.prog 80 fo:=kO gW (λ(x:fo)=>(x.Open,x.dP,x.A,x.B)) (λb=>⟨b.1,b.2.1,b.2.2.1,b.2.2.2⟩) (λb=>rfl) Tryz.underlying80 (fI gW Qj<|fI gW RG<|fI gW JS<|oN gW JS) (λb=>by simp only[Ml];omega)
theorem RI:kB Af Tryz.prog 29 (List fo):=qV (e:=80) gW RH
end Go.Gk
namespace Go.Proofs
open Go.Shelf Go.RowKit Go.Lib Go.Sort
def Tryz.lay96_ren : Go.Shelf.Ren := ⟨fun | 6 => 96 | 15 => 133 | 14 => 132 | 28 => 159 | 29 => 160 | 20 => 151 | 21 => 152 | 22 => 153 | 23 => 154 | 24 => 155 | 25 => 156 | 26 => 157 | 27 => 158 | 46 => 174 | 47 => 175 | 48 => 176 | 49 => 177 | 50 => 178 | 57 => 187 | n => n, fun | 22 => 23 | 24 => 58 | 25 => 66 | 3 => 3 | 39 => 132 | 0 => 0 | 53 => 194 | 55 => 196 | 4 => 4 | 46 => 188 | 45 => 187 | 50 => 82 | 5 => 5 | 9 => 9 | 66 => 202 | 70 => 206 | 76 => 213 | 77 => 214 | n => n, fun | n => n⟩
theorem Tryz.lay96 : Go.Proofs.SlLaysF0.n6 Tryz.prog Tryz.lay96_ren := {
  mixed := by kernel_rfl
  f6 := ⟨Tryz.f96.name, by decide, Tryz.func96.trans (congrArg some (by kernel_rfl))⟩
  f14 := ⟨Tryz.f132.name, by decide, Tryz.func132.trans (congrArg some (by kernel_rfl))⟩
  f15 := Tryz.func133.trans (congrArg some (by kernel_rfl))
  f20 := ⟨Tryz.f151.name, by decide, Tryz.func151.trans (congrArg some (by kernel_rfl))⟩
  f21 := ⟨Tryz.f152.name, by decide, Tryz.func152.trans (congrArg some (by kernel_rfl))⟩
  f22 := ⟨Tryz.f153.name, by decide, Tryz.func153.trans (congrArg some (by kernel_rfl))⟩
  f23 := ⟨Tryz.f154.name, by decide, Tryz.func154.trans (congrArg some (by kernel_rfl))⟩
  f24 := ⟨Tryz.f155.name, by decide, Tryz.func155.trans (congrArg some (by kernel_rfl))⟩
  f25 := ⟨Tryz.f156.name, by decide, Tryz.func156.trans (congrArg some (by kernel_rfl))⟩
  f26 := ⟨Tryz.f157.name, by decide, Tryz.func157.trans (congrArg some (by kernel_rfl))⟩
  f27 := ⟨Tryz.f158.name, by decide, Tryz.func158.trans (congrArg some (by kernel_rfl))⟩
  f28 := Tryz.func159.trans (congrArg some (by kernel_rfl))
  f29 := Tryz.func160.trans (congrArg some (by kernel_rfl))
  f46 := ⟨Tryz.f174.name, by decide, Tryz.func174.trans (congrArg some (by kernel_rfl))⟩
  f47 := Tryz.func175.trans (congrArg some (by kernel_rfl))
  f48 := Tryz.func176.trans (congrArg some (by kernel_rfl))
  f49 := ⟨Tryz.f177.name, by decide, Tryz.func177.trans (congrArg some (by kernel_rfl))⟩
  f50 := ⟨Tryz.f178.name, by decide, Tryz.func178.trans (congrArg some (by kernel_rfl))⟩
  f57 := ⟨Tryz.f187.name, by decide, Tryz.func187.trans (congrArg some (by kernel_rfl))⟩
  t0 := Tryz.underlying0
  a0 := Tryz.isAgg0
  z0 := Tryz.sizeOf0
  v0 := Tryz.zeroValue0
  t3 := Tryz.underlying3
  a3 := Tryz.isAgg3
  z3 := Tryz.sizeOf3
  v3 := Tryz.zeroValue3
  t4 := Tryz.underlying4
  a4 := Tryz.isAgg4
  z4 := Tryz.sizeOf4
  v4 := Tryz.zeroValue4
  t5 := Tryz.underlying5
  a5 := Tryz.isAgg5
  z5 := Tryz.sizeOf5
  v5 := Tryz.zeroValue5
  t9 := Tryz.underlying9
  a9 := Tryz.isAgg9
  z9 := Tryz.sizeOf9
  v9 := Tryz.zeroValue9
  t22 := Tryz.underlying23
  a22 := Tryz.isAgg23
  z22 := Tryz.sizeOf23
  v22 := Tryz.zeroValue23
  t25 := Tryz.underlying66
  a25 := Tryz.isAgg66
  z25 := Tryz.sizeOf66
  v25 := Tryz.zeroValue66
  t39 := Tryz.underlying132
  a39 := Tryz.isAgg132
  z39 := Tryz.sizeOf132
  v39 := Tryz.zeroValue132
  t45 := Tryz.underlying187
  a45 := Tryz.isAgg187
  z45 := Tryz.sizeOf187
  v45 := Tryz.zeroValue187
  t46 := Tryz.underlying188
  a46 := Tryz.isAgg188
  z46 := Tryz.sizeOf188
  v46 := Tryz.zeroValue188
  t50 := Tryz.underlying82
  a50 := Tryz.isAgg82
  z50 := Tryz.sizeOf82
  v50 := Tryz.zeroValue82
  t53 := Tryz.underlying194
  a53 := Tryz.isAgg194
  z53 := Tryz.sizeOf194
  v53 := Tryz.zeroValue194
  t55 := Tryz.underlying196
  a55 := Tryz.isAgg196
  z55 := Tryz.sizeOf196
  v55 := Tryz.zeroValue196
  t66 := Tryz.underlying202
  a66 := Tryz.isAgg202
  z66 := Tryz.sizeOf202
  v66 := Tryz.zeroValue202
  t70 := Tryz.underlying206
  a70 := Tryz.isAgg206
  z70 := Tryz.sizeOf206
  v70 := Tryz.zeroValue206
  t76 := Tryz.underlying213
  a76 := Tryz.isAgg213
  z76 := Tryz.sizeOf213
  v76 := Tryz.zeroValue213
  t77 := Tryz.underlying214
  a77 := Tryz.isAgg214
  z77 := Tryz.sizeOf214
  v77 := Tryz.zeroValue214 }
def Tryz.lay98_ren : Go.Shelf.Ren := ⟨fun | 5 => 98 | 8 => 133 | 7 => 134 | 19 => 159 | 20 => 160 | 10 => 161 | 11 => 162 | 12 => 163 | 13 => 164 | 14 => 165 | 15 => 166 | 16 => 167 | 17 => 168 | 18 => 169 | 30 => 179 | 31 => 175 | 32 => 176 | 33 => 180 | 34 => 181 | 35 => 182 | 40 => 188 | n => n, fun | 23 => 44 | 25 => 3 | 3 => 3 | 32 => 132 | 22 => 44 | 0 => 0 | 44 => 194 | 46 => 196 | 4 => 4 | 36 => 188 | 35 => 187 | 41 => 82 | 5 => 5 | 9 => 9 | 53 => 202 | 57 => 206 | 63 => 213 | 64 => 214 | n => n, fun | n => n⟩
theorem Tryz.lay98 : Go.Proofs.SlLaysM.n5 Tryz.prog Tryz.lay98_ren := {
  mixed := by kernel_rfl
  f5 := ⟨Tryz.f98.name, by decide, Tryz.func98.trans (congrArg some (by kernel_rfl))⟩
  f7 := ⟨Tryz.f134.name, by decide, Tryz.func134.trans (congrArg some (by kernel_rfl))⟩
  f8 := Tryz.func133.trans (congrArg some (by kernel_rfl))
  f10 := ⟨Tryz.f161.name, by decide, Tryz.func161.trans (congrArg some (by kernel_rfl))⟩
  f11 := ⟨Tryz.f162.name, by decide, Tryz.func162.trans (congrArg some (by kernel_rfl))⟩
  f12 := ⟨Tryz.f163.name, by decide, Tryz.func163.trans (congrArg some (by kernel_rfl))⟩
  f13 := ⟨Tryz.f164.name, by decide, Tryz.func164.trans (congrArg some (by kernel_rfl))⟩
  f14 := ⟨Tryz.f165.name, by decide, Tryz.func165.trans (congrArg some (by kernel_rfl))⟩
  f15 := ⟨Tryz.f166.name, by decide, Tryz.func166.trans (congrArg some (by kernel_rfl))⟩
  f16 := ⟨Tryz.f167.name, by decide, Tryz.func167.trans (congrArg some (by kernel_rfl))⟩
  f17 := ⟨Tryz.f168.name, by decide, Tryz.func168.trans (congrArg some (by kernel_rfl))⟩
  f18 := ⟨Tryz.f169.name, by decide, Tryz.func169.trans (congrArg some (by kernel_rfl))⟩
  f19 := Tryz.func159.trans (congrArg some (by kernel_rfl))
  f20 := Tryz.func160.trans (congrArg some (by kernel_rfl))
  f30 := ⟨Tryz.f179.name, by decide, Tryz.func179.trans (congrArg some (by kernel_rfl))⟩
  f31 := Tryz.func175.trans (congrArg some (by kernel_rfl))
  f32 := Tryz.func176.trans (congrArg some (by kernel_rfl))
  f33 := ⟨Tryz.f180.name, by decide, Tryz.func180.trans (congrArg some (by kernel_rfl))⟩
  f34 := ⟨Tryz.f181.name, by decide, Tryz.func181.trans (congrArg some (by kernel_rfl))⟩
  f35 := ⟨Tryz.f182.name, by decide, Tryz.func182.trans (congrArg some (by kernel_rfl))⟩
  f40 := ⟨Tryz.f188.name, by decide, Tryz.func188.trans (congrArg some (by kernel_rfl))⟩
  t0 := Tryz.underlying0
  a0 := Tryz.isAgg0
  z0 := Tryz.sizeOf0
  v0 := Tryz.zeroValue0
  t3 := Tryz.underlying3
  a3 := Tryz.isAgg3
  z3 := Tryz.sizeOf3
  v3 := Tryz.zeroValue3
  t4 := Tryz.underlying4
  a4 := Tryz.isAgg4
  z4 := Tryz.sizeOf4
  v4 := Tryz.zeroValue4
  t5 := Tryz.underlying5
  a5 := Tryz.isAgg5
  z5 := Tryz.sizeOf5
  v5 := Tryz.zeroValue5
  t9 := Tryz.underlying9
  a9 := Tryz.isAgg9
  z9 := Tryz.sizeOf9
  v9 := Tryz.zeroValue9
  t22 := Tryz.underlying44
  a22 := Tryz.isAgg44
  z22 := Tryz.sizeOf44
  v22 := Tryz.zeroValue44
  t23 := Tryz.underlying44
  a23 := Tryz.isAgg44
  z23 := Tryz.sizeOf44
  v23 := Tryz.zeroValue44
  t25 := Tryz.underlying3
  a25 := Tryz.isAgg3
  z25 := Tryz.sizeOf3
  v25 := Tryz.zeroValue3
  t32 := Tryz.underlying132
  a32 := Tryz.isAgg132
  z32 := Tryz.sizeOf132
  v32 := Tryz.zeroValue132
  t35 := Tryz.underlying187
  a35 := Tryz.isAgg187
  z35 := Tryz.sizeOf187
  v35 := Tryz.zeroValue187
  t36 := Tryz.underlying188
  a36 := Tryz.isAgg188
  z36 := Tryz.sizeOf188
  v36 := Tryz.zeroValue188
  t41 := Tryz.underlying82
  a41 := Tryz.isAgg82
  z41 := Tryz.sizeOf82
  v41 := Tryz.zeroValue82
  t44 := Tryz.underlying194
  a44 := Tryz.isAgg194
  z44 := Tryz.sizeOf194
  v44 := Tryz.zeroValue194
  t46 := Tryz.underlying196
  a46 := Tryz.isAgg196
  z46 := Tryz.sizeOf196
  v46 := Tryz.zeroValue196
  t53 := Tryz.underlying202
  a53 := Tryz.isAgg202
  z53 := Tryz.sizeOf202
  v53 := Tryz.zeroValue202
  t57 := Tryz.underlying206
  a57 := Tryz.isAgg206
  z57 := Tryz.sizeOf206
  v57 := Tryz.zeroValue206
  t63 := Tryz.underlying213
  a63 := Tryz.isAgg213
  z63 := Tryz.sizeOf213
  v63 := Tryz.zeroValue213
  t64 := Tryz.underlying214
  a64 := Tryz.isAgg214
  z64 := Tryz.sizeOf214
  v64 := Tryz.zeroValue214 }
end Go.Proofs
namespace Go.Gk
open Go IntKind Go.Proofs
variable (N:Nat){E w:World}{i0 i1 i2:Nat}{p0 p1 p2 res:Int}{v0 v1 v2:Value}{V:List HP}
theorem Ce{res:Bool}(o:Holds E w V)(j:vS N p0 p1 p2=some res):c_ 141 [vi p0,vi p1,vi p2] w<|aX E V res:=by
 unfold vS at j;refine enter Tryz.func141 zr zr<|w_<|bY false<|OF<|aY p0<|aY p1<|ic p0 p1<|fC (decide<|p0>=p1)<|BY true (decide<|p0>=p1) (vi p0) zr zr zr cG ?_;refine BY true (decide<|p0>=p1) (vi p2) rfl rfl rfl cG<|BY true (decide<|p0>=p1) (vb<|decide<|p0<=p2) rfl rfl rfl (dB .leq .i64 p0 p2 rfl (by exact z_ (vi p0)) (by exact z_ (vi p2)) rfl)<|SQ (decide<|p0>=p1) (vb<|decide (p0>=p1)&&decide (p0<=p2)) (fR true)<|bY (decide (p0>=p1)&&decide (p0<=p2))<|AI<|Ss ?_;exact oi j▸bV ⟨rfl,o.drop 0⟩
theorem nr{res:Bool}(o:Holds E w V)(j:mG N p0=some res):c_ 109 [vi p0] w<|aX E V res:=by
 unfold mG at j;exact enter Tryz.func109 zr zr<|w_<|bY false<|OF<|aY p0<|q_ j λaa ab j=>So (gU Tryz.func141) (Ce N (p0:=p0) (p1:=(-1000000)) (p2:=1000000) o ab) λw o=>bY aa<|AI<|Ss<|oi j▸bV ⟨rfl,o.drop 0⟩
theorem wJ{p0:aI}{res:Bool}(j:Holds E w V)(h0:V[i0]? =some (rd v0 p0))(hb:oE N p0=some res):c_ 94 [v0] w<|aX E V res:=by
 unfold oE at hb;refine enter Tryz.func94 zr zr ?_;have j:=j.dup (i0+0) h0;refine w_<|SK 0 v0 j zr λaq w j=>?_;refine bY false<|Sm<|q_ hb λaf o hb=>Sw (λ(af:Bool)=>SH E V [(2,vb af)] []) af ?_ ?_;refine IS<|AT zr iZ<|Sj 0 j zr eD cF<|q_ o λaj ak o=>So EE (nr N (p0:=p0.X0) j ak) λw j=>fC aj<|eH o (λaa o=>?_) λaa o=>?_;refine AT zr iQ<|Sj 0 j zr dT cF<|q_ o λag al o=>So EE (nr N (p0:=p0.Y0) j al) λw j=>eE aa (vb ag)<|fC ag<|eH o (λab o=>?_) λab o=>?_;refine AT zr jX<|Sj 0 j zr eX cF<|q_ o λah an o=>So EE (nr N (p0:=p0.X1) j an) λw j=>eE ab (vb ah)<|fC ah<|eH o (λad o=>?_) λad o=>?_;exact AT zr lC<|Sj 0 j zr gm cF<|q_ o λai ao o=>So EE (nr N (p0:=p0.Y1) j ao) λw j=>eE ad (vb ai)<|bY ai<|By<|oi o▸⟨rfl,j.sp 2 []⟩;exact aV ad<|aV ad<|aV ad<|eE ad (vb false)<|bY false<|By<|oi o▸⟨rfl,j.sp 2 []⟩;refine aV ab<|aV ab<|aV ab<|eE ab (vb false)<|fC false<|ke<|ke<|ke<|SQ false (vb false) zr<|bY false<|By ?_;exact oi o▸⟨rfl,j.sp 2 []⟩;refine aV aa<|aV aa<|aV aa<|eE aa (vb false)<|fC false<|ke<|ke<|ke<|SQ false (vb false) zr<|fC false<|ke<|ke<|ke<|SQ false (vb false) zr<|bY false<|By ?_;exact oi o▸⟨rfl,j.sp 2 []⟩;rintro _ w⟨O,rfl,j⟩;exact aF<|Ss<|oi hb▸bV ⟨rfl,j.drop 0⟩
theorem yv{p0:List aI}(o:Holds E w V)(h0:V[i0]? =some (rd v0 p0))(hb:mf N p0=some res):c_ 59 [v0] w<|aS E V res:=by
 unfold mf at hb;refine enter Tryz.func59 zr zr ?_;have o:=o.dup (i0+0) h0;refine w_<|aN 0<|Sm<|w_<|mv v0<|Sp 0 p0 o oY<|ic ((p0.length:Int)) 2000<|AI<|dC hb (λhb=>?_) λhb=>?_;exact w_<|aN 2<|AI<|SI<|oi hb▸bV ⟨rfl,o.drop 1⟩;refine Sz<|w_<|mv v0<|Sp 0 p0 o oY<|aY 0<|AI<|Tz E V (λ(ae:Unit)=>[rd v0 p0]) (λ_=>[]) (λad _=>[(8,v0),(9,vi p0.length),(10,vi ad)]) (λr=>l3 bO 30 Tryz.f59 (aS E V r) .ret) hb ?_ ?_ ?_ ?_;exact o.sp 1 [0];rintro hm ad ae fl _ w hk⟨O,rfl,o⟩hb;refine IN<|SO<|q_ hb λj ah hb=>Sk 0 o jO ah λan o=>Sv 0 j o ju λao o=>S6 o qz.z λab w o=>?_;refine S3 0 o 1 zr ju λw o=>?_;refine Sm<|w_<|SY 0 o zr ju λaq o=>?_;refine q_ hb λai aj hb=>So ON (wJ N (i0:=0) o zr aj) λw o=>SW ai<|AI<|dC hb (λhb=>?_) λhb=>?_;exact w_<|aN 1<|AI<|SI<|jQ<|bH<|oi hb▸⟨rfl,bV ⟨rfl,o.drop 5⟩⟩;refine Tg<|AT rfl jX<|Sj 1 o rfl eX cF<|AT rfl iZ<|Sj 1 o rfl eD cF<|ic j.X1 j.X0<|fC (decide<|j.X1<=j.X0)<|BY true (decide<|j.X1<=j.X0) (vp ab 3) rfl rfl rfl (dE lC)<|BY true (decide<|j.X1<=j.X0) (vi j.Y1) rfl rfl rfl (bW 1 rfl o (by exact z_ (vp ab 3)) rfl gm cF) ?_;refine BY true (decide<|j.X1<=j.X0) (vp ab 1) rfl rfl rfl (dE iQ)<|BY true (decide<|j.X1<=j.X0) (vi j.Y0) rfl rfl rfl (bW 1 rfl o (by exact z_ (vp ab 1)) rfl dT cF)<|BY true (decide<|j.X1<=j.X0) (vb<|decide<|j.Y1<=j.Y0) rfl rfl rfl (dB .leq .i64 j.Y1 j.Y0 rfl (by exact z_ (vi j.Y1)) (by exact z_ (vi j.Y0)) rfl)<|SQ (decide<|j.X1<=j.X0) (vb<|decide (j.X1<=j.X0)||decide (j.Y1<=j.Y0)) (mT true)<|AI<|dC hb (λhb=>?_) λhb=>?_;exact w_<|aN 13<|AI<|S7<|bH<|oi hb▸⟨rfl,bV ⟨rfl,o.drop 5⟩⟩;exact SR<|bN<|aF<|IS<|Ta hk hm<|aY ((ad+1:Nat):Int)<|By<|oi hb▸⟨rfl,o.sp 5 [4]⟩;intro r U w hb hK;exact bH<|oi hb▸hK;rintro ae _ w hb⟨O,rfl,o⟩;exact aF<|w_<|aN 0<|AI<|Ss<|oi hb▸bV ⟨rfl,o.drop 1⟩
theorem xt{p0:List aI}{res:List aI}(j:Holds E w V)(h0:V[i0]? =some (rd v0 p0))(o:ku N p0=some res):
    c_ 95 [v0] w<|gH E V res:=by
 unfold ku at o
 refine enter Tryz.func95 zr zr ?_
 have j:=j.dup (i0+0) h0
 refine w_<|dV n_<|Sm<|w_<|mv v0<|U2 (i:=0) zt zr j zr zr zr oY<|AI<|T7 (b:=LY v0) zr (λhc=>?_)<|λhc=>?_
 ·have hx:=j.Qp (i:=0) rfl hc
  rw[hx]at o
  replace o:some ([]:List aI)=_:=o
  refine w_<|dV n_<|AI<|SI ?_
  obtain rfl:=oi o
  have j:=j.dD aI 58
  exact bV<|j.pk 2 [0]
 refine Tg<|S4 ([]:List aI) j [] jO qz (λM hs g=>zt) λae w j=>mv v0 ?_
 obtain⟨af,ab,o⟩:=bd o
 refine S8 0 1 j CT ab λad w j=>?_
 refine dV ad<|AI<|Ss ?_
 obtain rfl:=oi o
 exact bV<|j.pk 2 [0]
theorem Ag{p0 p1:aI}(j:Holds E w V)(h0:V[i0]? =some (rd v0 p0))(h1:V[i1]? =some (rd v1 p1))(o:k9 N p0 p1=some res):c_ 97 [v0,v1] w<|aS E V res:=by
 unfold k9 at o;refine enter Tryz.func97 zr zr ?_;have j:=(j.dup (i0+0) h0).dup (i1+1) h1;refine w_<|SK 1 v0 j zr λaa w j=>?_;refine SK 1 v1 j zr λab w j=>?_;refine aN 0<|OF<|AT zr iQ<|Sj 1 j zr dT cF<|AT zr iQ<|Sj 0 j zr dT cF<|Sn p0.Y0 p1.Y0<|aN (wrap .i64<|p0.Y0 - p1.Y0)<|AI ?_;exact Ss<|oi o▸bV ⟨rfl,j.drop 4⟩
theorem wR{p0:List Int}{res:List Int}(j:Holds E w (own 3 v0 p0::V))(o:iW N p0=some res):c_ 99 [v0] w<|n0 E V res:=by
 unfold iW at o;refine enter Tryz.func99 zr zr<|w_<|dV n_<|Sm<|w_<|mv v0<|Tj 0 p0 j mq<|ic ((p0.length:Int)) 2<|AI<|dC o (λo=>?_) λo=>?_;refine w_<|mv v0<|dV v0<|AI<|SI ?_;obtain rfl:=oi o;exact bV<|j.pk 1 [0];refine Sz<|w_<|aN 1<|AI<|Tq E V (λ(ab:Int)=>[own 3 v0 p0]) (λ_=>[(0,v0)]) (λab=>[(3,vi ab)]) (λr=>l3 bO 61 Tryz.f99 (n0 E V r) .ret) o ?_ ?_ ?_ ?_;exact j.sp 1 [0];rintro ab fl _ w⟨O,rfl,j⟩o;refine IN<|w_<|aY ab<|mv v0<|Tj 0 p0 j mq<|ic ab ((p0.length:Int))<|AI<|dC o (λo=>?_) λo=>?_;refine Sz<|S5<|IN<|Tl mixed ?_;have j:=j.drew;refine Tk<|mv v0<|AS<|aY ab<|AS<|q_ o λaq aj o=>SD 0 j zr zr dQ aj<|AS<|Th 0 j aj cF<|AS<|mv v0<|AS<|aY ab<|AS<|Sn ab 1 ?_;refine AS<|q_ o λar ak o=>SD 0 j zr zr dQ ak<|AS<|Th 0 j ak cF<|AS<|ic aq ar<|Te<|aF<|dC o (λo=>?_) λo=>?_;refine w_<|mv v0<|aY ab<|q_ o λa0 ae o=>Ur 0 ab zr j zr zr dQ ae<|dV (vw v0 (Int.toNat ab) 1)<|Sm<|w_<|aN 1<|AI<|TA E V (λ(aa:List Int×Int×Int)=>[own 3 v0 aa.1]) (λaa=>[(0,v0),(3,vi aa.2.1)]) (λaa=>[(4,vw v0 (Int.toNat ab) 1),(5,vi aa.2.2)]) o ?_ ?_ ?_;exact j.sp 1 [0];rintro aa fl _ w⟨O,rfl,j⟩o;refine IN<|w_<|aY aa.2.2<|mv (vw v0 (Int.toNat ab) 1)<|U3 (i:=0) (l:=aa.1) zt zr j zr zr mq<|ic aa.2.2 ((((aa.1.length - Int.toNat ab):Nat):Int))<|AI<|dC o (λo=>?_) λo=>?_;refine Sz<|S5<|IN<|Tl mixed ?_;have j:=j.drew;refine Tk<|mv (vw v0 (Int.toNat ab) 1)<|AS<|aY aa.2.2<|AS<|q_ o λau af o=>Us 0 ab zr j zr zr zr dQ (HR ae) (lF af).1 (lF af).2<|AS<|TE (f:=(λx=>x)) 0 zt j (rk 0 j (lF af).2 0) (fO (lF af).2).2.1 Fd.self cF<|AS<|mv (vw v0 (Int.toNat ab) 1)<|AS<|aY aa.2.2<|AS<|Sn aa.2.2 1 ?_;refine AS<|q_ o λav ag o=>Us 0 ab zr j zr zr zr dQ (HR ae) (lF ag).1 (lF ag).2<|AS<|TE (f:=(λx=>x)) 0 zt j (rk 0 j (lF ag).2 0) (fO (lF ag).2).2.1 Fd.self cF<|AS<|ic au av<|Te<|aF<|q_ o λah hj o=>Sw (λ(ah:List Int×Int)=>SH E V [(0,v0),(3,vi ah.2),(4,vw v0 (Int.toNat ab) 1),(5,vi aa.2.2)] [own 3 v0 ah.1]) ah ?_ ?_;refine dC hj (λhj=>?_) λhj=>?_;refine w_<|mv v0<|aY aa.2.1<|mv (vw v0 (Int.toNat ab) 1)<|aY aa.2.2<|q_ hj λaw ai hj=>Us 0 ab zr j zr zr zr dQ (HR ae) (lF ai).1 (lF ai).2<|TE (f:=(λx=>x)) 0 zt j (rk 0 j (lF ai).2 0) (fO (lF ai).2).2.1 Fd.self cF<|q_ hj λa1 al hj=>SD 0 j zr zr dQ al ?_;have j:=j.sc Int aw;refine Tr 1 0 j al cF λw j=>?_;refine AI<|IS<|aY aa.2.1<|Sn aa.2.1 1<|aN (wrap .i64<|aa.2.1+1)<|By ?_;exact oi hj▸⟨rfl,j.sp 2 [1]⟩;exact SR<|oi hj▸⟨rfl,j.sp 1 [0]⟩;rintro _ w⟨O,rfl,j⟩;refine bN<|aF<|IS<|aY aa.2.2<|Sn aa.2.2 1<|aN (wrap .i64<|aa.2.2+1)<|By ?_;exact oi o▸⟨rfl,j.sp 1 [0]⟩;exact SL<|oi o▸⟨rfl,j.sp 1 [0]⟩;rintro aa _ w o⟨O,rfl,j⟩;refine aF<|w_<|mv v0<|aY aa.2.1<|q_ o λa2 an o=>Ur 0 aa.2.1 zr j zr zr dQ an<|UK 0 zt j zr zr rq NK (Kw an) λw j=>OF<|mv v0<|aY aa.2.1<|q_ o λa3 ax o=>Uq 0 zr j zr zr dQ (.inr ⟨rfl,zr⟩) ax λay j=>dV ay<|AI<|S7<|bH ?_;obtain rfl:=oi o;exact⟨rfl,bV<|j.pk 1 [0]⟩;refine SR<|bN<|aF<|IS<|aY ab<|Sn ab 1<|aN (wrap .i64<|ab+1)<|By ?_;exact oi o▸⟨rfl,j.sp 1 [0]⟩;exact SL<|oi o▸⟨rfl,j.sp 1 [0]⟩;intro r U w o hK;exact bH<|oi o▸hK;rintro ab _ w o⟨O,rfl,j⟩;refine aF<|w_<|mv v0<|dV v0<|AI<|Ss ?_;obtain rfl:=oi o;exact bV<|j.pk 1 [0]
theorem Ah{p0:aI}{p1:List Int}{res:Bool}(j:Holds E w V)(h0:V[i0]? =some (rd v0 p0))(h1:V[i1]? =some (pt v1 p1))(h2:V[i2]? =some (pt v2 p2))(o:qp N p0 p1 p2=some res):c_ 101 [v0,v1,v2] w<|aX E V res:=by
 unfold qp at o;refine enter Tryz.func101 zr zr ?_;have j:=((j.dup (i0+0) h0).CD (i:=i1+1) h1).CD (i:=i2+2) h2;refine w_<|SK 2 v0 j zr λad w j=>?_;refine bY false<|Sm<|Tl mixed ?_;have j:=j.drew;refine Tk<|AT zr lC<|AS<|Sj 0 j zr gm cF<|AS<|Sv 2 p1 j gh λae j=>AS<|SA p2 2 j cF<|AS<|q_ o λaa ab o=>Sk 0 j dQ ab λaf j=>AS<|SA aa 0 j cF<|AS<|ic p0.Y1 aa<|AS<|bY (decide<|p0.Y1<=aa)<|Te<|aF ?_;exact Ss<|oi o▸bV ⟨rfl,j.drop 6⟩
theorem uF{p0:List aI}{p1:aI->Option Bool}(o:Holds E w V)(h0:V[i0]? =some (rd v0 p0))(h1:LF bO E V v1 p1 (λ(r:Bool)=>Value.bool r))(j:ny N p0 p1=some res):c_ 113 [v0,v1] w<|aS E V res:=by
 unfold ny at j;refine enter Tryz.func113 zr zr ?_;have o:=o.dup (i0+0) h0;refine w_<|aN 0<|Sm<|w_<|mv v0<|Sp 0 p0 o oY<|aY 0<|AI<|Tz E V (λ(ab:Unit)=>[rd v0 p0]) (λ_=>[]) (λaa _=>[(0,v0),(1,v1),(7,vi p0.length),(8,vi aa)]) (λr=>l3 bO 19 Tryz.f113 (aS E V r) .ret) j ?_ ?_ ?_ ?_;exact o.sp 1 [0];rintro hm aa ab fl _ w hk⟨O,rfl,o⟩j;refine IN<|SO<|aY (aa:Int)<|aN (aa:Int)<|OF<|mv v1<|mv v0<|aY (aa:Int)<|q_ j λaf ag j=>Sk 0 o jO ag λak o=>Sv 0 af o ju λal o=>?_;refine q_ j λan ah j=>Ub 0 zr o zr h1 3 zr zr zr ah λw o=>AI<|dC j (λj=>?_) λj=>?_;exact w_<|aY (aa:Int)<|aN (aa:Int)<|AI<|S7<|bH<|oi j▸⟨rfl,bV ⟨rfl,o.drop 3⟩⟩;exact SR<|bN<|aF<|IS<|Ta hk hm<|aY ((aa+1:Nat):Int)<|By<|oi j▸⟨rfl,o.sp 3 [2]⟩;intro r U w j hK;exact bH<|oi j▸hK;rintro ab _ w j⟨O,rfl,o⟩;exact aF<|w_<|aN (-1)<|AI<|Ss<|oi j▸bV ⟨rfl,o.drop 1⟩
def n7(E:World)(V:List HP)(v0:Value)(p0:List aI)(res:Int)(v:Value)(w:World):Prop:=v= vi res/\Holds E w ([own 58 v0 p0]++V)
theorem sE{p0:List aI}{p1:aI->Option Bool}(o:Holds E w (own 58 v0 p0::V))(h1:LF bO E V v1 p1 (λ(r:Bool)=>Value.bool r))(j:l4 N p0 p1=some res):c_ 113 [v0,v1] w<|n7 E V v0 p0 res:=by
 unfold l4 at j;refine enter Tryz.func113 zr zr<|w_<|aN 0<|Sm<|w_<|mv v0<|Tj 0 p0 o oY<|aY 0<|AI<|Tz E V (λ(ab:Unit)=>[own 58 v0 p0]) (λ_=>[(0,v0)]) (λaa _=>[(1,v1),(7,vi p0.length),(8,vi aa)]) (λr=>l3 bO 19 Tryz.f113 (n7 E V v0 p0 r) .ret) j ?_ ?_ ?_ ?_;exact o.sp 1 [0];rintro hm aa ab fl _ w hk⟨O,rfl,o⟩j;refine IN<|SO<|aY (aa:Int)<|aN (aa:Int)<|OF<|mv v1<|mv v0<|aY (aa:Int)<|q_ j λaj ad j=>SD 0 o zr zr jO ad<|TL 0 o ad ju λak o=>?_;refine q_ j λal ag j=>Ub 0 zr o zr h1 2 zr zr zr ag λw o=>AI<|dC j (λj=>?_) λj=>?_;exact w_<|aY (aa:Int)<|aN (aa:Int)<|AI<|S7<|bH<|oi j▸⟨rfl,bV ⟨rfl,o.pk 2 [1]⟩⟩;exact SR<|bN<|aF<|IS<|Ta hk hm<|aY ((aa+1:Nat):Int)<|By<|oi j▸⟨rfl,o.sp 2 [1]⟩;intro r U w j hK;exact bH<|oi j▸hK;rintro ab _ w j⟨O,rfl,o⟩;exact aF<|w_<|aN (-1)<|AI<|Ss<|oi j▸bV ⟨rfl,o.pk 1 [0]⟩
theorem tQ{p0:List aI}{p1:aI->Option Bool}{res:List aI}(j:Holds E w (own 58 v0 p0::V))(h1:LF bO E V v1 p1 (λ(r:Bool)=>Value.bool r))(o:jB N p0 p1=some res):c_ 100 [v0,v1] w<|gH E V res:=by
 unfold jB at o;refine enter Tryz.func100 zr zr<|w_<|dV n_<|OF<|mv v0<|mv v1 ?_;have j:=j.pull 0;refine q_ o λad ai o=>So ML (sE N j (h1.lift 1 zr) ai) λw j=>aN ad<|Sm<|w_<|aY ad<|ic ad ((-1))<|AI<|dC o (λo=>?_) λo=>?_;refine w_<|mv v0<|dV v0<|AI<|SI ?_;obtain rfl:=oi o;exact bV<|j.pk 2 [0];refine Sz<|w_<|aY ad<|Sn ad 1<|aN (wrap .i64<|ad+1)<|AI<|TA E V (λ(aa:List aI×Int×Int)=>[own 58 v0 aa.1]) (λaa=>[(0,v0),(5,vi aa.2.1)]) (λaa=>[(1,v1),(6,vi aa.2.2)]) o ?_ ?_ ?_;exact j.sp 2 [0];rintro aa fl _ w⟨O,rfl,j⟩o;refine IN<|w_<|aY aa.2.2<|mv v0<|Tj 0 aa.1 j oY<|ic aa.2.2 ((aa.1.length:Int))<|AI<|dC o (λo=>?_) λo=>?_;refine Sz<|SO<|mv v0<|aY aa.2.2<|q_ o λaq af o=>SD 0 j zr zr jO af<|TL 0 j af ju λar j=>?_;refine S6 j qz.z λau w j=>?_;refine S3 0 j 1 zr ju λw j=>?_;refine OF<|mv v1<|SY 0 j zr ju λav j=>?_;refine q_ o λaj ak o=>Ub 0 zr j zr h1 4 zr zr zr ak λw j=>SW aj<|AI<|q_ o λae hj o=>Sw (λ(ae:List aI×Int)=>SH E V [(0,v0),(1,v1),(5,vi ae.2),(6,vi aa.2.2)] [own 58 v0 ae.1]) ae ?_ ?_;refine dC hj (λhj=>?_) λhj=>?_;refine w_<|mv v0<|aY aa.2.1<|SY 1 j zr ju λaw j=>?_;refine q_ hj λax ag hj=>SD 4 j zr zr jO ag<|Tr 4 0 j ag ju λw j=>?_;refine AI<|IS<|aY aa.2.1<|Sn aa.2.1 1<|aN (wrap .i64<|aa.2.1+1)<|By ?_;exact oi hj▸⟨rfl,j.sp 5 [4]⟩;exact SR<|oi hj▸⟨rfl,j.sp 4 [3]⟩;rintro _ w⟨O,rfl,j⟩;refine bN<|aF<|IS<|aY aa.2.2<|Sn aa.2.2 1<|aN (wrap .i64<|aa.2.2+1)<|By ?_;exact oi o▸⟨rfl,j.sp 1 [0]⟩;exact SL<|oi o▸⟨rfl,j.sp 1 [0]⟩;rintro aa _ w o⟨O,rfl,j⟩;refine aF<|w_<|mv v0<|aY aa.2.1<|q_ o λay ah o=>Ur 0 aa.2.1 zr j zr zr jO ah<|UK 0 zt j zr zr CT Qy (Kw ah) λw j=>OF<|mv v0<|aY aa.2.1<|q_ o λaz al o=>Uq 0 zr j zr zr jO (.inr ⟨rfl,zr⟩) al λan j=>dV an<|AI<|Ss ?_;obtain rfl:=oi o;exact bV<|j.pk 1 [0]
theorem wS{p0 p1:aI}(j:Holds E w V)(h0:V[i0]? =some (rd v0 p0))(h1:V[i1]? =some (rd v1 p1))(o:iX N p0 p1=some res):c_ 136 [v0,v1] w<|aS E V res:=by
 unfold iX at o;refine enter Tryz.func136 zr zr ?_;have j:=(j.dup (i0+0) h0).dup (i1+1) h1;refine w_<|SK 1 v0 j zr λaa w j=>?_;refine SK 1 v1 j zr λab w j=>?_;refine aN 0<|OF<|AT zr iZ<|Sj 1 j zr eD cF<|AT zr iZ<|Sj 0 j zr eD cF<|Sn p0.X0 p1.X0<|aN (wrap .i64<|p0.X0 - p1.X0)<|AI ?_;exact Ss<|oi o▸bV ⟨rfl,j.drop 4⟩
def Ai(E:World)(V:List HP)(v0:Value)(res:List Int×List aI)(v:Value)(w:World):Prop:=Holds E w<|[own 3 v res.1,own 58 v0 res.2]++V
theorem zh{p0:List aI}{res:List Int×List aI}(j:Holds E w (own 58 v0 p0::V))(hb:kG N p0=some res):c_ 103 [v0] w<|Ai E V v0 res:=by
 unfold kG at hb;refine enter Tryz.func103 zr zr<|w_<|dV n_<|OF<|mv v0 ?_;obtain⟨ag,az,hb⟩:=bd hb;have j:=j.pull 0;refine So OO (I3 Tryz.lay96 aI zr ju.LM ju.sz (gU Tryz.func136) (λj hi o hr=>wS N j hi o hr) j az) λw j=>OF<|dV n_<|Sm<|w_<|mv v0<|Tj 0 ag j oY<|aY 0<|AI ?_;have j:=j.dD Int 3;refine TD E V (λ(ad:List Int)(aj:Value)=>[own 58 v0 ag,own 3 aj ad]) (λ_ aj=>[(0,v0),(3,aj)]) (λah _ _=>[(9,v0),(10,vi ag.length),(11,vi ah)]) hb ?_ ?_ ?_;exact⟨n_,j.sp 3 [1,0]⟩;rintro hm ah ad s' _ w hk⟨af,O,rfl,j⟩hb;refine IN<|SO<|q_ hb λae ao hb=>SD 0 j zr zr jO ao<|TL 0 j ao ju λa3 j=>?_;refine S6 j qz.z λaq w j=>?_;refine S3 0 j 1 zr ju λw j=>?_;refine OF<|mv af<|Tj 3 ad j mq<|Sn (ad.length:Int) 1<|aN (wrap .i64<|(ad.length:Int) - 1)<|Sm<|q_ hb λak o hb=>Sw (λ(ak:Bool)=>SH E V [(0,v0),(3,af),(5,vp aq 0),(6,vi<|wrap .i64<|(ad.length:Int) - 1),(9,v0),(10,vi ag.length),(11,vi ah),(28,vb ak)] [own 58 v0 ag,own 3 af ad,bx 58 aq ae]) ak ?_ ?_;refine Tl mixed ?_;have j:=j.drew;refine Tk<|aY (wrap .i64<|(ad.length:Int) - 1)<|AS<|ic (wrap .i64<|(ad.length:Int) - 1) 0<|AS<|fC (decide<|wrap .i64 ((ad.length:Int) - 1)>=0)<|eH o (λaa o=>?_) λaa o=>?_;refine AS<|AT zr iZ<|AS<|Sj 0 j zr eD cF<|AS<|Si af (cg aa)<|AS<|Si (vi<|wrap .i64<|(ad.length:Int) - 1) (cg aa)<|AS ?_;refine q_ o λar au o=>SD 3 j zr zr dQ au<|AS<|Th 3 j au cF<|AS<|Tc ae.X0 ar (cg aa)<|AS<|eE aa (vb<|decide<|ae.X0<=ar)<|Te ?_;exact oi o▸⟨rfl,j.sp 4 [2,3,0]⟩;refine AS<|aV aa<|AS<|aV aa<|AS<|aV aa<|AS<|aV aa<|AS<|aV aa<|AS<|aV aa<|AS<|aV aa<|AS<|eE aa (vb false)<|Te ?_;exact oi o▸⟨rfl,j.sp 4 [2,3,0]⟩;rintro _ w⟨O,rfl,j⟩;refine aF<|q_ hb λal o hb=>Sw (λ(al:List Int)U w=>∃ai:Value,SH E V [(0,v0),(3,ai),(9,v0),(10,vi ag.length),(11,vi ah)] [own 58 v0 ag,own 3 ai al] U w) al ?_ ?_;refine dC o (λo=>?_) λo=>?_;refine S9 mixed [0,0,0,0,0,0,0,0,0,0,2] [0,1,2,3,4,5,6,7,8,9,10] ?_;have j:=j.drew;refine Sq zr<|mv af<|aR zr<|aY (wrap .i64<|(ad.length:Int) - 1)<|aR zr<|mv af<|aR zr<|aY (wrap .i64<|(ad.length:Int) - 1)<|aR zr ?_;refine q_ o λan aw o=>SD 1 j zr zr dQ aw<|aR zr<|Th 1 j aw cF<|aR zr<|AT zr jX<|aR zr<|Sj 2 j zr eX cF<|aR zr<|TK an ae.X1<|aR zr ?_;refine q_ o λa6 ax o=>SD 1 j zr zr dQ ax<|mW zr ?_;have j:=j.sc Int (if an<ae.X1 then ae.X1 else an);refine Tr 2 0 j ax cF λw j=>?_;exact SM zt<|SG<|oi o▸⟨rfl,af,j.sp 4 [1,2]⟩;refine IS<|mv af<|AT zr iZ<|Sj 2 j zr eD cF<|AT zr jX<|Sj 2 j zr eX cF ?_;have j:=(j.sc Int ae.X0).sc Int ae.X1;refine S4 ([ae.X0,ae.X1]:List Int) j [vi ae.X0,vi ae.X1] dQ DU (λM hs g=>⟨(g.sat 1 _ zr).1,⟨(g.sat 0 _ zr).1,zt⟩⟩) λa4 w j=>?_;have j:=j.freeze 0;refine q_ o λa5 a2 o=>S8 4 0 j rq a2 λav w j=>?_;exact dV av<|By<|oi o▸⟨rfl,av,j.sp 6 [3,4]⟩;rintro _ w⟨ai,O,rfl,j⟩;exact bN<|aF<|IS<|Ta hk hm<|aY ((ah+1:Nat):Int)<|By<|oi hb▸⟨rfl,ai,j.sp 2 [0,1]⟩;rintro ad _ w hb⟨ay,O,rfl,j⟩;refine aF<|w_<|mv ay<|dV ay<|AI<|Ss ?_;obtain rfl:=oi hb;exact bV<|j.pk 2 [1,0]
theorem yw{p0:List Int}{p1:List Int}{res:Bool}(j:Holds E w V)(h0:V[i0]? =some (rd v0 p0))(h1:V[i1]? =some (rd v1 p1))(o:oF N p0 p1=some res):c_ 135 [v0,v1] w<|aX E V res:=by
 unfold oF at o;refine enter Tryz.func135 zr zr ?_;have j:=(j.dup (i0+0) h0).dup (i1+1) h1;refine w_<|bY false<|Sm<|w_<|mv v0<|Sp 1 p0 j mq<|mv v1<|Sp 0 p1 j mq<|ic ((p0.length:Int)) ((p1.length:Int))<|AI<|dC o (λo=>?_) λo=>?_;exact w_<|bY false<|AI<|SI<|oi o▸bV ⟨rfl,j.drop 2⟩;refine Sz<|w_<|mv v0<|Sp 1 p0 j mq<|aY 0<|AI<|Tz E V (λ(ab:Unit)=>[rd v0 p0,rd v1 p1]) (λ_=>[]) (λaa _=>[(0,v0),(1,v1),(12,vi p0.length),(13,vi aa)]) (λr=>l3 bO 26 Tryz.f135 (aX E V r) .ret) o ?_ ?_ ?_ ?_;exact j.sp 2 [1,0];rintro hm aa ab fl _ w hk⟨O,rfl,j⟩o;refine IN<|SO<|aY (aa:Int)<|aN (aa:Int)<|Sm<|Tl mixed ?_;have j:=j.drew;refine Tk<|mv v0<|AS<|aY (aa:Int)<|AS<|q_ o λad ah o=>Sk 0 j dQ ah λal j=>AS<|SA ad 0 j cF<|AS<|mv v1<|AS<|aY (aa:Int)<|AS ?_;refine q_ o λae ai o=>Sk 2 j dQ ai λan j=>AS<|SA ae 0 j cF<|AS<|ic ad ae<|Te<|aF<|dC o (λo=>?_) λo=>?_;exact w_<|bY false<|AI<|S7<|bH<|oi o▸⟨rfl,bV ⟨rfl,j.drop 4⟩⟩;exact SR<|bN<|aF<|IS<|Ta hk hm<|aY ((aa+1:Nat):Int)<|By<|oi o▸⟨rfl,j.sp 4 [2,3]⟩;intro r U w o hK;exact bH<|oi o▸hK;rintro ab _ w o⟨O,rfl,j⟩;exact aF<|w_<|bY true<|AI<|Ss<|oi o▸bV ⟨rfl,j.drop 2⟩
theorem ud{p0:List aA}{p1:aA}{res:List aA}(o:Holds E w (own 152 v0 p0::V))(h1:V[i1]? =some (rd v1 p1))(hb:kg N p0 p1=some res):c_ 102 [v0,v1] w<|oM E V res:=by
 unfold kg at hb;refine enter Tryz.func102 zr zr ?_;have o:=o.dup (i1+1) h1;refine w_<|SK 0 v1 o zr λaf w o=>?_;refine dV n_<|Sm<|w_<|AT zr nG<|SS 0 o zr eT gh λau o=>Sp 0 p1.Xs o mq<|ic ((p1.Xs.length:Int)) 0<|fC ((p1.Xs.length:Int)==0)<|BY true ((p1.Xs.length:Int)==0) (vp af 1) zr zr zr (dE pD) ?_;refine BY true ((p1.Xs.length:Int)==0) (vi p1.Y1) rfl rfl rfl (bW 1 rfl o (by exact z_ (vp af 1)) rfl gx cF)<|BY true ((p1.Xs.length:Int)==0) (vp af 0) rfl rfl rfl (dE sA)<|BY true ((p1.Xs.length:Int)==0) (vi p1.Y0) rfl rfl rfl (bW 1 rfl o (by exact z_ (vp af 0)) rfl iV cF)<|BY true ((p1.Xs.length:Int)==0) (vb<|decide<|p1.Y1<=p1.Y0) rfl rfl rfl (dB .leq .i64 p1.Y1 p1.Y0 rfl (by exact z_ (vi p1.Y1)) (by exact z_ (vi p1.Y0)) rfl)<|SQ ((p1.Xs.length:Int)==0) (vb<|((p1.Xs.length:Int)==0)||decide (p1.Y1<=p1.Y0)) (mT true)<|AI<|dC hb (λhb=>?_) λhb=>?_;refine w_<|mv v0<|dV v0<|AI<|SI ?_;obtain rfl:=oi hb;exact bV<|o.pk 4 [3];refine Sz<|w_<|mv v0<|Tj 3 p0 o sd<|Sn (p0.length:Int) 1<|aN (wrap .i64<|(p0.length:Int) - 1)<|Sm<|q_ hb λaj hj hb=>Sw (λ(aj:Bool)=>SH E V [(0,v0),(3,vp af 0),(5,vi<|wrap .i64<|(p0.length:Int) - 1),(42,vb aj)] [own 152 v0 p0,bx 152 af p1]) aj ?_ ?_;refine S9 mixed [0,0,0,0,0,0,0,0,0,0,0,0,0,0,0,0,0,0,0,0,2,0] [0,1,2,3,4,5,6,7,8,9,10,11,12,13,14,15,16,17,18,19,20,21] ?_;have o:=o.drew;refine Sq zr<|aY (wrap .i64<|(p0.length:Int) - 1)<|aR zr<|ic (wrap .i64<|(p0.length:Int) - 1) 0<|aR zr<|fC (decide<|wrap .i64 ((p0.length:Int) - 1)>=0)<|St<|eH hj (λaa hj=>?_) λaa hj=>?_;refine Sq zr<|Si v0 (cg aa)<|aR zr<|Si (vi<|wrap .i64<|(p0.length:Int) - 1) (cg aa)<|aR zr<|q_ hj λak ag hj=>SD 3 o zr zr mX ag<|aR zr<|Ty (α:=aA) (cg aa) (rk 3 o ag 0) pD<|aR zr<|TE 3 (cg aa) o (rk 3 o ag 1) (fO ag).2.1 gx cF<|aR zr<|AT zr sA<|aR zr<|Sj 1 o zr iV cF ?_;refine aR zr<|Tc ak.Y1 p1.Y0 (cg aa)<|aR zr<|eE aa (vb<|ak.Y1==p1.Y0)<|aR zr<|fC (ak.Y1==p1.Y0)<|St<|eH hj (λab hj=>?_) λab hj=>?_;refine Sq zr<|Si v0 (cg ab)<|aR zr<|Si (vi<|wrap .i64<|(p0.length:Int) - 1) (cg ab)<|aR zr<|q_ hj λav ah hj=>SD 3 o zr zr mX ah<|aR zr<|Ty (α:=aA) (cg ab) (rk 3 o ah 0) nG<|aR zr<|T5 (i:=3) (cg ab) zr o zr (rk 3 o ah 2) zr (fO ah).2.1 eT gh λaw o=>?_;exact aR zr<|AT zr nG<|aR zr<|SS 2 o zr eT gh λax o=>mW zr<|q_ hj λal an hj=>So (gU Tryz.func135) (yw N (i0:=1) (i1:=0) o zr zr an) λw o=>ql zr<|eE ab (vb al)<|St<|SG<|oi hj▸⟨rfl,o.sp 6 [5,3]⟩;refine Sq zr<|aV ab<|aR zr<|aV ab<|aR zr<|aV ab<|aR zr<|aV ab<|aR zr<|aV ab<|aR zr<|aV ab<|aR zr<|aV ab<|mW zr<|aV ab<|ql zr<|eE ab (vb false) ?_;exact St<|SG<|oi hj▸⟨rfl,o.sp 4 [3,1]⟩;refine Sq zr<|aV aa<|aR zr<|aV aa<|aR zr<|aV aa<|aR zr<|aV aa<|aR zr<|aV aa<|aR zr<|aV aa<|aR zr<|aV aa<|aR zr<|aV aa<|aR zr<|eE aa (vb false) ?_;refine aR zr<|fC false<|aR zr<|ke<|aR zr<|ke<|aR zr<|ke<|aR zr<|ke<|aR zr<|ke<|aR zr<|ke<|aR zr<|ke<|mW zr<|ke ?_;exact ql zr<|SQ false (vb false) zr<|St<|SG<|oi hj▸⟨rfl,o.sp 4 [3,1]⟩;rintro _ w⟨O,rfl,o⟩;refine aF<|dC hb (λhb=>?_) λhb=>?_;refine w_<|mv v0<|aY (wrap .i64<|(p0.length:Int) - 1)<|AT zr pD<|Sj 1 o zr gx cF<|q_ hb λa0 ai hb=>SD 0 o zr zr mX ai<|Ty (α:=aA) zt (rk 0 o ai 0) pD ?_;have o:=o.sc Int p1.Y1;refine Uc (i:=1) (j:=0) trivial o rfl rfl (rk 1 o ai 1) rfl (fO ai).2.1 rfl rN (by decide) cF λw o=>?_;refine OF<|mv v0<|dV v0<|AI<|SI ?_;obtain rfl:=oi hb;exact bV<|o.pk 3 [1];refine Tg<|mv v0<|SY 1 o zr z9 λao o=>S4 ([p1]:List aA) o [ao] mX GG (λM hs g=>⟨(g.sat 0 _ zr).1,zt⟩) λay w o=>?_;have o:=o.freeze 0;refine q_ hb λaz aq hb=>S8 2 0 o OV aq λar w o=>?_;refine dV ar<|AI<|Ss ?_;obtain rfl:=oi hb;exact bV<|o.pk 4 [2]
theorem n8{p0:List aI}{res:List aA}(o:Holds E w V)(h0:V[i0]? =some (rd v0 p0))(hb:i5 N p0=some res):c_ 61 [v0] w<|oM E V res:=by
 unfold i5 at hb;refine enter Tryz.func61 zr zr ?_;have o:=o.dup (i0+0) h0;refine w_<|dV n_<|OF<|mv v0<|q_ hb λcb bh hb=>SB (gU Tryz.func95) (xt N (i0:=0) o zr bh) λae w o=>dV ae<|OF<|mv ae ?_;obtain⟨aj,bj,hb⟩:=bd hb;have o:=o.pull 0;refine So OO (I3 Tryz.lay96 aI zr ju.LM ju.sz (gU Tryz.func97) (λo hi hj hr=>Ag N o hi hj hr) o bj) λw o=>OF<|TV o OP λah w o=>?_;refine Sm<|w_<|mv ae<|Tj 1 aj o oY<|aY 0<|AI<|TD E V (λ(aw:List Int)(a1:Value)=>[own 58 ae aj,bc 44 ah [a1],own 3 a1 aw]) (λ_ _=>[(0,ae),(3,vp ah 0)]) (λax _ _=>[(14,ae),(15,vi aj.length),(16,vi ax)]) hb ?_ ?_ ?_;have o:=o.dD Int 3;exact⟨n_,o.sp 5 [2,1,0]⟩;rintro hm ax aw s' _ w hk⟨bm,O,rfl,o⟩hb;refine IN<|SO<|q_ hb λal a2 hb=>SD 0 o zr zr jO a2<|TL 0 o a2 ju λcc o=>?_;refine S6 o qz.z λcd w o=>?_;refine S3 0 o 1 zr ju λw o=>?_;refine AI<|IS<|Sx 3 bm o gh<|AT zr iQ<|Sj 0 o zr dT cF<|AT zr lC<|Sj 0 o zr gm cF ?_;have o:=(o.sc Int al.Y0).sc Int al.Y1;refine S4 ([al.Y0,al.Y1]:List Int) o [vi al.Y0,vi al.Y1] dQ DU (λM hs g=>⟨(g.sat 1 _ zr).1,⟨(g.sat 0 _ zr).1,zt⟩⟩) λcf w o=>?_;have o:=o.freeze 0;refine q_ hb λch bn hb=>S8 7 0 o rq bn λa3 w o=>?_;refine Tv 6 a3 o zr zr (iU 7 o) gh λw o=>?_;exact By<|bN<|aF<|IS<|Ta hk hm<|aY ((ax+1:Nat):Int)<|By<|oi hb▸⟨rfl,a3,o.sp 8 [5,6,7]⟩;rintro aw _ w hb⟨a4,O,rfl,o⟩;refine aF<|w_<|Sx 1 a4 o gh ?_;obtain⟨cj,bo,hb⟩:=bd hb;have o:=o.pull 2;refine So (gU Tryz.func98) (K1 Tryz.lay98 o bo) λw o=>OF<|Sx 2 a4 o gh ?_;have o:=o.pull 0;refine q_ hb λai bp hb=>SB (gU Tryz.func99) (wR N o bp) λbq w o=>Tv 3 bq o zr zr (iU 0 o) gh λw o=>?_;refine OF<|dV n_<|OF<|dV n_<|OF<|aN 0<|Sm<|w_<|S6 o DU.z λbr w o=>?_;have o:=o.sc Int 0;refine S3 1 o 0 zr cF λw o=>?_;refine AI ?_;have o:=((((o.freeze 2).Ku (i:=5) (x:=ai) rfl<|λM hs g=>qo (g.sat 2 _ rfl).1).fM (i:=5) rfl).dD aA 152).dD aI 58;refine q_ hb λck hN hb=>TR (λ(ab:List aA×List aI×Int×Int)U w=>∃(a5 a6:Value)(a7:Nat),SH E V [(0,ae),(3,vp ah 0),(6,a5),(7,a6),(8,vi ab.2.2.1),(9,vp a7 0)] [own 58 ae aj,pt (vp ah 0) ai,own 152 a5 ab.1,own 58 a6 ab.2.1,bx 3 a7 ab.2.2.2] U w) (λ(ab:List aA×List aI×Int×Int)U w=>∃ao:Value,SH E V [(6,ao)] [own 58 ae aj,pt (vp ah 0) ai,own 152 ao ab.1] U w) (λ(r:Empty)_ _=>r.elim) hN ?_ ?_ ?_ ?_;exact⟨n_,n_,br,o.sp 9 [6,7,1,0,3]⟩;rintro ab fl _ w⟨ak,bw,an,O,rfl,o⟩hb;refine IN<|w_<|Sj (f:=(λx=>x)) 4 o zr Fd.self cF<|Sn ab.2.2.2 1<|Sv 1 ai o gh λcm o=>Sp 0 ai o mq<|ic (wrap .i64<|ab.2.2.2+1) ((ai.length:Int))<|AI<|dC hb (λhb=>?_) λhb=>?_;refine Sz<|SO<|mv bw ?_;have o:=o.fM (i:=5) rfl;refine TU [vp ah 0,vp an 0] ?_;have o:=o.pull 4;refine q_ hb λcn bz hb=>SB (gU Tryz.func100) (tQ N o ⟨101,[vp ah 0,vp an 0],rfl,(gU Tryz.func101),λw Γl v y0 r i o hi hr=>by exact iu (Ah N (i0:=i) (i1:=Γl.length+2) (i2:=Γl.length+5) o hi (E5 rfl) (E5 rfl) hr) λ_ _ h=>h⟩ bz) λa8 w o=>dV a8<|Sm<|Tt E V (λ(af:List aI×Int)(ay:Value)=>[own 58 ae aj,pt (vp ah 0) ai,own 152 ak ab.1,pt (vp an 0) ab.2.2.2,own 58 ay af.1]) (λaf ay=>[(0,ae),(3,vp ah 0),(6,ak),(7,ay),(8,vi af.2),(9,vp an 0)]) (λ_ _=>[]) hb ?_ ?_ ?_;exact⟨a8,o.sp 7 [2,3,4,6,0]⟩;rintro af fl _ w⟨aq,O,rfl,o⟩hb;refine IN<|IN<|q_ hb λaz hj hb=>Sw (λ(az:Bool)=>SH E V [(0,ae),(3,vp ah 0),(6,ak),(7,aq),(8,vi af.2),(9,vp an 0),(57,vb az)] [own 58 ae aj,pt (vp ah 0) ai,own 152 ak ab.1,own 58 aq af.1,pt (vp an 0) ab.2.2.2]) az ?_ ?_;refine Tl mixed ?_;have o:=o.drew;refine Tk<|aY af.2<|AS<|mv ae<|AS<|Tj 0 aj o oY<|AS<|ic af.2 ((aj.length:Int))<|AS<|fC (decide<|af.2<(aj.length:Int))<|eH hj (λad hj=>?_) λad hj=>?_;refine AS<|Si ae (cg ad)<|AS<|Si (vi af.2) (cg ad)<|AS<|q_ hj λa9 ar hj=>SD 0 o zr zr jO ar<|AS<|Ty (α:=aI) (cg ad) (rk 0 o ar 0) iQ<|AS<|TE 0 (cg ad) o (rk 0 o ar 1) (fO ar).2.1 dT cF<|AS<|Sv 1 ai o gh λcp o=>?_;refine AS<|SA ab.2.2.2 4 o cF<|AS<|q_ hj λa0 b0 hj=>Sk 0 o dQ b0 λcq o=>AS<|SA a0 0 o cF<|AS<|Tc a9.Y0 a0 (cg ad)<|AS<|eE ad (vb<|decide<|a9.Y0<=a0)<|Te ?_;exact oi hj▸⟨rfl,o.sp 7 [2,3,4,6,5]⟩;refine AS<|aV ad<|AS<|aV ad<|AS<|aV ad<|AS<|aV ad<|AS<|aV ad<|AS<|aV ad<|AS<|aV ad<|AS<|aV ad<|AS<|aV ad ?_;exact AS<|aV ad<|AS<|eE ad (vb false)<|Te<|oi hj▸⟨rfl,o.sp 5 [0,1,2,4,3]⟩;rintro _ w⟨O,rfl,o⟩;refine aF<|dC hb (λhb=>?_) λhb=>?_;refine Tu<|S5<|IS<|mv aq<|mv ae<|aY af.2<|q_ hb λb1 ba hb=>SD 0 o zr zr jO ba<|TL 0 o ba ju λb2 o=>?_;refine S4 ([b1]:List aI) o [b2] jO qz (λM hs g=>⟨(g.sat 0 _ zr).1,zt⟩) λcr w o=>?_;have o:=o.freeze 0;refine q_ hb λct b3 hb=>S8 5 0 o CT b3 λbb w o=>?_;refine aY af.2<|Sn af.2 1<|dV bb<|aN (wrap .i64<|af.2+1)<|By<|bN ?_;exact oi hb▸⟨rfl,bb,o.sp 7 [2,3,4,6,5]⟩;exact SL<|oi hb▸⟨rfl,aq,o.sp 5 [0,1,2,4,3]⟩;rintro af _ w hb⟨bf,O,rfl,o⟩;refine aF<|S9 mixed [1,1,1,1,1,1,1,1,1,1,0,2,0,2,0] [0,1,2,3,4,5,6,7,8,9,10,11,12,13,14] ?_;have o:=o.drew;refine SF ak zr (λw=>Si ak zt SC)<|Tx ai 1 zr o gh λcu a305 cv o=>TG ab.2.2.2 5 zr o cF λa307 cw o=>?_;refine q_ hb λau b4 hb=>TC 2 zr o dQ b4 λcx o=>TG au 0 zr o cF λa311 cy o=>Tx ai 6 zr o gh λcz a314 c0 o=>TG ab.2.2.2 10 zr o cF λa316 c1 o=>SF (vi<|wrap .i64<|ab.2.2.2+1) zr (λw=>Sn ab.2.2.2 1 SC)<|q_ hb λav b5 hb=>TC 2 zr o dQ b5 λc2 o=>TG av 0 zr o cF λa320 c3 o=>Sq zr<|mv bf<|mW zr ?_;have o:=o.pull 14;refine q_ hb λb6 b7 hb=>SB (gU Tryz.func103) (zh N o b7) λb8 w o=>SM (⟨⟨⟨⟨⟨⟨zt,o.eU 10⟩,o.eU 9⟩,o.eU 7⟩,o.eU 5⟩,o.eU 4⟩,o.eU 2⟩)<|Sq zr ?_;have o:=((o.sc Int au).sc Int av).freeze 2;refine Tp (⟨au,av,b6.1⟩:aA) trivial rfl o [(0,vi au),(1,vi av),(2,b8)] rfl MM rfl (λM hs g=>by have h:=z7 M;exact cV.cons (f:=λ(x:aA)y=>{x with Y0:=y}) h wH (g.sat 1 _ rfl).1 λ_ h=>cV.cons (f:=λ(x:aA)y=>{x with Y1:=y}) h rN (g.sat 0 _ rfl).1 λ_ h=>cV.cons (f:=λ(x:aA)y=>{x with Xs:=y}) h wI (g.sat 2 _ rfl).1 λ_ h=>cV.nil h) λc4 o=>?_;refine mW zr ?_;have o:=o.pull 17;refine q_ hb λc5 b9 hb=>SB MN (ud N (i1:=0) o zr b9) λbg w o=>SM (⟨⟨⟨⟨⟨⟨zt,o.eU 14⟩,o.eU 13⟩,o.eU 11⟩,o.eU 9⟩,o.eU 8⟩,o.eU 6⟩)<|Sq zr<|dV bg<|St ?_;have o:=o.pl 21 [0,1,2,3,4,5,7,10,12,15,16,17,18,19,20];refine SG<|bN<|aF<|IN<|w_<|SA ab.2.2.2 13 o cF<|AI<|IS<|S6 o DU.z λca w o=>?_;have o:=o.sc Int ab.2.2.2;refine S3 1 o 0 zr cF λw o=>?_;refine AI<|IS<|Sj (f:=(λx=>x)) 1 o zr Fd.self cF<|Sn ab.2.2.2 1 ?_;have o:=o.sc Int<|wrap .i64<|ab.2.2.2+1;refine US (i:=2) (j:=0) zt o zr zr zr zr cF λw o=>?_;exact By<|oi hb▸⟨rfl,bg,bf,ca,o.sp 18 [13,14,3,8,2]⟩;exact SL<|oi hb▸⟨rfl,ak,o.sp 6 [1,2,3]⟩;intro r _ _ _ _;exact r.elim;rintro ab _ w rfl⟨ao,O,rfl,o⟩;rw[Fo.Ge]at hb;refine aF<|w_<|mv ao<|dV ao<|AI<|Ss ?_;obtain rfl:=oi hb;exact bV<|o.pk 3 [2]
theorem pK{p0:List aA}{res:List aI}(j:Holds E w V)(h0:V[i0]? =some (rd v0 p0))(o:kH N p0=some res):c_ 62 [v0] w<|gH E V res:=by
 unfold kH at o;refine enter Tryz.func62 zr zr ?_;have j:=j.dup (i0+0) h0;refine w_<|dV n_<|OF<|dV n_<|Sm<|w_<|mv v0<|Sp 0 p0 j sd<|aY 0<|AI<|TD E V (λ(ag:List aI)(ah:Value)=>[rd v0 p0,own 58 ah ag]) (λ_ ah=>[(3,ah)]) (λaf _ _=>[(7,v0),(8,vi p0.length),(9,vi af)]) o ?_ ?_ ?_;have j:=j.dD aI 58;exact⟨n_,j.sp 2 [1,0]⟩;rintro hm af ag s' _ w hk⟨ar,O,rfl,j⟩o;refine IN<|SO<|q_ o λab au o=>Sk 0 j mX au λa0 j=>Sv 0 ab j z9 λa1 j=>S6 j GG.z λak w j=>?_;refine S3 0 j 1 zr z9 λw j=>?_;refine OF<|aN 0<|AI<|Tt E V (λ(aa:List aI×Int)(ai:Value)=>[bx 152 ak ab,rd v0 p0,own 58 ai aa.1]) (λ_ ai=>[(3,ai),(7,v0),(8,vi p0.length),(9,vi af)]) (λaa _=>[(5,vp ak 0),(6,vi aa.2)]) o ?_ ?_ ?_;exact⟨ar,j.sp 5 [0,3,4]⟩;rintro aa fl _ w⟨aj,O,rfl,j⟩o;refine IN<|w_<|aY aa.2<|AT zr nG<|SS 0 j zr eT gh λa3 j=>Sp 0 ab.Xs j mq<|ic aa.2 ((ab.Xs.length:Int))<|AI<|dC o (λo=>?_) λo=>?_;refine Sz<|S5<|S9 mixed [1,0,0,0,0,0,0,0,0,0,0,0,0,0,0,0,0,2,2,0] [0,1,2,3,4,5,6,7,8,9,10,11,12,13,14,15,16,17,18,19] ?_;have j:=j.drew;refine SF aj zr (λw=>Si aj zt SC)<|Sq zr<|AT zr nG<|aR zr<|SS 1 j zr eT gh λa4 j=>aR zr<|aY aa.2<|aR zr<|q_ o λad av o=>Sk 0 j dQ av λa5 j=>aR zr<|SA ad 0 j cF<|aR zr<|AT zr sA<|aR zr<|Sj 3 j zr iV cF<|aR zr<|AT zr nG ?_;refine aR zr<|SS 3 j zr eT gh λa6 j=>aR zr<|aY aa.2<|aR zr<|Sn aa.2 1<|aR zr<|q_ o λae aw o=>Sk 0 j dQ aw λa7 j=>aR zr<|SA ae 0 j cF<|aR zr<|AT zr pD<|aR zr<|Sj 5 j zr gx cF<|aR zr ?_;have j:=(((j.sc Int ad).sc Int ab.Y0).sc Int ae).sc Int ab.Y1;refine Tp (⟨ad,ab.Y0,ae,ab.Y1⟩:aI) trivial rfl j [(0,vi ad),(1,vi ab.Y0),(2,vi ae),(3,vi ab.Y1)] rfl GH rfl (λM hs g=>by have h:=vX M;exact cV.cons (f:=λ(x:aI)y=>{x with X0:=y}) h sU (g.sat 3 _ rfl).1 λ_ h=>cV.cons (f:=λ(x:aI)y=>{x with Y0:=y}) h uY (g.sat 2 _ rfl).1 λ_ h=>cV.cons (f:=λ(x:aI)y=>{x with X1:=y}) h qQ (g.sat 1 _ rfl).1 λ_ h=>cV.cons (f:=λ(x:aI)y=>{x with Y1:=y}) h sV (g.sat 0 _ rfl).1 λ_ h=>cV.nil h) λax j=>?_;refine mW zr<|S4 ([(⟨ad,ab.Y0,ae,ab.Y1⟩:aI)]:List aI) j [ax] jO qz (λM hs g=>⟨(g.sat 0 _ zr).1,zt⟩) λa8 w j=>IJ zr ?_;have j:=j.freeze 0;refine q_ o λa9 ay o=>S8 13 0 j CT ay λal w j=>?_;refine ql zr<|dV al<|St<|SG<|bN<|aF<|IS<|aY aa.2<|Sn aa.2 2<|aN (wrap .i64<|aa.2+2)<|By ?_;exact oi o▸⟨rfl,al,j.sp 14 [11,12,13]⟩;exact SL<|oi o▸⟨rfl,aj,j.sp 4 [1,2,3]⟩;rintro aa _ w o⟨az,O,rfl,j⟩;exact bN<|aF<|IS<|Ta hk hm<|aY ((af+1:Nat):Int)<|By<|oi o▸⟨rfl,az,j.sp 3 [1,2]⟩;rintro ag _ w o⟨an,O,rfl,j⟩;refine aF<|w_<|mv an<|dV an<|AI<|Ss ?_;obtain rfl:=oi o;exact bV<|j.pk 2 [1]
theorem xv{p0:List aI}{p1:List aI}{res:Bool}(j:Holds E w V)(h0:V[i0]? =some (rd v0 p0))(h1:V[i1]? =some (rd v1 p1))(o:lO N p0 p1=some res):c_ 60 [v0,v1] w<|aX E V res:=by
 unfold lO at o;refine enter Tryz.func60 zr zr ?_;have j:=(j.dup (i0+0) h0).dup (i1+1) h1;refine w_<|bY false<|Sm<|w_<|mv v0<|Sp 1 p0 j oY<|mv v1<|Sp 0 p1 j oY<|ic ((p0.length:Int)) ((p1.length:Int))<|AI<|dC o (λo=>?_) λo=>?_;exact w_<|bY false<|AI<|SI<|oi o▸bV ⟨rfl,j.drop 2⟩;refine Sz<|w_<|mv v0<|Sp 1 p0 j oY<|aY 0<|AI<|Tz E V (λ(ab:Unit)=>[rd v0 p0,rd v1 p1]) (λ_=>[]) (λaa _=>[(0,v0),(1,v1),(12,vi p0.length),(13,vi aa)]) (λr=>l3 bO 26 Tryz.f60 (aX E V r) .ret) o ?_ ?_ ?_ ?_;exact j.sp 2 [1,0];rintro hm aa ab fl _ w hk⟨O,rfl,j⟩o;refine IN<|SO<|aY (aa:Int)<|aN (aa:Int)<|Sm<|Tl mixed ?_;have j:=j.drew;refine Tk<|mv v0<|AS<|aY (aa:Int)<|AS<|q_ o λad ah o=>Sk 0 j jO ah λal j=>AS<|Sv 0 ad j ju λan j=>AS<|mv v1<|AS<|aY (aa:Int)<|AS ?_;refine q_ o λae ai o=>Sk 3 j jO ai λao j=>AS<|Sv 0 ae j ju λaq j=>AS<|T4 2 0 ad ae zt zr j zr zr zr zr MO zr<|Te<|aF<|dC o (λo=>?_) λo=>?_;exact w_<|bY false<|AI<|S7<|bH<|oi o▸⟨rfl,bV ⟨rfl,j.drop 6⟩⟩;exact SR<|bN<|aF<|IS<|Ta hk hm<|aY ((aa+1:Nat):Int)<|By<|oi o▸⟨rfl,j.sp 6 [4,5]⟩;intro r U w o hK;exact bH<|oi o▸hK;rintro ab _ w o⟨O,rfl,j⟩;exact aF<|w_<|bY true<|AI<|Ss<|oi o▸bV ⟨rfl,j.drop 2⟩
theorem rz{p0:List aI}(j:Holds E w V)(h0:V[i0]? =some (rd v0 p0))(hb:kx N p0=some res):c_ 24 [v0] w<|aS E V res:=by
 unfold kx at hb;refine enter Tryz.func24 zr zr ?_;have j:=j.dup (i0+0) h0;refine w_<|aN 0<|Sm<|w_<|mv v0<|q_ hb λau ax hb=>So (gU Tryz.func59) (yv N (i0:=0) j zr ax) λw j=>aN au<|OF<|aY au<|ic au 0<|AI<|dC hb (λhb=>?_) λhb=>?_;exact w_<|aY au<|aN au<|AI<|SI<|oi hb▸bV ⟨rfl,j.drop 1⟩;refine Sz<|w_<|aN 1<|AI<|Tq E V (λ(ao:Int)=>[rd v0 p0]) (λ_=>[(0,v0)]) (λao=>[(4,vi ao)]) (λr=>l3 bO 52 Tryz.f24 (aS E V r) .ret) hb ?_ ?_ ?_ ?_;exact j.sp 1 [0];rintro ao fl _ w⟨O,rfl,j⟩hb;refine IN<|w_<|aY ao<|mv v0<|Sp 0 p0 j oY<|ic ao ((p0.length:Int))<|AI<|dC hb (λhb=>?_) λhb=>?_;refine Sz<|S5<|IN ?_;obtain⟨o,ay,hb⟩:=bd hb;refine q_ hb λaa a0 hb=>TF E V mixed [1,1,1,0,0,1,1,0,0,0,0,0,0] [3,4,7,8,9,10,11,12] (λ(x:Value×Value×Value×Value×Nat×Nat)=>(λah ai aj ak ad ae=>[(0,18,v0),(1,19,vi ao),(2,20,vi<|wrap .i64<|ao - 1),(3,21,ah),(4,22,ai),(5,23,v0),(6,24,vi ao),(7,25,aj),(8,26,ak),(9,5,vp ad 0),(10,6,vp ae 0)]) x.1 x.2.1 x.2.2.1 x.2.2.2.1 x.2.2.2.2.1 x.2.2.2.2.2) [(0,v0),(4,vi ao)] [] (λ(D:Nat->Bool)(x:Value×Value×Value×Value×Nat×Nat)=>(λah ai aj ak ad ae=>[bif D 0 then pt ah o else bR,bif D 1 then rd ai o else bR,bif D 2 then pt aj aa else bR,bif D 3 then rd ak aa else bR,bif D 6 then bx 58 ad o else(bif D 4 then raw 58 ad 4 else bR),bif D 7 then bx 58 ae aa else(bif D 5 then raw 58 ae 4 else bR),rd v0 p0]) x.1 x.2.1 x.2.2.1 x.2.2.2.1 x.2.2.2.2.1 x.2.2.2.2.2) (λx=>by kernel_rfl) ?_ ⟨λ_=>kn gn,λ_=>kn gn,λ_=>L3 gn rfl,?_,?_,λ_=>kn gn,λ_=>kn gn,?_,?_,?_,?_,?_,?_,trivial⟩ ?_;have j:=((((((j.drew).bR).bR).bR).bR).bR).bR;exact⟨(undef,undef,undef,undef,0,0),eR.none,HD zr,zt,j⟩;rintro D U w hD ag aq⟨⟨ah,ai,aj,ak,ad,ae⟩,hv,ha,_,j⟩;obtain⟨O,rfl⟩:=hv.o2 0 2 ag;have j:=j.cH 0 hD;refine Sk 6 j jO ay λa1 j=>?_;have j:=j.nw 0;exact Su (a1,ai,aj,ak,ad,ae) 3 hv ha j;rintro D U w hD ag aq⟨⟨ah,ai,aj,ak,ad,ae⟩,hv,ha,_,j⟩;obtain⟨O,rfl⟩:=hv.o1 3 ag;have j:=(j.fA 0<|ag.1 rfl).cH 1 hD;refine Sv 0 o j ju λa2 j=>?_;have j:=((j.pl 8 [1,0,3,4,5,6,7]).dL 0 (D 3) (ag.1 rfl) bR).dL 1 true rfl bR;exact Su (ah,a2,aj,ak,ad,ae) 4 hv ha j;rintro D U w hD ag aq⟨⟨ah,ai,aj,ak,ad,ae⟩,hv,ha,_,j⟩;obtain⟨O,rfl⟩:=hv.o2 5 6 ag;have j:=j.cH 2 hD;refine Sk 6 j jO a0 λa3 j=>?_;have j:=j.nw 2;exact Su (ah,ai,a3,ak,ad,ae) 7 hv ha j;rintro D U w hD ag aq⟨⟨ah,ai,aj,ak,ad,ae⟩,hv,ha,_,j⟩;obtain⟨O,rfl⟩:=hv.o1 7 ag;have j:=(j.fA 2<|ag.1 rfl).cH 3 hD;refine Sv 2 aa j ju λa4 j=>?_;have j:=((j.pl 8 [1,2,3,0,5,6,7]).dL 2 (D 7) (ag.1 rfl) bR).dL 3 true rfl bR;exact Su (ah,ai,aj,a4,ad,ae) 8 hv ha j;rintro D U w hD ag aq⟨⟨ah,ai,aj,ak,ad,ae⟩,hv,ha,_,j⟩;obtain⟨O,rfl⟩:=(az (U:=U)).tP;have j:=(j.cH 4<|nh aq hD 11).cH 4 hD;refine S6 j qz.z λav w j=>?_;have j:=(j.nw 4).fS 4 (D 11) (nh aq hD 11)<|bx 58 av o;exact Su (ah,ai,aj,ak,av,ae) 9 hv ha j;rintro D U w hD ag aq⟨⟨ah,ai,aj,ak,ad,ae⟩,hv,ha,_,j⟩;obtain⟨O,rfl⟩:=(az (U:=U)).tP;have j:=(j.cH 5<|nh aq hD 12).cH 5 hD;refine S6 j qz.z λaw w j=>?_;have j:=(j.nw 5).fS 5 (D 12) (nh aq hD 12)<|bx 58 aw aa;exact Su (ah,ai,aj,ak,ad,aw) 10 hv ha j;rintro D U w hD ag aq⟨⟨ah,ai,aj,ak,ad,ae⟩,hv,ha,_,j⟩;obtain⟨O,rfl⟩:=hv.o2 9 4 ag;have j:=((j.fA 1<|ag.2.1 rfl).cH 4 hD).fA 4<|ag.1 rfl;refine S3 4 j 1 zr ju λw j=>?_;have j:=(j.dL 1 (D 4) (ag.2.1 rfl) bR).dL 4 true rfl (bif D 9 then raw 58 ad 4 else bR);exact TH (ah,ai,aj,ak,ad,ae) hv ha j;rintro D U w hD ag aq⟨⟨ah,ai,aj,ak,ad,ae⟩,hv,ha,_,j⟩;obtain⟨O,rfl⟩:=hv.o2 10 8 ag;have j:=((j.fA 3<|ag.2.1 rfl).cH 5 hD).fA 5<|ag.1 rfl;refine S3 5 j 3 zr ju λw j=>?_;have j:=(j.dL 3 (D 8) (ag.2.1 rfl) bR).dL 5 true rfl (bif D 10 then raw 58 ae 4 else bR);exact TH (ah,ai,aj,ak,ad,ae) hv ha j;rintro D U w ar⟨⟨ah,ai,aj,ak,ad,ae⟩,hv,ha,_,j⟩;simp only[List.getD_cons_zero,List.getD_cons_succ,ar 3 (by decide),ar 4 (by decide),ar 7 (by decide),ar 8 (by decide),ar 11 (by decide),ar 12 (by decide),aK]at j;obtain⟨O,rfl⟩:=(ac (hv.at 9 rfl<|uS ar 9)<|ac (hv.at 10 rfl<|uS ar 10) ha).tP;refine aF<|w_<|AT zr iQ<|Sj 5 j zr dT cF<|AT zr iQ<|Sj 4 j zr dT cF<|ic aa.Y0 o.Y0<|fC (decide<|aa.Y0<o.Y0)<|BY true (decide<|aa.Y0<o.Y0) (vp ae 1) zr zr zr (dE iQ) ?_;refine BY true (decide<|aa.Y0<o.Y0) (vi aa.Y0) rfl rfl rfl (bW 5 rfl j (by exact z_ (vp ae 1)) rfl dT cF)<|BY true (decide<|aa.Y0<o.Y0) (vp ad 1) rfl rfl rfl (dE iQ)<|BY true (decide<|aa.Y0<o.Y0) (vi o.Y0) rfl rfl rfl (bW 4 rfl j (by exact z_ (vp ad 1)) rfl dT cF)<|BY true (decide<|aa.Y0<o.Y0) (vb<|aa.Y0==o.Y0) rfl rfl rfl (dB .eql .i64 aa.Y0 o.Y0 rfl (by exact z_ (vi aa.Y0)) (by exact z_ (vi o.Y0)) rfl)<|BY true (decide<|aa.Y0<o.Y0) (vb<|aa.Y0==o.Y0) rfl rfl rfl (cG (hx:=λh=>by exact(cD h:cv (true&&(decide (aa.Y0<o.Y0)==false)) (vb<|aa.Y0==o.Y0)= vb (aa.Y0==o.Y0))))<|BY (true&&(decide (aa.Y0<o.Y0)==false)) (aa.Y0==o.Y0) (vp ae 0) rfl rfl rfl (dE iZ)<|BY (true&&(decide (aa.Y0<o.Y0)==false)) (aa.Y0==o.Y0) (vi aa.X0) rfl rfl rfl (bW 5 rfl j (by exact z_ (vp ae 0)) rfl eD cF)<|BY (true&&(decide (aa.Y0<o.Y0)==false)) (aa.Y0==o.Y0) (vp ad 0) rfl rfl rfl (dE iZ)<|BY (true&&(decide (aa.Y0<o.Y0)==false)) (aa.Y0==o.Y0) (vi o.X0) rfl rfl rfl (bW 4 rfl j (by exact z_ (vp ad 0)) rfl eD cF) ?_;refine BY (true&&(decide (aa.Y0<o.Y0)==false)) (aa.Y0==o.Y0) (vb<|decide<|aa.X0<=o.X0) rfl rfl rfl (dB .leq .i64 aa.X0 o.X0 rfl (by exact z_ (vi aa.X0)) (by exact z_ (vi o.X0)) rfl)<|BY true (decide<|aa.Y0<o.Y0) (vb<|(aa.Y0==o.Y0)&&decide (aa.X0<=o.X0)) rfl rfl rfl (kr (aa.Y0==o.Y0) rfl (by exact z_ (vb<|aa.Y0==o.Y0)) (λh=>by exact fR (h:=h)<|true&&(decide (aa.Y0<o.Y0)==false)))<|SQ (decide<|aa.Y0<o.Y0) (vb<|decide (aa.Y0<o.Y0)||((aa.Y0==o.Y0)&&decide (aa.X0<=o.X0))) (mT true)<|AI<|dC hb (λhb=>?_) λhb=>?_;exact w_<|aN 8<|AI<|S7<|bH<|oi hb▸⟨rfl,bV ⟨rfl,j.drop 7⟩⟩;refine SR<|bN<|aF<|IS<|aY ao<|Sn ao 1<|aN (wrap .i64<|ao+1)<|By ?_;exact oi hb▸⟨rfl,j.sp 7 [6]⟩;exact SL<|oi hb▸⟨rfl,j.sp 1 [0]⟩;intro r U w hb hK;exact bH<|oi hb▸hK;rintro ao _ w hb⟨O,rfl,j⟩;refine aF<|IN<|w_<|mv v0<|q_ hb λbb a6 hb=>SB KC (n8 N (i0:=0) j zr a6) λbc w j=>?_;have j:=j.freeze 0;refine q_ hb λbf a7 hb=>SB NL (pK N (i0:=0) j zr a7) λbg w j=>mv v0 ?_;have j:=j.freeze 0;refine q_ hb λa8 a9 hb=>So (gU Tryz.func60) (xv N (i0:=0) (i1:=2) j zr zr a9) λw j=>SW a8<|AI<|dC hb (λhb=>?_) λhb=>?_;exact w_<|aN 3<|AI<|SI<|oi hb▸bV ⟨rfl,j.drop 3⟩;exact Tg<|aN 0<|AI<|Ss<|oi hb▸bV ⟨rfl,j.drop 3⟩
theorem oO{res:Bool}(o:Holds E w V)(j:jw N p0 p1 p2=some res):c_ 64 [vi p0,vi p1,vi p2] w<|aX E V res:=by
 unfold jw at j;refine enter Tryz.func64 zr zr<|w_<|bY false<|OF<|aY p0<|aY p1<|ic p0 p1<|fC (decide<|p0>=p1)<|BY true (decide<|p0>=p1) (vi p0) zr zr zr cG ?_;refine BY true (decide<|p0>=p1) (vi p2) rfl rfl rfl cG<|BY true (decide<|p0>=p1) (vb<|decide<|p0<=p2) rfl rfl rfl (dB .leq .i64 p0 p2 rfl (by exact z_ (vi p0)) (by exact z_ (vi p2)) rfl)<|SQ (decide<|p0>=p1) (vb<|decide (p0>=p1)&&decide (p0<=p2)) (fR true)<|bY (decide (p0>=p1)&&decide (p0<=p2))<|AI<|Ss ?_;exact oi j▸bV ⟨rfl,o.drop 0⟩
theorem vc{p0:j6}{res:Bool}(j:Holds E w V)(h0:V[i0]? =some (rd v0 p0))(hb:kQ N p0=some res):c_ 67 [v0] w<|aX E V res:=by
 unfold kQ at hb;refine enter Tryz.func67 zr zr ?_;have j:=j.dup (i0+0) h0;refine w_<|SK 0 v0 j zr λai w j=>?_;refine bY false<|Sm<|q_ hb λad o hb=>Sw (λ(ad:Bool)=>SH E V [(2,vb ad)] []) ad ?_ ?_;refine IS<|AT zr y9<|Sj 0 j zr pH cF<|q_ o λaf ag o=>So EE (nr N (p0:=p0.X) j ag) λw j=>fC af<|eH o (λaa o=>?_) λaa o=>?_;exact AT zr za<|Sj 0 j zr pI cF<|q_ o λae ah o=>So EE (nr N (p0:=p0.Y) j ah) λw j=>eE aa (vb ae)<|bY ae<|By<|oi o▸⟨rfl,j.sp 2 []⟩;exact aV aa<|aV aa<|aV aa<|eE aa (vb false)<|bY false<|By<|oi o▸⟨rfl,j.sp 2 []⟩;rintro _ w⟨O,rfl,j⟩;exact aF<|Ss<|oi hb▸bV ⟨rfl,j.drop 0⟩
theorem jZ{p0:bT}{res:aI}(j:Holds E w V)(h0:V[i0]? =some (rd v0 p0))(o:ik N p0=some res):c_ 28 [v0] w<|qB E V res:=by
 unfold ik at o;refine enter Tryz.func28 zr zr ?_;have j:=j.dup (i0+0) h0;refine w_<|SK 0 v0 j zr λaa w j=>?_;refine S6 j qz.z λab w j=>?_;refine Sm<|Tl mixed ?_;have j:=j.drew;refine Tk<|AT zr A3<|AS<|AT zr y9<|AS<|Sj (f:=(λx=>x.At.X)) 1 j zr (Fd.comp (f:=λ(x:bT)=>x.At) (λ(x:j6)=>x.X) sW pH) cF<|AS<|AT zr uy<|AS<|Sj 1 j zr nk cF<|AS<|TW p0.dW 2<|AS<|Sn p0.At.X (wrap .i64<|Int.tdiv p0.dW 2)<|AS<|AT zr A3<|AS<|AT zr za ?_;refine AS<|Sj (f:=(λx=>x.At.Y)) 1 j zr (Fd.comp (f:=λ(x:bT)=>x.At) (λ(x:j6)=>x.Y) sW pI) cF<|AS<|AT zr uy<|AS<|Sj 1 j zr nk cF<|AS<|TW p0.dW 2<|AS<|Sn p0.At.Y (wrap .i64<|Int.tdiv p0.dW 2)<|AS<|aN (wrap .i64<|p0.At.X -(wrap .i64<|Int.tdiv p0.dW 2))<|AS<|aN (wrap .i64<|p0.At.Y -(wrap .i64<|Int.tdiv p0.dW 2))<|Te<|aF<|w_<|aY (wrap .i64<|p0.At.X -(wrap .i64<|Int.tdiv p0.dW 2)) ?_;refine aY (wrap .i64<|p0.At.Y -(wrap .i64<|Int.tdiv p0.dW 2))<|aY (wrap .i64<|p0.At.X -(wrap .i64<|Int.tdiv p0.dW 2))<|AT zr uy<|Sj 1 j zr nk cF<|Sn (wrap .i64<|p0.At.X -(wrap .i64<|Int.tdiv p0.dW 2)) p0.dW<|aY (wrap .i64<|p0.At.Y -(wrap .i64<|Int.tdiv p0.dW 2))<|AT zr uy<|Sj 1 j zr nk cF<|Sn (wrap .i64<|p0.At.Y -(wrap .i64<|Int.tdiv p0.dW 2)) p0.dW ?_;have j:=((j.sc Int<|wrap .i64<|p0.At.X -(wrap .i64<|Int.tdiv p0.dW 2)).sc Int<|wrap .i64<|p0.At.Y -(wrap .i64<|Int.tdiv p0.dW 2)).sc Int<|wrap .i64<|wrap .i64 (p0.At.X -(wrap .i64<|Int.tdiv p0.dW 2))+p0.dW;have j:=j.sc Int<|wrap .i64<|wrap .i64 (p0.At.Y -(wrap .i64<|Int.tdiv p0.dW 2))+p0.dW;refine Tp (⟨wrap .i64<|p0.At.X -(wrap .i64<|Int.tdiv p0.dW 2),wrap .i64<|p0.At.Y -(wrap .i64<|Int.tdiv p0.dW 2),wrap .i64<|wrap .i64 (p0.At.X -(wrap .i64<|Int.tdiv p0.dW 2))+p0.dW,wrap .i64<|wrap .i64 (p0.At.Y -(wrap .i64<|Int.tdiv p0.dW 2))+p0.dW⟩:aI) trivial rfl j [(0,vi<|wrap .i64<|p0.At.X -(wrap .i64<|Int.tdiv p0.dW 2)),(1,vi<|wrap .i64<|p0.At.Y -(wrap .i64<|Int.tdiv p0.dW 2)),(2,vi<|wrap .i64<|wrap .i64 (p0.At.X -(wrap .i64<|Int.tdiv p0.dW 2))+p0.dW),(3,vi<|wrap .i64<|wrap .i64 (p0.At.Y -(wrap .i64<|Int.tdiv p0.dW 2))+p0.dW)] rfl GH rfl (λM hs g=>by have h:=vX M;exact cV.cons (f:=λ(x:aI)y=>{x with X0:=y}) h sU (g.sat 3 _ rfl).1 λ_ h=>cV.cons (f:=λ(x:aI)y=>{x with Y0:=y}) h uY (g.sat 2 _ rfl).1 λ_ h=>cV.cons (f:=λ(x:aI)y=>{x with X1:=y}) h qQ (g.sat 1 _ rfl).1 λ_ h=>cV.cons (f:=λ(x:aI)y=>{x with Y1:=y}) h sV (g.sat 0 _ rfl).1 λ_ h=>cV.nil h) λad j=>?_;refine S3 5 j 0 zr ju λw j=>?_;refine AI<|Ss ?_;obtain rfl:=oi o;exact LQ 5 zr j zr zr ju λae j=>j.pk 9 [0]
end Go.Gk
