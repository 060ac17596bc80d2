/-
  Printed texts: Go functions as plain functions, and that they are. No statement of the seed is proved here.
-/
import Derived.Test.YthjjhaommlojiaaGreatDoorProg
import Derived.Test.YthjjhaommlojiaaGreatDoorE1
import Derived.Test.YthjjhaommlojiaaGreatDoorA1
import Derived.Test.YthjjhaommlojiaaGreatDoorA2
import Derived.Test.YthjjhaommlojiaaGreatDoorRows
import Derived.Shelf.SlGeneric
import Derived.Ground.SlsfProg
import Derived.Ground.SlgmProg
set_option linter.unusedVariables false
set_option linter.unusedSimpArgs false
set_option linter.unusedSectionVars false
set_option maxRecDepth 100000
set_option maxHeartbeats 40000000
namespace Go.Gk
open Go IntKind Go.Proofs
noncomputable abbrev bS:=Tryz.prog
abbrev c_(f:Nat)(l:List Value)(w:World)(R:Value->World->Prop):Prop:=Calls bS f l.toArray w (gq R)
def ou(x:aH):=(x.X0,x.Y0,x.X1,x.Y1)
instance instGTRect:GT aH:=GT.via ou
instance instKVRect:KV aH:=instKVvia (λ(x:aH)=>(x.X0,x.Y0,x.X1,x.Y1))
theorem eB:Fd 0 (λx:aH=>x.X0):= .v ou<|.fst .self
theorem p9:Fs 0 Int (λ(x:aH)y=>{x with X0:=y}):= .v ou<|.fst .self
theorem dV:Fd 1 (λx:aH=>x.Y0):= .v ou<|.snd<|.fst .self
theorem rJ:Fs 1 Int (λ(x:aH)y=>{x with Y0:=y}):= .v ou<|.snd<|.fst .self
theorem eZ:Fd 2 (λx:aH=>x.X1):= .v ou<|.snd<|.snd<|.fst .self
theorem qc:Fs 2 Int (λ(x:aH)y=>{x with X1:=y}):= .v ou<|.snd<|.snd<|.fst .self
theorem f9:Fd 3 (λx:aH=>x.Y1):= .v ou<|.snd<|.snd<|.snd<|.self
theorem rK:Fs 3 Int (λ(x:aH)y=>{x with Y1:=y}):= .v ou<|.snd<|.snd<|.snd<|.self
def zP(x:jS):=(x.X,x.Y)
instance instGTPoint:GT jS:=GT.via zP
instance instKVPoint:KV jS:=instKVvia (λ(x:jS)=>(x.X,x.Y))
theorem oR:Fd 0 (λx:jS=>x.X):= .v zP<|.fst .self
theorem oS:Fd 1 (λx:jS=>x.Y):= .v zP<|.snd<|.self
def rX(x:cD):=(x.At,x.dY,x.cV,x.To,x.gw)
instance instGTBore:GT cD:=GT.via rX
theorem rL:Fd 0 (λx:cD=>x.At):= .v rX<|.fst .self
theorem mK:Fd 2 (λx:cD=>x.dY):= .v rX<|.snd<|.fst .self
theorem IA:Fs 2 Int (λ(x:cD)y=>{x with dY:=y}):= .v rX<|.snd<|.fst .self
theorem k7:Fd 3 (λx:cD=>x.cV):= .v rX<|.snd<|.snd<|.fst .self
theorem mL:Fd 4 (λx:cD=>x.To):= .v rX<|.snd<|.snd<|.snd<|.fst .self
theorem rM:Fd 5 (λx:cD=>x.gw):= .v rX<|.snd<|.snd<|.snd<|.snd<|.self
def vV(x:eP):=(x.Part,x.eE,x.dL,x.At)
instance instGTLand:GT eP:=GT.via vV
theorem nV:Fd 0 (λx:eP=>x.Part):= .v vV<|.fst .self
theorem qd:Fd 1 (λx:eP=>x.eE):= .v vV<|.snd<|.fst .self
theorem rN:Fd 2 (λx:eP=>x.dL):= .v vV<|.snd<|.snd<|.fst .self
theorem rO:Fd 3 (λx:eP=>x.At):= .v vV<|.snd<|.snd<|.snd<|.self
def yR(x:jT):=(x.aJ,x.cM,x.aL,x.bN)
instance instGTArt:GT jT:=GT.via yR
theorem jE:Fd 0 (λx:jT=>x.aJ):= .v yR<|.fst .self
theorem tP:Fd 1 (λx:jT=>x.cM):= .v yR<|.snd<|.fst .self
theorem ik:Fd 2 (λx:jT=>x.aL):= .v yR<|.snd<|.snd<|.fst .self
theorem lR:Fd 3 (λx:jT=>x.bN):= .v yR<|.snd<|.snd<|.snd<|.self
def yS(x:eE):=(x.Part,x.eE)
instance instGTPin:GT eE:=GT.via yS
instance instKVPin:KV eE:=instKVvia (λ(x:eE)=>(x.Part,x.eE))
theorem BR:Fd 0 (λx:eE=>x.Part):= .v yS<|.fst .self
theorem Fq:Fs 0 fz (λ(x:eE)y=>{x with Part:=y}):= .v yS<|.fst .self
theorem BS:Fd 1 (λx:eE=>x.eE):= .v yS<|.snd<|.self
theorem Ft:Fs 1 fz (λ(x:eE)y=>{x with eE:=y}):= .v yS<|.snd<|.self
def kJ(x:aA):=(x.Y0,x.Y1,x.Xs)
instance instGTshape_Band:GT aA:=GT.via kJ
theorem iP:Fd 0 (λx:aA=>x.Y0):= .v kJ<|.fst .self
theorem vo:Fs 0 Int (λ(x:aA)y=>{x with Y0:=y}):= .v kJ<|.fst .self
theorem gm:Fd 1 (λx:aA=>x.Y1):= .v kJ<|.snd<|.fst .self
theorem qT:Fs 1 Int (λ(x:aA)y=>{x with Y1:=y}):= .v kJ<|.snd<|.fst .self
theorem eV:Fd 2 (λx:aA=>x.Xs):= .v kJ<|.snd<|.snd<|.self
theorem vq:Fs 2 (List Int) (λ(x:aA)y=>{x with Xs:=y}):= .v kJ<|.snd<|.snd<|.self
def kB(x:aI):=(x.dL,x.Set,x.gI)
instance instGTcopper_Piece:GT aI:=GT.via kB
theorem s9:Fd 0 (λx:aI=>x.dL):= .v kB<|.fst .self
theorem yT:Fs 0 Int (λ(x:aI)y=>{x with dL:=y}):= .v kB<|.fst .self
theorem yU:Fs 1 (List aA) (λ(x:aI)y=>{x with Set:=y}):= .v kB<|.snd<|.fst .self
theorem tc:Fd 2 (λx:aI=>x.gI):= .v kB<|.snd<|.snd<|.self
theorem yV:Fs 2 (List aH) (λ(x:aI)y=>{x with gI:=y}):= .v kB<|.snd<|.snd<|.self
def IB(x:cP):=(x.kD,x.aL,x.gH)
instance instGTGroup:GT cP:=GT.via IB
def wN(x:cL):=(x.cD,x.Number)
instance instGTHop:GT cL:=GT.via wN
instance instKVHop:KV cL:=instKVvia (λ(x:cL)=>(x.cD,x.Number))
theorem tQ:Fd 0 (λx:cL=>x.cD):= .v wN<|.fst .self
theorem yW:Fs 0 Bool (λ(x:cL)y=>{x with cD:=y}):= .v wN<|.fst .self
theorem pF:Fd 1 (λx:cL=>x.Number):= .v wN<|.snd<|.self
theorem qz:Fs 1 Int (λ(x:cL)y=>{x with Number:=y}):= .v wN<|.snd<|.self
def ig(x:aG):=(x.from_,x.to)
instance instGTetchhouseref1_span:GT aG:=GT.via ig
instance instKVetchhouseref1_span:KV aG:=instKVvia (λ(x:aG)=>(x.from_,x.to))
theorem fo:Fd 0 (λx:aG=>x.from_):= .v ig<|.fst .self
theorem lS:Fs 0 Int (λ(x:aG)y=>{x with from_:=y}):= .v ig<|.fst .self
theorem fp:Fd 1 (λx:aG=>x.to):= .v ig<|.snd<|.self
theorem lT:Fs 1 Int (λ(x:aG)y=>{x with to:=y}):= .v ig<|.snd<|.self
def gl(x:aN):=(x.from_,x.to,x.jB)
instance instGTetchhouseref1_band:GT aN:=GT.via gl
theorem o5:Fd 0 (λx:aN=>x.from_):= .v gl<|.fst .self
theorem o6:Fs 0 Int (λ(x:aN)y=>{x with from_:=y}):= .v gl<|.fst .self
theorem lU:Fd 1 (λx:aN=>x.to):= .v gl<|.snd<|.fst .self
theorem lV:Fs 1 Int (λ(x:aN)y=>{x with to:=y}):= .v gl<|.snd<|.fst .self
theorem gK:Fd 2 (λx:aN=>x.jB):= .v gl<|.snd<|.snd<|.self
theorem o7:Fs 2 (List aG) (λ(x:aN)y=>{x with jB:=y}):= .v gl<|.snd<|.snd<|.self
theorem Lx(M:fB):GT.ok M (#[(.string ⟨#[]⟩),(.string ⟨#[]⟩)]:Array Value).toList (⟨⟨[]⟩,⟨[]⟩⟩:eE):=⟨[(.string ⟨#[]⟩)],[(.string ⟨#[]⟩)],rfl,(show GT.ok M [(.string ⟨#[]⟩)] (⟨[]⟩:fz)from rfl),(show GT.ok M [(.string ⟨#[]⟩)] (⟨[]⟩:fz)from rfl)⟩
theorem xF(M:fB):GT.ok M (#[(.bool false),(.int .i64 0)]:Array Value).toList (⟨false,0⟩:cL):=⟨[(.bool false)],[(.int .i64 0)],rfl,(show GT.ok M [(.bool false)] (false:Bool)from rfl),(show GT.ok M [(.int .i64 0)] (0:Int)from rfl)⟩
theorem uP(M:fB):GT.ok M (#[(.int .i64 0),(.int .i64 0),(.int .i64 0),(.int .i64 0)]:Array Value).toList (⟨0,0,0,0⟩:aH):=⟨[(.int .i64 0)],[(.int .i64 0),(.int .i64 0),(.int .i64 0)],rfl,(show GT.ok M [(.int .i64 0)] (0:Int)from rfl),⟨[(.int .i64 0)],[(.int .i64 0),(.int .i64 0)],rfl,(show GT.ok M [(.int .i64 0)] (0:Int)from rfl),⟨[(.int .i64 0)],[(.int .i64 0)],rfl,(show GT.ok M [(.int .i64 0)] (0:Int)from rfl),(show GT.ok M [(.int .i64 0)] (0:Int)from rfl)⟩⟩⟩
theorem KS(M:fB):GT.ok M (#[(.int .i64 0),(.int .i64 0)]:Array Value).toList (⟨0,0⟩:jS):=⟨[(.int .i64 0)],[(.int .i64 0)],rfl,(show GT.ok M [(.int .i64 0)] (0:Int)from rfl),(show GT.ok M [(.int .i64 0)] (0:Int)from rfl)⟩
theorem Mq(M:fB):GT.ok M (#[(.int .i64 0),(.int .i64 0),(.int .i64 0),(.int .i64 0),(.int .i64 0),(.bool false)]:Array Value).toList (⟨⟨0,0⟩,0,0,0,false⟩:cD):=⟨[(.int .i64 0),(.int .i64 0)],[(.int .i64 0),(.int .i64 0),(.int .i64 0),(.bool false)],rfl,(show GT.ok M [(.int .i64 0),(.int .i64 0)] (⟨0,0⟩:jS)from KS M),⟨[(.int .i64 0)],[(.int .i64 0),(.int .i64 0),(.bool false)],rfl,(show GT.ok M [(.int .i64 0)] (0:Int)from rfl),⟨[(.int .i64 0)],[(.int .i64 0),(.bool false)],rfl,(show GT.ok M [(.int .i64 0)] (0:Int)from rfl),⟨[(.int .i64 0)],[(.bool false)],rfl,(show GT.ok M [(.int .i64 0)] (0:Int)from rfl),(show GT.ok M [(.bool false)] (false:Bool)from rfl)⟩⟩⟩⟩
theorem BT(M:fB):GT.ok M (#[(.int .i64 0),n_,n_]:Array Value).toList (⟨0,[],[]⟩:aI):=⟨[(.int .i64 0)],[n_,n_],rfl,(show GT.ok M [(.int .i64 0)] (0:Int)from rfl),⟨[n_],[n_],rfl,(show GT.ok M [n_] ([]:List aA)from⟨_,rfl,none,0,0,rfl,rfl,bV _,by simp[maxLen],λ_ _ h=>by simp at h⟩),(show GT.ok M [n_] ([]:List aH)from⟨_,rfl,none,0,0,rfl,rfl,bV _,by simp[maxLen],λ_ _ h=>by simp at h⟩)⟩⟩
theorem yX(M:fB):GT.ok M (#[(.int .i64 0),(.int .i64 0),n_]:Array Value).toList (⟨0,0,[]⟩:aA):=⟨[(.int .i64 0)],[(.int .i64 0),n_],rfl,(show GT.ok M [(.int .i64 0)] (0:Int)from rfl),⟨[(.int .i64 0)],[n_],rfl,(show GT.ok M [(.int .i64 0)] (0:Int)from rfl),(show GT.ok M [n_] ([]:List Int)from⟨_,rfl,none,0,0,rfl,rfl,bV _,by simp[maxLen],λ_ _ h=>by simp at h⟩)⟩⟩
theorem qA(M:fB):GT.ok M (#[(.int .i64 0),(.int .i64 0),n_]:Array Value).toList (⟨0,0,[]⟩:aN):=⟨[(.int .i64 0)],[(.int .i64 0),n_],rfl,(show GT.ok M [(.int .i64 0)] (0:Int)from rfl),⟨[(.int .i64 0)],[n_],rfl,(show GT.ok M [(.int .i64 0)] (0:Int)from rfl),(show GT.ok M [n_] ([]:List aG)from⟨_,rfl,none,0,0,rfl,rfl,bV _,by simp[maxLen],λ_ _ h=>by simp at h⟩)⟩⟩
theorem qB(M:fB):GT.ok M (#[(.int .i64 0),(.int .i64 0)]:Array Value).toList (⟨0,0⟩:aG):=⟨[(.int .i64 0)],[(.int .i64 0)],rfl,(show GT.ok M [(.int .i64 0)] (0:Int)from rfl),(show GT.ok M [(.int .i64 0)] (0:Int)from rfl)⟩
structure aT where
  kD:List Int
  aL:List Int
  gH:RV
  deriving Inhabited
def pG(x:aT):=(x.kD,x.aL,x.gH)
instance instGTGroup_r2:GT aT:=GT.via pG
theorem xG:Fd 0 (λx:aT=>x.kD):= .v pG<|.fst .self
theorem C1:Fd 1 (λx:aT=>x.aL):= .v pG<|.snd<|.fst .self
theorem C2:Fd 2 (λx:aT=>x.gH):= .v pG<|.snd<|.snd<|.self
theorem C3:Fs 2 RV (λ(x:aT)y=>{x with gH:=y}):= .v pG<|.snd<|.snd<|.self
def bA:XT aT cP:=⟨λu x=>u.kD=x.kD/\u.aL=x.aL,λM h u x=>(u.kD=x.kD/\u.aL=x.aL)/\xT 29 M h u.gH.v x.gH,λ{M M' h u x}hk hh=>⟨hh.1,(own 29 u.gH.v x.gH).mono hk hh.2⟩,λh=>h.1⟩
theorem o8:XO bA 29 2 (λu=>u.gH) (λu r=>{u with gH:=r}) (λx=>x.gH) (λx y=>{x with gH:=y}):=⟨C2,C3,by decide,λh=>h.2,λhr ho=>⟨hr,ho⟩⟩
theorem yY(M h:fB)(u:aT)(x:cP)(cs:List Value)(hd:∀b o,h b=some o->M b=none)(hx:bA.ok M h u x)(hc:GT.ok M cs u):GT.ok (sK M h) cs x:=by
 obtain⟨⟨e0,e1⟩,ho⟩:=hx;obtain⟨c0,d0,hd0,a0,c1,d1,hd1,a1,a2⟩:=hc;exact⟨c0,d0,hd0,GT.mono (wJ M h) (show GT.ok M c0 x.kD from e0▸(show GT.ok M c0 u.kD from a0)),⟨c1,d1,hd1,GT.mono (wJ M h) (show GT.ok M c1 x.aL from e1▸(show GT.ok M c1 u.aL from a1)),⟨u.gH.v,a2,xT.sl hd ho⟩⟩⟩
theorem rY:n7 bS 27 true 4:=zI
theorem qC:n7 bS 29 true 2:=zI
theorem np:pw bS 27 0 0:=qS
theorem ov:n7 bS 22 false 1:=zI
theorem po:Tryz.prog.underlying 22=some (.slice 23):=by kernel_rfl
theorem Ea:pw bS 27 1 1:=qS
theorem vx:n7 bS 23 false 1:=zI
theorem oc:Tryz.prog.underlying 23=some (.slice 60):=by kernel_rfl
theorem vW:yt bS 22 23 1:=Gy
theorem jM:yt bS 23 60 4:=Gy
theorem jg:n7 bS 60 true 4:=zI
theorem pH:Gx bS 60 4:=HK<|.agg #[(.int .i64 0),(.int .i64 0),(.int .i64 0),(.int .i64 0)]
theorem iT:pw bS 60 0 0:=qS
theorem cJ:n7 bS 3 false 1:=zI
theorem IC:gG bS 80:=hZ Tryz.func80
theorem iM:pw bS 60 1 1:=qS
theorem jN:pw bS 60 2 2:=qS
theorem kW:pw bS 60 3 3:=qS
theorem Nm:gG bS 90:=hZ Tryz.func90
theorem mixed:Tryz.prog.follows .mixedOrders=true:=by kernel_rfl
theorem BU:vK bS 23 60 4 32:=vK.of<|.agg #[(.int .i64 0),(.int .i64 0),(.int .i64 0),(.int .i64 0)]
theorem Nn:gG bS 82:=hZ Tryz.func82
theorem Np:OL bS 52 [n_]:=⟨n_,λ_=>by kernel_rfl,rfl⟩
theorem fQ:n7 bS 52 false 1:=zI
theorem dE:yt bS 52 3 1:=Gy
theorem Bh:Gx bS 3 1:=HK<|.int .i64 0
theorem pU:vK bS 52 3 1 8:=vK.of<|.int .i64 0
theorem kK:Tryz.prog.underlying 52=some (.slice 3):=by kernel_rfl
theorem MX:Jn bS 3 (0:Int):=Jn.of (.int .i64 0)<|λM=>rfl
theorem Ly:gG bS 100:=hZ Tryz.func100
theorem O4:Jn bS 60 (⟨0,0,0,0⟩:aH):=Jn.of (.agg #[(.int .i64 0),(.int .i64 0),(.int .i64 0),(.int .i64 0)])<|λM=>uP M
theorem Lz:yB bS 138 [(0,1),(1,1),(2,1)] #[(.int .i64 0),(.int .i64 0),n_]:=yB.of (.agg #[(.int .i64 0),(.int .i64 0),n_]) Tryz.underlying138
theorem mX:pw bS 138 2 2:=qS
theorem oN:pw bS 138 1 1:=qS
theorem rm:pw bS 138 0 0:=qS
theorem xe:Tryz.prog.underlying 95=some (.slice 138):=by kernel_rfl
theorem qU:yt bS 95 138 3:=Gy
theorem yZ:n7 bS 138 true 3:=zI
theorem Fu:Gx bS 138 3:=HK<|.agg #[(.int .i64 0),(.int .i64 0),n_]
theorem O8:vK bS 95 138 3 40:=vK.of<|.agg #[(.int .i64 0),(.int .i64 0),n_]
theorem Ns:gG bS 88:=hZ Tryz.func88
theorem JD:gG bS 44:=hZ Tryz.func44
theorem Fv:yB bS 60 [(0,1),(1,1),(2,1),(3,1)] #[(.int .i64 0),(.int .i64 0),(.int .i64 0),(.int .i64 0)]:=yB.of (.agg #[(.int .i64 0),(.int .i64 0),(.int .i64 0),(.int .i64 0)]) Tryz.underlying60
theorem Mr:gG bS 48:=hZ Tryz.func48
theorem ID:Tryz.prog.underlying 3=some (.int .i64):=by kernel_rfl
theorem JE:Mf bS 60 aH:=⟨λM cs ds a b w ha hb=>by
  obtain⟨_,_,rfl,rfl,⟨_,_,rfl,rfl,⟨_,_,rfl,rfl,rfl⟩⟩⟩:=ha
  obtain⟨_,_,rfl,rfl,⟨_,_,rfl,rfl,⟨_,_,rfl,rfl,rfl⟩⟩⟩:=hb
  refine(p8 9999 Tryz.underlying60<|GK.cons (by decide) (iE cJ rfl _) (iE cJ rfl _) (nc ID _ _ w)<|GK.cons (by decide) (iE cJ rfl _) (iE cJ rfl _) (nc ID _ _ w)<|GK.cons (by decide) (iE cJ rfl _) (iE cJ rfl _) (nc ID _ _ w)<|GK.cons (by decide) (iE cJ rfl _) (iE cJ rfl _) (nc ID _ _ w) GK.nil).trans ?_
  congr 1
  cases a;cases b;unfold ou
  rw[eT]
  simp,by kernel_rfl⟩
theorem Nt:gG bS 20:=hZ Tryz.func20
theorem iU:pw bS 27 2 2:=qS
theorem oT:n7 bS 24 false 1:=zI
theorem xY:Tryz.prog.underlying 24=some (.slice 66):=by kernel_rfl
theorem rZ:yt bS 24 66 6:=Gy
theorem mS:n7 bS 66 true 6:=zI
theorem GU:Gx bS 66 6:=HK<|.agg #[(.int .i64 0),(.int .i64 0),(.int .i64 0),(.int .i64 0),(.int .i64 0),(.bool false)]
theorem tu:pw bS 66 1 2:=qS
theorem KT:gG bS 42:=hZ Tryz.func42
theorem zQ:pw bS 66 0 0:=qS
theorem Fw:n7 bS 64 true 2:=zI
theorem xZ:pw bS 64 0 0:=qS
theorem x6:pw bS 64 1 1:=qS
theorem Nu:gG bS 43:=hZ Tryz.func43
theorem IE:gG bS 24:=hZ Tryz.func24
theorem Nv:gG bS 19:=hZ Tryz.func19
theorem qV:pw bS 66 2 3:=qS
theorem tv:pw bS 66 3 4:=qS
theorem oe:pw bS 27 3 3:=qS
theorem xf:n7 bS 25 false 1:=zI
theorem Fx:Tryz.prog.underlying 25=some (.slice 88):=by kernel_rfl
theorem A3:yt bS 25 88 5:=Gy
theorem tw:n7 bS 88 true 5:=zI
theorem JF:Gx bS 88 5:=HK<|.agg #[(.string ⟨#[]⟩),(.string ⟨#[]⟩),(.int .i64 0),(.int .i64 0),(.int .i64 0)]
theorem uQ:pw bS 88 0 0:=qS
theorem AA:n7 bS 9 false 1:=zI
theorem C4:Tryz.prog.underlying 9=some (.string):=by kernel_rfl
theorem Pd(a:fz)(b:Int)(w:World):(callFunc 176 [str a,(.int .u8 b)].toArray).run bS w = .ok (.value<|vi ((Lib.countByte a.dP (Int.toNat b).toUInt8:Nat):Int)) w:=BE Extern.BytealgCount.count Tryz.func176<|Lib.run_countString _ _ w
theorem yL(a:fz)(b:Int)(w:World):(callFunc 163 [str a,(.int .u8 b)].toArray).run bS w = .ok (.value<|vi<|Lib.indexByte a.dP (Int.toNat b).toUInt8) w:=BE Extern.BytealgIndexByte.indexByte Tryz.func163<|Lib.run_indexByteString _ _ w
theorem LA:gG bS 126:=hZ Tryz.func126
theorem LB:gG bS 162:=hZ Tryz.func162
theorem Nz:vK bS 141 9 1 16:=vK.of<|.string ⟨#[]⟩
theorem Qq:Jn bS 9 (⟨[]⟩:fz):=Jn.of (.string ⟨#[]⟩)<|λM=>rfl
theorem Fy:yt bS 141 9 1:=Gy
theorem NB:gG bS 93:=hZ Tryz.func93
theorem LC:Tryz.prog.underlying 141=some (.slice 9):=by kernel_rfl
theorem ND:gG bS 95:=hZ Tryz.func95
theorem NF:gG bS 50:=hZ Tryz.func50
theorem x8:pw bS 88 1 1:=qS
theorem zR:pw bS 88 2 2:=qS
theorem zS:pw bS 88 3 3:=qS
theorem Ms:Gx bS 29 2:=HK<|.agg #[(.string ⟨#[]⟩),(.string ⟨#[]⟩)]
theorem NG:yB bS 29 [(0,1),(1,1)] #[(.string ⟨#[]⟩),(.string ⟨#[]⟩)]:=yB.of (.agg #[(.string ⟨#[]⟩),(.string ⟨#[]⟩)]) Tryz.underlying29
theorem KU:gG bS 52:=hZ Tryz.func52
theorem GV:pw bS 29 0 0:=qS
theorem Ph(a b:fz)(w:World):(callFunc 164 [str a,str b].toArray).run bS w = .ok (.value<|vi<|Lib.compareBytes a.dP b.dP) w:=BE Extern.BytealgCompare.compare Tryz.func164<|Lib.run_compareString _ _ w
theorem NI:gG bS 96:=hZ Tryz.func96
theorem GW:pw bS 29 1 1:=qS
theorem NJ:gG bS 51:=hZ Tryz.func51
theorem NK:gG bS 53:=hZ Tryz.func53
theorem Pl:yB bS 76 [(0,4),(4,1),(5,1),(6,1),(7,1),(8,1),(9,1),(10,1),(11,1)] #[n_,n_,n_,n_,n_,n_,n_,n_,n_,n_,n_,n_]:=yB.of (.agg #[n_,n_,n_,n_,n_,n_,n_,n_,n_,n_,n_,n_]) Tryz.underlying76
theorem tx:pw bS 76 0 0:=qS
theorem Mt:gG bS 54:=hZ Tryz.func54
theorem JG:yt bS 71 95 1:=Gy
theorem Mu:Gx bS 95 1:=HK<|.slice none 0 0
theorem NL:Tryz.prog.underlying 71=some (.slice 95):=by kernel_rfl
theorem NM:n7 bS 95 false 1:=zI
theorem LD:gG bS 128:=hZ Tryz.func128
theorem OO:Tryz.prog.underlying 4=some (.bool):=by kernel_rfl
theorem JH:pw bS 76 1 4:=qS
theorem NO:n7 bS 71 false 1:=zI
theorem NP:vK bS 71 95 1 24:=vK.of<|.slice none 0 0
theorem Mv:gG bS 99:=hZ Tryz.func99
theorem Fz:EW bS 148 3 3 Int Int (0:Int):=⟨by kernel_rfl,A0.int ID,HC (.int .i64 0)<|λM=>⟨_,rfl,rfl⟩⟩
theorem Mw:Gx bS 23 1:=HK<|.slice none 0 0
theorem JI:vK bS 22 23 1 24:=vK.of<|.slice none 0 0
theorem zT:pw bS 76 2 5:=qS
theorem IF:n7 bS 72 false 1:=zI
theorem NQ:yB bS 107 [(0,1),(1,1),(2,1)] #[(.int .i64 0),n_,n_]:=yB.of (.agg #[(.int .i64 0),n_,n_]) Tryz.underlying107
theorem Mx:yt bS 72 107 3:=Gy
theorem JJ:Gx bS 107 3:=HK<|.agg #[(.int .i64 0),n_,n_]
theorem Ps:vK bS 72 107 3 56:=vK.of<|.agg #[(.int .i64 0),n_,n_]
theorem KW:Tryz.prog.underlying 72=some (.slice 107):=by kernel_rfl
theorem HL:n7 bS 107 true 3:=zI
theorem zU:pw bS 66 4 5:=qS
theorem A4:n7 bS 4 false 1:=zI
theorem HM:pw bS 107 0 0:=qS
theorem HN:pw bS 107 2 2:=qS
theorem NR:gG bS 58:=hZ Tryz.func58
theorem BV:pw bS 76 3 6:=qS
theorem vz:n7 bS 73 false 1:=zI
theorem x9:yt bS 73 52 1:=Gy
theorem My:Gx bS 52 1:=HK<|.slice none 0 0
theorem Mz:vK bS 73 52 1 24:=vK.of<|.slice none 0 0
theorem NS:yB bS 151 [(0,1)] #[n_]:=yB.of (.agg #[n_]) Tryz.underlying151
theorem rn:pw bS 151 0 0:=qS
theorem Eb:Tryz.prog.underlying 73=some (.slice 52):=by kernel_rfl
theorem JK:gG bS 101:=hZ Tryz.func101
theorem GX:pw bS 76 5 8:=qS
theorem Ec:pw bS 76 6 9:=qS
theorem JL:OL bS 117 [n_,n_,n_]:=⟨(.agg #[n_,n_,n_]),λ_=>by kernel_rfl,rfl⟩
theorem zV:pw bS 76 4 7:=qS
theorem xg:n7 bS 74 false 1:=zI
theorem MA:Tryz.prog.underlying 74=some (.slice 117):=by kernel_rfl
theorem uR:pw bS 117 0 0:=qS
theorem wO:pw bS 117 1 1:=qS
theorem FA:n7 bS 117 true 3:=zI
theorem C5:yt bS 74 117 3:=Gy
theorem JM:Gx bS 117 3:=HK<|.agg #[n_,n_,n_]
theorem MB:vK bS 74 117 3 72:=vK.of<|.agg #[n_,n_,n_]
theorem pV:Gx bS 38 2:=HK<|.agg #[(.bool false),(.int .i64 0)]
theorem LF:gG bS 102:=hZ Tryz.func102
theorem C6:yB bS 38 [(0,1),(1,1)] #[(.bool false),(.int .i64 0)]:=yB.of (.agg #[(.bool false),(.int .i64 0)]) Tryz.underlying38
theorem eQ:n7 bS 38 true 2:=zI
theorem zW:pw bS 38 0 0:=qS
theorem uS:pw bS 38 1 1:=qS
theorem Bi:pw bS 117 2 2:=qS
theorem HO:n7 bS 115 false 1:=zI
theorem LG:yt bS 115 29 2:=Gy
theorem LH:vK bS 115 29 2 32:=vK.of<|.agg #[(.string ⟨#[]⟩),(.string ⟨#[]⟩)]
theorem BW:pw bS 76 7 10:=qS
theorem zX:pw bS 76 8 11:=qS
theorem IG:n7 bS 30 false 1:=zI
theorem qe:yt bS 30 38 2:=Gy
theorem FB:vK bS 30 38 2 16:=vK.of<|.agg #[(.bool false),(.int .i64 0)]
theorem NU:gG bS 10:=hZ Tryz.func10
theorem NV:OL bS 38 [(.bool false),(.int .i64 0)]:=⟨(.agg #[(.bool false),(.int .i64 0)]),λ_=>by kernel_rfl,rfl⟩
theorem HQ:Tryz.prog.underlying 152=some (.int .u64):=by kernel_rfl
theorem NW:gG bS 28:=hZ Tryz.func28
theorem NX:gG bS 11:=hZ Tryz.func11
theorem Du:Mf bS 38 cL:=⟨λM cs ds a b w ha hb=>by
  obtain⟨_,_,rfl,rfl,rfl⟩:=ha
  obtain⟨_,_,rfl,rfl,rfl⟩:=hb
  refine(p8 9999 Tryz.underlying38<|GK.cons (by decide) (iE A4 rfl _) (iE A4 rfl _) (vP OO _ _ w)<|GK.cons (by decide) (iE cJ rfl _) (iE cJ rfl _) (nc ID _ _ w) GK.nil).trans ?_
  congr 1
  cases a;cases b;unfold wN
  rw[eT]
  simp,by kernel_rfl⟩
theorem NY:A0 bS 38 cL:=A0.struct Tryz.underlying38 rfl Du (λk=>(Lr.cons (by decide) (iE A4 rfl) (λb w=>MapKept.run_checkKey OO (k:= .bool k.cD) trivial b 9998) (Lr.cons (by decide) (iE cJ rfl) (λb w=>MapKept.run_checkKey ID (k:= .int .i64 k.Number) rfl b 9998) Lr.nil))) (λk x hx=>by
  have hx:x∈[Sc.toV k.cD,Sc.toV k.Number]:=hx
  simp only[dM,List.not_mem_nil,or_false]at hx
  rcases hx with rfl|rfl
  · exact MapKept.sameBits_self (d:= .bool) (k:= .bool k.cD) trivial _
  · exact MapKept.sameBits_self (d:= .int .i64) (k:= .int .i64 k.Number) rfl _)
theorem A5:EW bS 56 38 3 cL Int (0:Int):=⟨by kernel_rfl,NY,HC (.int .i64 0)<|λM=>⟨_,rfl,rfl⟩⟩
theorem Ed:Tryz.prog.underlying 30=some (.slice 38):=by kernel_rfl
theorem LI:gG bS 131:=hZ Tryz.func131
theorem LJ:gG bS 104:=hZ Tryz.func104
theorem MC:gG bS 29:=hZ Tryz.func29
theorem LK:Tryz.prog.underlying 58=some (.pointer<|Tryz.prog.pointee 58):=by kernel_rfl
theorem N0:gG bS 17:=hZ Tryz.func17
theorem N1:gG bS 12:=hZ Tryz.func12
theorem xH:gG bS 135:=hZ Tryz.func135
theorem LL:gG bS 109:=hZ Tryz.func109
theorem Dv:gG bS 138:=hZ Tryz.func138
theorem LM:gG bS 110:=hZ Tryz.func110
theorem LN:yB bS 178 [(0,1),(1,1)] #[(.int .i64 0),(.int .i64 0)]:=yB.of (.agg #[(.int .i64 0),(.int .i64 0)]) Tryz.underlying178
theorem xI:Tryz.prog.underlying 158=some (.slice 178):=by kernel_rfl
theorem p4:yt bS 158 178 2:=Gy
theorem rp:pw bS 178 1 1:=qS
theorem rq:pw bS 178 0 0:=qS
theorem HR:n7 bS 178 true 2:=zI
theorem LO:Gx bS 178 2:=HK<|.agg #[(.int .i64 0),(.int .i64 0)]
theorem JN:vK bS 158 178 2 16:=vK.of<|.agg #[(.int .i64 0),(.int .i64 0)]
theorem LP:gG bS 140:=hZ Tryz.func140
theorem HS:gG bS 112:=hZ Tryz.func112
theorem LQ:yB bS 161 [(0,1),(1,1),(2,1)] #[(.int .i64 0),(.int .i64 0),n_]:=yB.of (.agg #[(.int .i64 0),(.int .i64 0),n_]) Tryz.underlying161
theorem wP:pw bS 161 2 2:=qS
theorem Dw:n7 bS 158 false 1:=zI
theorem LR:Tryz.prog.underlying 156=some (.slice 161):=by kernel_rfl
theorem y4:yt bS 156 161 3:=Gy
theorem Bj:pw bS 161 1 1:=qS
theorem HT:pw bS 161 0 0:=qS
theorem MD:Mf bS 178 aG:=⟨λM cs ds a b w ha hb=>by
  obtain⟨_,_,rfl,rfl,rfl⟩:=ha
  obtain⟨_,_,rfl,rfl,rfl⟩:=hb
  refine(p8 9999 Tryz.underlying178<|GK.cons (by decide) (iE cJ rfl _) (iE cJ rfl _) (nc ID _ _ w)<|GK.cons (by decide) (iE cJ rfl _) (iE cJ rfl _) (nc ID _ _ w) GK.nil).trans ?_
  congr 1
  cases a;cases b;unfold ig
  rw[eT]
  simp,by kernel_rfl⟩
theorem N5:n7 bS 161 true 3:=zI
theorem N6:Gx bS 161 3:=HK<|.agg #[(.int .i64 0),(.int .i64 0),n_]
theorem N7:vK bS 156 161 3 40:=vK.of<|.agg #[(.int .i64 0),(.int .i64 0),n_]
theorem LS:gG bS 111:=hZ Tryz.func111
theorem LU:gG bS 113:=hZ Tryz.func113
theorem ME:gG bS 74:=hZ Tryz.func74
theorem LV:gG bS 105:=hZ Tryz.func105
theorem FC:gG bS 107:=hZ Tryz.func107
theorem LW:gG bS 134:=hZ Tryz.func134
theorem IH:gG bS 36:=hZ Tryz.func36
theorem LX:gG bS 137:=hZ Tryz.func137
theorem KX:gG bS 34:=hZ Tryz.func34
theorem JO:gG bS 117:=hZ Tryz.func117
theorem Oe:gG bS 33:=hZ Tryz.func33
theorem JP:vK bS 122 4 1 1:=vK.of<|.bool false
theorem PN:Jn bS 4 (false:Bool):=Jn.of (.bool false)<|λM=>rfl
theorem xJ:yt bS 122 4 1:=Gy
theorem Of:gG bS 32:=hZ Tryz.func32
theorem Og:gG bS 31:=hZ Tryz.func31
theorem Oh:gG bS 13:=hZ Tryz.func13
theorem PT:yB bS 80 [(0,4),(4,1),(5,1),(6,1),(7,1)] #[n_,n_,n_,n_,n_,n_,n_,n_]:=yB.of (.agg #[n_,n_,n_,n_,n_,n_,n_,n_]) Tryz.underlying80
theorem BX:pw bS 80 1 4:=qS
theorem oU:pw bS 80 2 5:=qS
theorem qf:pw bS 80 4 7:=qS
theorem tz:pw bS 80 3 6:=qS
theorem LY:yB bS 117 [(0,1),(1,1),(2,1)] #[n_,n_,n_]:=yB.of (.agg #[n_,n_,n_]) Tryz.underlying117
theorem JQ:gG bS 79:=hZ Tryz.func79
theorem LZ:gG bS 115:=hZ Tryz.func115
theorem uT:pw bS 80 0 0:=qS
theorem Oi:gG bS 78:=hZ Tryz.func78
theorem MF:gG bS 38:=hZ Tryz.func38
theorem Ol:gG bS 14:=hZ Tryz.func14
theorem Om:gG bS 39:=hZ Tryz.func39
theorem On:gG bS 40:=hZ Tryz.func40
theorem Oo:gG bS 18:=hZ Tryz.func18
theorem Oq:gG bS 15:=hZ Tryz.func15
theorem Ot:gG bS 16:=hZ Tryz.func16
theorem Qi:gG bS 8:=hZ Tryz.func8
theorem PZ:yB bS 66 [(0,2),(2,1),(3,1),(4,1),(5,1)] #[(.int .i64 0),(.int .i64 0),(.int .i64 0),(.int .i64 0),(.int .i64 0),(.bool false)]:=yB.of (.agg #[(.int .i64 0),(.int .i64 0),(.int .i64 0),(.int .i64 0),(.int .i64 0),(.bool false)]) Tryz.underlying66
def r5(E:World)(V:List HP)(res:List fz)(v:Value)(w:World):Prop:=Holds E w<|[own 9 v res]++V
def kL(E:World)(V:List HP)(res:Int×Bool)(v:Value)(w:World):Prop:=v = .tuple #[vi res.1,vb res.2]/\Holds E w V
def pI(E:World)(V:List HP)(b0:Nat)(e_ g_:Value)(a_ d_:Value)(h_ b_:Value)(f_ i_:Value)(p_ o_:Value)(l_ k_:Value)(res:List (cL×Int))(v:Value)(w:World):Prop:=Holds E w<|[mp v res,bc 76 b0 [e_,g_,a_,d_,h_,b_,f_,i_,p_,o_,l_,k_]]++V
def y5(E:World)(V:List HP)(res:List cL×Bool×Int)(v:Value)(w:World):Prop:=∃u0:Value,v = .tuple #[u0,vb res.2.1,vi res.2.2]/\Holds E w ([own 38 u0 res.1]++V)
def og(E:World)(V:List HP)(res:List Int)(v:Value)(w:World):Prop:=Holds E w<|[rd v res]++V
def gS(E:World)(V:List HP)(b0:Nat)(e_ g_:Value)(a_ d_:Value)(h_ b_ f_:Value)(us0_6:List aT)(r_:List cP)(i_:Value)(res:Int)(v:Value)(w:World):Prop:=v= vi res/\Holds E w ([bc 80 b0 [e_,g_,a_,d_,h_,b_,f_,i_],own 117 f_ us0_6,jl bA us0_6 r_ none]++V)
def aU(E:World)(V:List HP)(res:Bool)(v:Value)(w:World):Prop:=v= vb res/\Holds E w V
def aV(E:World)(V:List HP)(res:Int)(v:Value)(w:World):Prop:=v= vi res/\Holds E w V
def gv(E:World)(V:List HP)(res:List aH)(v:Value)(w:World):Prop:=Holds E w<|[own 60 v res]++V
def nr(E:World)(V:List HP)(res:List Int)(v:Value)(w:World):Prop:=Holds E w<|[own 3 v res]++V
def nW(E:World)(V:List HP)(res:List aA)(v:Value)(w:World):Prop:=Holds E w<|[own 138 v res]++V
def pJ(E:World)(V:List HP)(res:aH)(v:Value)(w:World):Prop:=Holds E w<|[rd v res]++V
def mn(E:World)(V:List HP)(res:List aG)(v:Value)(w:World):Prop:=Holds E w<|[own 178 v res]++V
def pK(E:World)(V:List HP)(res:List (List aH))(v:Value)(w:World):Prop:=Holds E w<|[own 23 v res]++V
def km(E:World)(V:List HP)(b0:Nat)(e_ g_:Value)(a_ d_:Value)(h_ b_:Value)(f_ i_:Value)(res:List Int)(v:Value)(w:World):Prop:=Holds E w<|[own 3 v res,bc 80 b0 [e_,g_,a_,d_,h_,b_,f_,i_]]++V
def tR(E:World)(V:List HP)(res:List cL×Int)(v:Value)(w:World):Prop:=∃u0:Value,v = .tuple #[u0,vi res.2]/\Holds E w ([own 38 u0 res.1]++V)
def CX(H:Type)(d:DataW H):Nat:=YthjjhaommlojiaaGreatDoor.Rows.uptoBulk d
def Ov(H:Type)(d:List (DataW H)):Nat:=YthjjhaommlojiaaGreatDoor.Rows.uptoBulkAll d
theorem kf:UB CX Ov where
  str:=λH b=>by simp[CX,YthjjhaommlojiaaGreatDoor.Rows.uptoBulk]
  pos:=λH d=>by
    unfold CX
    cases d with
    |lit l=>cases l <;> simp[YthjjhaommlojiaaGreatDoor.Rows.uptoBulk]
    |nil=>simp[YthjjhaommlojiaaGreatDoor.Rows.uptoBulk]
    |ptr d=>simp[YthjjhaommlojiaaGreatDoor.Rows.uptoBulk]
    |slice elems spare=>simp[YthjjhaommlojiaaGreatDoor.Rows.uptoBulk]
    |agg parts=>simp[YthjjhaommlojiaaGreatDoor.Rows.uptoBulk]
    |iface t d=>simp[YthjjhaommlojiaaGreatDoor.Rows.uptoBulk]
    |map entries=>simp[YthjjhaommlojiaaGreatDoor.Rows.uptoBulk]
    |held h=>simp[YthjjhaommlojiaaGreatDoor.Rows.uptoBulk]
  sl:=λH e s=>by simp[CX,Ov,YthjjhaommlojiaaGreatDoor.Rows.uptoBulk]
  ag:=λH l=>by simp[CX,Ov,YthjjhaommlojiaaGreatDoor.Rows.uptoBulk]
  nil:=λH=>by simp[Ov,YthjjhaommlojiaaGreatDoor.Rows.uptoBulkAll]
  cons:=λH x l=>by simp[CX,Ov,YthjjhaommlojiaaGreatDoor.Rows.uptoBulkAll]
theorem KE:lW CX Tryz.prog 3 Int:=IL kf (by kernel_rfl)
theorem P0:lW CX Tryz.prog 60 aH:=nX kf (λ(x:aH)=>(x.X0,x.Y0,x.X1,x.Y1)) (λb=>⟨b.1,b.2.1,b.2.2.1,b.2.2.2⟩) (λb=>rfl) Tryz.underlying60 (iV kf KE<|iV kf KE<|iV kf KE<|rP kf KE) (λb=>by simp only[K3];omega)
theorem Ow:lW CX Tryz.prog 23 (List aH):=uV (e:=60) kf P0
theorem P3:lW CX Tryz.prog 22 (List<|List aH):=uV (e:=23) kf Ow
theorem Ox:lW CX Tryz.prog 64 jS:=nX kf (λ(x:jS)=>(x.X,x.Y)) (λb=>⟨b.1,b.2⟩) (λb=>rfl) Tryz.underlying64 (iV kf KE<|rP kf KE) (λb=>by simp only[JW];omega)
theorem Qw:lW CX Tryz.prog 4 Bool:=G1 kf (by kernel_rfl)
theorem P4:lW CX Tryz.prog 66 cD:=nX kf (λ(x:cD)=>(x.At,x.dY,x.cV,x.To,x.gw)) (λb=>⟨b.1,b.2.1,b.2.2.1,b.2.2.2.1,b.2.2.2.2⟩) (λb=>rfl) Tryz.underlying66 (iV kf Ox<|iV kf KE<|iV kf KE<|iV kf KE<|rP kf Qw) (λb=>by simp only[K4];omega)
theorem P5:lW CX Tryz.prog 24 (List cD):=uV (e:=66) kf P4
theorem OP:lW CX Tryz.prog 9 fz:=IM kf (by kernel_rfl)
theorem P6:lW CX Tryz.prog 88 eP:=nX kf (λ(x:eP)=>(x.Part,x.eE,x.dL,x.At)) (λb=>⟨b.1,b.2.1,b.2.2.1,b.2.2.2⟩) (λb=>rfl) Tryz.underlying88 (iV kf OP<|iV kf OP<|iV kf KE<|rP kf Ox) (λb=>by simp only[HW];omega)
theorem P7:lW CX Tryz.prog 25 (List eP):=uV (e:=88) kf P6
theorem P8:lW CX Tryz.prog 27 jT:=nX kf (λ(x:jT)=>(x.aJ,x.cM,x.aL,x.bN)) (λb=>⟨b.1,b.2.1,b.2.2.1,b.2.2.2⟩) (λb=>rfl) Tryz.underlying27 (iV kf P3<|iV kf Ow<|iV kf P5<|rP kf P7) (λb=>by simp only[JX];omega)
theorem Oy:lW CX Tryz.prog 29 eE:=nX kf (λ(x:eE)=>(x.Part,x.eE)) (λb=>⟨b.1,b.2⟩) (λb=>rfl) Tryz.underlying29 (iV kf OP<|rP kf OP) (λb=>by simp only[MH];omega)
end Go.Gk
namespace Go.Proofs
open Go.Shelf Go.RowKit Go.Lib Go.Sort
def Tryz.lay82_ren : Go.Shelf.Ren := ⟨fun | 6 => 82 | 15 => 120 | 14 => 119 | 28 => 150 | 29 => 151 | 20 => 142 | 21 => 143 | 22 => 144 | 23 => 145 | 24 => 146 | 25 => 147 | 26 => 148 | 27 => 149 | 46 => 166 | 47 => 167 | 48 => 168 | 49 => 169 | 50 => 170 | 57 => 178 | n => n, fun | 22 => 23 | 24 => 60 | 25 => 69 | 3 => 3 | 39 => 152 | 0 => 0 | 53 => 188 | 55 => 190 | 4 => 4 | 46 => 182 | 45 => 181 | 50 => 55 | 5 => 5 | 9 => 9 | 66 => 197 | 70 => 201 | 76 => 208 | 77 => 209 | n => n, fun | n => n⟩
theorem Tryz.lay82 : Go.Proofs.SlLaysF0.n6 Tryz.prog Tryz.lay82_ren := {
  mixed := by kernel_rfl
  f6 := ⟨Tryz.f82.name, by decide, Tryz.func82.trans (congrArg some (by kernel_rfl))⟩
  f14 := ⟨Tryz.f119.name, by decide, Tryz.func119.trans (congrArg some (by kernel_rfl))⟩
  f15 := Tryz.func120.trans (congrArg some (by kernel_rfl))
  f20 := ⟨Tryz.f142.name, by decide, Tryz.func142.trans (congrArg some (by kernel_rfl))⟩
  f21 := ⟨Tryz.f143.name, by decide, Tryz.func143.trans (congrArg some (by kernel_rfl))⟩
  f22 := ⟨Tryz.f144.name, by decide, Tryz.func144.trans (congrArg some (by kernel_rfl))⟩
  f23 := ⟨Tryz.f145.name, by decide, Tryz.func145.trans (congrArg some (by kernel_rfl))⟩
  f24 := ⟨Tryz.f146.name, by decide, Tryz.func146.trans (congrArg some (by kernel_rfl))⟩
  f25 := ⟨Tryz.f147.name, by decide, Tryz.func147.trans (congrArg some (by kernel_rfl))⟩
  f26 := ⟨Tryz.f148.name, by decide, Tryz.func148.trans (congrArg some (by kernel_rfl))⟩
  f27 := ⟨Tryz.f149.name, by decide, Tryz.func149.trans (congrArg some (by kernel_rfl))⟩
  f28 := Tryz.func150.trans (congrArg some (by kernel_rfl))
  f29 := Tryz.func151.trans (congrArg some (by kernel_rfl))
  f46 := ⟨Tryz.f166.name, by decide, Tryz.func166.trans (congrArg some (by kernel_rfl))⟩
  f47 := Tryz.func167.trans (congrArg some (by kernel_rfl))
  f48 := Tryz.func168.trans (congrArg some (by kernel_rfl))
  f49 := ⟨Tryz.f169.name, by decide, Tryz.func169.trans (congrArg some (by kernel_rfl))⟩
  f50 := ⟨Tryz.f170.name, by decide, Tryz.func170.trans (congrArg some (by kernel_rfl))⟩
  f57 := ⟨Tryz.f178.name, by decide, Tryz.func178.trans (congrArg some (by kernel_rfl))⟩
  t0 := Tryz.underlying0
  a0 := Tryz.isAgg0
  z0 := Tryz.sizeOf0
  v0 := Tryz.zeroValue0
  t3 := Tryz.underlying3
  a3 := Tryz.isAgg3
  z3 := Tryz.sizeOf3
  v3 := Tryz.zeroValue3
  t4 := Tryz.underlying4
  a4 := Tryz.isAgg4
  z4 := Tryz.sizeOf4
  v4 := Tryz.zeroValue4
  t5 := Tryz.underlying5
  a5 := Tryz.isAgg5
  z5 := Tryz.sizeOf5
  v5 := Tryz.zeroValue5
  t9 := Tryz.underlying9
  a9 := Tryz.isAgg9
  z9 := Tryz.sizeOf9
  v9 := Tryz.zeroValue9
  t22 := Tryz.underlying23
  a22 := Tryz.isAgg23
  z22 := Tryz.sizeOf23
  v22 := Tryz.zeroValue23
  t25 := Tryz.underlying69
  a25 := Tryz.isAgg69
  z25 := Tryz.sizeOf69
  v25 := Tryz.zeroValue69
  t39 := Tryz.underlying152
  a39 := Tryz.isAgg152
  z39 := Tryz.sizeOf152
  v39 := Tryz.zeroValue152
  t45 := Tryz.underlying181
  a45 := Tryz.isAgg181
  z45 := Tryz.sizeOf181
  v45 := Tryz.zeroValue181
  t46 := Tryz.underlying182
  a46 := Tryz.isAgg182
  z46 := Tryz.sizeOf182
  v46 := Tryz.zeroValue182
  t50 := Tryz.underlying55
  a50 := Tryz.isAgg55
  z50 := Tryz.sizeOf55
  v50 := Tryz.zeroValue55
  t53 := Tryz.underlying188
  a53 := Tryz.isAgg188
  z53 := Tryz.sizeOf188
  v53 := Tryz.zeroValue188
  t55 := Tryz.underlying190
  a55 := Tryz.isAgg190
  z55 := Tryz.sizeOf190
  v55 := Tryz.zeroValue190
  t66 := Tryz.underlying197
  a66 := Tryz.isAgg197
  z66 := Tryz.sizeOf197
  v66 := Tryz.zeroValue197
  t70 := Tryz.underlying201
  a70 := Tryz.isAgg201
  z70 := Tryz.sizeOf201
  v70 := Tryz.zeroValue201
  t76 := Tryz.underlying208
  a76 := Tryz.isAgg208
  z76 := Tryz.sizeOf208
  v76 := Tryz.zeroValue208
  t77 := Tryz.underlying209
  a77 := Tryz.isAgg209
  z77 := Tryz.sizeOf209
  v77 := Tryz.zeroValue209 }
def Tryz.lay84_ren : Go.Shelf.Ren := ⟨fun | 5 => 84 | 8 => 120 | 7 => 121 | 19 => 150 | 20 => 151 | 10 => 152 | 11 => 153 | 12 => 154 | 13 => 155 | 14 => 156 | 15 => 157 | 16 => 103 | 17 => 158 | 18 => 159 | 30 => 171 | 31 => 167 | 32 => 168 | 33 => 172 | 34 => 173 | 35 => 131 | 40 => 179 | n => n, fun | 23 => 52 | 25 => 3 | 3 => 3 | 32 => 152 | 22 => 52 | 0 => 0 | 44 => 188 | 46 => 190 | 4 => 4 | 36 => 182 | 35 => 181 | 41 => 55 | 5 => 5 | 9 => 9 | 53 => 197 | 57 => 201 | 63 => 208 | 64 => 209 | n => n, fun | n => n⟩
theorem Tryz.lay84 : Go.Proofs.SlLaysM.n5 Tryz.prog Tryz.lay84_ren := {
  mixed := by kernel_rfl
  f5 := ⟨Tryz.f84.name, by decide, Tryz.func84.trans (congrArg some (by kernel_rfl))⟩
  f7 := ⟨Tryz.f121.name, by decide, Tryz.func121.trans (congrArg some (by kernel_rfl))⟩
  f8 := Tryz.func120.trans (congrArg some (by kernel_rfl))
  f10 := ⟨Tryz.f152.name, by decide, Tryz.func152.trans (congrArg some (by kernel_rfl))⟩
  f11 := ⟨Tryz.f153.name, by decide, Tryz.func153.trans (congrArg some (by kernel_rfl))⟩
  f12 := ⟨Tryz.f154.name, by decide, Tryz.func154.trans (congrArg some (by kernel_rfl))⟩
  f13 := ⟨Tryz.f155.name, by decide, Tryz.func155.trans (congrArg some (by kernel_rfl))⟩
  f14 := ⟨Tryz.f156.name, by decide, Tryz.func156.trans (congrArg some (by kernel_rfl))⟩
  f15 := ⟨Tryz.f157.name, by decide, Tryz.func157.trans (congrArg some (by kernel_rfl))⟩
  f16 := ⟨Tryz.f103.name, by decide, Tryz.func103.trans (congrArg some (by kernel_rfl))⟩
  f17 := ⟨Tryz.f158.name, by decide, Tryz.func158.trans (congrArg some (by kernel_rfl))⟩
  f18 := ⟨Tryz.f159.name, by decide, Tryz.func159.trans (congrArg some (by kernel_rfl))⟩
  f19 := Tryz.func150.trans (congrArg some (by kernel_rfl))
  f20 := Tryz.func151.trans (congrArg some (by kernel_rfl))
  f30 := ⟨Tryz.f171.name, by decide, Tryz.func171.trans (congrArg some (by kernel_rfl))⟩
  f31 := Tryz.func167.trans (congrArg some (by kernel_rfl))
  f32 := Tryz.func168.trans (congrArg some (by kernel_rfl))
  f33 := ⟨Tryz.f172.name, by decide, Tryz.func172.trans (congrArg some (by kernel_rfl))⟩
  f34 := ⟨Tryz.f173.name, by decide, Tryz.func173.trans (congrArg some (by kernel_rfl))⟩
  f35 := ⟨Tryz.f131.name, by decide, Tryz.func131.trans (congrArg some (by kernel_rfl))⟩
  f40 := ⟨Tryz.f179.name, by decide, Tryz.func179.trans (congrArg some (by kernel_rfl))⟩
  t0 := Tryz.underlying0
  a0 := Tryz.isAgg0
  z0 := Tryz.sizeOf0
  v0 := Tryz.zeroValue0
  t3 := Tryz.underlying3
  a3 := Tryz.isAgg3
  z3 := Tryz.sizeOf3
  v3 := Tryz.zeroValue3
  t4 := Tryz.underlying4
  a4 := Tryz.isAgg4
  z4 := Tryz.sizeOf4
  v4 := Tryz.zeroValue4
  t5 := Tryz.underlying5
  a5 := Tryz.isAgg5
  z5 := Tryz.sizeOf5
  v5 := Tryz.zeroValue5
  t9 := Tryz.underlying9
  a9 := Tryz.isAgg9
  z9 := Tryz.sizeOf9
  v9 := Tryz.zeroValue9
  t22 := Tryz.underlying52
  a22 := Tryz.isAgg52
  z22 := Tryz.sizeOf52
  v22 := Tryz.zeroValue52
  t23 := Tryz.underlying52
  a23 := Tryz.isAgg52
  z23 := Tryz.sizeOf52
  v23 := Tryz.zeroValue52
  t25 := Tryz.underlying3
  a25 := Tryz.isAgg3
  z25 := Tryz.sizeOf3
  v25 := Tryz.zeroValue3
  t32 := Tryz.underlying152
  a32 := Tryz.isAgg152
  z32 := Tryz.sizeOf152
  v32 := Tryz.zeroValue152
  t35 := Tryz.underlying181
  a35 := Tryz.isAgg181
  z35 := Tryz.sizeOf181
  v35 := Tryz.zeroValue181
  t36 := Tryz.underlying182
  a36 := Tryz.isAgg182
  z36 := Tryz.sizeOf182
  v36 := Tryz.zeroValue182
  t41 := Tryz.underlying55
  a41 := Tryz.isAgg55
  z41 := Tryz.sizeOf55
  v41 := Tryz.zeroValue55
  t44 := Tryz.underlying188
  a44 := Tryz.isAgg188
  z44 := Tryz.sizeOf188
  v44 := Tryz.zeroValue188
  t46 := Tryz.underlying190
  a46 := Tryz.isAgg190
  z46 := Tryz.sizeOf190
  v46 := Tryz.zeroValue190
  t53 := Tryz.underlying197
  a53 := Tryz.isAgg197
  z53 := Tryz.sizeOf197
  v53 := Tryz.zeroValue197
  t57 := Tryz.underlying201
  a57 := Tryz.isAgg201
  z57 := Tryz.sizeOf201
  v57 := Tryz.zeroValue201
  t63 := Tryz.underlying208
  a63 := Tryz.isAgg208
  z63 := Tryz.sizeOf208
  v63 := Tryz.zeroValue208
  t64 := Tryz.underlying209
  a64 := Tryz.isAgg209
  z64 := Tryz.sizeOf209
  v64 := Tryz.zeroValue209 }
end Go.Proofs
namespace Go.Gk
open Go IntKind Go.Proofs
variable (N:Nat){E w:World}{i0 i1 i2:Nat}{p0 p1 p2 res:Int}{v0 v1 v2:Value}{V:List HP}
theorem A6{res:Bool}(o:Holds E w V)(j:uL N p0 p1 p2=some res):c_ 118 [vi p0,vi p1,vi p2] w<|aU E V res:=by
 unfold uL at j;refine enter Tryz.func118 zr zr<|w_<|cA false<|IT<|aW p0<|aW p1<|ic p0 p1<|fI (decide<|p0>=p1)<|IN true (decide<|p0>=p1) (vi p0) zr zr zr cF ?_;refine IN true (decide<|p0>=p1) (vi p2) rfl rfl rfl cF<|IN true (decide<|p0>=p1) (vb<|decide<|p0<=p2) rfl rfl rfl (dR .leq .i64 p0 p2 rfl (by exact z_ (vi p0)) (by exact z_ (vi p2)) rfl)<|Q7 (decide<|p0>=p1) (vb<|decide (p0>=p1)&&decide (p0<=p2)) (gL true rfl)<|cA (decide (p0>=p1)&&decide (p0<=p2))<|AI<|QL ?_;exact oi j▸bX ⟨rfl,o.drop 0⟩
theorem mM{res:Bool}(o:Holds E w V)(j:mj N p0=some res):c_ 80 [vi p0] w<|aU E V res:=by
 unfold mj at j;exact enter Tryz.func80 zr zr<|w_<|cA false<|IT<|aW p0<|q_ j λaa ab j=>QM (hZ Tryz.func118) (A6 N (p0:=p0) (p1:=(-1000000)) (p2:=1000000) o ab) λw o=>cA aa<|AI<|QL<|oi j▸bX ⟨rfl,o.drop 0⟩
theorem vr{p0:aH}{res:Bool}(j:Holds E w V)(h0:V[i0]? =some (rd v0 p0))(hb:nP N p0=some res):c_ 90 [v0] w<|aU E V res:=by
 unfold nP at hb;refine enter Tryz.func90 zr zr ?_;have j:=j.dup (i0+0) h0;refine w_<|Q2 0 v0 j zr λaq w j=>?_;refine cA false<|OF<|q_ hb λaf o hb=>QP (λ(af:Bool)=>SH E V [(2,vb af)] []) af ?_ ?_;refine IS<|AT zr iT<|QI 0 j zr eB cJ<|q_ o λaj ak o=>QM IC (mM N (p0:=p0.X0) j ak) λw j=>fI aj<|fw o (λaa o=>?_) λaa o=>?_;refine AT (hg:=cg aa) zr iM<|QI (hg:=cg aa) 0 j zr dV cJ<|q_ o λag al o=>QM (hg:=cg aa) IC (mM N (p0:=p0.Y0) j al) λw j=>fA aa (vb ag)<|fI ag<|fw o (λab o=>?_) λab o=>?_;refine AT (hg:=cg ab) zr jN<|QI (hg:=cg ab) 0 j zr eZ cJ<|q_ o λah an o=>QM (hg:=cg ab) IC (mM N (p0:=p0.X1) j an) λw j=>fA ab (vb ah)<|fI ah<|fw o (λad o=>?_) λad o=>?_;exact AT (hg:=cg ad) zr kW<|QI (hg:=cg ad) 0 j zr f9 cJ<|q_ o λai ao o=>QM (hg:=cg ad) IC (mM N (p0:=p0.Y1) j ao) λw j=>fA ad (vb ai)<|cA ai<|By<|oi o▸⟨rfl,j.sp 2 []⟩;exact bI ad<|bI ad<|bI ad<|fA ad (vb false)<|cA false<|By<|oi o▸⟨rfl,j.sp 2 []⟩;refine bI ab<|bI ab<|bI ab<|fA ab (vb false)<|fI false<|jU<|jU<|jU<|Q7 false (vb false) zr<|cA false<|By ?_;exact oi o▸⟨rfl,j.sp 2 []⟩;refine bI aa<|bI aa<|bI aa<|fA aa (vb false)<|fI false<|jU<|jU<|jU<|Q7 false (vb false) zr<|fI false<|jU<|jU<|jU<|Q7 false (vb false) zr<|cA false<|By ?_;exact oi o▸⟨rfl,j.sp 2 []⟩;rintro _ w⟨O,rfl,j⟩;exact aD<|QL<|oi hb▸bX ⟨rfl,j.drop 0⟩
theorem xk{p0:List aH}(o:Holds E w V)(h0:V[i0]? =some (rd v0 p0))(hb:lK N p0=some res):c_ 46 [v0] w<|aV E V res:=by
 unfold lK at hb;refine enter Tryz.func46 zr zr ?_;have o:=o.dup (i0+0) h0;refine w_<|aP 0<|OF<|w_<|mv v0<|QK 0 p0 o oc<|ic ((p0.length:Int)) 2000<|AI<|dQ hb (λhb=>?_) λhb=>?_;exact w_<|aP 2<|AI<|Q5<|oi hb▸bX ⟨rfl,o.drop 1⟩;refine QX<|w_<|mv v0<|QK 0 p0 o oc<|aW 0<|AI<|RY E V (λ(ae:Unit)=>[rd v0 p0]) (λ_=>[]) (λad _=>[(8,v0),(9,vi p0.length),(10,vi ad)]) (λr=>l7 bS 30 Tryz.f46 (aV E V r) .ret) hb ?_ ?_ ?_ ?_;exact o.sp 1 [0];rintro hm ad ae fl _ w hk⟨O,rfl,o⟩hb;refine BY<|Q6<|q_ hb λj ah hb=>QG 0 o jM ah λan o=>QR 0 j o jg λao o=>Rn o pH.z λab w o=>?_;refine Rj 0 o 1 zr jg λw o=>?_;refine OF<|w_<|QW 0 o zr jg λaq o=>?_;refine q_ hb λai aj hb=>QM Nm (vr N (i0:=0) o zr aj) λw o=>Ro ai<|AI<|dQ hb (λhb=>?_) λhb=>?_;exact w_<|aP 1<|AI<|Q5<|px<|bW<|oi hb▸⟨rfl,bX ⟨rfl,o.drop 5⟩⟩;refine Ru<|AT rfl jN<|QI 1 o rfl eZ cJ<|AT rfl iT<|QI 1 o rfl eB cJ<|ic j.X1 j.X0<|fI (decide<|j.X1<=j.X0)<|IN true (decide<|j.X1<=j.X0) (vp ab 3) rfl rfl rfl (eU kW)<|IN true (decide<|j.X1<=j.X0) (vi j.Y1) rfl rfl rfl (cI 1 rfl o (by exact z_ (vp ab 3)) rfl f9 cJ) ?_;refine IN true (decide<|j.X1<=j.X0) (vp ab 1) rfl rfl rfl (eU iM)<|IN true (decide<|j.X1<=j.X0) (vi j.Y0) rfl rfl rfl (cI 1 rfl o (by exact z_ (vp ab 1)) rfl dV cJ)<|IN true (decide<|j.X1<=j.X0) (vb<|decide<|j.Y1<=j.Y0) rfl rfl rfl (dR .leq .i64 j.Y1 j.Y0 rfl (by exact z_ (vi j.Y1)) (by exact z_ (vi j.Y0)) rfl)<|Q7 (decide<|j.X1<=j.X0) (vb<|decide (j.X1<=j.X0)||decide (j.Y1<=j.Y0)) (l9 true)<|AI<|dQ hb (λhb=>?_) λhb=>?_;exact w_<|aP 13<|AI<|RB<|bW<|oi hb▸⟨rfl,bX ⟨rfl,o.drop 5⟩⟩;exact Rb<|bO<|aD<|IS<|Rv hk hm<|aW ((ad+1:Nat):Int)<|By<|oi hb▸⟨rfl,o.sp 5 [4]⟩;intro r U w hb hK;exact bW<|oi hb▸hK;rintro ae _ w hb⟨O,rfl,o⟩;exact aD<|w_<|aP 0<|AI<|QL<|oi hb▸bX ⟨rfl,o.drop 1⟩
theorem vX{p0:List aH}{res:List aH}(j:Holds E w V)(h0:V[i0]? =some (rd v0 p0))(o:kb N p0=some res):
    c_ 81 [v0] w<|gv E V res:=by
 unfold kb at o
 refine enter Tryz.func81 zr zr ?_
 have j:=j.dup (i0+0) h0
 refine w_<|cZ n_<|OF<|w_<|mv v0<|Tv (i:=0) zt zr j zr zr zr oc<|AI<|Sw (b:=KP v0) zr (λhc=>?_)<|λhc=>?_
 ·have hx:=j.OU (i:=0) rfl hc
  rw[hx]at o
  replace o:some ([]:List aH)=_:=o
  refine w_<|cZ n_<|AI<|Q5 ?_
  obtain rfl:=oi o
  have j:=j.cG aH 60
  exact bX<|j.pk 2 [0]
 refine Ru<|Ri ([]:List aH) j [] jM pH (λM hs g=>zt) λae w j=>mv v0 ?_
 obtain⟨af,ab,o⟩:=bd o
 refine Rl 0 1 j BU ab λad w j=>?_
 refine cZ ad<|AI<|QL ?_
 obtain rfl:=oi o
 exact bX<|j.pk 2 [0]
theorem y7{p0 p1:aH}(j:Holds E w V)(h0:V[i0]? =some (rd v0 p0))(h1:V[i1]? =some (rd v1 p1))(o:kE N p0 p1=some res):c_ 83 [v0,v1] w<|aV E V res:=by
 unfold kE at o;refine enter Tryz.func83 zr zr ?_;have j:=(j.dup (i0+0) h0).dup (i1+1) h1;refine w_<|Q2 1 v0 j zr λaa w j=>?_;refine Q2 1 v1 j zr λab w j=>?_;refine aP 0<|IT<|AT zr iM<|QI 1 j zr dV cJ<|AT zr iM<|QI 0 j zr dV cJ<|QF p0.Y0 p1.Y0<|aP (wrap .i64<|p0.Y0 - p1.Y0)<|AI ?_;exact QL<|oi o▸bX ⟨rfl,j.drop 4⟩
theorem vA{p0:List Int}{res:List Int}(j:Holds E w (own 3 v0 p0::V))(o:iQ N p0=some res):c_ 85 [v0] w<|nr E V res:=by
 unfold iQ at o;refine enter Tryz.func85 zr zr<|w_<|cZ n_<|OF<|w_<|mv v0<|Rx 0 p0 j kK<|ic ((p0.length:Int)) 2<|AI<|dQ o (λo=>?_) λo=>?_;refine w_<|mv v0<|cZ v0<|AI<|Q5 ?_;obtain rfl:=oi o;exact bX<|j.pk 1 [0];refine QX<|w_<|aP 1<|AI<|RN E V (λ(ab:Int)=>[own 3 v0 p0]) (λ_=>[(0,v0)]) (λab=>[(3,vi ab)]) (λr=>l7 bS 61 Tryz.f85 (nr E V r) .ret) o ?_ ?_ ?_ ?_;exact j.sp 1 [0];rintro ab fl _ w⟨O,rfl,j⟩o;refine BY<|w_<|aW ab<|mv v0<|Rx 0 p0 j kK<|ic ab ((p0.length:Int))<|AI<|dQ o (λo=>?_) λo=>?_;refine QX<|Rq<|BY<|RG mixed ?_;have j:=j.drew;refine RF<|mv v0<|AS<|aW ab<|AS<|q_ o λaq aj o=>QT 0 j zr zr dE aj<|AS<|RA 0 j aj cJ<|AS<|mv v0<|AS<|aW ab<|AS<|QF ab 1 ?_;refine AS<|q_ o λar ak o=>QT 0 j zr zr dE ak<|AS<|RA 0 j ak cJ<|AS<|ic aq ar<|Rs<|aD<|dQ o (λo=>?_) λo=>?_;refine w_<|mv v0<|aW ab<|q_ o λa0 ae o=>SW 0 ab zr j zr zr dE ae<|cZ (vw v0 (Int.toNat ab) 1)<|OF<|w_<|aP 1<|AI<|R6 E V (λ(aa:List Int×Int×Int)=>[own 3 v0 aa.1]) (λaa=>[(0,v0),(3,vi aa.2.1)]) (λaa=>[(4,vw v0 (Int.toNat ab) 1),(5,vi aa.2.2)]) o ?_ ?_ ?_;exact j.sp 1 [0];rintro aa fl _ w⟨O,rfl,j⟩o;refine BY<|w_<|aW aa.2.2<|mv (vw v0 (Int.toNat ab) 1)<|Tw (i:=0) (l:=aa.1) zt zr j zr zr kK<|ic aa.2.2 ((((aa.1.length - Int.toNat ab):Nat):Int))<|AI<|dQ o (λo=>?_) λo=>?_;refine QX<|Rq<|BY<|RG mixed ?_;have j:=j.drew;refine RF<|mv (vw v0 (Int.toNat ab) 1)<|AS<|aW aa.2.2<|AS<|q_ o λau af o=>SX 0 ab zr j zr zr zr dE (GP ae) (kZ af).1 (kZ af).2<|AS<|R2 (f:=(λx=>x)) 0 zt j (qw 0 j (kZ af).2 0) (fK (kZ af).2).2.1 Fd.self cJ<|AS<|mv (vw v0 (Int.toNat ab) 1)<|AS<|aW aa.2.2<|AS<|QF aa.2.2 1 ?_;refine AS<|q_ o λav ag o=>SX 0 ab zr j zr zr zr dE (GP ae) (kZ ag).1 (kZ ag).2<|AS<|R2 (f:=(λx=>x)) 0 zt j (qw 0 j (kZ ag).2 0) (fK (kZ ag).2).2.1 Fd.self cJ<|AS<|ic au av<|Rs<|aD<|q_ o λah hj o=>QP (λ(ah:List Int×Int)=>SH E V [(0,v0),(3,vi ah.2),(4,vw v0 (Int.toNat ab) 1),(5,vi aa.2.2)] [own 3 v0 ah.1]) ah ?_ ?_;refine dQ hj (λhj=>?_) λhj=>?_;refine w_<|mv v0<|aW aa.2.1<|mv (vw v0 (Int.toNat ab) 1)<|aW aa.2.2<|q_ hj λaw ai hj=>SX 0 ab zr j zr zr zr dE (GP ae) (kZ ai).1 (kZ ai).2<|R2 (f:=(λx=>x)) 0 zt j (qw 0 j (kZ ai).2 0) (fK (kZ ai).2).2.1 Fd.self cJ<|q_ hj λa1 al hj=>QT 0 j zr zr dE al ?_;have j:=j.sc Int aw;refine RP 1 0 j al cJ λw j=>?_;refine AI<|IS<|aW aa.2.1<|QF aa.2.1 1<|aP (wrap .i64<|aa.2.1+1)<|By ?_;exact oi hj▸⟨rfl,j.sp 2 [1]⟩;exact Rb<|oi hj▸⟨rfl,j.sp 1 [0]⟩;rintro _ w⟨O,rfl,j⟩;refine bO<|aD<|IS<|aW aa.2.2<|QF aa.2.2 1<|aP (wrap .i64<|aa.2.2+1)<|By ?_;exact oi o▸⟨rfl,j.sp 1 [0]⟩;exact Q3<|oi o▸⟨rfl,j.sp 1 [0]⟩;rintro aa _ w o⟨O,rfl,j⟩;refine aD<|w_<|mv v0<|aW aa.2.1<|q_ o λa2 an o=>SW 0 aa.2.1 zr j zr zr dE an<|Te 0 zt j zr zr pU MX (Jx an) λw j=>IT<|mv v0<|aW aa.2.1<|q_ o λa3 ax o=>Sr 0 zr j zr zr dE (.inr ⟨rfl,zr⟩) (.inl zr) ax λay j=>cZ ay<|AI<|RB<|bW ?_;obtain rfl:=oi o;exact⟨rfl,bX<|j.pk 1 [0]⟩;refine Rb<|bO<|aD<|IS<|aW ab<|QF ab 1<|aP (wrap .i64<|ab+1)<|By ?_;exact oi o▸⟨rfl,j.sp 1 [0]⟩;exact Q3<|oi o▸⟨rfl,j.sp 1 [0]⟩;intro r U w o hK;exact bW<|oi o▸hK;rintro ab _ w o⟨O,rfl,j⟩;refine aD<|w_<|mv v0<|cZ v0<|AI<|QL ?_;obtain rfl:=oi o;exact bX<|j.pk 1 [0]
theorem y8{p0:aH}{p1:List Int}{res:Bool}(j:Holds E w V)(h0:V[i0]? =some (rd v0 p0))(h1:V[i1]? =some (pt v1 p1))(h2:V[i2]? =some (pt v2 p2))(o:pz N p0 p1 p2=some res):c_ 87 [v0,v1,v2] w<|aU E V res:=by
 unfold pz at o;refine enter Tryz.func87 zr zr ?_;have j:=((j.dup (i0+0) h0).BB (i:=i1+1) h1).BB (i:=i2+2) h2;refine w_<|Q2 2 v0 j zr λad w j=>?_;refine cA false<|OF<|RG mixed ?_;have j:=j.drew;refine RF<|AT zr kW<|AS<|QI 0 j zr f9 cJ<|AS<|QR 2 p1 j fQ λae j=>AS<|QZ p2 2 j cJ<|AS<|q_ o λaa ab o=>QG 0 j dE ab λaf j=>AS<|QZ aa 0 j cJ<|AS<|ic p0.Y1 aa<|AS<|cA (decide<|p0.Y1<=aa)<|Rs<|aD ?_;exact QL<|oi o▸bX ⟨rfl,j.drop 6⟩
theorem tB{p0:List aH}{p1:aH->Option Bool}(o:Holds E w V)(h0:V[i0]? =some (rd v0 p0))(h1:KA bS E V v1 p1 (λ(r:Bool)=>Value.bool r))(j:mQ N p0 p1=some res):c_ 100 [v0,v1] w<|aV E V res:=by
 unfold mQ at j;refine enter Tryz.func100 zr zr ?_;have o:=o.dup (i0+0) h0;refine w_<|aP 0<|OF<|w_<|mv v0<|QK 0 p0 o oc<|aW 0<|AI<|RY E V (λ(ab:Unit)=>[rd v0 p0]) (λ_=>[]) (λaa _=>[(0,v0),(1,v1),(7,vi p0.length),(8,vi aa)]) (λr=>l7 bS 19 Tryz.f100 (aV E V r) .ret) j ?_ ?_ ?_ ?_;exact o.sp 1 [0];rintro hm aa ab fl _ w hk⟨O,rfl,o⟩j;refine BY<|Q6<|aW (aa:Int)<|aP (aa:Int)<|IT<|mv v1<|mv v0<|aW (aa:Int)<|q_ j λaf ag j=>QG 0 o jM ag λak o=>QR 0 af o jg λal o=>?_;refine q_ j λan ah j=>SD 0 zr o zr h1 3 zr zr zr ah λw o=>AI<|dQ j (λj=>?_) λj=>?_;exact w_<|aW (aa:Int)<|aP (aa:Int)<|AI<|RB<|bW<|oi j▸⟨rfl,bX ⟨rfl,o.drop 3⟩⟩;exact Rb<|bO<|aD<|IS<|Rv hk hm<|aW ((aa+1:Nat):Int)<|By<|oi j▸⟨rfl,o.sp 3 [2]⟩;intro r U w j hK;exact bW<|oi j▸hK;rintro ab _ w j⟨O,rfl,o⟩;exact aD<|w_<|aP (-1)<|AI<|QL<|oi j▸bX ⟨rfl,o.drop 1⟩
def nu(E:World)(V:List HP)(v0:Value)(p0:List aH)(res:Int)(v:Value)(w:World):Prop:=v= vi res/\Holds E w ([own 60 v0 p0]++V)
theorem ru{p0:List aH}{p1:aH->Option Bool}(o:Holds E w (own 60 v0 p0::V))(h1:KA bS E V v1 p1 (λ(r:Bool)=>Value.bool r))(j:lA N p0 p1=some res):c_ 100 [v0,v1] w<|nu E V v0 p0 res:=by
 unfold lA at j;refine enter Tryz.func100 zr zr<|w_<|aP 0<|OF<|w_<|mv v0<|Rx 0 p0 o oc<|aW 0<|AI<|RY E V (λ(ab:Unit)=>[own 60 v0 p0]) (λ_=>[(0,v0)]) (λaa _=>[(1,v1),(7,vi p0.length),(8,vi aa)]) (λr=>l7 bS 19 Tryz.f100 (nu E V v0 p0 r) .ret) j ?_ ?_ ?_ ?_;exact o.sp 1 [0];rintro hm aa ab fl _ w hk⟨O,rfl,o⟩j;refine BY<|Q6<|aW (aa:Int)<|aP (aa:Int)<|IT<|mv v1<|mv v0<|aW (aa:Int)<|q_ j λaj ad j=>QT 0 o zr zr jM ad<|RQ 0 o ad jg λak o=>?_;refine q_ j λal ag j=>SD 0 zr o zr h1 2 zr zr zr ag λw o=>AI<|dQ j (λj=>?_) λj=>?_;exact w_<|aW (aa:Int)<|aP (aa:Int)<|AI<|RB<|bW<|oi j▸⟨rfl,bX ⟨rfl,o.pk 2 [1]⟩⟩;exact Rb<|bO<|aD<|IS<|Rv hk hm<|aW ((aa+1:Nat):Int)<|By<|oi j▸⟨rfl,o.sp 2 [1]⟩;intro r U w j hK;exact bW<|oi j▸hK;rintro ab _ w j⟨O,rfl,o⟩;exact aD<|w_<|aP (-1)<|AI<|QL<|oi j▸bX ⟨rfl,o.pk 1 [0]⟩
theorem sM{p0:List aH}{p1:aH->Option Bool}{res:List aH}(j:Holds E w (own 60 v0 p0::V))(h1:KA bS E V v1 p1 (λ(r:Bool)=>Value.bool r))(o:ju N p0 p1=some res):c_ 86 [v0,v1] w<|gv E V res:=by
 unfold ju at o;refine enter Tryz.func86 zr zr<|w_<|cZ n_<|IT<|mv v0<|mv v1 ?_;have j:=j.pull 0;refine q_ o λad ai o=>QM Ly (ru N j (h1.lift 1 zr) ai) λw j=>aP ad<|OF<|w_<|aW ad<|ic ad ((-1))<|AI<|dQ o (λo=>?_) λo=>?_;refine w_<|mv v0<|cZ v0<|AI<|Q5 ?_;obtain rfl:=oi o;exact bX<|j.pk 2 [0];refine QX<|w_<|aW ad<|QF ad 1<|aP (wrap .i64<|ad+1)<|AI<|R6 E V (λ(aa:List aH×Int×Int)=>[own 60 v0 aa.1]) (λaa=>[(0,v0),(5,vi aa.2.1)]) (λaa=>[(1,v1),(6,vi aa.2.2)]) o ?_ ?_ ?_;exact j.sp 2 [0];rintro aa fl _ w⟨O,rfl,j⟩o;refine BY<|w_<|aW aa.2.2<|mv v0<|Rx 0 aa.1 j oc<|ic aa.2.2 ((aa.1.length:Int))<|AI<|dQ o (λo=>?_) λo=>?_;refine QX<|Q6<|mv v0<|aW aa.2.2<|q_ o λaq af o=>QT 0 j zr zr jM af<|RQ 0 j af jg λar j=>?_;refine Rn j pH.z λau w j=>?_;refine Rj 0 j 1 zr jg λw j=>?_;refine IT<|mv v1<|QW 0 j zr jg λav j=>?_;refine q_ o λaj ak o=>SD 0 zr j zr h1 4 zr zr zr ak λw j=>Ro aj<|AI<|q_ o λae hj o=>QP (λ(ae:List aH×Int)=>SH E V [(0,v0),(1,v1),(5,vi ae.2),(6,vi aa.2.2)] [own 60 v0 ae.1]) ae ?_ ?_;refine dQ hj (λhj=>?_) λhj=>?_;refine w_<|mv v0<|aW aa.2.1<|QW 1 j zr jg λaw j=>?_;refine q_ hj λax ag hj=>QT 4 j zr zr jM ag<|RP 4 0 j ag jg λw j=>?_;refine AI<|IS<|aW aa.2.1<|QF aa.2.1 1<|aP (wrap .i64<|aa.2.1+1)<|By ?_;exact oi hj▸⟨rfl,j.sp 5 [4]⟩;exact Rb<|oi hj▸⟨rfl,j.sp 4 [3]⟩;rintro _ w⟨O,rfl,j⟩;refine bO<|aD<|IS<|aW aa.2.2<|QF aa.2.2 1<|aP (wrap .i64<|aa.2.2+1)<|By ?_;exact oi o▸⟨rfl,j.sp 1 [0]⟩;exact Q3<|oi o▸⟨rfl,j.sp 1 [0]⟩;rintro aa _ w o⟨O,rfl,j⟩;refine aD<|w_<|mv v0<|aW aa.2.1<|q_ o λay ah o=>SW 0 aa.2.1 zr j zr zr jM ah<|Te 0 zt j zr zr BU O4 (Jx ah) λw j=>IT<|mv v0<|aW aa.2.1<|q_ o λaz al o=>Sr 0 zr j zr zr jM (.inr ⟨rfl,zr⟩) (.inl zr) al λan j=>cZ an<|AI<|QL ?_;obtain rfl:=oi o;exact bX<|j.pk 1 [0]
theorem vB{p0 p1:aH}(j:Holds E w V)(h0:V[i0]? =some (rd v0 p0))(h1:V[i1]? =some (rd v1 p1))(o:iR N p0 p1=some res):c_ 123 [v0,v1] w<|aV E V res:=by
 unfold iR at o;refine enter Tryz.func123 zr zr ?_;have j:=(j.dup (i0+0) h0).dup (i1+1) h1;refine w_<|Q2 1 v0 j zr λaa w j=>?_;refine Q2 1 v1 j zr λab w j=>?_;refine aP 0<|IT<|AT zr iT<|QI 1 j zr eB cJ<|AT zr iT<|QI 0 j zr eB cJ<|QF p0.X0 p1.X0<|aP (wrap .i64<|p0.X0 - p1.X0)<|AI ?_;exact QL<|oi o▸bX ⟨rfl,j.drop 4⟩
def y9(E:World)(V:List HP)(v0:Value)(res:List Int×List aH)(v:Value)(w:World):Prop:=Holds E w<|[own 3 v res.1,own 60 v0 res.2]++V
theorem yd{p0:List aH}{res:List Int×List aH}(j:Holds E w (own 60 v0 p0::V))(hb:kj N p0=some res):c_ 89 [v0] w<|y9 E V v0 res:=by
 unfold kj at hb;refine enter Tryz.func89 zr zr<|w_<|cZ n_<|IT<|mv v0 ?_;obtain⟨ag,az,hb⟩:=bd hb;have j:=j.pull 0;refine QM Nn (HX Tryz.lay82 aH zr jg.KH jg.sz (hZ Tryz.func123) (λj hi o hr=>vB N j hi o hr) j az) λw j=>IT<|cZ n_<|OF<|w_<|mv v0<|Rx 0 ag j oc<|aW 0<|AI ?_;have j:=j.cG Int 3;refine RZ E V (λ(ad:List Int)(aj:Value)=>[own 60 v0 ag,own 3 aj ad]) (λ_ aj=>[(0,v0),(3,aj)]) (λah _ _=>[(9,v0),(10,vi ag.length),(11,vi ah)]) hb ?_ ?_ ?_;exact⟨n_,j.sp 3 [1,0]⟩;rintro hm ah ad s' _ w hk⟨af,O,rfl,j⟩hb;refine BY<|Q6<|q_ hb λae ao hb=>QT 0 j zr zr jM ao<|RQ 0 j ao jg λa3 j=>?_;refine Rn j pH.z λaq w j=>?_;refine Rj 0 j 1 zr jg λw j=>?_;refine IT<|mv af<|Rx 3 ad j kK<|QF (ad.length:Int) 1<|aP (wrap .i64<|(ad.length:Int) - 1)<|OF<|q_ hb λak o hb=>QP (λ(ak:Bool)=>SH E V [(0,v0),(3,af),(5,vp aq 0),(6,vi<|wrap .i64<|(ad.length:Int) - 1),(9,v0),(10,vi ag.length),(11,vi ah),(28,vb ak)] [own 60 v0 ag,own 3 af ad,bx 60 aq ae]) ak ?_ ?_;refine RG mixed ?_;have j:=j.drew;refine RF<|aW (wrap .i64<|(ad.length:Int) - 1)<|AS<|ic (wrap .i64<|(ad.length:Int) - 1) 0<|AS<|fI (decide<|wrap .i64 ((ad.length:Int) - 1)>=0)<|fw o (λaa o=>?_) λaa o=>?_;refine AS<|AT (hg:=cg aa) zr iT<|AS<|QI (hg:=cg aa) 0 j zr eB cJ<|AS<|QE af (cg aa)<|AS<|QE (vi<|wrap .i64<|(ad.length:Int) - 1) (cg aa)<|AS ?_;refine q_ o λar au o=>QT (hg:=cg aa) 3 j zr zr dE au<|AS<|RA (hg:=cg aa) 3 j au cJ<|AS<|Ry ae.X0 ar (cg aa)<|AS<|fA aa (vb<|decide<|ae.X0<=ar)<|Rs ?_;exact oi o▸⟨rfl,j.sp 4 [2,3,0]⟩;refine AS<|bI aa<|AS<|bI aa<|AS<|bI aa<|AS<|bI aa<|AS<|bI aa<|AS<|bI aa<|AS<|bI aa<|AS<|fA aa (vb false)<|Rs ?_;exact oi o▸⟨rfl,j.sp 4 [2,3,0]⟩;rintro _ w⟨O,rfl,j⟩;refine aD<|q_ hb λal o hb=>QP (λ(al:List Int)U w=>∃ai:Value,SH E V [(0,v0),(3,ai),(9,v0),(10,vi ag.length),(11,vi ah)] [own 60 v0 ag,own 3 ai al] U w) al ?_ ?_;refine dQ o (λo=>?_) λo=>?_;refine Rz mixed [0,0,0,0,0,0,0,0,0,0,2] [0,1,2,3,4,5,6,7,8,9,10] ?_;have j:=j.drew;refine QN zr<|mv af<|aY zr<|aW (wrap .i64<|(ad.length:Int) - 1)<|aY zr<|mv af<|aY zr<|aW (wrap .i64<|(ad.length:Int) - 1)<|aY zr ?_;refine q_ o λan aw o=>QT 1 j zr zr dE aw<|aY zr<|RA 1 j aw cJ<|aY zr<|AT zr jN<|aY zr<|QI 2 j zr eZ cJ<|aY zr<|R5 an ae.X1<|aY zr ?_;refine q_ o λa6 ax o=>QT 1 j zr zr dE ax<|pE zr ?_;have j:=j.sc Int (if an<ae.X1 then ae.X1 else an);refine RP 2 0 j ax cJ λw j=>?_;exact Rc zt<|Rg<|oi o▸⟨rfl,af,j.sp 4 [1,2]⟩;refine IS<|mv af<|AT zr iT<|QI 2 j zr eB cJ<|AT zr jN<|QI 2 j zr eZ cJ ?_;have j:=(j.sc Int ae.X0).sc Int ae.X1;refine Ri ([ae.X0,ae.X1]:List Int) j [vi ae.X0,vi ae.X1] dE Bh (λM hs g=>⟨(g.sat 1 _ zr).1,⟨(g.sat 0 _ zr).1,zt⟩⟩) λa4 w j=>?_;have j:=j.freeze 0;refine q_ o λa5 a2 o=>Rl 4 0 j pU a2 λav w j=>?_;exact cZ av<|By<|oi o▸⟨rfl,av,j.sp 6 [3,4]⟩;rintro _ w⟨ai,O,rfl,j⟩;exact bO<|aD<|IS<|Rv hk hm<|aW ((ah+1:Nat):Int)<|By<|oi hb▸⟨rfl,ai,j.sp 2 [0,1]⟩;rintro ad _ w hb⟨ay,O,rfl,j⟩;refine aD<|w_<|mv ay<|cZ ay<|AI<|QL ?_;obtain rfl:=oi hb;exact bX<|j.pk 2 [1,0]
theorem xl{p0:List Int}{p1:List Int}{res:Bool}(j:Holds E w V)(h0:V[i0]? =some (rd v0 p0))(h1:V[i1]? =some (rd v1 p1))(o:nQ N p0 p1=some res):c_ 122 [v0,v1] w<|aU E V res:=by
 unfold nQ at o;refine enter Tryz.func122 zr zr ?_;have j:=(j.dup (i0+0) h0).dup (i1+1) h1;refine w_<|cA false<|OF<|w_<|mv v0<|QK 1 p0 j kK<|mv v1<|QK 0 p1 j kK<|ic ((p0.length:Int)) ((p1.length:Int))<|AI<|dQ o (λo=>?_) λo=>?_;exact w_<|cA false<|AI<|Q5<|oi o▸bX ⟨rfl,j.drop 2⟩;refine QX<|w_<|mv v0<|QK 1 p0 j kK<|aW 0<|AI<|RY E V (λ(ab:Unit)=>[rd v0 p0,rd v1 p1]) (λ_=>[]) (λaa _=>[(0,v0),(1,v1),(12,vi p0.length),(13,vi aa)]) (λr=>l7 bS 26 Tryz.f122 (aU E V r) .ret) o ?_ ?_ ?_ ?_;exact j.sp 2 [1,0];rintro hm aa ab fl _ w hk⟨O,rfl,j⟩o;refine BY<|Q6<|aW (aa:Int)<|aP (aa:Int)<|OF<|RG mixed ?_;have j:=j.drew;refine RF<|mv v0<|AS<|aW (aa:Int)<|AS<|q_ o λad ah o=>QG 0 j dE ah λal j=>AS<|QZ ad 0 j cJ<|AS<|mv v1<|AS<|aW (aa:Int)<|AS ?_;refine q_ o λae ai o=>QG 2 j dE ai λan j=>AS<|QZ ae 0 j cJ<|AS<|ic ad ae<|Rs<|aD<|dQ o (λo=>?_) λo=>?_;exact w_<|cA false<|AI<|RB<|bW<|oi o▸⟨rfl,bX ⟨rfl,j.drop 4⟩⟩;exact Rb<|bO<|aD<|IS<|Rv hk hm<|aW ((aa+1:Nat):Int)<|By<|oi o▸⟨rfl,j.sp 4 [2,3]⟩;intro r U w o hK;exact bW<|oi o▸hK;rintro ab _ w o⟨O,rfl,j⟩;exact aD<|w_<|cA true<|AI<|QL<|oi o▸bX ⟨rfl,j.drop 2⟩
theorem te{p0:List aA}{p1:aA}{res:List aA}(o:Holds E w (own 138 v0 p0::V))(h1:V[i1]? =some (rd v1 p1))(hb:jZ N p0 p1=some res):c_ 88 [v0,v1] w<|nW E V res:=by
 unfold jZ at hb;refine enter Tryz.func88 zr zr ?_;have o:=o.dup (i1+1) h1;refine w_<|Q2 0 v1 o zr λaf w o=>?_;refine cZ n_<|OF<|w_<|AT zr mX<|Rk 0 o zr eV fQ λau o=>QK 0 p1.Xs o kK<|ic ((p1.Xs.length:Int)) 0<|fI ((p1.Xs.length:Int)==0)<|IN true ((p1.Xs.length:Int)==0) (vp af 1) zr zr zr (eU oN) ?_;refine IN true ((p1.Xs.length:Int)==0) (vi p1.Y1) rfl rfl rfl (cI 1 rfl o (by exact z_ (vp af 1)) rfl gm cJ)<|IN true ((p1.Xs.length:Int)==0) (vp af 0) rfl rfl rfl (eU rm)<|IN true ((p1.Xs.length:Int)==0) (vi p1.Y0) rfl rfl rfl (cI 1 rfl o (by exact z_ (vp af 0)) rfl iP cJ)<|IN true ((p1.Xs.length:Int)==0) (vb<|decide<|p1.Y1<=p1.Y0) rfl rfl rfl (dR .leq .i64 p1.Y1 p1.Y0 rfl (by exact z_ (vi p1.Y1)) (by exact z_ (vi p1.Y0)) rfl)<|Q7 ((p1.Xs.length:Int)==0) (vb<|((p1.Xs.length:Int)==0)||decide (p1.Y1<=p1.Y0)) (l9 true)<|AI<|dQ hb (λhb=>?_) λhb=>?_;refine w_<|mv v0<|cZ v0<|AI<|Q5 ?_;obtain rfl:=oi hb;exact bX<|o.pk 4 [3];refine QX<|w_<|mv v0<|Rx 3 p0 o xe<|QF (p0.length:Int) 1<|aP (wrap .i64<|(p0.length:Int) - 1)<|OF<|q_ hb λaj hj hb=>QP (λ(aj:Bool)=>SH E V [(0,v0),(3,vp af 0),(5,vi<|wrap .i64<|(p0.length:Int) - 1),(42,vb aj)] [own 138 v0 p0,bx 138 af p1]) aj ?_ ?_;refine Rz mixed [0,0,0,0,0,0,0,0,0,0,0,0,0,0,0,0,0,0,0,0,2,0] [0,1,2,3,4,5,6,7,8,9,10,11,12,13,14,15,16,17,18,19,20,21] ?_;have o:=o.drew;refine QN zr<|aW (wrap .i64<|(p0.length:Int) - 1)<|aY zr<|ic (wrap .i64<|(p0.length:Int) - 1) 0<|aY zr<|fI (decide<|wrap .i64 ((p0.length:Int) - 1)>=0)<|QV<|fw hj (λaa hj=>?_) λaa hj=>?_;refine QN zr<|QE v0 (cg aa)<|aY zr<|QE (vi<|wrap .i64<|(p0.length:Int) - 1) (cg aa)<|aY zr<|q_ hj λak ag hj=>QT (hg:=cg aa) 3 o zr zr qU ag<|aY zr<|RS (α:=aA) (cg aa) (qw 3 o ag 0) oN<|aY zr<|R2 3 (cg aa) o (qw 3 o ag 1) (fK ag).2.1 gm cJ<|aY zr<|AT (hg:=cg aa) zr rm<|aY zr<|QI (hg:=cg aa) 1 o zr iP cJ ?_;refine aY zr<|Ry ak.Y1 p1.Y0 (cg aa)<|aY zr<|fA aa (vb<|ak.Y1==p1.Y0)<|aY zr<|fI (ak.Y1==p1.Y0)<|QV<|fw hj (λab hj=>?_) λab hj=>?_;refine QN zr<|QE v0 (cg ab)<|aY zr<|QE (vi<|wrap .i64<|(p0.length:Int) - 1) (cg ab)<|aY zr<|q_ hj λav ah hj=>QT (hg:=cg ab) 3 o zr zr qU ah<|aY zr<|RS (α:=aA) (cg ab) (qw 3 o ah 0) mX<|aY zr<|Sq (i:=3) (cg ab) zr o zr (qw 3 o ah 2) zr (fK ah).2.1 eV fQ λaw o=>?_;exact aY zr<|AT (hg:=cg ab) zr mX<|aY zr<|Rk (hg:=cg ab) 2 o zr eV fQ λax o=>pE zr<|q_ hj λal an hj=>QM (hg:=cg ab) (hZ Tryz.func122) (xl N (i0:=1) (i1:=0) o zr zr an) λw o=>tt zr<|fA ab (vb al)<|QV<|Rg<|oi hj▸⟨rfl,o.sp 6 [5,3]⟩;refine QN zr<|bI ab<|aY zr<|bI ab<|aY zr<|bI ab<|aY zr<|bI ab<|aY zr<|bI ab<|aY zr<|bI ab<|aY zr<|bI ab<|pE zr<|bI ab<|tt zr<|fA ab (vb false) ?_;exact QV<|Rg<|oi hj▸⟨rfl,o.sp 4 [3,1]⟩;refine QN zr<|bI aa<|aY zr<|bI aa<|aY zr<|bI aa<|aY zr<|bI aa<|aY zr<|bI aa<|aY zr<|bI aa<|aY zr<|bI aa<|aY zr<|bI aa<|aY zr<|fA aa (vb false) ?_;refine aY zr<|fI false<|aY zr<|jU<|aY zr<|jU<|aY zr<|jU<|aY zr<|jU<|aY zr<|jU<|aY zr<|jU<|aY zr<|jU<|pE zr<|jU ?_;exact tt zr<|Q7 false (vb false) zr<|QV<|Rg<|oi hj▸⟨rfl,o.sp 4 [3,1]⟩;rintro _ w⟨O,rfl,o⟩;refine aD<|dQ hb (λhb=>?_) λhb=>?_;refine w_<|mv v0<|aW (wrap .i64<|(p0.length:Int) - 1)<|AT zr oN<|QI 1 o zr gm cJ<|q_ hb λa0 ai hb=>QT 0 o zr zr qU ai<|RS (α:=aA) zt (qw 0 o ai 0) oN ?_;have o:=o.sc Int p1.Y1;refine SE (i:=1) (j:=0) trivial o rfl rfl (qw 1 o ai 1) rfl (fK ai).2.1 rfl qT (by decide) cJ λw o=>?_;refine IT<|mv v0<|cZ v0<|AI<|Q5 ?_;obtain rfl:=oi hb;exact bX<|o.pk 3 [1];refine Ru<|mv v0<|QW 1 o zr yZ λao o=>Ri ([p1]:List aA) o [ao] qU Fu (λM hs g=>⟨(g.sat 0 _ zr).1,zt⟩) λay w o=>?_;have o:=o.freeze 0;refine q_ hb λaz aq hb=>Rl 2 0 o O8 aq λar w o=>?_;refine cZ ar<|AI<|QL ?_;obtain rfl:=oi hb;exact bX<|o.pk 4 [2]
theorem nv{p0:List aH}{res:List aA}(j:Holds E w V)(h0:V[i0]? =some (rd v0 p0))(o:iY N p0=some res):c_ 44 [v0] w<|nW E V res:=by
 unfold iY at o;refine enter Tryz.func44 zr zr ?_;have j:=j.dup (i0+0) h0;refine w_<|cZ n_<|IT<|mv v0<|q_ o λca bg o=>QO (hZ Tryz.func81) (vX N (i0:=0) j zr bg) λad w j=>cZ ad<|IT<|mv ad ?_;obtain⟨ai,bh,o⟩:=bd o;have j:=j.pull 0;refine QM Nn (HX Tryz.lay82 aH zr jg.KH jg.sz (hZ Tryz.func83) (λj hi hj hr=>y7 N j hi hj hr) j bh) λw j=>IT<|Sh j Np λag w j=>?_;refine OF<|w_<|mv ad<|Rx 1 ai j oc<|aW 0<|AI<|RZ E V (λ(av:List Int)(a0:Value)=>[own 60 ad ai,bc 52 ag [a0],own 3 a0 av]) (λ_ _=>[(0,ad),(3,vp ag 0)]) (λaw _ _=>[(14,ad),(15,vi ai.length),(16,vi aw)]) o ?_ ?_ ?_;have j:=j.cG Int 3;exact⟨n_,j.sp 5 [2,1,0]⟩;rintro hm aw av s' _ w hk⟨bl,O,rfl,j⟩o;refine BY<|Q6<|q_ o λak a1 o=>QT 0 j zr zr jM a1<|RQ 0 j a1 jg λcb j=>?_;refine Rn j pH.z λcc w j=>?_;refine Rj 0 j 1 zr jg λw j=>?_;refine AI<|IS<|QQ 3 bl j fQ<|AT zr iM<|QI 0 j zr dV cJ<|AT zr kW<|QI 0 j zr f9 cJ ?_;have j:=(j.sc Int ak.Y0).sc Int ak.Y1;refine Ri ([ak.Y0,ak.Y1]:List Int) j [vi ak.Y0,vi ak.Y1] dE Bh (λM hs g=>⟨(g.sat 1 _ zr).1,⟨(g.sat 0 _ zr).1,zt⟩⟩) λcd w j=>?_;have j:=j.freeze 0;refine q_ o λcf bm o=>Rl 7 0 j pU bm λa2 w j=>?_;refine RT 6 a2 j zr zr (jt 7 j) fQ λw j=>?_;exact By<|bO<|aD<|IS<|Rv hk hm<|aW ((aw+1:Nat):Int)<|By<|oi o▸⟨rfl,a2,j.sp 8 [5,6,7]⟩;rintro av _ w o⟨a3,O,rfl,j⟩;refine aD<|w_<|QQ 1 a3 j fQ ?_;obtain⟨ch,bn,o⟩:=bd o;have j:=j.pull 2;refine QM (hZ Tryz.func84) (JZ Tryz.lay84 j bn) λw j=>IT<|QQ 2 a3 j fQ ?_;have j:=j.pull 0;refine q_ o λah bo o=>QO (hZ Tryz.func85) (vA N j bo) λbp w j=>RT 3 bp j zr zr (jt 0 j) fQ λw j=>?_;refine IT<|cZ n_<|IT<|cZ n_<|IT<|aP 0<|OF<|w_<|Rn j Bh.z λbq w j=>?_;have j:=j.sc Int 0;refine Rj 1 j 0 zr cJ λw j=>?_;refine AI ?_;have j:=((((j.freeze 2).BH (i:=5) (x:=ah) rfl<|λM hs g=>mP (g.sat 2 _ rfl).1).iD (i:=5) rfl).cG aA 138).cG aH 60;refine q_ o λcj hN o=>R7 (λ(aa:List aA×List aH×Int×Int)U w=>∃(a4 a5:Value)(a6:Nat),SH E V [(0,ad),(3,vp ag 0),(6,a4),(7,a5),(8,vi aa.2.2.1),(9,vp a6 0)] [own 60 ad ai,pt (vp ag 0) ah,own 138 a4 aa.1,own 60 a5 aa.2.1,bx 3 a6 aa.2.2.2] U w) (λ(aa:List aA×List aH×Int×Int)U w=>∃an:Value,SH E V [(6,an)] [own 60 ad ai,pt (vp ag 0) ah,own 138 an aa.1] U w) (λ(r:Empty)_ _=>r.elim) hN ?_ ?_ ?_ ?_;exact⟨n_,n_,bq,j.sp 9 [6,7,1,0,3]⟩;rintro aa fl _ w⟨aj,bu,al,O,rfl,j⟩o;refine BY<|w_<|QI (f:=(λx=>x)) 4 j zr Fd.self cJ<|QF aa.2.2.2 1<|QR 1 ah j fQ λck j=>QK 0 ah j kK<|ic (wrap .i64<|aa.2.2.2+1) ((ah.length:Int))<|AI<|dQ o (λo=>?_) λo=>?_;refine QX<|Q6<|mv bu ?_;have j:=j.iD (i:=5) rfl;refine SG zt zr [vp ag 0,vp al 0] zr ?_;have j:=j.pull 4;refine q_ o λcm bw o=>QO (hZ Tryz.func86) (sM N j ⟨87,[vp ag 0,vp al 0],rfl,(hZ Tryz.func87),λw Γl v y0 r i j hi hr=>by exact kY (y8 N (i0:=i) (i1:=Γl.length+2) (i2:=Γl.length+5) j hi (DX rfl) (DX rfl) hr) λ_ _ h=>h⟩ bw) λa7 w j=>cZ a7<|OF<|RI E V (λ(ae:List aH×Int)(ax:Value)=>[own 60 ad ai,pt (vp ag 0) ah,own 138 aj aa.1,pt (vp al 0) aa.2.2.2,own 60 ax ae.1]) (λae ax=>[(0,ad),(3,vp ag 0),(6,aj),(7,ax),(8,vi ae.2),(9,vp al 0)]) (λ_ _=>[]) o ?_ ?_ ?_;exact⟨a7,j.sp 7 [2,3,4,6,0]⟩;rintro ae fl _ w⟨ao,O,rfl,j⟩o;refine BY<|BY<|q_ o λay hj o=>QP (λ(ay:Bool)=>SH E V [(0,ad),(3,vp ag 0),(6,aj),(7,ao),(8,vi ae.2),(9,vp al 0),(57,vb ay)] [own 60 ad ai,pt (vp ag 0) ah,own 138 aj aa.1,own 60 ao ae.1,pt (vp al 0) aa.2.2.2]) ay ?_ ?_;refine RG mixed ?_;have j:=j.drew;refine RF<|aW ae.2<|AS<|mv ad<|AS<|Rx 0 ai j oc<|AS<|ic ae.2 ((ai.length:Int))<|AS<|fI (decide<|ae.2<(ai.length:Int))<|fw hj (λab hj=>?_) λab hj=>?_;refine AS<|QE ad (cg ab)<|AS<|QE (vi ae.2) (cg ab)<|AS<|q_ hj λa8 aq hj=>QT (hg:=cg ab) 0 j zr zr jM aq<|AS<|RS (α:=aH) (cg ab) (qw 0 j aq 0) iM<|AS<|R2 0 (cg ab) j (qw 0 j aq 1) (fK aq).2.1 dV cJ<|AS<|QR (hg:=cg ab) 1 ah j fQ λcn j=>?_;refine AS<|QZ (hg:=cg ab) aa.2.2.2 4 j cJ<|AS<|q_ hj λaz bz hj=>QG (hg:=cg ab) 0 j dE bz λcp j=>AS<|QZ (hg:=cg ab) az 0 j cJ<|AS<|Ry a8.Y0 az (cg ab)<|AS<|fA ab (vb<|decide<|a8.Y0<=az)<|Rs ?_;exact oi hj▸⟨rfl,j.sp 7 [2,3,4,6,5]⟩;refine AS<|bI ab<|AS<|bI ab<|AS<|bI ab<|AS<|bI ab<|AS<|bI ab<|AS<|bI ab<|AS<|bI ab<|AS<|bI ab<|AS<|bI ab ?_;exact AS<|bI ab<|AS<|fA ab (vb false)<|Rs<|oi hj▸⟨rfl,j.sp 5 [0,1,2,4,3]⟩;rintro _ w⟨O,rfl,j⟩;refine aD<|dQ o (λo=>?_) λo=>?_;refine RM<|Rq<|IS<|mv ao<|mv ad<|aW ae.2<|q_ o λb0 a9 o=>QT 0 j zr zr jM a9<|RQ 0 j a9 jg λb1 j=>?_;refine Ri ([b0]:List aH) j [b1] jM pH (λM hs g=>⟨(g.sat 0 _ zr).1,zt⟩) λcq w j=>?_;have j:=j.freeze 0;refine q_ o λcr b2 o=>Rl 5 0 j BU b2 λba w j=>?_;refine aW ae.2<|QF ae.2 1<|cZ ba<|aP (wrap .i64<|ae.2+1)<|By<|bO ?_;exact oi o▸⟨rfl,ba,j.sp 7 [2,3,4,6,5]⟩;exact Q3<|oi o▸⟨rfl,ao,j.sp 5 [0,1,2,4,3]⟩;rintro ae _ w o⟨bb,O,rfl,j⟩;refine aD<|Rz mixed [1,1,1,1,1,1,1,1,1,1,0,2,0,2,0] [0,1,2,3,4,5,6,7,8,9,10,11,12,13,14] ?_;have j:=j.drew;refine Q1 aj zr (λw=>QE aj zt QY)<|RX ah 1 zr j fQ λct a305 cu j=>R3 aa.2.2.2 5 zr j cJ λa307 cv j=>?_;refine q_ o λar b3 o=>R1 2 zr j dE b3 λcw j=>R3 ar 0 zr j cJ λa311 cx j=>RX ah 6 zr j fQ λcy a314 cz j=>R3 aa.2.2.2 10 zr j cJ λa316 c0 j=>Q1 (vi<|wrap .i64<|aa.2.2.2+1) zr (λw=>QF aa.2.2.2 1 QY)<|q_ o λau b4 o=>R1 2 zr j dE b4 λc1 j=>R3 au 0 zr j cJ λa320 c2 j=>QN zr<|mv bb<|pE zr ?_;have j:=j.pull 14;refine q_ o λb5 b6 o=>QO (hZ Tryz.func89) (yd N j b6) λb7 w j=>Rc (⟨⟨⟨⟨⟨⟨zt,j.gR 10⟩,j.gR 9⟩,j.gR 7⟩,j.gR 5⟩,j.gR 4⟩,j.gR 2⟩)<|QN zr ?_;have j:=((j.sc Int ar).sc Int au).freeze 2;refine RH (⟨ar,au,b5.1⟩:aA) trivial rfl j [(0,vi ar),(1,vi au),(2,b7)] rfl Lz rfl (λM hs g=>by have h:=yX M;exact cX.cons (f:=λ(x:aA)y=>{x with Y0:=y}) h vo (g.sat 1 _ rfl).1 λ_ h=>cX.cons (f:=λ(x:aA)y=>{x with Y1:=y}) h qT (g.sat 0 _ rfl).1 λ_ h=>cX.cons (f:=λ(x:aA)y=>{x with Xs:=y}) h vq (g.sat 2 _ rfl).1 λ_ h=>cX.nil h) λc3 j=>?_;refine pE zr ?_;have j:=j.pull 17;refine q_ o λc4 b8 o=>QO Ns (te N (i1:=0) j zr b8) λbf w j=>Rc (⟨⟨⟨⟨⟨⟨zt,j.gR 14⟩,j.gR 13⟩,j.gR 11⟩,j.gR 9⟩,j.gR 8⟩,j.gR 6⟩)<|QN zr<|cZ bf<|QV ?_;have j:=j.pl 21 [0,1,2,3,4,5,7,10,12,15,16,17,18,19,20];refine Rg<|bO<|aD<|BY<|w_<|QZ aa.2.2.2 13 j cJ<|AI<|IS<|Rn j Bh.z λb9 w j=>?_;have j:=j.sc Int aa.2.2.2;refine Rj 1 j 0 zr cJ λw j=>?_;refine AI<|IS<|QI (f:=(λx=>x)) 1 j zr Fd.self cJ<|QF aa.2.2.2 1 ?_;have j:=j.sc Int<|wrap .i64<|aa.2.2.2+1;refine Sz 2 j zr zr zr 0 zr cJ λw j=>?_;exact By<|oi o▸⟨rfl,bf,bb,b9,j.sp 18 [13,14,3,8,2]⟩;exact Q3<|oi o▸⟨rfl,aj,j.sp 6 [1,2,3]⟩;intro r _ _ _ _;exact r.elim;rintro aa _ w rfl⟨an,O,rfl,j⟩;rw[Fo.yI]at o;refine aD<|w_<|mv an<|cZ an<|AI<|QL ?_;obtain rfl:=oi o;exact bX<|j.pk 3 [2]
theorem oV{p0:List aA}{res:List aH}(j:Holds E w V)(h0:V[i0]? =some (rd v0 p0))(o:kl N p0=some res):c_ 48 [v0] w<|gv E V res:=by
 unfold kl at o;refine enter Tryz.func48 zr zr ?_;have j:=j.dup (i0+0) h0;refine w_<|cZ n_<|IT<|cZ n_<|OF<|w_<|mv v0<|QK 0 p0 j xe<|aW 0<|AI<|RZ E V (λ(af:List aH)(ag:Value)=>[rd v0 p0,own 60 ag af]) (λ_ ag=>[(3,ag)]) (λae _ _=>[(7,v0),(8,vi p0.length),(9,vi ae)]) o ?_ ?_ ?_;have j:=j.cG aH 60;exact⟨n_,j.sp 2 [1,0]⟩;rintro hm ae af s' _ w hk⟨aq,O,rfl,j⟩o;refine BY<|Q6<|q_ o λab ar o=>QG 0 j qU ar λaz j=>QR 0 ab j yZ λa0 j=>Rn j Fu.z λaj w j=>?_;refine Rj 0 j 1 zr yZ λw j=>?_;refine IT<|aP 0<|AI<|RI E V (λ(aa:List aH×Int)(ah:Value)=>[bx 138 aj ab,rd v0 p0,own 60 ah aa.1]) (λ_ ah=>[(3,ah),(7,v0),(8,vi p0.length),(9,vi ae)]) (λaa _=>[(5,vp aj 0),(6,vi aa.2)]) o ?_ ?_ ?_;exact⟨aq,j.sp 5 [0,3,4]⟩;rintro aa fl _ w⟨ai,O,rfl,j⟩o;refine BY<|w_<|aW aa.2<|AT zr mX<|Rk 0 j zr eV fQ λa2 j=>QK 0 ab.Xs j kK<|ic aa.2 ((ab.Xs.length:Int))<|AI<|dQ o (λo=>?_) λo=>?_;refine QX<|Rq<|Rz mixed [1,0,0,0,0,0,0,0,0,0,0,0,0,0,0,0,0,2,2,0] [0,1,2,3,4,5,6,7,8,9,10,11,12,13,14,15,16,17,18,19] ?_;have j:=j.drew;refine Q1 ai zr (λw=>QE ai zt QY)<|QN zr<|AT zr mX<|aY zr<|Rk 1 j zr eV fQ λa3 j=>aY zr<|aW aa.2<|aY zr<|q_ o λyL au o=>QG 0 j dE au λa4 j=>aY zr<|QZ yL 0 j cJ<|aY zr<|AT zr rm<|aY zr<|QI 3 j zr iP cJ<|aY zr<|AT zr mX ?_;refine aY zr<|Rk 3 j zr eV fQ λa5 j=>aY zr<|aW aa.2<|aY zr<|QF aa.2 1<|aY zr<|q_ o λad av o=>QG 0 j dE av λa6 j=>aY zr<|QZ ad 0 j cJ<|aY zr<|AT zr oN<|aY zr<|QI 5 j zr gm cJ<|aY zr ?_;have j:=(((j.sc Int yL).sc Int ab.Y0).sc Int ad).sc Int ab.Y1;refine RH (⟨yL,ab.Y0,ad,ab.Y1⟩:aH) trivial rfl j [(0,vi yL),(1,vi ab.Y0),(2,vi ad),(3,vi ab.Y1)] rfl Fv rfl (λM hs g=>by have h:=uP M;exact cX.cons (f:=λ(x:aH)y=>{x with X0:=y}) h p9 (g.sat 3 _ rfl).1 λ_ h=>cX.cons (f:=λ(x:aH)y=>{x with Y0:=y}) h rJ (g.sat 2 _ rfl).1 λ_ h=>cX.cons (f:=λ(x:aH)y=>{x with X1:=y}) h qc (g.sat 1 _ rfl).1 λ_ h=>cX.cons (f:=λ(x:aH)y=>{x with Y1:=y}) h rK (g.sat 0 _ rfl).1 λ_ h=>cX.nil h) λaw j=>?_;refine pE zr<|Ri ([(⟨yL,ab.Y0,ad,ab.Y1⟩:aH)]:List aH) j [aw] jM pH (λM hs g=>⟨(g.sat 0 _ zr).1,zt⟩) λa7 w j=>HJ zr ?_;have j:=j.freeze 0;refine q_ o λa8 ax o=>Rl 13 0 j BU ax λak w j=>?_;refine tt zr<|cZ ak<|QV<|Rg<|bO<|aD<|IS<|aW aa.2<|QF aa.2 2<|aP (wrap .i64<|aa.2+2)<|By ?_;exact oi o▸⟨rfl,ak,j.sp 14 [11,12,13]⟩;exact Q3<|oi o▸⟨rfl,ai,j.sp 4 [1,2,3]⟩;rintro aa _ w o⟨ay,O,rfl,j⟩;exact bO<|aD<|IS<|Rv hk hm<|aW ((ae+1:Nat):Int)<|By<|oi o▸⟨rfl,ay,j.sp 3 [1,2]⟩;rintro af _ w o⟨al,O,rfl,j⟩;refine aD<|w_<|mv al<|cZ al<|AI<|QL ?_;obtain rfl:=oi o;exact bX<|j.pk 2 [1]
theorem vZ{p0:List aH}{p1:List aH}{res:Bool}(j:Holds E w V)(h0:V[i0]? =some (rd v0 p0))(h1:V[i1]? =some (rd v1 p1))(o:lh N p0 p1=some res):c_ 47 [v0,v1] w<|aU E V res:=by
 unfold lh at o;refine enter Tryz.func47 zr zr ?_;have j:=(j.dup (i0+0) h0).dup (i1+1) h1;refine w_<|cA false<|OF<|w_<|mv v0<|QK 1 p0 j oc<|mv v1<|QK 0 p1 j oc<|ic ((p0.length:Int)) ((p1.length:Int))<|AI<|dQ o (λo=>?_) λo=>?_;exact w_<|cA false<|AI<|Q5<|oi o▸bX ⟨rfl,j.drop 2⟩;refine QX<|w_<|mv v0<|QK 1 p0 j oc<|aW 0<|AI<|RY E V (λ(ab:Unit)=>[rd v0 p0,rd v1 p1]) (λ_=>[]) (λaa _=>[(0,v0),(1,v1),(12,vi p0.length),(13,vi aa)]) (λr=>l7 bS 26 Tryz.f47 (aU E V r) .ret) o ?_ ?_ ?_ ?_;exact j.sp 2 [1,0];rintro hm aa ab fl _ w hk⟨O,rfl,j⟩o;refine BY<|Q6<|aW (aa:Int)<|aP (aa:Int)<|OF<|RG mixed ?_;have j:=j.drew;refine RF<|mv v0<|AS<|aW (aa:Int)<|AS<|q_ o λad ah o=>QG 0 j jM ah λal j=>AS<|QR 0 ad j jg λan j=>AS<|mv v1<|AS<|aW (aa:Int)<|AS ?_;refine q_ o λae ai o=>QG 3 j jM ai λao j=>AS<|QR 0 ae j jg λaq j=>AS<|Sj 2 0 ad ae j JE<|Rs<|aD<|dQ o (λo=>?_) λo=>?_;exact w_<|cA false<|AI<|RB<|bW<|oi o▸⟨rfl,bX ⟨rfl,j.drop 6⟩⟩;exact Rb<|bO<|aD<|IS<|Rv hk hm<|aW ((aa+1:Nat):Int)<|By<|oi o▸⟨rfl,j.sp 6 [4,5]⟩;intro r U w o hK;exact bW<|oi o▸hK;rintro ab _ w o⟨O,rfl,j⟩;exact aD<|w_<|cA true<|AI<|QL<|oi o▸bX ⟨rfl,j.drop 2⟩
theorem qD{p0:List aH}(j:Holds E w V)(h0:V[i0]? =some (rd v0 p0))(hb:kc N p0=some res):c_ 20 [v0] w<|aV E V res:=by
 unfold kc at hb;refine enter Tryz.func20 zr zr ?_;have j:=j.dup (i0+0) h0;refine w_<|aP 0<|OF<|w_<|mv v0<|q_ hb λau ax hb=>QM (hZ Tryz.func46) (xk N (i0:=0) j zr ax) λw j=>aP au<|IT<|aW au<|ic au 0<|AI<|dQ hb (λhb=>?_) λhb=>?_;exact w_<|aW au<|aP au<|AI<|Q5<|oi hb▸bX ⟨rfl,j.drop 1⟩;refine QX<|w_<|aP 1<|AI<|RN E V (λ(ao:Int)=>[rd v0 p0]) (λ_=>[(0,v0)]) (λao=>[(4,vi ao)]) (λr=>l7 bS 52 Tryz.f20 (aV E V r) .ret) hb ?_ ?_ ?_ ?_;exact j.sp 1 [0];rintro ao fl _ w⟨O,rfl,j⟩hb;refine BY<|w_<|aW ao<|mv v0<|QK 0 p0 j oc<|ic ao ((p0.length:Int))<|AI<|dQ hb (λhb=>?_) λhb=>?_;refine QX<|Rq<|BY ?_;obtain⟨o,ay,hb⟩:=bd hb;refine q_ hb λaa a0 hb=>RW E V mixed [1,1,1,0,0,1,1,0,0,0,0,0,0] [3,4,7,8,9,10,11,12] (λ(x:Value×Value×Value×Value×Nat×Nat)=>(λah ai aj ak ad ae=>[(0,18,v0),(1,19,vi ao),(2,20,vi<|wrap .i64<|ao - 1),(3,21,ah),(4,22,ai),(5,23,v0),(6,24,vi ao),(7,25,aj),(8,26,ak),(9,5,vp ad 0),(10,6,vp ae 0)]) x.1 x.2.1 x.2.2.1 x.2.2.2.1 x.2.2.2.2.1 x.2.2.2.2.2) [(0,v0),(4,vi ao)] [] (λ(D:Nat->Bool)(x:Value×Value×Value×Value×Nat×Nat)=>(λah ai aj ak ad ae=>[bif D 0 then pt ah o else bC,bif D 1 then rd ai o else bC,bif D 2 then pt aj aa else bC,bif D 3 then rd ak aa else bC,bif D 6 then bx 60 ad o else(bif D 4 then raw 60 ad 4 else bC),bif D 7 then bx 60 ae aa else(bif D 5 then raw 60 ae 4 else bC),rd v0 p0]) x.1 x.2.1 x.2.2.1 x.2.2.2.1 x.2.2.2.2.1 x.2.2.2.2.2) (λx=>by kernel_rfl) ?_ ⟨λ_=>g8 gn,λ_=>g8 gn,λ_=>Mm gn rfl,?_,?_,λ_=>g8 gn,λ_=>g8 gn,?_,?_,?_,?_,?_,?_,trivial⟩ ?_;have j:=((((((j.drew).bC).bC).bC).bC).bC).bC;exact⟨(undef,undef,undef,undef,0,0),eH.none,D9 zr,zt,j⟩;rintro D U w hD ag aq⟨⟨ah,ai,aj,ak,ad,ae⟩,hv,ha,_,j⟩;obtain⟨O,rfl⟩:=hv.o2 0 2 ag;have j:=j.bZ 0 hD;refine QG 6 j jM ay λa1 j=>?_;have j:=j.nw 0;exact QH (a1,ai,aj,ak,ad,ae) 3 hv ha j;rintro D U w hD ag aq⟨⟨ah,ai,aj,ak,ad,ae⟩,hv,ha,_,j⟩;obtain⟨O,rfl⟩:=hv.o1 3 ag;have j:=(j.dZ 0<|ag.1 rfl).bZ 1 hD;refine QR 0 o j jg λa2 j=>?_;have j:=((j.pl 8 [1,0,3,4,5,6,7]).cR 0 (D 3) (ag.1 rfl) bC).cR 1 true rfl bC;exact QH (ah,a2,aj,ak,ad,ae) 4 hv ha j;rintro D U w hD ag aq⟨⟨ah,ai,aj,ak,ad,ae⟩,hv,ha,_,j⟩;obtain⟨O,rfl⟩:=hv.o2 5 6 ag;have j:=j.bZ 2 hD;refine QG 6 j jM a0 λa3 j=>?_;have j:=j.nw 2;exact QH (ah,ai,a3,ak,ad,ae) 7 hv ha j;rintro D U w hD ag aq⟨⟨ah,ai,aj,ak,ad,ae⟩,hv,ha,_,j⟩;obtain⟨O,rfl⟩:=hv.o1 7 ag;have j:=(j.dZ 2<|ag.1 rfl).bZ 3 hD;refine QR 2 aa j jg λa4 j=>?_;have j:=((j.pl 8 [1,2,3,0,5,6,7]).cR 2 (D 7) (ag.1 rfl) bC).cR 3 true rfl bC;exact QH (ah,ai,aj,a4,ad,ae) 8 hv ha j;rintro D U w hD ag aq⟨⟨ah,ai,aj,ak,ad,ae⟩,hv,ha,_,j⟩;obtain⟨O,rfl⟩:=(az (U:=U)).qP;have j:=(j.bZ 4<|nh aq hD 11).bZ 4 hD;refine Rn j pH.z λav w j=>?_;have j:=(j.nw 4).fT 4 (D 11) (nh aq hD 11)<|bx 60 av o;exact QH (ah,ai,aj,ak,av,ae) 9 hv ha j;rintro D U w hD ag aq⟨⟨ah,ai,aj,ak,ad,ae⟩,hv,ha,_,j⟩;obtain⟨O,rfl⟩:=(az (U:=U)).qP;have j:=(j.bZ 5<|nh aq hD 12).bZ 5 hD;refine Rn j pH.z λaw w j=>?_;have j:=(j.nw 5).fT 5 (D 12) (nh aq hD 12)<|bx 60 aw aa;exact QH (ah,ai,aj,ak,ad,aw) 10 hv ha j;rintro D U w hD ag aq⟨⟨ah,ai,aj,ak,ad,ae⟩,hv,ha,_,j⟩;obtain⟨O,rfl⟩:=hv.o2 9 4 ag;have j:=((j.dZ 1<|ag.2.1 rfl).bZ 4 hD).dZ 4<|ag.1 rfl;refine Rj 4 j 1 zr jg λw j=>?_;have j:=(j.cR 1 (D 4) (ag.2.1 rfl) bC).cR 4 true rfl (bif D 9 then raw 60 ad 4 else bC);exact RU (ah,ai,aj,ak,ad,ae) hv ha j;rintro D U w hD ag aq⟨⟨ah,ai,aj,ak,ad,ae⟩,hv,ha,_,j⟩;obtain⟨O,rfl⟩:=hv.o2 10 8 ag;have j:=((j.dZ 3<|ag.2.1 rfl).bZ 5 hD).dZ 5<|ag.1 rfl;refine Rj 5 j 3 zr jg λw j=>?_;have j:=(j.cR 3 (D 8) (ag.2.1 rfl) bC).cR 5 true rfl (bif D 10 then raw 60 ae 4 else bC);exact RU (ah,ai,aj,ak,ad,ae) hv ha j;rintro D U w ar⟨⟨ah,ai,aj,ak,ad,ae⟩,hv,ha,_,j⟩;simp only[List.getD_cons_zero,List.getD_cons_succ,ar 3 (by decide),ar 4 (by decide),ar 7 (by decide),ar 8 (by decide),ar 11 (by decide),ar 12 (by decide),aK]at j;obtain⟨O,rfl⟩:=(ac (hv.at 9 rfl<|qx ar 9)<|ac (hv.at 10 rfl<|qx ar 10) ha).qP;refine aD<|w_<|AT zr iM<|QI 5 j zr dV cJ<|AT zr iM<|QI 4 j zr dV cJ<|ic aa.Y0 o.Y0<|fI (decide<|aa.Y0<o.Y0)<|IN true (decide<|aa.Y0<o.Y0) (vp ae 1) zr zr zr (eU iM) ?_;refine IN true (decide<|aa.Y0<o.Y0) (vi aa.Y0) rfl rfl rfl (cI 5 rfl j (by exact z_ (vp ae 1)) rfl dV cJ)<|IN true (decide<|aa.Y0<o.Y0) (vp ad 1) rfl rfl rfl (eU iM)<|IN true (decide<|aa.Y0<o.Y0) (vi o.Y0) rfl rfl rfl (cI 4 rfl j (by exact z_ (vp ad 1)) rfl dV cJ)<|IN true (decide<|aa.Y0<o.Y0) (vb<|aa.Y0==o.Y0) rfl rfl rfl (dR .eql .i64 aa.Y0 o.Y0 rfl (by exact z_ (vi aa.Y0)) (by exact z_ (vi o.Y0)) rfl)<|IN true (decide<|aa.Y0<o.Y0) (vb<|aa.Y0==o.Y0) rfl rfl rfl (cF (hx:=λh=>by exact(cN h:cv (true&&(decide (aa.Y0<o.Y0)==false)) (vb<|aa.Y0==o.Y0)= vb (aa.Y0==o.Y0))))<|IN (true&&(decide (aa.Y0<o.Y0)==false)) (aa.Y0==o.Y0) (vp ae 0) rfl rfl rfl (eU iT)<|IN (true&&(decide (aa.Y0<o.Y0)==false)) (aa.Y0==o.Y0) (vi aa.X0) rfl rfl rfl (cI 5 rfl j (by exact z_ (vp ae 0)) rfl eB cJ)<|IN (true&&(decide (aa.Y0<o.Y0)==false)) (aa.Y0==o.Y0) (vp ad 0) rfl rfl rfl (eU iT)<|IN (true&&(decide (aa.Y0<o.Y0)==false)) (aa.Y0==o.Y0) (vi o.X0) rfl rfl rfl (cI 4 rfl j (by exact z_ (vp ad 0)) rfl eB cJ) ?_;refine IN (true&&(decide (aa.Y0<o.Y0)==false)) (aa.Y0==o.Y0) (vb<|decide<|aa.X0<=o.X0) rfl rfl rfl (dR .leq .i64 aa.X0 o.X0 rfl (by exact z_ (vi aa.X0)) (by exact z_ (vi o.X0)) rfl)<|IN true (decide<|aa.Y0<o.Y0) (vb<|(aa.Y0==o.Y0)&&decide (aa.X0<=o.X0)) rfl rfl rfl (k9 (aa.Y0==o.Y0) rfl (by exact z_ (vb<|aa.Y0==o.Y0)) (λh=>by exact gL (true&&(decide (aa.Y0<o.Y0)==false)) h))<|Q7 (decide<|aa.Y0<o.Y0) (vb<|decide (aa.Y0<o.Y0)||((aa.Y0==o.Y0)&&decide (aa.X0<=o.X0))) (l9 true)<|AI<|dQ hb (λhb=>?_) λhb=>?_;exact w_<|aP 8<|AI<|RB<|bW<|oi hb▸⟨rfl,bX ⟨rfl,j.drop 7⟩⟩;refine Rb<|bO<|aD<|IS<|aW ao<|QF ao 1<|aP (wrap .i64<|ao+1)<|By ?_;exact oi hb▸⟨rfl,j.sp 7 [6]⟩;exact Q3<|oi hb▸⟨rfl,j.sp 1 [0]⟩;intro r U w hb hK;exact bW<|oi hb▸hK;rintro ao _ w hb⟨O,rfl,j⟩;refine aD<|BY<|w_<|mv v0<|q_ hb λbb a6 hb=>QO JD (nv N (i0:=0) j zr a6) λbc w j=>?_;have j:=j.freeze 0;refine q_ hb λbf a7 hb=>QO Mr (oV N (i0:=0) j zr a7) λbg w j=>mv v0 ?_;have j:=j.freeze 0;refine q_ hb λa8 a9 hb=>QM (hZ Tryz.func47) (vZ N (i0:=0) (i1:=2) j zr zr a9) λw j=>Ro a8<|AI<|dQ hb (λhb=>?_) λhb=>?_;exact w_<|aP 3<|AI<|Q5<|oi hb▸bX ⟨rfl,j.drop 3⟩;exact Ru<|aP 0<|AI<|QL<|oi hb▸bX ⟨rfl,j.drop 3⟩
theorem nY{res:Bool}(o:Holds E w V)(j:jm N p0 p1 p2=some res):c_ 42 [vi p0,vi p1,vi p2] w<|aU E V res:=by
 unfold jm at j;refine enter Tryz.func42 zr zr<|w_<|cA false<|IT<|aW p0<|aW p1<|ic p0 p1<|fI (decide<|p0>=p1)<|IN true (decide<|p0>=p1) (vi p0) zr zr zr cF ?_;refine IN true (decide<|p0>=p1) (vi p2) rfl rfl rfl cF<|IN true (decide<|p0>=p1) (vb<|decide<|p0<=p2) rfl rfl rfl (dR .leq .i64 p0 p2 rfl (by exact z_ (vi p0)) (by exact z_ (vi p2)) rfl)<|Q7 (decide<|p0>=p1) (vb<|decide (p0>=p1)&&decide (p0<=p2)) (gL true rfl)<|cA (decide (p0>=p1)&&decide (p0<=p2))<|AI<|QL ?_;exact oi j▸bX ⟨rfl,o.drop 0⟩
theorem tV{p0:jS}{res:Bool}(j:Holds E w V)(h0:V[i0]? =some (rd v0 p0))(hb:ky N p0=some res):c_ 43 [v0] w<|aU E V res:=by
 unfold ky at hb;refine enter Tryz.func43 zr zr ?_;have j:=j.dup (i0+0) h0;refine w_<|Q2 0 v0 j zr λai w j=>?_;refine cA false<|OF<|q_ hb λad o hb=>QP (λ(ad:Bool)=>SH E V [(2,vb ad)] []) ad ?_ ?_;refine IS<|AT zr xZ<|QI 0 j zr oR cJ<|q_ o λaf ag o=>QM IC (mM N (p0:=p0.X) j ag) λw j=>fI af<|fw o (λaa o=>?_) λaa o=>?_;exact AT (hg:=cg aa) zr x6<|QI (hg:=cg aa) 0 j zr oS cJ<|q_ o λae ah o=>QM (hg:=cg aa) IC (mM N (p0:=p0.Y) j ah) λw j=>fA aa (vb ae)<|cA ae<|By<|oi o▸⟨rfl,j.sp 2 []⟩;exact bI aa<|bI aa<|bI aa<|fA aa (vb false)<|cA false<|By<|oi o▸⟨rfl,j.sp 2 []⟩;rintro _ w⟨O,rfl,j⟩;exact aD<|QL<|oi hb▸bX ⟨rfl,j.drop 0⟩
theorem jO{p0:cD}{res:aH}(j:Holds E w V)(h0:V[i0]? =some (rd v0 p0))(o:gY N p0=some res):c_ 24 [v0] w<|pJ E V res:=by
 unfold gY at o;refine enter Tryz.func24 zr zr ?_;have j:=j.dup (i0+0) h0;refine w_<|Q2 0 v0 j zr λaa w j=>?_;refine Rn j pH.z λab w j=>?_;refine OF<|RG mixed ?_;have j:=j.drew;refine RF<|AT zr zQ<|AS<|AT zr xZ<|AS<|QI (f:=(λx=>x.At.X)) 1 j zr (Fd.comp (f:=λ(x:cD)=>x.At) (λ(x:jS)=>x.X) rL oR) cJ<|AS<|AT zr tu<|AS<|QI 1 j zr mK cJ<|AS<|Si p0.dY 2<|AS<|QF p0.At.X (wrap .i64<|Int.tdiv p0.dY 2)<|AS<|AT zr zQ<|AS<|AT zr x6 ?_;refine AS<|QI (f:=(λx=>x.At.Y)) 1 j zr (Fd.comp (f:=λ(x:cD)=>x.At) (λ(x:jS)=>x.Y) rL oS) cJ<|AS<|AT zr tu<|AS<|QI 1 j zr mK cJ<|AS<|Si p0.dY 2<|AS<|QF p0.At.Y (wrap .i64<|Int.tdiv p0.dY 2)<|AS<|aP (wrap .i64<|p0.At.X -(wrap .i64<|Int.tdiv p0.dY 2))<|AS<|aP (wrap .i64<|p0.At.Y -(wrap .i64<|Int.tdiv p0.dY 2))<|Rs<|aD<|w_<|aW (wrap .i64<|p0.At.X -(wrap .i64<|Int.tdiv p0.dY 2)) ?_;refine aW (wrap .i64<|p0.At.Y -(wrap .i64<|Int.tdiv p0.dY 2))<|aW (wrap .i64<|p0.At.X -(wrap .i64<|Int.tdiv p0.dY 2))<|AT zr tu<|QI 1 j zr mK cJ<|QF (wrap .i64<|p0.At.X -(wrap .i64<|Int.tdiv p0.dY 2)) p0.dY<|aW (wrap .i64<|p0.At.Y -(wrap .i64<|Int.tdiv p0.dY 2))<|AT zr tu<|QI 1 j zr mK cJ<|QF (wrap .i64<|p0.At.Y -(wrap .i64<|Int.tdiv p0.dY 2)) p0.dY ?_;have j:=((j.sc Int<|wrap .i64<|p0.At.X -(wrap .i64<|Int.tdiv p0.dY 2)).sc Int<|wrap .i64<|p0.At.Y -(wrap .i64<|Int.tdiv p0.dY 2)).sc Int<|wrap .i64<|wrap .i64 (p0.At.X -(wrap .i64<|Int.tdiv p0.dY 2))+p0.dY;have j:=j.sc Int<|wrap .i64<|wrap .i64 (p0.At.Y -(wrap .i64<|Int.tdiv p0.dY 2))+p0.dY;refine RH (⟨wrap .i64<|p0.At.X -(wrap .i64<|Int.tdiv p0.dY 2),wrap .i64<|p0.At.Y -(wrap .i64<|Int.tdiv p0.dY 2),wrap .i64<|wrap .i64 (p0.At.X -(wrap .i64<|Int.tdiv p0.dY 2))+p0.dY,wrap .i64<|wrap .i64 (p0.At.Y -(wrap .i64<|Int.tdiv p0.dY 2))+p0.dY⟩:aH) trivial rfl j [(0,vi<|wrap .i64<|p0.At.X -(wrap .i64<|Int.tdiv p0.dY 2)),(1,vi<|wrap .i64<|p0.At.Y -(wrap .i64<|Int.tdiv p0.dY 2)),(2,vi<|wrap .i64<|wrap .i64 (p0.At.X -(wrap .i64<|Int.tdiv p0.dY 2))+p0.dY),(3,vi<|wrap .i64<|wrap .i64 (p0.At.Y -(wrap .i64<|Int.tdiv p0.dY 2))+p0.dY)] rfl Fv rfl (λM hs g=>by have h:=uP M;exact cX.cons (f:=λ(x:aH)y=>{x with X0:=y}) h p9 (g.sat 3 _ rfl).1 λ_ h=>cX.cons (f:=λ(x:aH)y=>{x with Y0:=y}) h rJ (g.sat 2 _ rfl).1 λ_ h=>cX.cons (f:=λ(x:aH)y=>{x with X1:=y}) h qc (g.sat 1 _ rfl).1 λ_ h=>cX.cons (f:=λ(x:aH)y=>{x with Y1:=y}) h rK (g.sat 0 _ rfl).1 λ_ h=>cX.nil h) λad j=>?_;refine Rj 5 j 0 zr jg λw j=>?_;refine AI<|QL ?_;obtain rfl:=oi o;exact Iw 5 j jg λae j=>j.pk 9 [0]
end Go.Gk
