/-
  Printed texts: Go functions as plain functions, and that they are. No statement of the seed is proved here.
-/
import Derived.Test.YtbfhmmgnmbilfaaGreatDoorProg
import Derived.Test.YtbfhmmgnmbilfaaGreatDoorE1
import Derived.Test.YtbfhmmgnmbilfaaGreatDoorA1
import Derived.Test.YtbfhmmgnmbilfaaGreatDoorA2
import Derived.Test.YtbfhmmgnmbilfaaGreatDoorRows
import Derived.Shelf.SlGeneric
import Derived.Ground.SlsfProg
import Derived.Ground.SlgmProg
set_option linter.unusedVariables false
set_option linter.unusedSimpArgs false
set_option linter.unusedSectionVars false
set_option maxRecDepth 100000
set_option maxHeartbeats 40000000
namespace Go.Gk
open Go IntKind Go.Proofs
noncomputable abbrev bI:=Tryz.prog
abbrev c_(f:Nat)(l:List Value)(w:World)(R:Value->World->Prop):Prop:=Calls bI f l.toArray w (fX R)
def ph(x:aH):=(x.X0,x.Y0,x.X1,x.Y1)
instance instGTRect:GT aH:=GT.via ph
instance instKVRect:KV aH:=instKVvia (λ(x:aH)=>(x.X0,x.Y0,x.X1,x.Y1))
theorem dK:Fd 0 (λx:aH=>x.X0):= .v ph<|.fst .self
theorem pW:Fs 0 Int (λ(x:aH)y=>{x with X0:=y}):= .v ph<|.fst .self
theorem dF:Fd 1 (λx:aH=>x.Y0):= .v ph<|.snd<|.fst .self
theorem rj:Fs 1 Int (λ(x:aH)y=>{x with Y0:=y}):= .v ph<|.snd<|.fst .self
theorem eA:Fd 2 (λx:aH=>x.X1):= .v ph<|.snd<|.snd<|.fst .self
theorem oJ:Fs 2 Int (λ(x:aH)y=>{x with X1:=y}):= .v ph<|.snd<|.snd<|.fst .self
theorem fp:Fd 3 (λx:aH=>x.Y1):= .v ph<|.snd<|.snd<|.snd<|.self
theorem pX:Fs 3 Int (λ(x:aH)y=>{x with Y1:=y}):= .v ph<|.snd<|.snd<|.snd<|.self
def vq(x:dU):=(x.X,x.Y)
instance instGTPoint:GT dU:=GT.via vq
instance instKVPoint:KV dU:=instKVvia (λ(x:dU)=>(x.X,x.Y))
theorem jz:Fd 0 (λx:dU=>x.X):= .v vq<|.fst .self
theorem Dm:Fs 0 Int (λ(x:dU)y=>{x with X:=y}):= .v vq<|.fst .self
theorem hZ:Fd 1 (λx:dU=>x.Y):= .v vq<|.snd<|.self
theorem Dn:Fs 1 Int (λ(x:dU)y=>{x with Y:=y}):= .v vq<|.snd<|.self
def vr(x:bU):=(x.At,x.dV,x.cB,x.To,x.fD)
instance instGTBore:GT bU:=GT.via vr
theorem tn:Fd 0 (λx:bU=>x.At):= .v vr<|.fst .self
theorem na:Fd 2 (λx:bU=>x.dV):= .v vr<|.snd<|.fst .self
theorem lF:Fd 3 (λx:bU=>x.cB):= .v vr<|.snd<|.snd<|.fst .self
theorem nb:Fd 4 (λx:bU=>x.To):= .v vr<|.snd<|.snd<|.snd<|.fst .self
theorem pY:Fd 5 (λx:bU=>x.fD):= .v vr<|.snd<|.snd<|.snd<|.snd<|.self
def tE(x:dE):=(x.Part,x.fz,x.cL,x.At)
instance instGTLand:GT dE:=GT.via tE
theorem pZ:Fd 0 (λx:dE=>x.Part):= .v tE<|.fst .self
theorem KR:Fs 0 eV (λ(x:dE)y=>{x with Part:=y}):= .v tE<|.fst .self
theorem tp:Fd 1 (λx:dE=>x.fz):= .v tE<|.snd<|.fst .self
theorem KS:Fs 1 eV (λ(x:dE)y=>{x with fz:=y}):= .v tE<|.snd<|.fst .self
theorem tq:Fd 2 (λx:dE=>x.cL):= .v tE<|.snd<|.snd<|.fst .self
theorem tr:Fd 3 (λx:dE=>x.At):= .v tE<|.snd<|.snd<|.snd<|.self
def Aw(x:jO):=(x.aK,x.cU,x.aM,x.bV)
instance instGTArt:GT jO:=GT.via Aw
theorem jN:Fd 0 (λx:jO=>x.aK):= .v Aw<|.fst .self
theorem vt:Fd 1 (λx:jO=>x.cU):= .v Aw<|.snd<|.fst .self
theorem iA:Fd 2 (λx:jO=>x.aM):= .v Aw<|.snd<|.snd<|.fst .self
theorem pj:Fd 3 (λx:jO=>x.bV):= .v Aw<|.snd<|.snd<|.snd<|.self
def kY(x:aA):=(x.Y0,x.Y1,x.Xs)
instance instGTshape_Band:GT aA:=GT.via kY
theorem iQ:Fd 0 (λx:aA=>x.Y0):= .v kY<|.fst .self
theorem xc:Fs 0 Int (λ(x:aA)y=>{x with Y0:=y}):= .v kY<|.fst .self
theorem gw:Fd 1 (λx:aA=>x.Y1):= .v kY<|.snd<|.fst .self
theorem si:Fs 1 Int (λ(x:aA)y=>{x with Y1:=y}):= .v kY<|.snd<|.fst .self
theorem eU:Fd 2 (λx:aA=>x.Xs):= .v kY<|.snd<|.snd<|.self
theorem xd:Fs 2 (List Int) (λ(x:aA)y=>{x with Xs:=y}):= .v kY<|.snd<|.snd<|.self
def Ax(x:fz):=(x.Part,x.fz)
instance instGTPin:GT fz:=GT.via Ax
instance instKVPin:KV fz:=instKVvia (λ(x:fz)=>(x.Part,x.fz))
theorem HQ:Fd 0 (λx:fz=>x.Part):= .v Ax<|.fst .self
theorem Ay:Fs 0 eV (λ(x:fz)y=>{x with Part:=y}):= .v Ax<|.fst .self
theorem HR:Fd 1 (λx:fz=>x.fz):= .v Ax<|.snd<|.self
theorem Az:Fs 1 eV (λ(x:fz)y=>{x with fz:=y}):= .v Ax<|.snd<|.self
def kO(x:aD):=(x.cL,x.Set,x.dY)
instance instGTcopper_Piece:GT aD:=GT.via kO
theorem nC:Fd 0 (λx:aD=>x.cL):= .v kO<|.fst .self
theorem AA:Fs 0 Int (λ(x:aD)y=>{x with cL:=y}):= .v kO<|.fst .self
theorem AB:Fs 1 (List aA) (λ(x:aD)y=>{x with Set:=y}):= .v kO<|.snd<|.fst .self
theorem nD:Fd 2 (λx:aD=>x.dY):= .v kO<|.snd<|.snd<|.self
theorem AD:Fs 2 (List aH) (λ(x:aD)y=>{x with dY:=y}):= .v kO<|.snd<|.snd<|.self
def yA(x:bW):=(x.fF,x.aM,x.fw)
instance instGTGroup:GT bW:=GT.via yA
theorem wx:Fd 0 (λx:bW=>x.fF):= .v yA<|.fst .self
theorem Jl:Fd 1 (λx:bW=>x.aM):= .v yA<|.snd<|.fst .self
theorem zJ:Fd 2 (λx:bW=>x.fw):= .v yA<|.snd<|.snd<|.self
def wy(x:eC):=(x.bU,x.Number)
instance instGTHop:GT eC:=GT.via wy
instance instKVHop:KV eC:=instKVvia (λ(x:eC)=>(x.bU,x.Number))
theorem po:Fd 0 (λx:eC=>x.bU):= .v wy<|.fst .self
theorem AE:Fs 0 Bool (λ(x:eC)y=>{x with bU:=y}):= .v wy<|.fst .self
theorem kZ:Fd 1 (λx:eC=>x.Number):= .v wy<|.snd<|.self
theorem rN:Fs 1 Int (λ(x:eC)y=>{x with Number:=y}):= .v wy<|.snd<|.self
def pq(x:bN):=(x.Open,x.eC,x.A,x.B)
instance instGTFlaw:GT bN:=GT.via pq
theorem oK:Fd 0 (λx:bN=>x.Open):= .v pq<|.fst .self
theorem BA:Fs 0 Bool (λ(x:bN)y=>{x with Open:=y}):= .v pq<|.fst .self
theorem rk:Fd 1 (λx:bN=>x.eC):= .v pq<|.snd<|.fst .self
theorem BB:Fs 1 eC (λ(x:bN)y=>{x with eC:=y}):= .v pq<|.snd<|.fst .self
theorem tu:Fd 3 (λx:bN=>x.A):= .v pq<|.snd<|.snd<|.fst .self
theorem Fq:Fs 3 Int (λ(x:bN)y=>{x with A:=y}):= .v pq<|.snd<|.snd<|.fst .self
theorem tv:Fd 4 (λx:bN=>x.B):= .v pq<|.snd<|.snd<|.snd<|.self
theorem Ft:Fs 4 Int (λ(x:bN)y=>{x with B:=y}):= .v pq<|.snd<|.snd<|.snd<|.self
def wz(x:uP):=(x.A,x.B,x.iK,x.cB,x.To)
instance instGTGap:GT uP:=GT.via wz
theorem HS:Fd 2 (λx:uP=>x.iK):= .v wz<|.snd<|.snd<|.fst .self
theorem HT:Fs 2 Int (λ(x:uP)y=>{x with iK:=y}):= .v wz<|.snd<|.snd<|.fst .self
theorem xP:Fd 3 (λx:uP=>x.cB):= .v wz<|.snd<|.snd<|.snd<|.fst .self
theorem HU:Fs 3 dU (λ(x:uP)y=>{x with cB:=y}):= .v wz<|.snd<|.snd<|.snd<|.fst .self
theorem LZ:Fd 5 (λx:uP=>x.To):= .v wz<|.snd<|.snd<|.snd<|.snd<|.self
theorem HV:Fs 5 dU (λ(x:uP)y=>{x with To:=y}):= .v wz<|.snd<|.snd<|.snd<|.snd<|.self
def iv(x:aF):=(x.from_,x.to)
instance instGTetchhouseref1_span:GT aF:=GT.via iv
instance instKVetchhouseref1_span:KV aF:=instKVvia (λ(x:aF)=>(x.from_,x.to))
theorem fq:Fd 0 (λx:aF=>x.from_):= .v iv<|.fst .self
theorem mn:Fs 0 Int (λ(x:aF)y=>{x with from_:=y}):= .v iv<|.fst .self
theorem fu:Fd 1 (λx:aF=>x.to):= .v iv<|.snd<|.self
theorem mo:Fs 1 Int (λ(x:aF)y=>{x with to:=y}):= .v iv<|.snd<|.self
def gv(x:aP):=(x.from_,x.to,x.jX)
instance instGTetchhouseref1_band:GT aP:=GT.via gv
theorem qc:Fd 0 (λx:aP=>x.from_):= .v gv<|.fst .self
theorem qd:Fs 0 Int (λ(x:aP)y=>{x with from_:=y}):= .v gv<|.fst .self
theorem mq:Fd 1 (λx:aP=>x.to):= .v gv<|.snd<|.fst .self
theorem mu:Fs 1 Int (λ(x:aP)y=>{x with to:=y}):= .v gv<|.snd<|.fst .self
theorem gX:Fd 2 (λx:aP=>x.jX):= .v gv<|.snd<|.snd<|.self
theorem qe:Fs 2 (List aF) (λ(x:aP)y=>{x with jX:=y}):= .v gv<|.snd<|.snd<|.self
theorem xe(M:eX):GT.ok M (#[(.bool false),(.int .i64 0)]:Array Value).toList (⟨false,0⟩:eC):=⟨[(.bool false)],[(.int .i64 0)],rfl,(show GT.ok M [(.bool false)] (false:Bool)from rfl),(show GT.ok M [(.int .i64 0)] (0:Int)from rfl)⟩
theorem Dp(M:eX):GT.ok M (#[(.bool false),(.bool false),(.int .i64 0),(.int .i64 0),(.int .i64 0)]:Array Value).toList (⟨false,⟨false,0⟩,0,0⟩:bN):=⟨[(.bool false)],[(.bool false),(.int .i64 0),(.int .i64 0),(.int .i64 0)],rfl,(show GT.ok M [(.bool false)] (false:Bool)from rfl),⟨[(.bool false),(.int .i64 0)],[(.int .i64 0),(.int .i64 0)],rfl,(show GT.ok M [(.bool false),(.int .i64 0)] (⟨false,0⟩:eC)from xe M),⟨[(.int .i64 0)],[(.int .i64 0)],rfl,(show GT.ok M [(.int .i64 0)] (0:Int)from rfl),(show GT.ok M [(.int .i64 0)] (0:Int)from rfl)⟩⟩⟩
theorem tF(M:eX):GT.ok M (#[(.int .i64 0),(.int .i64 0),(.int .i64 0),(.int .i64 0)]:Array Value).toList (⟨0,0,0,0⟩:aH):=⟨[(.int .i64 0)],[(.int .i64 0),(.int .i64 0),(.int .i64 0)],rfl,(show GT.ok M [(.int .i64 0)] (0:Int)from rfl),⟨[(.int .i64 0)],[(.int .i64 0),(.int .i64 0)],rfl,(show GT.ok M [(.int .i64 0)] (0:Int)from rfl),⟨[(.int .i64 0)],[(.int .i64 0)],rfl,(show GT.ok M [(.int .i64 0)] (0:Int)from rfl),(show GT.ok M [(.int .i64 0)] (0:Int)from rfl)⟩⟩⟩
theorem yB(M:eX):GT.ok M (#[(.int .i64 0),(.int .i64 0)]:Array Value).toList (⟨0,0⟩:dU):=⟨[(.int .i64 0)],[(.int .i64 0)],rfl,(show GT.ok M [(.int .i64 0)] (0:Int)from rfl),(show GT.ok M [(.int .i64 0)] (0:Int)from rfl)⟩
theorem Pd(M:eX):GT.ok M (#[(.string ⟨#[]⟩),(.string ⟨#[]⟩),(.int .i64 0),(.int .i64 0),(.int .i64 0)]:Array Value).toList (⟨⟨[]⟩,⟨[]⟩,0,⟨0,0⟩⟩:dE):=⟨[(.string ⟨#[]⟩)],[(.string ⟨#[]⟩),(.int .i64 0),(.int .i64 0),(.int .i64 0)],rfl,(show GT.ok M [(.string ⟨#[]⟩)] (⟨[]⟩:eV)from rfl),⟨[(.string ⟨#[]⟩)],[(.int .i64 0),(.int .i64 0),(.int .i64 0)],rfl,(show GT.ok M [(.string ⟨#[]⟩)] (⟨[]⟩:eV)from rfl),⟨[(.int .i64 0)],[(.int .i64 0),(.int .i64 0)],rfl,(show GT.ok M [(.int .i64 0)] (0:Int)from rfl),(show GT.ok M [(.int .i64 0),(.int .i64 0)] (⟨0,0⟩:dU)from yB M)⟩⟩⟩
theorem Kd(M:eX):GT.ok M (#[(.string ⟨#[]⟩),(.string ⟨#[]⟩)]:Array Value).toList (⟨⟨[]⟩,⟨[]⟩⟩:fz):=⟨[(.string ⟨#[]⟩)],[(.string ⟨#[]⟩)],rfl,(show GT.ok M [(.string ⟨#[]⟩)] (⟨[]⟩:eV)from rfl),(show GT.ok M [(.string ⟨#[]⟩)] (⟨[]⟩:eV)from rfl)⟩
theorem Dq(M:eX):GT.ok M (#[(.int .i64 0),n_,n_]:Array Value).toList (⟨0,[],[]⟩:aD):=⟨[(.int .i64 0)],[n_,n_],rfl,(show GT.ok M [(.int .i64 0)] (0:Int)from rfl),⟨[n_],[n_],rfl,(show GT.ok M [n_] ([]:List aA)from⟨_,rfl,none,0,0,rfl,rfl,cJ _,by simp[maxLen],λ_ _ h=>by simp at h⟩),(show GT.ok M [n_] ([]:List aH)from⟨_,rfl,none,0,0,rfl,rfl,cJ _,by simp[maxLen],λ_ _ h=>by simp at h⟩)⟩⟩
theorem Oc(M:eX):GT.ok M (#[(.int .i64 0),(.int .i64 0),(.int .i64 0),(.int .i64 0),(.int .i64 0),(.int .i64 0),(.int .i64 0)]:Array Value).toList (⟨0,0,0,⟨0,0⟩,⟨0,0⟩⟩:uP):=⟨[(.int .i64 0)],[(.int .i64 0),(.int .i64 0),(.int .i64 0),(.int .i64 0),(.int .i64 0),(.int .i64 0)],rfl,(show GT.ok M [(.int .i64 0)] (0:Int)from rfl),⟨[(.int .i64 0)],[(.int .i64 0),(.int .i64 0),(.int .i64 0),(.int .i64 0),(.int .i64 0)],rfl,(show GT.ok M [(.int .i64 0)] (0:Int)from rfl),⟨[(.int .i64 0)],[(.int .i64 0),(.int .i64 0),(.int .i64 0),(.int .i64 0)],rfl,(show GT.ok M [(.int .i64 0)] (0:Int)from rfl),⟨[(.int .i64 0),(.int .i64 0)],[(.int .i64 0),(.int .i64 0)],rfl,(show GT.ok M [(.int .i64 0),(.int .i64 0)] (⟨0,0⟩:dU)from yB M),(show GT.ok M [(.int .i64 0),(.int .i64 0)] (⟨0,0⟩:dU)from yB M)⟩⟩⟩⟩
theorem AF(M:eX):GT.ok M (#[(.int .i64 0),(.int .i64 0),n_]:Array Value).toList (⟨0,0,[]⟩:aA):=⟨[(.int .i64 0)],[(.int .i64 0),n_],rfl,(show GT.ok M [(.int .i64 0)] (0:Int)from rfl),⟨[(.int .i64 0)],[n_],rfl,(show GT.ok M [(.int .i64 0)] (0:Int)from rfl),(show GT.ok M [n_] ([]:List Int)from⟨_,rfl,none,0,0,rfl,rfl,cJ _,by simp[maxLen],λ_ _ h=>by simp at h⟩)⟩⟩
theorem rO(M:eX):GT.ok M (#[(.int .i64 0),(.int .i64 0),n_]:Array Value).toList (⟨0,0,[]⟩:aP):=⟨[(.int .i64 0)],[(.int .i64 0),n_],rfl,(show GT.ok M [(.int .i64 0)] (0:Int)from rfl),⟨[(.int .i64 0)],[n_],rfl,(show GT.ok M [(.int .i64 0)] (0:Int)from rfl),(show GT.ok M [n_] ([]:List aF)from⟨_,rfl,none,0,0,rfl,rfl,cJ _,by simp[maxLen],λ_ _ h=>by simp at h⟩)⟩⟩
theorem rP(M:eX):GT.ok M (#[(.int .i64 0),(.int .i64 0)]:Array Value).toList (⟨0,0⟩:aF):=⟨[(.int .i64 0)],[(.int .i64 0)],rfl,(show GT.ok M [(.int .i64 0)] (0:Int)from rfl),(show GT.ok M [(.int .i64 0)] (0:Int)from rfl)⟩
structure bB where
  fF:List Int
  aM:List Int
  fw:RV
  deriving Inhabited
def qD(x:bB):=(x.fF,x.aM,x.fw)
instance instGTGroup_r2:GT bB:=GT.via qD
theorem ze:Fd 0 (λx:bB=>x.fF):= .v qD<|.fst .self
theorem EM:Fd 1 (λx:bB=>x.aM):= .v qD<|.snd<|.fst .self
theorem EN:Fd 2 (λx:bB=>x.fw):= .v qD<|.snd<|.snd<|.self
theorem EO:Fs 2 RV (λ(x:bB)y=>{x with fw:=y}):= .v qD<|.snd<|.snd<|.self
def bF:XT bB bW:=⟨λu x=>u.fF=x.fF/\u.aM=x.aM,λM h u x=>(u.fF=x.fF/\u.aM=x.aM)/\zA 60 M h u.fw.v x.fw,λ{M M' h u x}hk hh=>⟨hh.1,(own 60 u.fw.v x.fw).mono hk hh.2⟩,λh=>h.1⟩
theorem qf:XO bF 60 2 (λu=>u.fw) (λu r=>{u with fw:=r}) (λx=>x.fw) (λx y=>{x with fw:=y}):=⟨EN,EO,by decide,λh=>h.2,λhr ho=>⟨hr,ho⟩⟩
theorem AG(M h:eX)(u:bB)(x:bW)(cs:List Value)(hd:∀b o,h b=some o->M b=none)(hx:bF.ok M h u x)(hc:GT.ok M cs u):GT.ok (ui M h) cs x:=by
 obtain⟨⟨e0,e1⟩,ho⟩:=hx;obtain⟨c0,d0,hd0,a0,c1,d1,hd1,a1,a2⟩:=hc;exact⟨c0,d0,hd0,GT.mono (yx M h) (show GT.ok M c0 x.fF from e0▸(show GT.ok M c0 u.fF from a0)),⟨c1,d1,hd1,GT.mono (yx M h) (show GT.ok M c1 x.aM from e1▸(show GT.ok M c1 u.aM from a1)),⟨u.fw.v,a2,zA.sl hd ho⟩⟩⟩
theorem sS:nB bI 27 true 4:=yz
theorem nY:pf bI 27 0 0:=qW
theorem o5:nB bI 22 false 1:=yz
theorem qE:Tryz.prog.underlying 22=some (.slice 23):=by kernel_rfl
theorem Gj:pf bI 27 1 1:=qW
theorem uk:nB bI 23 false 1:=yz
theorem l7:Tryz.prog.underlying 23=some (.slice 52):=by kernel_rfl
theorem vu:zB bI 22 23 1:=HO
theorem gU:zB bI 23 52 4:=HO
theorem fS:nB bI 52 true 4:=yz
theorem nL:E7 bI 52 4:=G9<|.agg #[(.int .i64 0),(.int .i64 0),(.int .i64 0),(.int .i64 0)]
theorem gO:pf bI 52 0 0:=qW
theorem cA:nB bI 3 false 1:=yz
theorem Fu:ga bI 108:=gF Tryz.func108
theorem gx:pf bI 52 1 1:=qW
theorem iU:pf bI 52 2 2:=qW
theorem kc:pf bI 52 3 3:=qW
theorem Qp:ga bI 93:=gF Tryz.func93
theorem mixed:Tryz.prog.follows .mixedOrders=true:=by kernel_rfl
theorem Dr:w8 bI 23 52 4 32:=w8.of<|.agg #[(.int .i64 0),(.int .i64 0),(.int .i64 0),(.int .i64 0)]
theorem Qq:ga bI 95:=gF Tryz.func95
theorem Qr:PY bI 47 [n_]:=⟨n_,λ_=>by kernel_rfl,rfl⟩
theorem fE:nB bI 47 false 1:=yz
theorem dN:zB bI 47 3 1:=HO
theorem EP:E7 bI 3 1:=G9<|.int .i64 0
theorem rl:w8 bI 47 3 1 8:=w8.of<|.int .i64 0
theorem lz:Tryz.prog.underlying 47=some (.slice 3):=by kernel_rfl
theorem Od:LC bI 3 (0:Int):=LC.of (.int .i64 0)<|λM=>rfl
theorem Oe:ga bI 113:=gF Tryz.func113
theorem Sh:LC bI 52 (⟨0,0,0,0⟩:aH):=LC.of (.agg #[(.int .i64 0),(.int .i64 0),(.int .i64 0),(.int .i64 0)])<|λM=>tF M
theorem Of:xn bI 150 [(0,1),(1,1),(2,1)] #[(.int .i64 0),(.int .i64 0),n_]:=xn.of (.agg #[(.int .i64 0),(.int .i64 0),n_]) Tryz.underlying150
theorem nE:pf bI 150 2 2:=qW
theorem pL:pf bI 150 1 1:=qW
theorem sT:pf bI 150 0 0:=qW
theorem yT:Tryz.prog.underlying 79=some (.slice 150):=by kernel_rfl
theorem sj:zB bI 79 150 3:=HO
theorem AH:nB bI 150 true 3:=yz
theorem HW:E7 bI 150 3:=G9<|.agg #[(.int .i64 0),(.int .i64 0),n_]
theorem Sj:w8 bI 79 150 3 40:=w8.of<|.agg #[(.int .i64 0),(.int .i64 0),n_]
theorem Og:ga bI 101:=gF Tryz.func101
theorem L0:ga bI 49:=gF Tryz.func49
theorem ER:xn bI 52 [(0,1),(1,1),(2,1),(3,1)] #[(.int .i64 0),(.int .i64 0),(.int .i64 0),(.int .i64 0)]:=xn.of (.agg #[(.int .i64 0),(.int .i64 0),(.int .i64 0),(.int .i64 0)]) Tryz.underlying52
theorem Pe:ga bI 50:=gF Tryz.func50
theorem Ke:Tryz.prog.underlying 3=some (.int .i64):=by kernel_rfl
theorem Oh:N8 bI 52 aH:=⟨λM cs ds a b w ha hb=>by
  obtain⟨_,_,rfl,rfl,⟨_,_,rfl,rfl,⟨_,_,rfl,rfl,rfl⟩⟩⟩:=ha
  obtain⟨_,_,rfl,rfl,⟨_,_,rfl,rfl,⟨_,_,rfl,rfl,rfl⟩⟩⟩:=hb
  refine(mf 9999 Tryz.underlying52<|Dc.cons (by decide) (eR cA _) (eR cA _) (kS Ke _ _ w)<|Dc.cons (by decide) (eR cA _) (eR cA _) (kS Ke _ _ w)<|Dc.cons (by decide) (eR cA _) (eR cA _) (kS Ke _ _ w)<|Dc.cons (by decide) (eR cA _) (eR cA _) (kS Ke _ _ w) Dc.nil).trans ?_
  congr 1
  cases a;cases b;unfold ph
  rw[jq]
  simp,by kernel_rfl⟩
theorem Qw:ga bI 18:=gF Tryz.func18
theorem gz:pf bI 27 2 2:=qW
theorem mT:nB bI 24 false 1:=yz
theorem vv:Tryz.prog.underlying 24=some (.slice 63):=by kernel_rfl
theorem sm:zB bI 24 63 6:=HO
theorem nk:nB bI 63 true 6:=yz
theorem Jm:E7 bI 63 6:=G9<|.agg #[(.int .i64 0),(.int .i64 0),(.int .i64 0),(.int .i64 0),(.int .i64 0),(.bool false)]
theorem uR:pf bI 63 1 2:=qW
theorem Nv:ga bI 52:=gF Tryz.func52
theorem BC:pf bI 63 0 0:=qW
theorem qF:nB bI 54 true 2:=yz
theorem qG:pf bI 54 0 0:=qW
theorem nZ:pf bI 54 1 1:=qW
theorem Qx:ga bI 55:=gF Tryz.func55
theorem KT:ga bI 22:=gF Tryz.func22
theorem sq:pf bI 63 2 3:=qW
theorem uS:pf bI 63 3 4:=qW
theorem qH:pf bI 27 3 3:=qW
theorem AJ:nB bI 25 false 1:=yz
theorem Gl:Tryz.prog.underlying 25=some (.slice 56):=by kernel_rfl
theorem ES:zB bI 25 56 5:=HO
theorem vx:nB bI 56 true 5:=yz
theorem KU:E7 bI 56 5:=G9<|.agg #[(.string ⟨#[]⟩),(.string ⟨#[]⟩),(.int .i64 0),(.int .i64 0),(.int .i64 0)]
theorem xQ:pf bI 56 0 0:=qW
theorem EG:nB bI 9 false 1:=yz
theorem ET:Tryz.prog.underlying 9=some (.string):=by kernel_rfl
theorem KO(a:eV)(b:Int)(w:World):(callFunc 192 [str a,(.int .u8 b)].toArray).run bI w = .ok (.value<|vi ((Lib.countByte a.dP (Int.toNat b).toUInt8:Nat):Int)) w:=Db Extern.BytealgCount.count Tryz.func192<|Lib.run_countString _ _ w
theorem eN(a:eV)(b:Int)(w:World):(callFunc 178 [str a,(.int .u8 b)].toArray).run bI w = .ok (.value<|vi<|Lib.indexByte a.dP (Int.toNat b).toUInt8) w:=Db Extern.BytealgIndexByte.indexByte Tryz.func178<|Lib.run_indexByteString _ _ w
theorem Oi:ga bI 142:=gF Tryz.func142
theorem Oj:ga bI 177:=gF Tryz.func177
theorem QC:w8 bI 152 9 1 16:=w8.of<|.string ⟨#[]⟩
theorem TI:LC bI 9 (⟨[]⟩:eV):=LC.of (.string ⟨#[]⟩)<|λM=>rfl
theorem HX:zB bI 152 9 1:=HO
theorem Ol:ga bI 105:=gF Tryz.func105
theorem Om:Tryz.prog.underlying 152=some (.slice 9):=by kernel_rfl
theorem On:ga bI 107:=gF Tryz.func107
theorem QF:ga bI 54:=gF Tryz.func54
theorem BD:pf bI 56 1 1:=qW
theorem BE:pf bI 56 2 2:=qW
theorem BF:pf bI 56 3 3:=qW
theorem Pf:E7 bI 60 2:=G9<|.agg #[(.string ⟨#[]⟩),(.string ⟨#[]⟩)]
theorem Nw:xn bI 60 [(0,1),(1,1)] #[(.string ⟨#[]⟩),(.string ⟨#[]⟩)]:=xn.of (.agg #[(.string ⟨#[]⟩),(.string ⟨#[]⟩)]) Tryz.underlying60
theorem HY:nB bI 60 true 2:=yz
theorem Ny:ga bI 57:=gF Tryz.func57
theorem L1:pf bI 60 0 0:=qW
theorem gh(a b:eV)(w:World):(callFunc 179 [str a,str b].toArray).run bI w = .ok (.value<|vi<|Lib.compareBytes a.dP b.dP) w:=Db Extern.BytealgCompare.compare Tryz.func179<|Lib.run_compareString _ _ w
theorem Oo:ga bI 109:=gF Tryz.func109
theorem L2:pf bI 60 1 1:=qW
theorem QJ:ga bI 56:=gF Tryz.func56
theorem QK:ga bI 58:=gF Tryz.func58
theorem Nz:ga bI 21:=gF Tryz.func21
theorem Sq:xn bI 72 [(0,4),(4,1),(5,1),(6,1),(7,1),(8,1),(9,1),(10,1),(11,1)] #[n_,n_,n_,n_,n_,n_,n_,n_,n_,n_,n_,n_]:=xn.of (.agg #[n_,n_,n_,n_,n_,n_,n_,n_,n_,n_,n_,n_]) Tryz.underlying72
theorem su:pf bI 72 0 0:=qW
theorem Pg:ga bI 59:=gF Tryz.func59
theorem L3:zB bI 66 79 1:=HO
theorem Ph:E7 bI 79 1:=G9<|.slice none 0 0
theorem QL:Tryz.prog.underlying 66=some (.slice 79):=by kernel_rfl
theorem QM:nB bI 79 false 1:=yz
theorem Oq:ga bI 145:=gF Tryz.func145
theorem QN:Tryz.prog.underlying 4=some (.bool):=by kernel_rfl
theorem L4:pf bI 72 1 4:=qW
theorem QR:nB bI 66 false 1:=yz
theorem QT:w8 bI 66 79 1 24:=w8.of<|.slice none 0 0
theorem L5:ga bI 112:=gF Tryz.func112
theorem HZ:Jd bI 96 3 3 Int Int (0:Int):=⟨by kernel_rfl,Dd.int Ke,J5 (.int .i64 0)<|λM=>⟨_,rfl,rfl⟩⟩
theorem NA:E7 bI 23 1:=G9<|.slice none 0 0
theorem L6:w8 bI 22 23 1 24:=w8.of<|.slice none 0 0
theorem sw:pf bI 72 2 5:=qW
theorem CM:nB bI 67 false 1:=yz
theorem Su:xn bI 81 [(0,1),(1,1),(2,1)] #[(.int .i64 0),n_,n_]:=xn.of (.agg #[(.int .i64 0),n_,n_]) Tryz.underlying81
theorem KW:zB bI 67 81 3:=HO
theorem NB:E7 bI 81 3:=G9<|.agg #[(.int .i64 0),n_,n_]
theorem Sv:w8 bI 67 81 3 56:=w8.of<|.agg #[(.int .i64 0),n_,n_]
theorem H0:Tryz.prog.underlying 67=some (.slice 81):=by kernel_rfl
theorem KX:nB bI 81 true 3:=yz
theorem xR:pf bI 63 4 5:=qW
theorem sU:nB bI 4 false 1:=yz
theorem Gm:pf bI 81 0 0:=qW
theorem Gn:pf bI 81 2 2:=qW
theorem QU:ga bI 63:=gF Tryz.func63
theorem Gp:pf bI 72 3 6:=qW
theorem AK:nB bI 68 false 1:=yz
theorem BG:zB bI 68 47 1:=HO
theorem Pj:E7 bI 47 1:=G9<|.slice none 0 0
theorem Pk:w8 bI 68 47 1 24:=w8.of<|.slice none 0 0
theorem QV:xn bI 135 [(0,1)] #[n_]:=xn.of (.agg #[n_]) Tryz.underlying135
theorem sV:pf bI 135 0 0:=qW
theorem QW:ga bI 39:=gF Tryz.func39
theorem Jn:Tryz.prog.underlying 68=some (.slice 47):=by kernel_rfl
theorem KY:ga bI 42:=gF Tryz.func42
theorem QX:ga bI 41:=gF Tryz.func41
theorem BH:pf bI 72 5 8:=qW
theorem Ds:pf bI 72 6 9:=qW
theorem Pl:PY bI 76 [n_,n_,n_]:=⟨(.agg #[n_,n_,n_]),λ_=>by kernel_rfl,rfl⟩
theorem zK:pf bI 72 4 7:=qW
theorem rQ:nB bI 69 false 1:=yz
theorem L7:Tryz.prog.underlying 69=some (.slice 76):=by kernel_rfl
theorem tG:pf bI 76 0 0:=qW
theorem zL:pf bI 76 1 1:=qW
theorem L8:nB bI 76 true 3:=yz
theorem xo:zB bI 69 76 3:=HO
theorem Pm:E7 bI 76 3:=G9<|.agg #[n_,n_,n_]
theorem Pn:w8 bI 69 76 3 72:=w8.of<|.agg #[n_,n_,n_]
theorem H2:E7 bI 34 2:=G9<|.agg #[(.bool false),(.int .i64 0)]
theorem Ot:ga bI 114:=gF Tryz.func114
theorem Dt:xn bI 34 [(0,1),(1,1)] #[(.bool false),(.int .i64 0)]:=xn.of (.agg #[(.bool false),(.int .i64 0)]) Tryz.underlying34
theorem pr:nB bI 34 true 2:=yz
theorem uT:pf bI 34 0 0:=qW
theorem pN:pf bI 34 1 1:=qW
theorem zM:pf bI 76 2 2:=qW
theorem Jo:nB bI 74 false 1:=yz
theorem QZ:zB bI 74 60 2:=HO
theorem Q0:w8 bI 74 60 2 32:=w8.of<|.agg #[(.string ⟨#[]⟩),(.string ⟨#[]⟩)]
theorem Jp:pf bI 72 7 10:=qW
theorem Jq:pf bI 72 8 11:=qW
theorem Po:nB bI 70 false 1:=yz
theorem Q1:zB bI 70 34 2:=HO
theorem SD:w8 bI 70 34 2 16:=w8.of<|.agg #[(.bool false),(.int .i64 0)]
theorem Pp:ga bI 10:=gF Tryz.func10
theorem Pq:ga bI 26:=gF Tryz.func26
theorem SF:PY bI 28 [n_]:=⟨n_,λ_=>by kernel_rfl,rfl⟩
theorem CN:nB bI 39 false 1:=yz
theorem Ps:Tryz.prog.underlying 74=some (.slice 60):=by kernel_rfl
theorem KZ:nB bI 28 false 1:=yz
theorem L9:xn bI 36 [(0,1),(1,2),(3,1),(4,1)] #[(.bool false),(.bool false),(.int .i64 0),(.int .i64 0),(.int .i64 0)]:=xn.of (.agg #[(.bool false),(.bool false),(.int .i64 0),(.int .i64 0),(.int .i64 0)]) Tryz.underlying36
theorem rR:zB bI 28 36 5:=HO
theorem BJ:E7 bI 36 5:=G9<|.agg #[(.bool false),(.bool false),(.int .i64 0),(.int .i64 0),(.int .i64 0)]
theorem Jr:w8 bI 28 36 5 40:=w8.of<|.agg #[(.bool false),(.bool false),(.int .i64 0),(.int .i64 0),(.int .i64 0)]
theorem Q2:ga bI 27:=gF Tryz.func27
theorem Pt:E7 bI 83 7:=G9<|.agg #[(.int .i64 0),(.int .i64 0),(.int .i64 0),(.int .i64 0),(.int .i64 0),(.int .i64 0),(.int .i64 0)]
theorem Q3:xn bI 83 [(0,1),(1,1),(2,1),(3,2),(5,2)] #[(.int .i64 0),(.int .i64 0),(.int .i64 0),(.int .i64 0),(.int .i64 0),(.int .i64 0),(.int .i64 0)]:=xn.of (.agg #[(.int .i64 0),(.int .i64 0),(.int .i64 0),(.int .i64 0),(.int .i64 0),(.int .i64 0),(.int .i64 0)]) Tryz.underlying83
theorem K0:nB bI 83 true 7:=yz
theorem Js:E7 bI 54 2:=G9<|.agg #[(.int .i64 0),(.int .i64 0)]
theorem Pv:xn bI 54 [(0,1),(1,1)] #[(.int .i64 0),(.int .i64 0)]:=xn.of (.agg #[(.int .i64 0),(.int .i64 0)]) Tryz.underlying54
theorem Q4:ga bI 69:=gF Tryz.func69
theorem BK:pf bI 83 3 3:=qW
theorem Q5:ga bI 70:=gF Tryz.func70
theorem Ma:pf bI 83 4 5:=qW
theorem Mb:Sa bI 83 2 3 2:=⟨λ_ _=>by kernel_rfl⟩
theorem zN:Tryz.prog.underlying 28=some (.slice 36):=by kernel_rfl
theorem Q6:ga bI 11:=gF Tryz.func11
theorem zf:ga bI 124:=gF Tryz.func124
theorem Ou:ga bI 121:=gF Tryz.func121
theorem Fv:ga bI 152:=gF Tryz.func152
theorem Ov:ga bI 128:=gF Tryz.func128
theorem Ow:xn bI 190 [(0,1),(1,1)] #[(.int .i64 0),(.int .i64 0)]:=xn.of (.agg #[(.int .i64 0),(.int .i64 0)]) Tryz.underlying190
theorem zg:Tryz.prog.underlying 169=some (.slice 190):=by kernel_rfl
theorem q9:zB bI 169 190 2:=HO
theorem sW:pf bI 190 1 1:=qW
theorem sX:pf bI 190 0 0:=qW
theorem Kf:nB bI 190 true 2:=yz
theorem Ox:E7 bI 190 2:=G9<|.agg #[(.int .i64 0),(.int .i64 0)]
theorem Mc:w8 bI 169 190 2 16:=w8.of<|.agg #[(.int .i64 0),(.int .i64 0)]
theorem Oy:ga bI 154:=gF Tryz.func154
theorem Kg:ga bI 130:=gF Tryz.func130
theorem Oz:xn bI 172 [(0,1),(1,1),(2,1)] #[(.int .i64 0),(.int .i64 0),n_]:=xn.of (.agg #[(.int .i64 0),(.int .i64 0),n_]) Tryz.underlying172
theorem yC:pf bI 172 2 2:=qW
theorem Fw:nB bI 169 false 1:=yz
theorem OA:Tryz.prog.underlying 167=some (.slice 172):=by kernel_rfl
theorem AL:zB bI 167 172 3:=HO
theorem C1:pf bI 172 1 1:=qW
theorem Kh:pf bI 172 0 0:=qW
theorem Pw:N8 bI 190 aF:=⟨λM cs ds a b w ha hb=>by
  obtain⟨_,_,rfl,rfl,rfl⟩:=ha
  obtain⟨_,_,rfl,rfl,rfl⟩:=hb
  refine(mf 9999 Tryz.underlying190<|Dc.cons (by decide) (eR cA _) (eR cA _) (kS Ke _ _ w)<|Dc.cons (by decide) (eR cA _) (eR cA _) (kS Ke _ _ w) Dc.nil).trans ?_
  congr 1
  cases a;cases b;unfold iv
  rw[jq]
  simp,by kernel_rfl⟩
theorem Ra:nB bI 172 true 3:=yz
theorem Rb:E7 bI 172 3:=G9<|.agg #[(.int .i64 0),(.int .i64 0),n_]
theorem Rc:w8 bI 167 172 3 40:=w8.of<|.agg #[(.int .i64 0),(.int .i64 0),n_]
theorem OB:ga bI 129:=gF Tryz.func129
theorem OC:ga bI 131:=gF Tryz.func131
theorem Px:ga bI 82:=gF Tryz.func82
theorem Rg:ga bI 77:=gF Tryz.func77
theorem Md:ga bI 79:=gF Tryz.func79
theorem OD:ga bI 123:=gF Tryz.func123
theorem K1:ga bI 35:=gF Tryz.func35
theorem OE:ga bI 126:=gF Tryz.func126
theorem NC:ga bI 71:=gF Tryz.func71
theorem Me:ga bI 155:=gF Tryz.func155
theorem Rk:ga bI 36:=gF Tryz.func36
theorem Ki:w8 bI 132 4 1 1:=w8.of<|.bool false
theorem R2:LC bI 4 (false:Bool):=LC.of (.bool false)<|λM=>rfl
theorem sJ:zB bI 132 4 1:=HO
theorem Rl:ga bI 37:=gF Tryz.func37
theorem Rm:ga bI 13:=gF Tryz.func13
theorem Rn:xn bI 125 [(0,4),(4,1),(5,1),(6,1),(7,1)] #[n_,n_,n_,n_,n_,n_,n_,n_]:=xn.of (.agg #[n_,n_,n_,n_,n_,n_,n_,n_]) Tryz.underlying125
theorem wA:pf bI 125 1 4:=qW
theorem mb:pf bI 125 2 5:=qW
theorem rE:pf bI 125 4 7:=qW
theorem kK:pf bI 125 3 6:=qW
theorem Ro:xn bI 76 [(0,1),(1,1),(2,1)] #[n_,n_,n_]:=xn.of (.agg #[n_,n_,n_]) Tryz.underlying76
theorem Du:ga bI 117:=gF Tryz.func117
theorem OG:ga bI 148:=gF Tryz.func148
theorem oL:pf bI 125 0 0:=qW
theorem OH:ga bI 132:=gF Tryz.func132
theorem Rq:ga bI 88:=gF Tryz.func88
theorem Rr:ga bI 75:=gF Tryz.func75
theorem OI:ga bI 180:=gF Tryz.func180
theorem OJ:ga bI 149:=gF Tryz.func149
theorem OK:ga bI 119:=gF Tryz.func119
theorem Rv:ga bI 12:=gF Tryz.func12
theorem SY:PY bI 92 [(.map none)]:=⟨(.map none),λ_=>by kernel_rfl,rfl⟩
theorem Mf:nB bI 92 false 1:=yz
theorem wB:nB bI 36 true 5:=yz
theorem wC:pf bI 36 0 0:=qW
theorem zO:pf bI 36 1 1:=qW
theorem Rw:ga bI 38:=gF Tryz.func38
theorem ND:Jd bI 92 3 4 Int Bool (false:Bool):=⟨by kernel_rfl,Dd.int Ke,J5 (.bool false)<|λM=>⟨_,rfl,rfl⟩⟩
theorem SZ:PY bI 93 [(.pointer none)]:=⟨(.pointer none),λ_=>by kernel_rfl,rfl⟩
theorem Mg:nB bI 93 false 1:=yz
theorem Rx:ga bI 40:=gF Tryz.func40
theorem BL:pf bI 36 2 3:=qW
theorem BM:pf bI 36 3 4:=qW
theorem S3:Tryz.prog.underlying 70=some (.slice 34):=by kernel_rfl
theorem Py:ga bI 14:=gF Tryz.func14
theorem Pz:ga bI 85:=gF Tryz.func85
theorem Ry:Tryz.prog.underlying 132=some (.slice 4):=by kernel_rfl
theorem Rz:ga bI 87:=gF Tryz.func87
theorem RA:ga bI 43:=gF Tryz.func43
theorem RB:ga bI 44:=gF Tryz.func44
theorem OL:N8 bI 36 bN:=⟨λM cs ds a b w ha hb=>by
  obtain⟨_,_,rfl,rfl,⟨_,_,rfl,⟨_,_,rfl,rfl,rfl⟩,⟨_,_,rfl,rfl,rfl⟩⟩⟩:=ha
  obtain⟨_,_,rfl,rfl,⟨_,_,rfl,⟨_,_,rfl,rfl,rfl⟩,⟨_,_,rfl,rfl,rfl⟩⟩⟩:=hb
  refine(mf 9999 Tryz.underlying36<|Dc.cons (by decide) (eR sU _) (eR sU _) (uC QN _ _ w)<|Dc.cons (by decide) (Bw pr rfl _) (Bw pr rfl _) (mf 9998 Tryz.underlying33<|Dc.cons (by decide) (eR sU _) (eR sU _) (uC QN _ _ w)<|Dc.cons (by decide) (eR cA _) (eR cA _) (kS Ke _ _ w) Dc.nil)<|Dc.cons (by decide) (eR cA _) (eR cA _) (kS Ke _ _ w)<|Dc.cons (by decide) (eR cA _) (eR cA _) (kS Ke _ _ w) Dc.nil).trans ?_
  congr 1
  obtain⟨_,⟨_,_⟩,_,_⟩:=a;obtain⟨_,⟨_,_⟩,_,_⟩:=b;unfold pq wy
  rw[jq]
  simp,by kernel_rfl⟩
theorem Ty:ga bI 8:=gF Tryz.func8
theorem S7:xn bI 56 [(0,1),(1,1),(2,1),(3,2)] #[(.string ⟨#[]⟩),(.string ⟨#[]⟩),(.int .i64 0),(.int .i64 0),(.int .i64 0)]:=xn.of (.agg #[(.string ⟨#[]⟩),(.string ⟨#[]⟩),(.int .i64 0),(.int .i64 0),(.int .i64 0)]) Tryz.underlying56
theorem S8:xn bI 27 [(0,1),(1,1),(2,1),(3,1)] #[n_,n_,n_,n_]:=xn.of (.agg #[n_,n_,n_,n_]) Tryz.underlying27
theorem S9:E7 bI 27 4:=G9<|.agg #[n_,n_,n_,n_]
theorem RD:N8 bI 34 eC:=⟨λM cs ds a b w ha hb=>by
  obtain⟨_,_,rfl,rfl,rfl⟩:=ha
  obtain⟨_,_,rfl,rfl,rfl⟩:=hb
  refine(mf 9999 Tryz.underlying34<|Dc.cons (by decide) (eR sU _) (eR sU _) (uC QN _ _ w)<|Dc.cons (by decide) (eR cA _) (eR cA _) (kS Ke _ _ w) Dc.nil).trans ?_
  congr 1
  cases a;cases b;unfold wy
  rw[jq]
  simp,by kernel_rfl⟩
theorem PA:ga bI 89:=gF Tryz.func89
theorem OM:Tryz.prog.underlying 175=some (.int .u64):=by kernel_rfl
theorem RF:ga bI 46:=gF Tryz.func46
def aY(E:World)(V:List HP)(res:Bool)(v:Value)(w:World):Prop:=v= vb res/\Holds E w V
def aW(E:World)(V:List HP)(res:Int)(v:Value)(w:World):Prop:=v= vi res/\Holds E w V
def gJ(E:World)(V:List HP)(res:List aH)(v:Value)(w:World):Prop:=Holds E w<|[own 52 v res]++V
def n0(E:World)(V:List HP)(res:List Int)(v:Value)(w:World):Prop:=Holds E w<|[own 3 v res]++V
def oM(E:World)(V:List HP)(res:List aA)(v:Value)(w:World):Prop:=Holds E w<|[own 150 v res]++V
def qI(E:World)(V:List HP)(res:aH)(v:Value)(w:World):Prop:=Holds E w<|[rd v res]++V
def qJ(E:World)(V:List HP)(res:List (List aH))(v:Value)(w:World):Prop:=Holds E w<|[own 23 v res]++V
def tH(E:World)(V:List HP)(res:List eV)(v:Value)(w:World):Prop:=Holds E w<|[own 9 v res]++V
def jA(E:World)(V:List HP)(b0:Nat)(g_ i_:Value)(a_ d_:Value)(f_ b_:Value)(e_ h_:Value)(res:Int)(v:Value)(w:World):Prop:=v= vi res/\Holds E w ([bc 125 b0 [g_,i_,a_,d_,f_,b_,e_,h_]]++V)
def zh(E:World)(V:List HP)(res:uP)(v:Value)(w:World):Prop:=Holds E w<|[rd v res]++V
def qK(E:World)(V:List HP)(res:List bN×Int)(v:Value)(w:World):Prop:=∃u0:Value,v = .tuple #[u0,vi res.2]/\Holds E w ([own 36 u0 res.1]++V)
def o6(E:World)(V:List HP)(res:List Int)(v:Value)(w:World):Prop:=Holds E w<|[rd v res]++V
def mK(E:World)(V:List HP)(res:List aF)(v:Value)(w:World):Prop:=Holds E w<|[own 190 v res]++V
def lA(E:World)(V:List HP)(b0:Nat)(g_ i_:Value)(a_ d_:Value)(f_ b_:Value)(e_ h_:Value)(p_ o_:Value)(m_ l_:Value)(res:Int)(v:Value)(w:World):Prop:=v= vi res/\Holds E w ([bc 72 b0 [g_,i_,a_,d_,f_,b_,e_,h_,p_,o_,m_,l_]]++V)
def ig(E:World)(V:List HP)(b0:Nat)(g_ i_:Value)(a_ d_:Value)(f_ b_ e_:Value)(us0_6:List bB)(r_:List bW)(h_:Value)(res:Int)(v:Value)(w:World):Prop:=v= vi res/\Holds E w ([bc 125 b0 [g_,i_,a_,d_,f_,b_,e_,h_],own 76 e_ us0_6,jk bF us0_6 r_ none]++V)
def pw(E:World)(V:List HP)(b0:Nat)(g_ i_:Value)(a_ d_:Value)(f_ b_:Value)(e_ h_:Value)(res:List Int)(v:Value)(w:World):Prop:=Holds E w<|[own 3 v res,bc 125 b0 [g_,i_,a_,d_,f_,b_,e_,h_]]++V
def Fy(H:Type)(d:DataW H):Nat:=YtbfhmmgnmbilfaaGreatDoor.Rows.uptoBulk d
def RI(H:Type)(d:List (DataW H)):Nat:=YtbfhmmgnmbilfaaGreatDoor.Rows.uptoBulkAll d
theorem k6:UB Fy RI where
  str:=λH b=>by simp[Fy,YtbfhmmgnmbilfaaGreatDoor.Rows.uptoBulk]
  pos:=λH d=>by
    unfold Fy
    cases d with
    |lit l=>cases l <;> simp[YtbfhmmgnmbilfaaGreatDoor.Rows.uptoBulk]
    |nil=>simp[YtbfhmmgnmbilfaaGreatDoor.Rows.uptoBulk]
    |ptr d=>simp[YtbfhmmgnmbilfaaGreatDoor.Rows.uptoBulk]
    |slice elems spare=>simp[YtbfhmmgnmbilfaaGreatDoor.Rows.uptoBulk]
    |agg parts=>simp[YtbfhmmgnmbilfaaGreatDoor.Rows.uptoBulk]
    |iface t d=>simp[YtbfhmmgnmbilfaaGreatDoor.Rows.uptoBulk]
    |map entries=>simp[YtbfhmmgnmbilfaaGreatDoor.Rows.uptoBulk]
    |held h=>simp[YtbfhmmgnmbilfaaGreatDoor.Rows.uptoBulk]
  sl:=λH e s=>by simp[Fy,RI,YtbfhmmgnmbilfaaGreatDoor.Rows.uptoBulk]
  ag:=λH l=>by simp[Fy,RI,YtbfhmmgnmbilfaaGreatDoor.Rows.uptoBulk]
  nil:=λH=>by simp[RI,YtbfhmmgnmbilfaaGreatDoor.Rows.uptoBulkAll]
  cons:=λH x l=>by simp[Fy,RI,YtbfhmmgnmbilfaaGreatDoor.Rows.uptoBulkAll]
theorem Mo:mx Fy Tryz.prog 3 Int:=K6 k6 (by kernel_rfl)
theorem Tg:mx Fy Tryz.prog 52 aH:=qL k6 (λ(x:aH)=>(x.X0,x.Y0,x.X1,x.Y1)) (λb=>⟨b.1,b.2.1,b.2.2.1,b.2.2.2⟩) (λb=>rfl) Tryz.underlying52 (jB k6 Mo<|jB k6 Mo<|jB k6 Mo<|vA k6 Mo rfl) (λb=>by simp only[NJ];omega)
theorem RJ:mx Fy Tryz.prog 23 (List aH):=wF (e:=52) k6 Tg
theorem Th:mx Fy Tryz.prog 22 (List<|List aH):=wF (e:=23) k6 RJ
theorem RK:mx Fy Tryz.prog 54 dU:=qL k6 (λ(x:dU)=>(x.X,x.Y)) (λb=>⟨b.1,b.2⟩) (λb=>rfl) Tryz.underlying54 (jB k6 Mo<|vA k6 Mo rfl) (λb=>by simp only[Mm];omega)
theorem TO:mx Fy Tryz.prog 4 Bool:=Jw k6 (by kernel_rfl)
theorem Ti:mx Fy Tryz.prog 63 bU:=qL k6 (λ(x:bU)=>(x.At,x.dV,x.cB,x.To,x.fD)) (λb=>⟨b.1,b.2.1,b.2.2.1,b.2.2.2.1,b.2.2.2.2⟩) (λb=>rfl) Tryz.underlying63 (jB k6 RK<|jB k6 Mo<|jB k6 Mo<|jB k6 Mo<|vA k6 TO rfl) (λb=>by simp only[NK];omega)
theorem Tj:mx Fy Tryz.prog 24 (List bU):=wF (e:=63) k6 Ti
theorem Tz:mx Fy Tryz.prog 9 eV:=K7 k6 (by kernel_rfl)
theorem Tk:mx Fy Tryz.prog 56 dE:=qL k6 (λ(x:dE)=>(x.Part,x.fz,x.cL,x.At)) (λb=>⟨b.1,b.2.1,b.2.2.1,b.2.2.2⟩) (λb=>rfl) Tryz.underlying56 (jB k6 Tz<|jB k6 Tz<|jB k6 Mo<|vA k6 RK rfl) (λb=>by simp only[Kk];omega)
theorem Tl:mx Fy Tryz.prog 25 (List dE):=wF (e:=56) k6 Tk
theorem Tm:mx Fy Tryz.prog 27 jO:=qL k6 (λ(x:jO)=>(x.aK,x.cU,x.aM,x.bV)) (λb=>⟨b.1,b.2.1,b.2.2.1,b.2.2.2⟩) (λb=>rfl) Tryz.underlying27 (jB k6 Th<|jB k6 RJ<|jB k6 Tj<|vA k6 Tl rfl) (λb=>by simp only[Mn];omega)
end Go.Gk
namespace Go.Proofs
open Go.Shelf Go.RowKit Go.Lib Go.Sort
def Tryz.lay95_ren : Go.Shelf.Ren := ⟨fun | 6 => 95 | 15 => 135 | 14 => 134 | 28 => 164 | 29 => 165 | 20 => 156 | 21 => 157 | 22 => 158 | 23 => 159 | 24 => 160 | 25 => 161 | 26 => 162 | 27 => 163 | 46 => 181 | 47 => 182 | 48 => 183 | 49 => 184 | 50 => 185 | 57 => 194 | n => n, fun | 22 => 23 | 24 => 52 | 25 => 64 | 3 => 3 | 39 => 175 | 0 => 0 | 53 => 200 | 55 => 202 | 4 => 4 | 46 => 194 | 45 => 193 | 50 => 97 | 5 => 5 | 9 => 9 | 66 => 208 | 70 => 212 | 76 => 219 | 77 => 220 | n => n, fun | n => n⟩
theorem Tryz.lay95 : Go.Proofs.SlLaysF0.n6 Tryz.prog Tryz.lay95_ren := {
  mixed := by kernel_rfl
  f6 := ⟨Tryz.f95.name, by decide, Tryz.func95.trans (congrArg some (by kernel_rfl))⟩
  f14 := ⟨Tryz.f134.name, by decide, Tryz.func134.trans (congrArg some (by kernel_rfl))⟩
  f15 := Tryz.func135.trans (congrArg some (by kernel_rfl))
  f20 := ⟨Tryz.f156.name, by decide, Tryz.func156.trans (congrArg some (by kernel_rfl))⟩
  f21 := ⟨Tryz.f157.name, by decide, Tryz.func157.trans (congrArg some (by kernel_rfl))⟩
  f22 := ⟨Tryz.f158.name, by decide, Tryz.func158.trans (congrArg some (by kernel_rfl))⟩
  f23 := ⟨Tryz.f159.name, by decide, Tryz.func159.trans (congrArg some (by kernel_rfl))⟩
  f24 := ⟨Tryz.f160.name, by decide, Tryz.func160.trans (congrArg some (by kernel_rfl))⟩
  f25 := ⟨Tryz.f161.name, by decide, Tryz.func161.trans (congrArg some (by kernel_rfl))⟩
  f26 := ⟨Tryz.f162.name, by decide, Tryz.func162.trans (congrArg some (by kernel_rfl))⟩
  f27 := ⟨Tryz.f163.name, by decide, Tryz.func163.trans (congrArg some (by kernel_rfl))⟩
  f28 := Tryz.func164.trans (congrArg some (by kernel_rfl))
  f29 := Tryz.func165.trans (congrArg some (by kernel_rfl))
  f46 := ⟨Tryz.f181.name, by decide, Tryz.func181.trans (congrArg some (by kernel_rfl))⟩
  f47 := Tryz.func182.trans (congrArg some (by kernel_rfl))
  f48 := Tryz.func183.trans (congrArg some (by kernel_rfl))
  f49 := ⟨Tryz.f184.name, by decide, Tryz.func184.trans (congrArg some (by kernel_rfl))⟩
  f50 := ⟨Tryz.f185.name, by decide, Tryz.func185.trans (congrArg some (by kernel_rfl))⟩
  f57 := ⟨Tryz.f194.name, by decide, Tryz.func194.trans (congrArg some (by kernel_rfl))⟩
  t0 := Tryz.underlying0
  a0 := Tryz.isAgg0
  z0 := Tryz.sizeOf0
  v0 := Tryz.zeroValue0
  t3 := Tryz.underlying3
  a3 := Tryz.isAgg3
  z3 := Tryz.sizeOf3
  v3 := Tryz.zeroValue3
  t4 := Tryz.underlying4
  a4 := Tryz.isAgg4
  z4 := Tryz.sizeOf4
  v4 := Tryz.zeroValue4
  t5 := Tryz.underlying5
  a5 := Tryz.isAgg5
  z5 := Tryz.sizeOf5
  v5 := Tryz.zeroValue5
  t9 := Tryz.underlying9
  a9 := Tryz.isAgg9
  z9 := Tryz.sizeOf9
  v9 := Tryz.zeroValue9
  t22 := Tryz.underlying23
  a22 := Tryz.isAgg23
  z22 := Tryz.sizeOf23
  v22 := Tryz.zeroValue23
  t25 := Tryz.underlying64
  a25 := Tryz.isAgg64
  z25 := Tryz.sizeOf64
  v25 := Tryz.zeroValue64
  t39 := Tryz.underlying175
  a39 := Tryz.isAgg175
  z39 := Tryz.sizeOf175
  v39 := Tryz.zeroValue175
  t45 := Tryz.underlying193
  a45 := Tryz.isAgg193
  z45 := Tryz.sizeOf193
  v45 := Tryz.zeroValue193
  t46 := Tryz.underlying194
  a46 := Tryz.isAgg194
  z46 := Tryz.sizeOf194
  v46 := Tryz.zeroValue194
  t50 := Tryz.underlying97
  a50 := Tryz.isAgg97
  z50 := Tryz.sizeOf97
  v50 := Tryz.zeroValue97
  t53 := Tryz.underlying200
  a53 := Tryz.isAgg200
  z53 := Tryz.sizeOf200
  v53 := Tryz.zeroValue200
  t55 := Tryz.underlying202
  a55 := Tryz.isAgg202
  z55 := Tryz.sizeOf202
  v55 := Tryz.zeroValue202
  t66 := Tryz.underlying208
  a66 := Tryz.isAgg208
  z66 := Tryz.sizeOf208
  v66 := Tryz.zeroValue208
  t70 := Tryz.underlying212
  a70 := Tryz.isAgg212
  z70 := Tryz.sizeOf212
  v70 := Tryz.zeroValue212
  t76 := Tryz.underlying219
  a76 := Tryz.isAgg219
  z76 := Tryz.sizeOf219
  v76 := Tryz.zeroValue219
  t77 := Tryz.underlying220
  a77 := Tryz.isAgg220
  z77 := Tryz.sizeOf220
  v77 := Tryz.zeroValue220 }
def Tryz.lay97_ren : Go.Shelf.Ren := ⟨fun | 5 => 97 | 8 => 135 | 7 => 136 | 19 => 164 | 20 => 165 | 10 => 166 | 11 => 167 | 12 => 168 | 13 => 169 | 14 => 170 | 15 => 171 | 16 => 172 | 17 => 173 | 18 => 174 | 30 => 186 | 31 => 182 | 32 => 183 | 33 => 187 | 34 => 188 | 35 => 189 | 40 => 195 | n => n, fun | 23 => 47 | 25 => 3 | 3 => 3 | 32 => 175 | 22 => 47 | 0 => 0 | 44 => 200 | 46 => 202 | 4 => 4 | 36 => 194 | 35 => 193 | 41 => 97 | 5 => 5 | 9 => 9 | 53 => 208 | 57 => 212 | 63 => 219 | 64 => 220 | n => n, fun | n => n⟩
theorem Tryz.lay97 : Go.Proofs.SlLaysM.n5 Tryz.prog Tryz.lay97_ren := {
  mixed := by kernel_rfl
  f5 := ⟨Tryz.f97.name, by decide, Tryz.func97.trans (congrArg some (by kernel_rfl))⟩
  f7 := ⟨Tryz.f136.name, by decide, Tryz.func136.trans (congrArg some (by kernel_rfl))⟩
  f8 := Tryz.func135.trans (congrArg some (by kernel_rfl))
  f10 := ⟨Tryz.f166.name, by decide, Tryz.func166.trans (congrArg some (by kernel_rfl))⟩
  f11 := ⟨Tryz.f167.name, by decide, Tryz.func167.trans (congrArg some (by kernel_rfl))⟩
  f12 := ⟨Tryz.f168.name, by decide, Tryz.func168.trans (congrArg some (by kernel_rfl))⟩
  f13 := ⟨Tryz.f169.name, by decide, Tryz.func169.trans (congrArg some (by kernel_rfl))⟩
  f14 := ⟨Tryz.f170.name, by decide, Tryz.func170.trans (congrArg some (by kernel_rfl))⟩
  f15 := ⟨Tryz.f171.name, by decide, Tryz.func171.trans (congrArg some (by kernel_rfl))⟩
  f16 := ⟨Tryz.f172.name, by decide, Tryz.func172.trans (congrArg some (by kernel_rfl))⟩
  f17 := ⟨Tryz.f173.name, by decide, Tryz.func173.trans (congrArg some (by kernel_rfl))⟩
  f18 := ⟨Tryz.f174.name, by decide, Tryz.func174.trans (congrArg some (by kernel_rfl))⟩
  f19 := Tryz.func164.trans (congrArg some (by kernel_rfl))
  f20 := Tryz.func165.trans (congrArg some (by kernel_rfl))
  f30 := ⟨Tryz.f186.name, by decide, Tryz.func186.trans (congrArg some (by kernel_rfl))⟩
  f31 := Tryz.func182.trans (congrArg some (by kernel_rfl))
  f32 := Tryz.func183.trans (congrArg some (by kernel_rfl))
  f33 := ⟨Tryz.f187.name, by decide, Tryz.func187.trans (congrArg some (by kernel_rfl))⟩
  f34 := ⟨Tryz.f188.name, by decide, Tryz.func188.trans (congrArg some (by kernel_rfl))⟩
  f35 := ⟨Tryz.f189.name, by decide, Tryz.func189.trans (congrArg some (by kernel_rfl))⟩
  f40 := ⟨Tryz.f195.name, by decide, Tryz.func195.trans (congrArg some (by kernel_rfl))⟩
  t0 := Tryz.underlying0
  a0 := Tryz.isAgg0
  z0 := Tryz.sizeOf0
  v0 := Tryz.zeroValue0
  t3 := Tryz.underlying3
  a3 := Tryz.isAgg3
  z3 := Tryz.sizeOf3
  v3 := Tryz.zeroValue3
  t4 := Tryz.underlying4
  a4 := Tryz.isAgg4
  z4 := Tryz.sizeOf4
  v4 := Tryz.zeroValue4
  t5 := Tryz.underlying5
  a5 := Tryz.isAgg5
  z5 := Tryz.sizeOf5
  v5 := Tryz.zeroValue5
  t9 := Tryz.underlying9
  a9 := Tryz.isAgg9
  z9 := Tryz.sizeOf9
  v9 := Tryz.zeroValue9
  t22 := Tryz.underlying47
  a22 := Tryz.isAgg47
  z22 := Tryz.sizeOf47
  v22 := Tryz.zeroValue47
  t23 := Tryz.underlying47
  a23 := Tryz.isAgg47
  z23 := Tryz.sizeOf47
  v23 := Tryz.zeroValue47
  t25 := Tryz.underlying3
  a25 := Tryz.isAgg3
  z25 := Tryz.sizeOf3
  v25 := Tryz.zeroValue3
  t32 := Tryz.underlying175
  a32 := Tryz.isAgg175
  z32 := Tryz.sizeOf175
  v32 := Tryz.zeroValue175
  t35 := Tryz.underlying193
  a35 := Tryz.isAgg193
  z35 := Tryz.sizeOf193
  v35 := Tryz.zeroValue193
  t36 := Tryz.underlying194
  a36 := Tryz.isAgg194
  z36 := Tryz.sizeOf194
  v36 := Tryz.zeroValue194
  t41 := Tryz.underlying97
  a41 := Tryz.isAgg97
  z41 := Tryz.sizeOf97
  v41 := Tryz.zeroValue97
  t44 := Tryz.underlying200
  a44 := Tryz.isAgg200
  z44 := Tryz.sizeOf200
  v44 := Tryz.zeroValue200
  t46 := Tryz.underlying202
  a46 := Tryz.isAgg202
  z46 := Tryz.sizeOf202
  v46 := Tryz.zeroValue202
  t53 := Tryz.underlying208
  a53 := Tryz.isAgg208
  z53 := Tryz.sizeOf208
  v53 := Tryz.zeroValue208
  t57 := Tryz.underlying212
  a57 := Tryz.isAgg212
  z57 := Tryz.sizeOf212
  v57 := Tryz.zeroValue212
  t63 := Tryz.underlying219
  a63 := Tryz.isAgg219
  z63 := Tryz.sizeOf219
  v63 := Tryz.zeroValue219
  t64 := Tryz.underlying220
  a64 := Tryz.isAgg220
  z64 := Tryz.sizeOf220
  v64 := Tryz.zeroValue220 }
end Go.Proofs
namespace Go.Gk
open Go IntKind Go.Proofs
variable (N:Nat){E w:World}{i0 i1 i2:Nat}{p0 p1 p2 res:Int}{v0 v1 v2:Value}{V:List HP}
theorem CO{res:Bool}(o:Holds E w V)(j:wq N p0 p1 p2=some res):c_ 143 [vi p0,vi p1,vi p2] w<|aY E V res:=by
 unfold wq at j;refine enter Tryz.func143 zr zr<|w_<|cC false<|TT<|aU p0<|aU p1<|ic p0 p1<|fC (decide<|p0>=p1)<|BY true (decide<|p0>=p1) (vi p0) zr zr zr cE ?_;refine BY true (decide<|p0>=p1) (vi p2) rfl rfl rfl cE<|BY true (decide<|p0>=p1) (vb<|decide<|p0<=p2) rfl rfl rfl (cZ .leq .i64 p0 p2 rfl (by exact z_ (vi p0)) (by exact z_ (vi p2)) rfl)<|Uq (b:=decide<|p0>=p1) (v:=vb<|decide (p0>=p1)&&decide (p0<=p2)) trivial rfl rfl (fJ true)<|cC (decide (p0>=p1)&&decide (p0<=p2))<|AI<|T2 ?_;exact oi j▸bX ⟨rfl,o.drop 0⟩
theorem nc{res:Bool}(o:Holds E w V)(j:mH N p0=some res):c_ 108 [vi p0] w<|aY E V res:=by
 unfold mH at j;exact enter Tryz.func108 zr zr<|w_<|cC false<|TT<|aU p0<|q_ j λaa ab j=>T3 (gF Tryz.func143) (CO N (p0:=p0) (p1:=(-1000000)) (p2:=1000000) o ab) λw o=>cC aa<|AI<|T2<|oi j▸bX ⟨rfl,o.drop 0⟩
theorem xf{p0:aH}{res:Bool}(j:Holds E w V)(h0:V[i0]? =some (rd v0 p0))(hb:oA N p0=some res):c_ 93 [v0] w<|aY E V res:=by
 unfold oA at hb;refine enter Tryz.func93 zr zr ?_;have j:=j.dup (i0+0) h0;refine w_<|Ur 0 v0 j zr λaq w j=>?_;refine cC false<|TV<|q_ hb λaf o hb=>T7 (λ(af:Bool)=>SH E V [(2,vb af)] []) af ?_ ?_;refine IS<|AT zr gO<|TX 0 j zr dK cA<|q_ o λaj ak o=>T3 Fu (nc N (p0:=p0.X0) j ak) λw j=>fC aj<|eG o (λaa o=>?_) λaa o=>?_;refine AT (hg:=cg aa) zr gx<|TX (hg:=cg aa) 0 j zr dF cA<|q_ o λag al o=>T3 (hg:=cg aa) Fu (nc N (p0:=p0.Y0) j al) λw j=>eD aa (vb ag)<|fC ag<|eG o (λab o=>?_) λab o=>?_;refine AT (hg:=cg ab) zr iU<|TX (hg:=cg ab) 0 j zr eA cA<|q_ o λah an o=>T3 (hg:=cg ab) Fu (nc N (p0:=p0.X1) j an) λw j=>eD ab (vb ah)<|fC ah<|eG o (λad o=>?_) λad o=>?_;exact AT (hg:=cg ad) zr kc<|TX (hg:=cg ad) 0 j zr fp cA<|q_ o λai ao o=>T3 (hg:=cg ad) Fu (nc N (p0:=p0.Y1) j ao) λw j=>eD ad (vb ai)<|cC ai<|By<|oi o▸⟨rfl,j.sp 2 []⟩;exact aZ ad<|aZ ad<|aZ ad<|eD ad (vb false)<|cC false<|By<|oi o▸⟨rfl,j.sp 2 []⟩;refine aZ ab<|aZ ab<|aZ ab<|eD ab (vb false)<|fC false<|jy<|jy<|jy<|Uq (b:=false) (v:=vb false) zt zr zr zr<|cC false<|By ?_;exact oi o▸⟨rfl,j.sp 2 []⟩;refine aZ aa<|aZ aa<|aZ aa<|eD aa (vb false)<|fC false<|jy<|jy<|jy<|Uq (b:=false) (v:=vb false) zt zr zr zr<|fC false<|jy<|jy<|jy<|Uq (b:=false) (v:=vb false) zt zr zr zr<|cC false<|By ?_;exact oi o▸⟨rfl,j.sp 2 []⟩;rintro _ w⟨O,rfl,j⟩;exact aC<|T2<|oi hb▸bX ⟨rfl,j.drop 0⟩
theorem yU{p0:List aH}(o:Holds E w V)(h0:V[i0]? =some (rd v0 p0))(hb:mh N p0=some res):c_ 47 [v0] w<|aW E V res:=by
 unfold mh at hb;refine enter Tryz.func47 zr zr ?_;have o:=o.dup (i0+0) h0;refine w_<|aL 0<|TV<|w_<|mv v0<|T0 0 p0 o l7<|ic ((p0.length:Int)) 2000<|AI<|dG hb (λhb=>?_) λhb=>?_;exact w_<|aL 2<|AI<|Up<|oi hb▸bX ⟨rfl,o.drop 1⟩;refine Ue<|w_<|mv v0<|T0 0 p0 o l7<|aU 0<|AI<|U9 E V (λ(ae:Unit)=>[rd v0 p0]) (λ_=>[]) (λad _=>[(8,v0),(9,vi p0.length),(10,vi ad)]) (λr=>lY bI 30 Tryz.f47 (aW E V r) .ret) hb ?_ ?_ ?_ ?_;exact o.sp 1 [0];rintro hm ad ae fl _ w hk⟨O,rfl,o⟩hb;refine IN<|Uj<|q_ hb λj ah hb=>TU 0 o gU ah λan o=>T9 0 j o fS λao o=>Uw o nL.z λab w o=>?_;refine Uu 0 o 1 zr fS λw o=>?_;refine TV<|w_<|Ut 0 o zr fS λaq o=>?_;refine q_ hb λai aj hb=>T3 Qp (xf N (i0:=0) o zr aj) λw o=>Ux ai<|AI<|dG hb (λhb=>?_) λhb=>?_;exact w_<|aL 1<|AI<|Up<|mG<|bO<|oi hb▸⟨rfl,bX ⟨rfl,o.drop 5⟩⟩;refine UP<|AT rfl iU<|TX 1 o rfl eA cA<|AT rfl gO<|TX 1 o rfl dK cA<|ic j.X1 j.X0<|fC (decide<|j.X1<=j.X0)<|BY true (decide<|j.X1<=j.X0) (vp ab 3) rfl rfl rfl (dI kc)<|BY true (decide<|j.X1<=j.X0) (vi j.Y1) rfl rfl rfl (bS 1 rfl o (by exact z_ (vp ab 3)) rfl fp cA) ?_;refine BY true (decide<|j.X1<=j.X0) (vp ab 1) rfl rfl rfl (dI gx)<|BY true (decide<|j.X1<=j.X0) (vi j.Y0) rfl rfl rfl (bS 1 rfl o (by exact z_ (vp ab 1)) rfl dF cA)<|BY true (decide<|j.X1<=j.X0) (vb<|decide<|j.Y1<=j.Y0) rfl rfl rfl (cZ .leq .i64 j.Y1 j.Y0 rfl (by exact z_ (vi j.Y1)) (by exact z_ (vi j.Y0)) rfl)<|Uq (b:=decide<|j.X1<=j.X0) (v:=vb<|decide (j.X1<=j.X0)||decide (j.Y1<=j.Y0)) trivial rfl rfl (mC true)<|AI<|dG hb (λhb=>?_) λhb=>?_;exact w_<|aL 13<|AI<|UN<|bO<|oi hb▸⟨rfl,bX ⟨rfl,o.drop 5⟩⟩;exact Ul<|bG<|aC<|IS<|UH hk hm<|aU ((ad+1:Nat):Int)<|By<|oi hb▸⟨rfl,o.sp 5 [4]⟩;intro r U w hb hK;exact bO<|oi hb▸hK;rintro ae _ w hb⟨O,rfl,o⟩;exact aC<|w_<|aL 0<|AI<|T2<|oi hb▸bX ⟨rfl,o.drop 1⟩
theorem xS{p0:List aH}{res:List aH}(j:Holds E w V)(h0:V[i0]? =some (rd v0 p0))(o:kj N p0=some res):
    c_ 94 [v0] w<|gJ E V res:=by
 unfold kj at o
 refine enter Tryz.func94 zr zr ?_
 have j:=j.dup (i0+0) h0
 refine w_<|dC n_<|TV<|w_<|mv v0<|Wz (i:=0) zt zr j zr zr zr l7<|AI<|VF (b:=Nq v0) zr (λhc=>?_)<|λhc=>?_
 ·have hx:=j.R7 (i:=0) rfl hc
  rw[hx]at o
  replace o:some ([]:List aH)=_:=o
  refine w_<|dC n_<|AI<|Up ?_
  obtain rfl:=oi o
  have j:=j.cM aH 52
  exact bX<|j.pk 2 [0]
 refine UP<|Uy ([]:List aH) j [] gU nL (λM hs g=>zt) λae w j=>mv v0 ?_
 obtain⟨af,ab,o⟩:=bd o
 refine UG 0 1 j Dr ab λad w j=>?_
 refine dC ad<|AI<|T2 ?_
 obtain rfl:=oi o
 exact bX<|j.pk 2 [0]
theorem AN{p0 p1:aH}(j:Holds E w V)(h0:V[i0]? =some (rd v0 p0))(h1:V[i1]? =some (rd v1 p1))(o:kT N p0 p1=some res):c_ 96 [v0,v1] w<|aW E V res:=by
 unfold kT at o;refine enter Tryz.func96 zr zr ?_;have j:=(j.dup (i0+0) h0).dup (i1+1) h1;refine w_<|Ur 1 v0 j zr λaa w j=>?_;refine Ur 1 v1 j zr λab w j=>?_;refine aL 0<|TT<|AT zr gx<|TX 1 j zr dF cA<|AT zr gx<|TX 0 j zr dF cA<|TY p0.Y0 p1.Y0<|aL (wrap .i64<|p0.Y0 - p1.Y0)<|AI ?_;exact T2<|oi o▸bX ⟨rfl,j.drop 4⟩
theorem xp{p0:List Int}{res:List Int}(j:Holds E w (own 3 v0 p0::V))(o:iS N p0=some res):c_ 98 [v0] w<|n0 E V res:=by
 unfold iS at o;refine enter Tryz.func98 zr zr<|w_<|dC n_<|TV<|w_<|mv v0<|UQ (i:=0) (l:=p0) zt zr j zr zr lz<|ic ((p0.length:Int)) 2<|AI<|dG o (λo=>?_) λo=>?_;refine w_<|mv v0<|dC v0<|AI<|Up ?_;obtain rfl:=oi o;exact bX<|j.pk 1 [0];refine Ue<|w_<|aL 1<|AI<|U2 E V (λ(ab:Int)=>[own 3 v0 p0]) (λ_=>[(0,v0)]) (λab=>[(3,vi ab)]) (λr=>lY bI 61 Tryz.f98 (n0 E V r) .ret) o ?_ ?_ ?_ ?_;exact j.sp 1 [0];rintro ab fl _ w⟨O,rfl,j⟩o;refine IN<|w_<|aU ab<|mv v0<|UQ (i:=0) (l:=p0) zt zr j zr zr lz<|ic ab ((p0.length:Int))<|AI<|dG o (λo=>?_) λo=>?_;refine Ue<|UI<|IN<|US mixed ?_;have j:=j.drew;refine UR<|mv v0<|AS<|aU ab<|AS<|q_ o λaq aj o=>Ug 0 j zr zr dN aj<|AS<|UT 0 j aj cA<|AS<|mv v0<|AS<|aU ab<|AS<|TY ab 1 ?_;refine AS<|q_ o λar ak o=>Ug 0 j zr zr dN ak<|AS<|UT 0 j ak cA<|AS<|ic aq ar<|UK<|aC<|dG o (λo=>?_) λo=>?_;refine w_<|mv v0<|aU ab<|q_ o λgh ae o=>VX 0 ab zr j zr zr dN ae<|dC (vw v0 (Int.toNat ab) 1)<|TV<|w_<|aL 1<|AI<|U3 E V (λ(aa:List Int×Int×Int)=>[own 3 v0 aa.1]) (λaa=>[(0,v0),(3,vi aa.2.1)]) (λaa=>[(4,vw v0 (Int.toNat ab) 1),(5,vi aa.2.2)]) o ?_ ?_ ?_;exact j.sp 1 [0];rintro aa fl _ w⟨O,rfl,j⟩o;refine IN<|w_<|aU aa.2.2<|mv (vw v0 (Int.toNat ab) 1)<|WA (i:=0) (l:=aa.1) zt zr j zr zr lz<|ic aa.2.2 ((((aa.1.length - Int.toNat ab):Nat):Int))<|AI<|dG o (λo=>?_) λo=>?_;refine Ue<|UI<|IN<|US mixed ?_;have j:=j.drew;refine UR<|mv (vw v0 (Int.toNat ab) 1)<|AS<|aU aa.2.2<|AS<|q_ o λau af o=>VY 0 ab zr j zr zr zr dN (Jg ae) (lD af).1 (lD af).2<|AS<|Vh (f:=(λx=>x)) 0 zt j (rI 0 j (lD af).2 0) (fP (lD af).2).2.1 Fd.self cA<|AS<|mv (vw v0 (Int.toNat ab) 1)<|AS<|aU aa.2.2<|AS<|TY aa.2.2 1 ?_;refine AS<|q_ o λav ag o=>VY 0 ab zr j zr zr zr dN (Jg ae) (lD ag).1 (lD ag).2<|AS<|Vh (f:=(λx=>x)) 0 zt j (rI 0 j (lD ag).2 0) (fP (lD ag).2).2.1 Fd.self cA<|AS<|ic au av<|UK<|aC<|q_ o λah hj o=>T7 (λ(ah:List Int×Int)=>SH E V [(0,v0),(3,vi ah.2),(4,vw v0 (Int.toNat ab) 1),(5,vi aa.2.2)] [own 3 v0 ah.1]) ah ?_ ?_;refine dG hj (λhj=>?_) λhj=>?_;refine w_<|mv v0<|aU aa.2.1<|mv (vw v0 (Int.toNat ab) 1)<|aU aa.2.2<|q_ hj λaw ai hj=>VY 0 ab zr j zr zr zr dN (Jg ae) (lD ai).1 (lD ai).2<|Vh (f:=(λx=>x)) 0 zt j (rI 0 j (lD ai).2 0) (fP (lD ai).2).2.1 Fd.self cA<|q_ hj λa0 al hj=>Ug 0 j zr zr dN al ?_;have j:=j.sc Int aw;refine U0 1 0 j al cA λw j=>?_;refine AI<|IS<|aU aa.2.1<|TY aa.2.1 1<|aL (wrap .i64<|aa.2.1+1)<|By ?_;exact oi hj▸⟨rfl,j.sp 2 [1]⟩;exact Ul<|oi hj▸⟨rfl,j.sp 1 [0]⟩;rintro _ w⟨O,rfl,j⟩;refine bG<|aC<|IS<|aU aa.2.2<|TY aa.2.2 1<|aL (wrap .i64<|aa.2.2+1)<|By ?_;exact oi o▸⟨rfl,j.sp 1 [0]⟩;exact Ui<|oi o▸⟨rfl,j.sp 1 [0]⟩;rintro aa _ w o⟨O,rfl,j⟩;refine aC<|w_<|mv v0<|aU aa.2.1<|q_ o λa1 an o=>VX 0 aa.2.1 zr j zr zr dN an<|Wj 0 zt j zr zr rl Od (LP an) λw j=>TT<|mv v0<|aU aa.2.1<|q_ o λa2 ax o=>VW 0 zr j zr zr dN (.inr ⟨rfl,zr⟩) ax λay j=>dC ay<|AI<|UN<|bO ?_;obtain rfl:=oi o;exact⟨rfl,bX<|j.pk 1 [0]⟩;refine Ul<|bG<|aC<|IS<|aU ab<|TY ab 1<|aL (wrap .i64<|ab+1)<|By ?_;exact oi o▸⟨rfl,j.sp 1 [0]⟩;exact Ui<|oi o▸⟨rfl,j.sp 1 [0]⟩;intro r U w o hK;exact bO<|oi o▸hK;rintro ab _ w o⟨O,rfl,j⟩;refine aC<|w_<|mv v0<|dC v0<|AI<|T2 ?_;obtain rfl:=oi o;exact bX<|j.pk 1 [0]
theorem AO{p0:aH}{p1:List Int}{res:Bool}(j:Holds E w V)(h0:V[i0]? =some (rd v0 p0))(h1:V[i1]? =some (pt v1 p1))(h2:V[i2]? =some (pt v2 p2))(o:qz N p0 p1 p2=some res):c_ 100 [v0,v1,v2] w<|aY E V res:=by
 unfold qz at o;refine enter Tryz.func100 zr zr ?_;have j:=((j.dup (i0+0) h0).C8 (i:=i1+1) h1).C8 (i:=i2+2) h2;refine w_<|Ur 2 v0 j zr λad w j=>?_;refine cC false<|TV<|US mixed ?_;have j:=j.drew;refine UR<|AT zr kc<|AS<|TX 0 j zr fp cA<|AS<|T9 2 p1 j fE λae j=>AS<|Ub p2 2 j cA<|AS<|q_ o λaa ab o=>TU 0 j dN ab λaf j=>AS<|Ub aa 0 j cA<|AS<|ic p0.Y1 aa<|AS<|cC (decide<|p0.Y1<=aa)<|UK<|aC ?_;exact T2<|oi o▸bX ⟨rfl,j.drop 6⟩
theorem uV{p0:List aH}{p1:aH->Option Bool}(o:Holds E w V)(h0:V[i0]? =some (rd v0 p0))(h1:Nb bI E V v1 p1 (λ(r:Bool)=>Value.bool r))(j:ni N p0 p1=some res):c_ 113 [v0,v1] w<|aW E V res:=by
 unfold ni at j;refine enter Tryz.func113 zr zr ?_;have o:=o.dup (i0+0) h0;refine w_<|aL 0<|TV<|w_<|mv v0<|T0 0 p0 o l7<|aU 0<|AI<|U9 E V (λ(ab:Unit)=>[rd v0 p0]) (λ_=>[]) (λaa _=>[(0,v0),(1,v1),(7,vi p0.length),(8,vi aa)]) (λr=>lY bI 19 Tryz.f113 (aW E V r) .ret) j ?_ ?_ ?_ ?_;exact o.sp 1 [0];rintro hm aa ab fl _ w hk⟨O,rfl,o⟩j;refine IN<|Uj<|aU (aa:Int)<|aL (aa:Int)<|TT<|mv v1<|mv v0<|aU (aa:Int)<|q_ j λaf ag j=>TU 0 o gU ag λak o=>T9 0 af o fS λal o=>?_;refine q_ j λan ah j=>VI 0 zr o zr h1 3 zr zr zr ah λw o=>AI<|dG j (λj=>?_) λj=>?_;exact w_<|aU (aa:Int)<|aL (aa:Int)<|AI<|UN<|bO<|oi j▸⟨rfl,bX ⟨rfl,o.drop 3⟩⟩;exact Ul<|bG<|aC<|IS<|UH hk hm<|aU ((aa+1:Nat):Int)<|By<|oi j▸⟨rfl,o.sp 3 [2]⟩;intro r U w j hK;exact bO<|oi j▸hK;rintro ab _ w j⟨O,rfl,o⟩;exact aC<|w_<|aL (-1)<|AI<|T2<|oi j▸bX ⟨rfl,o.drop 1⟩
def n7(E:World)(V:List HP)(v0:Value)(p0:List aH)(res:Int)(v:Value)(w:World):Prop:=v= vi res/\Holds E w ([own 52 v0 p0]++V)
theorem sY{p0:List aH}{p1:aH->Option Bool}(o:Holds E w (own 52 v0 p0::V))(h1:Nb bI E V v1 p1 (λ(r:Bool)=>Value.bool r))(j:l3 N p0 p1=some res):c_ 113 [v0,v1] w<|n7 E V v0 p0 res:=by
 unfold l3 at j;refine enter Tryz.func113 zr zr<|w_<|aL 0<|TV<|w_<|mv v0<|UQ (i:=0) (l:=p0) zt zr o zr zr l7<|aU 0<|AI<|U9 E V (λ(ab:Unit)=>[own 52 v0 p0]) (λ_=>[(0,v0)]) (λaa _=>[(1,v1),(7,vi p0.length),(8,vi aa)]) (λr=>lY bI 19 Tryz.f113 (n7 E V v0 p0 r) .ret) j ?_ ?_ ?_ ?_;exact o.sp 1 [0];rintro hm aa ab fl _ w hk⟨O,rfl,o⟩j;refine IN<|Uj<|aU (aa:Int)<|aL (aa:Int)<|TT<|mv v1<|mv v0<|aU (aa:Int)<|q_ j λaj ad j=>Ug 0 o zr zr gU ad<|Vc 0 o ad fS λak o=>?_;refine q_ j λal ag j=>VI 0 zr o zr h1 2 zr zr zr ag λw o=>AI<|dG j (λj=>?_) λj=>?_;exact w_<|aU (aa:Int)<|aL (aa:Int)<|AI<|UN<|bO<|oi j▸⟨rfl,bX ⟨rfl,o.pk 2 [1]⟩⟩;exact Ul<|bG<|aC<|IS<|UH hk hm<|aU ((aa+1:Nat):Int)<|By<|oi j▸⟨rfl,o.sp 2 [1]⟩;intro r U w j hK;exact bO<|oi j▸hK;rintro ab _ w j⟨O,rfl,o⟩;exact aC<|w_<|aL (-1)<|AI<|T2<|oi j▸bX ⟨rfl,o.pk 1 [0]⟩
theorem um{p0:List aH}{p1:aH->Option Bool}{res:List aH}(j:Holds E w (own 52 v0 p0::V))(h1:Nb bI E V v1 p1 (λ(r:Bool)=>Value.bool r))(o:jt N p0 p1=some res):c_ 99 [v0,v1] w<|gJ E V res:=by
 unfold jt at o;refine enter Tryz.func99 zr zr<|w_<|dC n_<|TT<|mv v0<|mv v1 ?_;have j:=j.pull 0;refine q_ o λad ai o=>T3 Oe (sY N j (h1.lift 1 zr) ai) λw j=>aL ad<|TV<|w_<|aU ad<|ic ad ((-1))<|AI<|dG o (λo=>?_) λo=>?_;refine w_<|mv v0<|dC v0<|AI<|Up ?_;obtain rfl:=oi o;exact bX<|j.pk 2 [0];refine Ue<|w_<|aU ad<|TY ad 1<|aL (wrap .i64<|ad+1)<|AI<|U3 E V (λ(aa:List aH×Int×Int)=>[own 52 v0 aa.1]) (λaa=>[(0,v0),(5,vi aa.2.1)]) (λaa=>[(1,v1),(6,vi aa.2.2)]) o ?_ ?_ ?_;exact j.sp 2 [0];rintro aa fl _ w⟨O,rfl,j⟩o;refine IN<|w_<|aU aa.2.2<|mv v0<|UQ (i:=0) (l:=aa.1) zt zr j zr zr l7<|ic aa.2.2 ((aa.1.length:Int))<|AI<|dG o (λo=>?_) λo=>?_;refine Ue<|Uj<|mv v0<|aU aa.2.2<|q_ o λaq af o=>Ug 0 j zr zr gU af<|Vc 0 j af fS λar j=>?_;refine Uw j nL.z λau w j=>?_;refine Uu 0 j 1 zr fS λw j=>?_;refine TT<|mv v1<|Ut 0 j zr fS λav j=>?_;refine q_ o λaj ak o=>VI 0 zr j zr h1 4 zr zr zr ak λw j=>Ux aj<|AI<|q_ o λae hj o=>T7 (λ(ae:List aH×Int)=>SH E V [(0,v0),(1,v1),(5,vi ae.2),(6,vi aa.2.2)] [own 52 v0 ae.1]) ae ?_ ?_;refine dG hj (λhj=>?_) λhj=>?_;refine w_<|mv v0<|aU aa.2.1<|Ut 1 j zr fS λaw j=>?_;refine q_ hj λax ag hj=>Ug 4 j zr zr gU ag<|U0 4 0 j ag fS λw j=>?_;refine AI<|IS<|aU aa.2.1<|TY aa.2.1 1<|aL (wrap .i64<|aa.2.1+1)<|By ?_;exact oi hj▸⟨rfl,j.sp 5 [4]⟩;exact Ul<|oi hj▸⟨rfl,j.sp 4 [3]⟩;rintro _ w⟨O,rfl,j⟩;refine bG<|aC<|IS<|aU aa.2.2<|TY aa.2.2 1<|aL (wrap .i64<|aa.2.2+1)<|By ?_;exact oi o▸⟨rfl,j.sp 1 [0]⟩;exact Ui<|oi o▸⟨rfl,j.sp 1 [0]⟩;rintro aa _ w o⟨O,rfl,j⟩;refine aC<|w_<|mv v0<|aU aa.2.1<|q_ o λay ah o=>VX 0 aa.2.1 zr j zr zr gU ah<|Wj 0 zt j zr zr Dr Sh (LP ah) λw j=>TT<|mv v0<|aU aa.2.1<|q_ o λaz al o=>VW 0 zr j zr zr gU (.inr ⟨rfl,zr⟩) al λan j=>dC an<|AI<|T2 ?_;obtain rfl:=oi o;exact bX<|j.pk 1 [0]
theorem xq{p0 p1:aH}(j:Holds E w V)(h0:V[i0]? =some (rd v0 p0))(h1:V[i1]? =some (rd v1 p1))(o:iT N p0 p1=some res):c_ 138 [v0,v1] w<|aW E V res:=by
 unfold iT at o;refine enter Tryz.func138 zr zr ?_;have j:=(j.dup (i0+0) h0).dup (i1+1) h1;refine w_<|Ur 1 v0 j zr λaa w j=>?_;refine Ur 1 v1 j zr λab w j=>?_;refine aL 0<|TT<|AT zr gO<|TX 1 j zr dK cA<|AT zr gO<|TX 0 j zr dK cA<|TY p0.X0 p1.X0<|aL (wrap .i64<|p0.X0 - p1.X0)<|AI ?_;exact T2<|oi o▸bX ⟨rfl,j.drop 4⟩
def AP(E:World)(V:List HP)(v0:Value)(res:List Int×List aH)(v:Value)(w:World):Prop:=Holds E w<|[own 3 v res.1,own 52 v0 res.2]++V
theorem zR{p0:List aH}{res:List Int×List aH}(j:Holds E w (own 52 v0 p0::V))(hb:ky N p0=some res):c_ 102 [v0] w<|AP E V v0 res:=by
 unfold ky at hb;refine enter Tryz.func102 zr zr<|w_<|dC n_<|TT<|mv v0 ?_;obtain⟨ag,az,hb⟩:=bd hb;have j:=j.pull 0;refine T3 Qq (Kl Tryz.lay95 aH zr fS.Ni fS.sz (gF Tryz.func138) (λj hi o hr=>xq N j hi o hr) j az) λw j=>TT<|dC n_<|TV<|w_<|mv v0<|UQ (i:=0) (l:=ag) zt zr j zr zr l7<|aU 0<|AI ?_;have j:=j.cM Int 3;refine Va E V (λ(ad:List Int)(aj:Value)=>[own 52 v0 ag,own 3 aj ad]) (λ_ aj=>[(0,v0),(3,aj)]) (λah _ _=>[(9,v0),(10,vi ag.length),(11,vi ah)]) hb ?_ ?_ ?_;exact⟨n_,j.sp 3 [1,0]⟩;rintro hm ah ad s' _ w hk⟨af,O,rfl,j⟩hb;refine IN<|Uj<|q_ hb λae ao hb=>Ug 0 j zr zr gU ao<|Vc 0 j ao fS λa3 j=>?_;refine Uw j nL.z λaq w j=>?_;refine Uu 0 j 1 zr fS λw j=>?_;refine TT<|mv af<|UQ (i:=3) (l:=ad) zt zr j zr zr lz<|TY (ad.length:Int) 1<|aL (wrap .i64<|(ad.length:Int) - 1)<|TV<|q_ hb λak o hb=>T7 (λ(ak:Bool)=>SH E V [(0,v0),(3,af),(5,vp aq 0),(6,vi<|wrap .i64<|(ad.length:Int) - 1),(9,v0),(10,vi ag.length),(11,vi ah),(28,vb ak)] [own 52 v0 ag,own 3 af ad,bx 52 aq ae]) ak ?_ ?_;refine US mixed ?_;have j:=j.drew;refine UR<|aU (wrap .i64<|(ad.length:Int) - 1)<|AS<|ic (wrap .i64<|(ad.length:Int) - 1) 0<|AS<|fC (decide<|wrap .i64 ((ad.length:Int) - 1)>=0)<|eG o (λaa o=>?_) λaa o=>?_;refine AS<|AT (hg:=cg aa) zr gO<|AS<|TX (hg:=cg aa) 0 j zr dK cA<|AS<|TW af (cg aa)<|AS<|TW (vi<|wrap .i64<|(ad.length:Int) - 1) (cg aa)<|AS ?_;refine q_ o λar au o=>Ug (hg:=cg aa) 3 j zr zr dN au<|AS<|UT (hg:=cg aa) 3 j au cA<|AS<|UM ae.X0 ar (cg aa)<|AS<|eD aa (vb<|decide<|ae.X0<=ar)<|UK ?_;exact oi o▸⟨rfl,j.sp 4 [2,3,0]⟩;refine AS<|aZ aa<|AS<|aZ aa<|AS<|aZ aa<|AS<|aZ aa<|AS<|aZ aa<|AS<|aZ aa<|AS<|aZ aa<|AS<|eD aa (vb false)<|UK ?_;exact oi o▸⟨rfl,j.sp 4 [2,3,0]⟩;rintro _ w⟨O,rfl,j⟩;refine aC<|q_ hb λal o hb=>T7 (λ(al:List Int)U w=>∃ai:Value,SH E V [(0,v0),(3,ai),(9,v0),(10,vi ag.length),(11,vi ah)] [own 52 v0 ag,own 3 ai al] U w) al ?_ ?_;refine dG o (λo=>?_) λo=>?_;refine UL mixed [0,0,0,0,0,0,0,0,0,0,2] [0,1,2,3,4,5,6,7,8,9,10] ?_;have j:=j.drew;refine T4 zr zr<|mv af<|aQ zr<|aU (wrap .i64<|(ad.length:Int) - 1)<|aQ zr<|mv af<|aQ zr<|aU (wrap .i64<|(ad.length:Int) - 1)<|aQ zr ?_;refine q_ o λan aw o=>Ug 1 j zr zr dN aw<|aQ zr<|UT 1 j aw cA<|aQ zr<|AT zr iU<|aQ zr<|TX 2 j zr eA cA<|aQ zr<|U8 an ae.X1<|aQ zr ?_;refine q_ o λa6 ax o=>Ug 1 j zr zr dN ax<|oT zr ?_;have j:=j.sc Int (if an<ae.X1 then ae.X1 else an);refine U0 2 0 j ax cA λw j=>?_;exact Us zt<|Um<|oi o▸⟨rfl,af,j.sp 4 [1,2]⟩;refine IS<|mv af<|AT zr gO<|TX 2 j zr dK cA<|AT zr iU<|TX 2 j zr eA cA ?_;have j:=(j.sc Int ae.X0).sc Int ae.X1;refine Uy ([ae.X0,ae.X1]:List Int) j [vi ae.X0,vi ae.X1] dN EP (λM hs g=>⟨(g.sat 1 _ zr).1,⟨(g.sat 0 _ zr).1,zt⟩⟩) λa4 w j=>?_;have j:=j.freeze 0;refine q_ o λa5 a2 o=>UG 4 0 j rl a2 λav w j=>?_;exact dC av<|By<|oi o▸⟨rfl,av,j.sp 6 [3,4]⟩;rintro _ w⟨ai,O,rfl,j⟩;exact bG<|aC<|IS<|UH hk hm<|aU ((ah+1:Nat):Int)<|By<|oi hb▸⟨rfl,ai,j.sp 2 [0,1]⟩;rintro ad _ w hb⟨ay,O,rfl,j⟩;refine aC<|w_<|mv ay<|dC ay<|AI<|T2 ?_;obtain rfl:=oi hb;exact bX<|j.pk 2 [1,0]
theorem yV{p0:List Int}{p1:List Int}{res:Bool}(j:Holds E w V)(h0:V[i0]? =some (rd v0 p0))(h1:V[i1]? =some (rd v1 p1))(o:oC N p0 p1=some res):c_ 137 [v0,v1] w<|aY E V res:=by
 unfold oC at o;refine enter Tryz.func137 zr zr ?_;have j:=(j.dup (i0+0) h0).dup (i1+1) h1;refine w_<|cC false<|TV<|w_<|mv v0<|T0 1 p0 j lz<|mv v1<|T0 0 p1 j lz<|ic ((p0.length:Int)) ((p1.length:Int))<|AI<|dG o (λo=>?_) λo=>?_;exact w_<|cC false<|AI<|Up<|oi o▸bX ⟨rfl,j.drop 2⟩;refine Ue<|w_<|mv v0<|T0 1 p0 j lz<|aU 0<|AI<|U9 E V (λ(ab:Unit)=>[rd v0 p0,rd v1 p1]) (λ_=>[]) (λaa _=>[(0,v0),(1,v1),(12,vi p0.length),(13,vi aa)]) (λr=>lY bI 26 Tryz.f137 (aY E V r) .ret) o ?_ ?_ ?_ ?_;exact j.sp 2 [1,0];rintro hm aa ab fl _ w hk⟨O,rfl,j⟩o;refine IN<|Uj<|aU (aa:Int)<|aL (aa:Int)<|TV<|US mixed ?_;have j:=j.drew;refine UR<|mv v0<|AS<|aU (aa:Int)<|AS<|q_ o λad ah o=>TU 0 j dN ah λal j=>AS<|Ub ad 0 j cA<|AS<|mv v1<|AS<|aU (aa:Int)<|AS ?_;refine q_ o λae ai o=>TU 2 j dN ai λan j=>AS<|Ub ae 0 j cA<|AS<|ic ad ae<|UK<|aC<|dG o (λo=>?_) λo=>?_;exact w_<|cC false<|AI<|UN<|bO<|oi o▸⟨rfl,bX ⟨rfl,j.drop 4⟩⟩;exact Ul<|bG<|aC<|IS<|UH hk hm<|aU ((aa+1:Nat):Int)<|By<|oi o▸⟨rfl,j.sp 4 [2,3]⟩;intro r U w o hK;exact bO<|oi o▸hK;rintro ab _ w o⟨O,rfl,j⟩;exact aC<|w_<|cC true<|AI<|T2<|oi o▸bX ⟨rfl,j.drop 2⟩
theorem uF{p0:List aA}{p1:aA}{res:List aA}(o:Holds E w (own 150 v0 p0::V))(h1:V[i1]? =some (rd v1 p1))(hb:j6 N p0 p1=some res):c_ 101 [v0,v1] w<|oM E V res:=by
 unfold j6 at hb;refine enter Tryz.func101 zr zr ?_;have o:=o.dup (i1+1) h1;refine w_<|Ur 0 v1 o zr λaf w o=>?_;refine dC n_<|TV<|w_<|AT zr nE<|UA 0 o zr eU fE λau o=>T0 0 p1.Xs o lz<|ic ((p1.Xs.length:Int)) 0<|fC ((p1.Xs.length:Int)==0)<|BY true ((p1.Xs.length:Int)==0) (vp af 1) zr zr zr (dI pL) ?_;refine BY true ((p1.Xs.length:Int)==0) (vi p1.Y1) rfl rfl rfl (bS 1 rfl o (by exact z_ (vp af 1)) rfl gw cA)<|BY true ((p1.Xs.length:Int)==0) (vp af 0) rfl rfl rfl (dI sT)<|BY true ((p1.Xs.length:Int)==0) (vi p1.Y0) rfl rfl rfl (bS 1 rfl o (by exact z_ (vp af 0)) rfl iQ cA)<|BY true ((p1.Xs.length:Int)==0) (vb<|decide<|p1.Y1<=p1.Y0) rfl rfl rfl (cZ .leq .i64 p1.Y1 p1.Y0 rfl (by exact z_ (vi p1.Y1)) (by exact z_ (vi p1.Y0)) rfl)<|Uq (b:=(p1.Xs.length:Int)==0) (v:=vb<|((p1.Xs.length:Int)==0)||decide (p1.Y1<=p1.Y0)) trivial rfl rfl (mC true)<|AI<|dG hb (λhb=>?_) λhb=>?_;refine w_<|mv v0<|dC v0<|AI<|Up ?_;obtain rfl:=oi hb;exact bX<|o.pk 4 [3];refine Ue<|w_<|mv v0<|UQ (i:=3) (l:=p0) zt zr o zr zr yT<|TY (p0.length:Int) 1<|aL (wrap .i64<|(p0.length:Int) - 1)<|TV<|q_ hb λaj hj hb=>T7 (λ(aj:Bool)=>SH E V [(0,v0),(3,vp af 0),(5,vi<|wrap .i64<|(p0.length:Int) - 1),(42,vb aj)] [own 150 v0 p0,bx 150 af p1]) aj ?_ ?_;refine UL mixed [0,0,0,0,0,0,0,0,0,0,0,0,0,0,0,0,0,0,0,0,2,0] [0,1,2,3,4,5,6,7,8,9,10,11,12,13,14,15,16,17,18,19,20,21] ?_;have o:=o.drew;refine T4 zr zr<|aU (wrap .i64<|(p0.length:Int) - 1)<|aQ zr<|ic (wrap .i64<|(p0.length:Int) - 1) 0<|aQ zr<|fC (decide<|wrap .i64 ((p0.length:Int) - 1)>=0)<|T8<|eG hj (λaa hj=>?_) λaa hj=>?_;refine T4 zr zr<|TW v0 (cg aa)<|aQ zr<|TW (vi<|wrap .i64<|(p0.length:Int) - 1) (cg aa)<|aQ zr<|q_ hj λak ag hj=>Ug (hg:=cg aa) 3 o zr zr sj ag<|aQ zr<|U6 (α:=aA) (cg aa) (rI 3 o ag 0) pL<|aQ zr<|Vh 3 (cg aa) o (rI 3 o ag 1) (fP ag).2.1 gw cA<|aQ zr<|AT (hg:=cg aa) zr sT<|aQ zr<|TX (hg:=cg aa) 1 o zr iQ cA ?_;refine aQ zr<|UM ak.Y1 p1.Y0 (cg aa)<|aQ zr<|eD aa (vb<|ak.Y1==p1.Y0)<|aQ zr<|fC (ak.Y1==p1.Y0)<|T8<|eG hj (λab hj=>?_) λab hj=>?_;refine T4 zr zr<|TW v0 (cg ab)<|aQ zr<|TW (vi<|wrap .i64<|(p0.length:Int) - 1) (cg ab)<|aQ zr<|q_ hj λav ah hj=>Ug (hg:=cg ab) 3 o zr zr sj ah<|aQ zr<|U6 (α:=aA) (cg ab) (rI 3 o ah 0) nE<|aQ zr<|VD (i:=3) (cg ab) zr o zr (rI 3 o ah 2) zr (fP ah).2.1 eU fE λaw o=>?_;exact aQ zr<|AT (hg:=cg ab) zr nE<|aQ zr<|UA (hg:=cg ab) 2 o zr eU fE λax o=>oT zr<|q_ hj λal an hj=>T3 (hg:=cg ab) (gF Tryz.func137) (yV N (i0:=1) (i1:=0) o zr zr an) λw o=>qZ zr<|eD ab (vb al)<|T8<|Um<|oi hj▸⟨rfl,o.sp 6 [5,3]⟩;refine T4 zr zr<|aZ ab<|aQ zr<|aZ ab<|aQ zr<|aZ ab<|aQ zr<|aZ ab<|aQ zr<|aZ ab<|aQ zr<|aZ ab<|aQ zr<|aZ ab<|oT zr<|aZ ab<|qZ zr<|eD ab (vb false) ?_;exact T8<|Um<|oi hj▸⟨rfl,o.sp 4 [3,1]⟩;refine T4 zr zr<|aZ aa<|aQ zr<|aZ aa<|aQ zr<|aZ aa<|aQ zr<|aZ aa<|aQ zr<|aZ aa<|aQ zr<|aZ aa<|aQ zr<|aZ aa<|aQ zr<|aZ aa<|aQ zr<|eD aa (vb false) ?_;refine aQ zr<|fC false<|aQ zr<|jy<|aQ zr<|jy<|aQ zr<|jy<|aQ zr<|jy<|aQ zr<|jy<|aQ zr<|jy<|aQ zr<|jy<|oT zr<|jy ?_;exact qZ zr<|Uq (b:=false) (v:=vb false) zt zr zr zr<|T8<|Um<|oi hj▸⟨rfl,o.sp 4 [3,1]⟩;rintro _ w⟨O,rfl,o⟩;refine aC<|dG hb (λhb=>?_) λhb=>?_;refine w_<|mv v0<|aU (wrap .i64<|(p0.length:Int) - 1)<|AT zr pL<|TX 1 o zr gw cA<|q_ hb λa0 ai hb=>Ug 0 o zr zr sj ai<|U6 (α:=aA) zt (rI 0 o ai 0) pL ?_;have o:=o.sc Int p1.Y1;refine VJ (i:=1) (j:=0) trivial o rfl rfl (rI 1 o ai 1) rfl (fP ai).2.1 rfl si (by decide) cA λw o=>?_;refine TT<|mv v0<|dC v0<|AI<|Up ?_;obtain rfl:=oi hb;exact bX<|o.pk 3 [1];refine UP<|mv v0<|Ut 1 o zr AH λao o=>Uy ([p1]:List aA) o [ao] sj HW (λM hs g=>⟨(g.sat 0 _ zr).1,zt⟩) λay w o=>?_;have o:=o.freeze 0;refine q_ hb λaz aq hb=>UG 2 0 o Sj aq λar w o=>?_;refine dC ar<|AI<|T2 ?_;obtain rfl:=oi hb;exact bX<|o.pk 4 [2]
theorem n8{p0:List aH}{res:List aA}(j:Holds E w V)(h0:V[i0]? =some (rd v0 p0))(o:iX N p0=some res):c_ 49 [v0] w<|oM E V res:=by
 unfold iX at o;refine enter Tryz.func49 zr zr ?_;have j:=j.dup (i0+0) h0;refine w_<|dC n_<|TT<|mv v0<|q_ o λca bg o=>Ua (gF Tryz.func94) (xS N (i0:=0) j zr bg) λad w j=>dC ad<|TT<|mv ad ?_;obtain⟨ai,bh,o⟩:=bd o;have j:=j.pull 0;refine T3 Qq (Kl Tryz.lay95 aH zr fS.Ni fS.sz (gF Tryz.func96) (λj hi hj hr=>AN N j hi hj hr) j bh) λw j=>TT<|Vu j Qr λag w j=>?_;refine TV<|w_<|mv ad<|UQ (i:=1) (l:=ai) zt zr j zr zr l7<|aU 0<|AI<|Va E V (λ(av:List Int)(a0:Value)=>[own 52 ad ai,bc 47 ag [a0],own 3 a0 av]) (λ_ _=>[(0,ad),(3,vp ag 0)]) (λaw _ _=>[(14,ad),(15,vi ai.length),(16,vi aw)]) o ?_ ?_ ?_;have j:=j.cM Int 3;exact⟨n_,j.sp 5 [2,1,0]⟩;rintro hm aw av s' _ w hk⟨bl,O,rfl,j⟩o;refine IN<|Uj<|q_ o λak a1 o=>Ug 0 j zr zr gU a1<|Vc 0 j a1 fS λcb j=>?_;refine Uw j nL.z λcc w j=>?_;refine Uu 0 j 1 zr fS λw j=>?_;refine AI<|IS<|T1 3 bl j fE<|AT zr gx<|TX 0 j zr dF cA<|AT zr kc<|TX 0 j zr fp cA ?_;have j:=(j.sc Int ak.Y0).sc Int ak.Y1;refine Uy ([ak.Y0,ak.Y1]:List Int) j [vi ak.Y0,vi ak.Y1] dN EP (λM hs g=>⟨(g.sat 1 _ zr).1,⟨(g.sat 0 _ zr).1,zt⟩⟩) λcd w j=>?_;have j:=j.freeze 0;refine q_ o λcf bm o=>UG 7 0 j rl bm λa2 w j=>?_;refine U1 6 a2 j zr zr (iq 7 j) fE λw j=>?_;exact By<|bG<|aC<|IS<|UH hk hm<|aU ((aw+1:Nat):Int)<|By<|oi o▸⟨rfl,a2,j.sp 8 [5,6,7]⟩;rintro av _ w o⟨a3,O,rfl,j⟩;refine aC<|w_<|T1 1 a3 j fE ?_;obtain⟨ch,bn,o⟩:=bd o;have j:=j.pull 2;refine T3 (gF Tryz.func97) (Mq Tryz.lay97 j bn) λw j=>TT<|T1 2 a3 j fE ?_;have j:=j.pull 0;refine q_ o λah bo o=>Ua (gF Tryz.func98) (xp N j bo) λbp w j=>U1 3 bp j zr zr (iq 0 j) fE λw j=>?_;refine TT<|dC n_<|TT<|dC n_<|TT<|aL 0<|TV<|w_<|Uw j EP.z λbq w j=>?_;have j:=j.sc Int 0;refine Uu 1 j 0 zr cA λw j=>?_;refine AI ?_;have j:=((((j.freeze 2).LM (i:=5) (x:=ah) rfl<|λM hs g=>qy (g.sat 2 _ rfl).1).iH (i:=5) rfl).cM aA 150).cM aH 52;refine q_ o λcj hN o=>Vp (λ(aa:List aA×List aH×Int×Int)U w=>∃(a4 a5:Value)(a6:Nat),SH E V [(0,ad),(3,vp ag 0),(6,a4),(7,a5),(8,vi aa.2.2.1),(9,vp a6 0)] [own 52 ad ai,pt (vp ag 0) ah,own 150 a4 aa.1,own 52 a5 aa.2.1,bx 3 a6 aa.2.2.2] U w) (λ(aa:List aA×List aH×Int×Int)U w=>∃an:Value,SH E V [(6,an)] [own 52 ad ai,pt (vp ag 0) ah,own 150 an aa.1] U w) (λ(r:Empty)_ _=>r.elim) hN ?_ ?_ ?_ ?_;exact⟨n_,n_,bq,j.sp 9 [6,7,1,0,3]⟩;rintro aa fl _ w⟨aj,bu,al,O,rfl,j⟩o;refine IN<|w_<|TX (f:=(λx=>x)) 4 j zr Fd.self cA<|TY aa.2.2.2 1<|T9 1 ah j fE λck j=>T0 0 ah j lz<|ic (wrap .i64<|aa.2.2.2+1) ((ah.length:Int))<|AI<|dG o (λo=>?_) λo=>?_;refine Ue<|Uj<|mv bu ?_;have j:=j.iH (i:=5) rfl;refine Vt [vp ag 0,vp al 0] ?_;have j:=j.pull 4;refine q_ o λcm bw o=>Ua (gF Tryz.func99) (um N j ⟨100,[vp ag 0,vp al 0],rfl,(gF Tryz.func100),λw Γl v y0 r i j hi hr=>by exact gD (AO N (i0:=i) (i1:=Γl.length+2) (i2:=Γl.length+5) j hi (F5 rfl) (F5 rfl) hr) λ_ _ h=>h⟩ bw) λa7 w j=>dC a7<|TV<|UY E V (λ(ae:List aH×Int)(ax:Value)=>[own 52 ad ai,pt (vp ag 0) ah,own 150 aj aa.1,pt (vp al 0) aa.2.2.2,own 52 ax ae.1]) (λae ax=>[(0,ad),(3,vp ag 0),(6,aj),(7,ax),(8,vi ae.2),(9,vp al 0)]) (λ_ _=>[]) o ?_ ?_ ?_;exact⟨a7,j.sp 7 [2,3,4,6,0]⟩;rintro ae fl _ w⟨ao,O,rfl,j⟩o;refine IN<|IN<|q_ o λay hj o=>T7 (λ(ay:Bool)=>SH E V [(0,ad),(3,vp ag 0),(6,aj),(7,ao),(8,vi ae.2),(9,vp al 0),(57,vb ay)] [own 52 ad ai,pt (vp ag 0) ah,own 150 aj aa.1,own 52 ao ae.1,pt (vp al 0) aa.2.2.2]) ay ?_ ?_;refine US mixed ?_;have j:=j.drew;refine UR<|aU ae.2<|AS<|mv ad<|AS<|UQ (i:=0) (l:=ai) zt zr j zr zr l7<|AS<|ic ae.2 ((ai.length:Int))<|AS<|fC (decide<|ae.2<(ai.length:Int))<|eG hj (λab hj=>?_) λab hj=>?_;refine AS<|TW ad (cg ab)<|AS<|TW (vi ae.2) (cg ab)<|AS<|q_ hj λa8 aq hj=>Ug (hg:=cg ab) 0 j zr zr gU aq<|AS<|U6 (α:=aH) (cg ab) (rI 0 j aq 0) gx<|AS<|Vh 0 (cg ab) j (rI 0 j aq 1) (fP aq).2.1 dF cA<|AS<|T9 (hg:=cg ab) 1 ah j fE λcn j=>?_;refine AS<|Ub (hg:=cg ab) aa.2.2.2 4 j cA<|AS<|q_ hj λaz bz hj=>TU (hg:=cg ab) 0 j dN bz λcp j=>AS<|Ub (hg:=cg ab) az 0 j cA<|AS<|UM a8.Y0 az (cg ab)<|AS<|eD ab (vb<|decide<|a8.Y0<=az)<|UK ?_;exact oi hj▸⟨rfl,j.sp 7 [2,3,4,6,5]⟩;refine AS<|aZ ab<|AS<|aZ ab<|AS<|aZ ab<|AS<|aZ ab<|AS<|aZ ab<|AS<|aZ ab<|AS<|aZ ab<|AS<|aZ ab<|AS<|aZ ab ?_;exact AS<|aZ ab<|AS<|eD ab (vb false)<|UK<|oi hj▸⟨rfl,j.sp 5 [0,1,2,4,3]⟩;rintro _ w⟨O,rfl,j⟩;refine aC<|dG o (λo=>?_) λo=>?_;refine U4<|UI<|IS<|mv ao<|mv ad<|aU ae.2<|q_ o λb0 a9 o=>Ug 0 j zr zr gU a9<|Vc 0 j a9 fS λb1 j=>?_;refine Uy ([b0]:List aH) j [b1] gU nL (λM hs g=>⟨(g.sat 0 _ zr).1,zt⟩) λcq w j=>?_;have j:=j.freeze 0;refine q_ o λcr b2 o=>UG 5 0 j Dr b2 λba w j=>?_;refine aU ae.2<|TY ae.2 1<|dC ba<|aL (wrap .i64<|ae.2+1)<|By<|bG ?_;exact oi o▸⟨rfl,ba,j.sp 7 [2,3,4,6,5]⟩;exact Ui<|oi o▸⟨rfl,ao,j.sp 5 [0,1,2,4,3]⟩;rintro ae _ w o⟨bb,O,rfl,j⟩;refine aC<|UL mixed [1,1,1,1,1,1,1,1,1,1,0,2,0,2,0] [0,1,2,3,4,5,6,7,8,9,10,11,12,13,14] ?_;have j:=j.drew;refine Uf aj zr (λw=>TW aj zt Uc)<|Vb ah 1 zr j fE λct a305 cu j=>Vi aa.2.2.2 5 zr j cA λa307 cv j=>?_;refine q_ o λar b3 o=>Vf 2 zr j dN b3 λcw j=>Vi ar 0 zr j cA λa311 cx j=>Vb ah 6 zr j fE λcy a314 cz j=>Vi aa.2.2.2 10 zr j cA λa316 c0 j=>Uf (vi<|wrap .i64<|aa.2.2.2+1) zr (λw=>TY aa.2.2.2 1 Uc)<|q_ o λau b4 o=>Vf 2 zr j dN b4 λc1 j=>Vi au 0 zr j cA λa320 c2 j=>T4 zr zr<|mv bb<|oT zr ?_;have j:=j.pull 14;refine q_ o λb5 b6 o=>Ua (gF Tryz.func102) (zR N j b6) λb7 w j=>Us (⟨⟨⟨⟨⟨⟨zt,j.gN 10⟩,j.gN 9⟩,j.gN 7⟩,j.gN 5⟩,j.gN 4⟩,j.gN 2⟩)<|T4 zr zr ?_;have j:=((j.sc Int ar).sc Int au).freeze 2;refine UO (⟨ar,au,b5.1⟩:aA) trivial rfl j [(0,vi ar),(1,vi au),(2,b7)] rfl Of rfl (λM hs g=>by have h:=AF M;exact bZ.cons (f:=λ(x:aA)y=>{x with Y0:=y}) h xc (g.sat 1 _ rfl).1 λ_ h=>bZ.cons (f:=λ(x:aA)y=>{x with Y1:=y}) h si (g.sat 0 _ rfl).1 λ_ h=>bZ.cons (f:=λ(x:aA)y=>{x with Xs:=y}) h xd (g.sat 2 _ rfl).1 λ_ h=>bZ.nil h) λc3 j=>?_;refine oT zr ?_;have j:=j.pull 17;refine q_ o λc4 b8 o=>Ua Og (uF N (i1:=0) j zr b8) λbf w j=>Us (⟨⟨⟨⟨⟨⟨zt,j.gN 14⟩,j.gN 13⟩,j.gN 11⟩,j.gN 9⟩,j.gN 8⟩,j.gN 6⟩)<|T4 zr zr<|dC bf<|T8 ?_;have j:=j.pl 21 [0,1,2,3,4,5,7,10,12,15,16,17,18,19,20] rfl;refine Um<|bG<|aC<|IN<|w_<|Ub aa.2.2.2 13 j cA<|AI<|IS<|Uw j EP.z λb9 w j=>?_;have j:=j.sc Int aa.2.2.2;refine Uu 1 j 0 zr cA λw j=>?_;refine AI<|IS<|TX (f:=(λx=>x)) 1 j zr Fd.self cA<|TY aa.2.2.2 1 ?_;have j:=j.sc Int<|wrap .i64<|aa.2.2.2+1;refine Wa 2 zt j zr zr zr 0 zr cA λw j=>?_;exact By<|oi o▸⟨rfl,bf,bb,b9,j.sp 18 [13,14,3,8,2]⟩;exact Ui<|oi o▸⟨rfl,aj,j.sp 6 [1,2,3]⟩;intro r _ _ _ _;exact r.elim;rintro aa _ w rfl⟨an,O,rfl,j⟩;rw[Fo.E8]at o;refine aC<|w_<|mv an<|dC an<|AI<|T2 ?_;obtain rfl:=oi o;exact bX<|j.pk 3 [2]
theorem pO{p0:List aA}{res:List aH}(j:Holds E w V)(h0:V[i0]? =some (rd v0 p0))(o:kz N p0=some res):c_ 50 [v0] w<|gJ E V res:=by
 unfold kz at o;refine enter Tryz.func50 zr zr ?_;have j:=j.dup (i0+0) h0;refine w_<|dC n_<|TT<|dC n_<|TV<|w_<|mv v0<|T0 0 p0 j yT<|aU 0<|AI<|Va E V (λ(ag:List aH)(ah:Value)=>[rd v0 p0,own 52 ah ag]) (λ_ ah=>[(3,ah)]) (λaf _ _=>[(7,v0),(8,vi p0.length),(9,vi af)]) o ?_ ?_ ?_;have j:=j.cM aH 52;exact⟨n_,j.sp 2 [1,0]⟩;rintro hm af ag s' _ w hk⟨ar,O,rfl,j⟩o;refine IN<|Uj<|q_ o λab au o=>TU 0 j sj au λa0 j=>T9 0 ab j AH λa1 j=>Uw j HW.z λak w j=>?_;refine Uu 0 j 1 zr AH λw j=>?_;refine TT<|aL 0<|AI<|UY E V (λ(aa:List aH×Int)(ai:Value)=>[bx 150 ak ab,rd v0 p0,own 52 ai aa.1]) (λ_ ai=>[(3,ai),(7,v0),(8,vi p0.length),(9,vi af)]) (λaa _=>[(5,vp ak 0),(6,vi aa.2)]) o ?_ ?_ ?_;exact⟨ar,j.sp 5 [0,3,4]⟩;rintro aa fl _ w⟨aj,O,rfl,j⟩o;refine IN<|w_<|aU aa.2<|AT zr nE<|UA 0 j zr eU fE λa3 j=>T0 0 ab.Xs j lz<|ic aa.2 ((ab.Xs.length:Int))<|AI<|dG o (λo=>?_) λo=>?_;refine Ue<|UI<|UL mixed [1,0,0,0,0,0,0,0,0,0,0,0,0,0,0,0,0,2,2,0] [0,1,2,3,4,5,6,7,8,9,10,11,12,13,14,15,16,17,18,19] ?_;have j:=j.drew;refine Uf aj zr (λw=>TW aj zt Uc)<|T4 zr zr<|AT zr nE<|aQ zr<|UA 1 j zr eU fE λa4 j=>aQ zr<|aU aa.2<|aQ zr<|q_ o λad av o=>TU 0 j dN av λa5 j=>aQ zr<|Ub ad 0 j cA<|aQ zr<|AT zr sT<|aQ zr<|TX 3 j zr iQ cA<|aQ zr<|AT zr nE ?_;refine aQ zr<|UA 3 j zr eU fE λa6 j=>aQ zr<|aU aa.2<|aQ zr<|TY aa.2 1<|aQ zr<|q_ o λae aw o=>TU 0 j dN aw λa7 j=>aQ zr<|Ub ae 0 j cA<|aQ zr<|AT zr pL<|aQ zr<|TX 5 j zr gw cA<|aQ zr ?_;have j:=(((j.sc Int ad).sc Int ab.Y0).sc Int ae).sc Int ab.Y1;refine UO (⟨ad,ab.Y0,ae,ab.Y1⟩:aH) trivial rfl j [(0,vi ad),(1,vi ab.Y0),(2,vi ae),(3,vi ab.Y1)] rfl ER rfl (λM hs g=>by have h:=tF M;exact bZ.cons (f:=λ(x:aH)y=>{x with X0:=y}) h pW (g.sat 3 _ rfl).1 λ_ h=>bZ.cons (f:=λ(x:aH)y=>{x with Y0:=y}) h rj (g.sat 2 _ rfl).1 λ_ h=>bZ.cons (f:=λ(x:aH)y=>{x with X1:=y}) h oJ (g.sat 1 _ rfl).1 λ_ h=>bZ.cons (f:=λ(x:aH)y=>{x with Y1:=y}) h pX (g.sat 0 _ rfl).1 λ_ h=>bZ.nil h) λax j=>?_;refine oT zr<|Uy ([(⟨ad,ab.Y0,ae,ab.Y1⟩:aH)]:List aH) j [ax] gU nL (λM hs g=>⟨(g.sat 0 _ zr).1,zt⟩) λa8 w j=>Kc zr ?_;have j:=j.freeze 0;refine q_ o λa9 ay o=>UG 13 0 j Dr ay λal w j=>?_;refine qZ zr<|dC al<|T8<|Um<|bG<|aC<|IS<|aU aa.2<|TY aa.2 2<|aL (wrap .i64<|aa.2+2)<|By ?_;exact oi o▸⟨rfl,al,j.sp 14 [11,12,13]⟩;exact Ui<|oi o▸⟨rfl,aj,j.sp 4 [1,2,3]⟩;rintro aa _ w o⟨az,O,rfl,j⟩;exact bG<|aC<|IS<|UH hk hm<|aU ((af+1:Nat):Int)<|By<|oi o▸⟨rfl,az,j.sp 3 [1,2]⟩;rintro ag _ w o⟨an,O,rfl,j⟩;refine aC<|w_<|mv an<|dC an<|AI<|T2 ?_;obtain rfl:=oi o;exact bX<|j.pk 2 [1]
theorem xU{p0:List aH}{p1:List aH}{res:Bool}(j:Holds E w V)(h0:V[i0]? =some (rd v0 p0))(h1:V[i1]? =some (rd v1 p1))(o:lN N p0 p1=some res):c_ 48 [v0,v1] w<|aY E V res:=by
 unfold lN at o;refine enter Tryz.func48 zr zr ?_;have j:=(j.dup (i0+0) h0).dup (i1+1) h1;refine w_<|cC false<|TV<|w_<|mv v0<|T0 1 p0 j l7<|mv v1<|T0 0 p1 j l7<|ic ((p0.length:Int)) ((p1.length:Int))<|AI<|dG o (λo=>?_) λo=>?_;exact w_<|cC false<|AI<|Up<|oi o▸bX ⟨rfl,j.drop 2⟩;refine Ue<|w_<|mv v0<|T0 1 p0 j l7<|aU 0<|AI<|U9 E V (λ(ab:Unit)=>[rd v0 p0,rd v1 p1]) (λ_=>[]) (λaa _=>[(0,v0),(1,v1),(12,vi p0.length),(13,vi aa)]) (λr=>lY bI 26 Tryz.f48 (aY E V r) .ret) o ?_ ?_ ?_ ?_;exact j.sp 2 [1,0];rintro hm aa ab fl _ w hk⟨O,rfl,j⟩o;refine IN<|Uj<|aU (aa:Int)<|aL (aa:Int)<|TV<|US mixed ?_;have j:=j.drew;refine UR<|mv v0<|AS<|aU (aa:Int)<|AS<|q_ o λad ah o=>TU 0 j gU ah λal j=>AS<|T9 0 ad j fS λan j=>AS<|mv v1<|AS<|aU (aa:Int)<|AS ?_;refine q_ o λae ai o=>TU 3 j gU ai λao j=>AS<|T9 0 ae j fS λaq j=>AS<|VC 2 0 ad ae zr j zr zr zr zr Oh zr<|UK<|aC<|dG o (λo=>?_) λo=>?_;exact w_<|cC false<|AI<|UN<|bO<|oi o▸⟨rfl,bX ⟨rfl,j.drop 6⟩⟩;exact Ul<|bG<|aC<|IS<|UH hk hm<|aU ((aa+1:Nat):Int)<|By<|oi o▸⟨rfl,j.sp 6 [4,5]⟩;intro r U w o hK;exact bO<|oi o▸hK;rintro ab _ w o⟨O,rfl,j⟩;exact aC<|w_<|cC true<|AI<|T2<|oi o▸bX ⟨rfl,j.drop 2⟩
theorem rT{p0:List aH}(j:Holds E w V)(h0:V[i0]? =some (rd v0 p0))(hb:kl N p0=some res):c_ 18 [v0] w<|aW E V res:=by
 unfold kl at hb;refine enter Tryz.func18 zr zr ?_;have j:=j.dup (i0+0) h0;refine w_<|aL 0<|TV<|w_<|mv v0<|q_ hb λau ax hb=>T3 (gF Tryz.func47) (yU N (i0:=0) j zr ax) λw j=>aL au<|TT<|aU au<|ic au 0<|AI<|dG hb (λhb=>?_) λhb=>?_;exact w_<|aU au<|aL au<|AI<|Up<|oi hb▸bX ⟨rfl,j.drop 1⟩;refine Ue<|w_<|aL 1<|AI<|U2 E V (λ(ao:Int)=>[rd v0 p0]) (λ_=>[(0,v0)]) (λao=>[(4,vi ao)]) (λr=>lY bI 52 Tryz.f18 (aW E V r) .ret) hb ?_ ?_ ?_ ?_;exact j.sp 1 [0];rintro ao fl _ w⟨O,rfl,j⟩hb;refine IN<|w_<|aU ao<|mv v0<|T0 0 p0 j l7<|ic ao ((p0.length:Int))<|AI<|dG hb (λhb=>?_) λhb=>?_;refine Ue<|UI<|IN ?_;obtain⟨o,ay,hb⟩:=bd hb;refine q_ hb λaa az hb=>Vd E V mixed [1,1,1,0,0,1,1,0,0,0,0,0,0] [3,4,7,8,9,10,11,12] (λ(x:Value×Value×Value×Value×Nat×Nat)=>(λah ai aj ak ad ae=>[(0,18,v0),(1,19,vi ao),(2,20,vi<|wrap .i64<|ao - 1),(3,21,ah),(4,22,ai),(5,23,v0),(6,24,vi ao),(7,25,aj),(8,26,ak),(9,5,vp ad 0),(10,6,vp ae 0)]) x.1 x.2.1 x.2.2.1 x.2.2.2.1 x.2.2.2.2.1 x.2.2.2.2.2) [(0,v0),(4,vi ao)] [] (λ(D:Nat->Bool)(x:Value×Value×Value×Value×Nat×Nat)=>(λah ai aj ak ad ae=>[bif D 0 then pt ah o else bK,bif D 1 then rd ai o else bK,bif D 2 then pt aj aa else bK,bif D 3 then rd ak aa else bK,bif D 6 then bx 52 ad o else(bif D 4 then raw 52 ad 4 else bK),bif D 7 then bx 52 ae aa else(bif D 5 then raw 52 ae 4 else bK),rd v0 p0]) x.1 x.2.1 x.2.2.1 x.2.2.2.1 x.2.2.2.2.1 x.2.2.2.2.2) (λx=>by kernel_rfl) ?_ ⟨λ_=>jT gn,λ_=>jT gn,λ_=>Nt gn rfl,?_,?_,λ_=>jT gn,λ_=>jT gn,?_,?_,?_,?_,?_,?_,trivial⟩ ?_;have j:=((((((j.drew).bK).bK).bK).bK).bK).bK;exact⟨(undef,undef,undef,undef,0,0),eF.none,HN zr,zt,j⟩;rintro D U w hD ag aq⟨⟨ah,ai,aj,ak,ad,ae⟩,hv,ha,_,j⟩;obtain⟨O,rfl⟩:=hv.o2 0 2 ag;have j:=j.cI 0 hD;refine TU 6 j gU ay λa0 j=>?_;have j:=j.nw 0;exact T5 (a0,ai,aj,ak,ad,ae) 3 hv ha j;rintro D U w hD ag aq⟨⟨ah,ai,aj,ak,ad,ae⟩,hv,ha,_,j⟩;obtain⟨O,rfl⟩:=hv.o1 3 ag;have j:=(j.eQ 0<|ag.1 rfl).cI 1 hD;refine T9 0 o j fS λa1 j=>?_;have j:=((j.pl 8 [1,0,3,4,5,6,7] rfl).dL 0 (D 3) (ag.1 rfl) bK).dL 1 true rfl bK;exact T5 (ah,a1,aj,ak,ad,ae) 4 hv ha j;rintro D U w hD ag aq⟨⟨ah,ai,aj,ak,ad,ae⟩,hv,ha,_,j⟩;obtain⟨O,rfl⟩:=hv.o2 5 6 ag;have j:=j.cI 2 hD;refine TU 6 j gU az λa2 j=>?_;have j:=j.nw 2;exact T5 (ah,ai,a2,ak,ad,ae) 7 hv ha j;rintro D U w hD ag aq⟨⟨ah,ai,aj,ak,ad,ae⟩,hv,ha,_,j⟩;obtain⟨O,rfl⟩:=hv.o1 7 ag;have j:=(j.eQ 2<|ag.1 rfl).cI 3 hD;refine T9 2 aa j fS λa3 j=>?_;have j:=((j.pl 8 [1,2,3,0,5,6,7] rfl).dL 2 (D 7) (ag.1 rfl) bK).dL 3 true rfl bK;exact T5 (ah,ai,aj,a3,ad,ae) 8 hv ha j;rintro D U w hD ag aq⟨⟨ah,ai,aj,ak,ad,ae⟩,hv,ha,_,j⟩;obtain⟨O,rfl⟩:=R1 U;have j:=(j.cI 4<|nh aq hD 11).cI 4 hD;refine Uw j nL.z λav w j=>?_;have j:=(j.nw 4).fO 4 (D 11) (nh aq hD 11)<|bx 52 av o;exact T5 (ah,ai,aj,ak,av,ae) 9 hv ha j;rintro D U w hD ag aq⟨⟨ah,ai,aj,ak,ad,ae⟩,hv,ha,_,j⟩;obtain⟨O,rfl⟩:=R1 U;have j:=(j.cI 5<|nh aq hD 12).cI 5 hD;refine Uw j nL.z λaw w j=>?_;have j:=(j.nw 5).fO 5 (D 12) (nh aq hD 12)<|bx 52 aw aa;exact T5 (ah,ai,aj,ak,ad,aw) 10 hv ha j;rintro D U w hD ag aq⟨⟨ah,ai,aj,ak,ad,ae⟩,hv,ha,_,j⟩;obtain⟨O,rfl⟩:=hv.o2 9 4 ag;have j:=((j.eQ 1<|ag.2.1 rfl).cI 4 hD).eQ 4<|ag.1 rfl;refine Uu 4 j 1 zr fS λw j=>?_;have j:=(j.dL 1 (D 4) (ag.2.1 rfl) bK).dL 4 true rfl (bif D 9 then raw 52 ad 4 else bK);exact Vj (ah,ai,aj,ak,ad,ae) hv ha j;rintro D U w hD ag aq⟨⟨ah,ai,aj,ak,ad,ae⟩,hv,ha,_,j⟩;obtain⟨O,rfl⟩:=hv.o2 10 8 ag;have j:=((j.eQ 3<|ag.2.1 rfl).cI 5 hD).eQ 5<|ag.1 rfl;refine Uu 5 j 3 zr fS λw j=>?_;have j:=(j.dL 3 (D 8) (ag.2.1 rfl) bK).dL 5 true rfl (bif D 10 then raw 52 ae 4 else bK);exact Vj (ah,ai,aj,ak,ad,ae) hv ha j;rintro D U w ar⟨⟨ah,ai,aj,ak,ad,ae⟩,hv,ha,_,j⟩;simp only[List.getD_cons_zero,List.getD_cons_succ,ar 3 (by decide),ar 4 (by decide),ar 7 (by decide),ar 8 (by decide),ar 11 (by decide),ar 12 (by decide),aO]at j;obtain⟨O,rfl⟩:=(ac (hv.at 9 rfl<|ri ar 9)<|ac (hv.at 10 rfl<|ri ar 10) ha).uA;refine aC<|w_<|AT zr gx<|TX 5 j zr dF cA<|AT zr gx<|TX 4 j zr dF cA<|ic aa.Y0 o.Y0<|fC (decide<|aa.Y0<o.Y0)<|BY true (decide<|aa.Y0<o.Y0) (vp ae 1) zr zr zr (dI gx) ?_;refine BY true (decide<|aa.Y0<o.Y0) (vi aa.Y0) rfl rfl rfl (bS 5 rfl j (by exact z_ (vp ae 1)) rfl dF cA)<|BY true (decide<|aa.Y0<o.Y0) (vp ad 1) rfl rfl rfl (dI gx)<|BY true (decide<|aa.Y0<o.Y0) (vi o.Y0) rfl rfl rfl (bS 4 rfl j (by exact z_ (vp ad 1)) rfl dF cA)<|BY true (decide<|aa.Y0<o.Y0) (vb<|aa.Y0==o.Y0) rfl rfl rfl (cZ .eql .i64 aa.Y0 o.Y0 rfl (by exact z_ (vi aa.Y0)) (by exact z_ (vi o.Y0)) rfl)<|BY true (decide<|aa.Y0<o.Y0) (vb<|aa.Y0==o.Y0) rfl rfl rfl (cE (hx:=λh=>by exact(cF h:cv (true&&(decide (aa.Y0<o.Y0)==false)) (vb<|aa.Y0==o.Y0)= vb (aa.Y0==o.Y0))))<|BY (true&&(decide (aa.Y0<o.Y0)==false)) (aa.Y0==o.Y0) (vp ae 0) rfl rfl rfl (dI gO)<|BY (true&&(decide (aa.Y0<o.Y0)==false)) (aa.Y0==o.Y0) (vi aa.X0) rfl rfl rfl (bS 5 rfl j (by exact z_ (vp ae 0)) rfl dK cA)<|BY (true&&(decide (aa.Y0<o.Y0)==false)) (aa.Y0==o.Y0) (vp ad 0) rfl rfl rfl (dI gO)<|BY (true&&(decide (aa.Y0<o.Y0)==false)) (aa.Y0==o.Y0) (vi o.X0) rfl rfl rfl (bS 4 rfl j (by exact z_ (vp ad 0)) rfl dK cA) ?_;refine BY (true&&(decide (aa.Y0<o.Y0)==false)) (aa.Y0==o.Y0) (vb<|decide<|aa.X0<=o.X0) rfl rfl rfl (cZ .leq .i64 aa.X0 o.X0 rfl (by exact z_ (vi aa.X0)) (by exact z_ (vi o.X0)) rfl)<|BY true (decide<|aa.Y0<o.Y0) (vb<|(aa.Y0==o.Y0)&&decide (aa.X0<=o.X0)) rfl rfl rfl (ki (aa.Y0==o.Y0) rfl (by exact z_ (vb<|aa.Y0==o.Y0)) (λh=>by exact fJ (h:=h)<|true&&(decide (aa.Y0<o.Y0)==false)))<|Uq (b:=decide<|aa.Y0<o.Y0) (v:=vb<|decide (aa.Y0<o.Y0)||((aa.Y0==o.Y0)&&decide (aa.X0<=o.X0))) trivial rfl rfl (mC true)<|AI<|dG hb (λhb=>?_) λhb=>?_;exact w_<|aL 8<|AI<|UN<|bO<|oi hb▸⟨rfl,bX ⟨rfl,j.drop 7⟩⟩;refine Ul<|bG<|aC<|IS<|aU ao<|TY ao 1<|aL (wrap .i64<|ao+1)<|By ?_;exact oi hb▸⟨rfl,j.sp 7 [6]⟩;exact Ui<|oi hb▸⟨rfl,j.sp 1 [0]⟩;intro r U w hb hK;exact bO<|oi hb▸hK;rintro ao _ w hb⟨O,rfl,j⟩;refine aC<|IN<|w_<|mv v0<|q_ hb λba a5 hb=>Ua L0 (n8 N (i0:=0) j zr a5) λbb w j=>?_;have j:=j.freeze 0;refine q_ hb λbc a6 hb=>Ua Pe (pO N (i0:=0) j zr a6) λbf w j=>mv v0 ?_;have j:=j.freeze 0;refine q_ hb λa7 a8 hb=>T3 (gF Tryz.func48) (xU N (i0:=0) (i1:=2) j zr zr a8) λw j=>Ux a7<|AI<|dG hb (λhb=>?_) λhb=>?_;exact w_<|aL 3<|AI<|Up<|oi hb▸bX ⟨rfl,j.drop 3⟩;exact UP<|aL 0<|AI<|T2<|oi hb▸bX ⟨rfl,j.drop 3⟩
theorem oQ{res:Bool}(o:Holds E w V)(j:jl N p0 p1 p2=some res):c_ 52 [vi p0,vi p1,vi p2] w<|aY E V res:=by
 unfold jl at j;refine enter Tryz.func52 zr zr<|w_<|cC false<|TT<|aU p0<|aU p1<|ic p0 p1<|fC (decide<|p0>=p1)<|BY true (decide<|p0>=p1) (vi p0) zr zr zr cE ?_;refine BY true (decide<|p0>=p1) (vi p2) rfl rfl rfl cE<|BY true (decide<|p0>=p1) (vb<|decide<|p0<=p2) rfl rfl rfl (cZ .leq .i64 p0 p2 rfl (by exact z_ (vi p0)) (by exact z_ (vi p2)) rfl)<|Uq (b:=decide<|p0>=p1) (v:=vb<|decide (p0>=p1)&&decide (p0<=p2)) trivial rfl rfl (fJ true)<|cC (decide (p0>=p1)&&decide (p0<=p2))<|AI<|T2 ?_;exact oi j▸bX ⟨rfl,o.drop 0⟩
theorem vC{p0:dU}{res:Bool}(j:Holds E w V)(h0:V[i0]? =some (rd v0 p0))(hb:kL N p0=some res):c_ 55 [v0] w<|aY E V res:=by
 unfold kL at hb;refine enter Tryz.func55 zr zr ?_;have j:=j.dup (i0+0) h0;refine w_<|Ur 0 v0 j zr λai w j=>?_;refine cC false<|TV<|q_ hb λad o hb=>T7 (λ(ad:Bool)=>SH E V [(2,vb ad)] []) ad ?_ ?_;refine IS<|AT zr qG<|TX 0 j zr jz cA<|q_ o λaf ag o=>T3 Fu (nc N (p0:=p0.X) j ag) λw j=>fC af<|eG o (λaa o=>?_) λaa o=>?_;exact AT (hg:=cg aa) zr nZ<|TX (hg:=cg aa) 0 j zr hZ cA<|q_ o λae ah o=>T3 (hg:=cg aa) Fu (nc N (p0:=p0.Y) j ah) λw j=>eD aa (vb ae)<|cC ae<|By<|oi o▸⟨rfl,j.sp 2 []⟩;exact aZ aa<|aZ aa<|aZ aa<|eD aa (vb false)<|cC false<|By<|oi o▸⟨rfl,j.sp 2 []⟩;rintro _ w⟨O,rfl,j⟩;exact aC<|T2<|oi hb▸bX ⟨rfl,j.drop 0⟩
theorem jV{p0:bU}{res:aH}(j:Holds E w V)(h0:V[i0]? =some (rd v0 p0))(o:ik N p0=some res):c_ 22 [v0] w<|qI E V res:=by
 unfold ik at o;refine enter Tryz.func22 zr zr ?_;have j:=j.dup (i0+0) h0;refine w_<|Ur 0 v0 j zr λaa w j=>?_;refine Uw j nL.z λab w j=>?_;refine TV<|US mixed ?_;have j:=j.drew;refine UR<|AT zr BC<|AS<|AT zr qG<|AS<|TX (f:=(λx=>x.At.X)) 1 j zr (Fd.comp (f:=λ(x:bU)=>x.At) (λ(x:dU)=>x.X) tn jz) cA<|AS<|AT zr uR<|AS<|TX 1 j zr na cA<|AS<|Vv p0.dV 2<|AS<|TY p0.At.X (wrap .i64<|Int.tdiv p0.dV 2)<|AS<|AT zr BC<|AS<|AT zr nZ ?_;refine AS<|TX (f:=(λx=>x.At.Y)) 1 j zr (Fd.comp (f:=λ(x:bU)=>x.At) (λ(x:dU)=>x.Y) tn hZ) cA<|AS<|AT zr uR<|AS<|TX 1 j zr na cA<|AS<|Vv p0.dV 2<|AS<|TY p0.At.Y (wrap .i64<|Int.tdiv p0.dV 2)<|AS<|aL (wrap .i64<|p0.At.X -(wrap .i64<|Int.tdiv p0.dV 2))<|AS<|aL (wrap .i64<|p0.At.Y -(wrap .i64<|Int.tdiv p0.dV 2))<|UK<|aC<|w_<|aU (wrap .i64<|p0.At.X -(wrap .i64<|Int.tdiv p0.dV 2)) ?_;refine aU (wrap .i64<|p0.At.Y -(wrap .i64<|Int.tdiv p0.dV 2))<|aU (wrap .i64<|p0.At.X -(wrap .i64<|Int.tdiv p0.dV 2))<|AT zr uR<|TX 1 j zr na cA<|TY (wrap .i64<|p0.At.X -(wrap .i64<|Int.tdiv p0.dV 2)) p0.dV<|aU (wrap .i64<|p0.At.Y -(wrap .i64<|Int.tdiv p0.dV 2))<|AT zr uR<|TX 1 j zr na cA<|TY (wrap .i64<|p0.At.Y -(wrap .i64<|Int.tdiv p0.dV 2)) p0.dV ?_;have j:=((j.sc Int<|wrap .i64<|p0.At.X -(wrap .i64<|Int.tdiv p0.dV 2)).sc Int<|wrap .i64<|p0.At.Y -(wrap .i64<|Int.tdiv p0.dV 2)).sc Int<|wrap .i64<|wrap .i64 (p0.At.X -(wrap .i64<|Int.tdiv p0.dV 2))+p0.dV;have j:=j.sc Int<|wrap .i64<|wrap .i64 (p0.At.Y -(wrap .i64<|Int.tdiv p0.dV 2))+p0.dV;refine UO (⟨wrap .i64<|p0.At.X -(wrap .i64<|Int.tdiv p0.dV 2),wrap .i64<|p0.At.Y -(wrap .i64<|Int.tdiv p0.dV 2),wrap .i64<|wrap .i64 (p0.At.X -(wrap .i64<|Int.tdiv p0.dV 2))+p0.dV,wrap .i64<|wrap .i64 (p0.At.Y -(wrap .i64<|Int.tdiv p0.dV 2))+p0.dV⟩:aH) trivial rfl j [(0,vi<|wrap .i64<|p0.At.X -(wrap .i64<|Int.tdiv p0.dV 2)),(1,vi<|wrap .i64<|p0.At.Y -(wrap .i64<|Int.tdiv p0.dV 2)),(2,vi<|wrap .i64<|wrap .i64 (p0.At.X -(wrap .i64<|Int.tdiv p0.dV 2))+p0.dV),(3,vi<|wrap .i64<|wrap .i64 (p0.At.Y -(wrap .i64<|Int.tdiv p0.dV 2))+p0.dV)] rfl ER rfl (λM hs g=>by have h:=tF M;exact bZ.cons (f:=λ(x:aH)y=>{x with X0:=y}) h pW (g.sat 3 _ rfl).1 λ_ h=>bZ.cons (f:=λ(x:aH)y=>{x with Y0:=y}) h rj (g.sat 2 _ rfl).1 λ_ h=>bZ.cons (f:=λ(x:aH)y=>{x with X1:=y}) h oJ (g.sat 1 _ rfl).1 λ_ h=>bZ.cons (f:=λ(x:aH)y=>{x with Y1:=y}) h pX (g.sat 0 _ rfl).1 λ_ h=>bZ.nil h) λad j=>?_;refine Uu 5 j 0 zr fS λw j=>?_;refine AI<|T2 ?_;obtain rfl:=oi o;exact Ja 5 j fS λae j=>j.pk 9 [0]
end Go.Gk
