/-
  Printed texts: Go functions as plain functions, and that they are. No statement of the seed is proved here.
-/
import Derived.Test.YtaadpbkoidcoeaaGreatDoorProg
import Derived.Test.YtaadpbkoidcoeaaGreatDoorE1
import Derived.Test.YtaadpbkoidcoeaaGreatDoorA1
import Derived.Test.YtaadpbkoidcoeaaGreatDoorA2
import Derived.Test.YtaadpbkoidcoeaaGreatDoorRows
import Derived.Shelf.SlGeneric
import Derived.Ground.SlsfProg
import Derived.Ground.SlgmProg
set_option linter.unusedVariables false
set_option linter.unusedSimpArgs false
set_option linter.unusedSectionVars false
set_option maxRecDepth 100000
set_option maxHeartbeats 40000000
namespace Go.Gk
open Go IntKind Go.Proofs
noncomputable abbrev aX:=Tryz.prog
abbrev c_(f:Nat)(l:aL aV)(w:aW)(R:aV->aW->Prop):Prop:=Calls aX f l.toArray w (fG R)
def sd(x:dG):=(x.Name,x.Kind,x.bM)
instance instGTPinType:GT dG:=GT.via sd
instance instKVPinType:KV dG:=instKVvia (λ(x:dG)=>(x.Name,x.Kind,x.bM))
theorem qR:Fd 0 (λx:dG=>x.Name):= .v sd<|.fst .self
theorem qS:Fd 1 (λx:dG=>x.Kind):= .v sd<|.snd<|.fst .self
theorem oM:Fd 2 (λx:dG=>x.bM):= .v sd<|.snd<|.snd<|.self
def tS(x:aY):=(x.Name,x.aZ)
instance instGTPartType:GT aY:=GT.via tS
theorem pN:Fd 0 (λx:aY=>x.Name):= .v tS<|.fst .self
theorem xK:Fd 1 (λx:aY=>x.aZ):= .v tS<|.snd<|.self
def Ce(x:Part):=(x.Name,x.pT)
instance instGTPart:GT Part:=GT.via Ce
instance instKVPart:KV Part:=instKVvia (λ(x:Part)=>(x.Name,x.pT))
theorem wI:Fd 0 (λx:Part=>x.Name):= .v Ce<|.fst .self
theorem Ee:Fd 1 (λx:Part=>x.pT):= .v Ce<|.snd<|.self
def tT(x:bZ):=(x.Part,x.bZ)
instance instGTPin:GT bZ:=GT.via tT
instance instKVPin:KV bZ:=instKVvia (λ(x:bZ)=>(x.Part,x.bZ))
theorem Cf:Fd 0 (λx:bZ=>x.Part):= .v tT<|.fst .self
theorem vr:Fs 0 cN (λ(x:bZ)y=>{x with Part:=y}):= .v tT<|.fst .self
theorem Cg:Fd 1 (λx:bZ=>x.bZ):= .v tT<|.snd<|.self
theorem vt:Fs 1 cN (λ(x:bZ)y=>{x with bZ:=y}):= .v tT<|.snd<|.self
def BB(x:Net):=(x.Name,x.aZ,x.ux)
instance instGTNet:GT Net:=GT.via BB
theorem Ch:Fd 0 (λx:Net=>x.Name):= .v BB<|.fst .self
theorem y4:Fd 1 (λx:Net=>x.aZ):= .v BB<|.snd<|.fst .self
theorem L0:Fd 2 (λx:Net=>x.ux):= .v BB<|.snd<|.snd<|.self
def vu(x:cB):=(x.kN,x.cF)
instance instGTNetlist:GT cB:=GT.via vu
theorem y5:Fd 0 (λx:cB=>x.kN):= .v vu<|.fst .self
theorem oN:Fd 1 (λx:cB=>x.cF):= .v vu<|.snd<|.self
def nA(x:aK):=(x.X0,x.Y0,x.X1,x.Y1)
instance instGTRect:GT aK:=GT.via nA
instance instKVRect:KV aK:=instKVvia (λ(x:aK)=>(x.X0,x.Y0,x.X1,x.Y1))
theorem fX:Fd 0 (λx:aK=>x.X0):= .v nA<|.fst .self
theorem sY:Fs 0 Int (λ(x:aK)y=>{x with X0:=y}):= .v nA<|.fst .self
theorem gu:Fd 1 (λx:aK=>x.Y0):= .v nA<|.snd<|.fst .self
theorem wJ:Fs 1 Int (λ(x:aK)y=>{x with Y0:=y}):= .v nA<|.snd<|.fst .self
theorem iC:Fd 2 (λx:aK=>x.X1):= .v nA<|.snd<|.snd<|.fst .self
theorem re:Fs 2 Int (λ(x:aK)y=>{x with X1:=y}):= .v nA<|.snd<|.snd<|.fst .self
theorem kZ:Fd 3 (λx:aK=>x.Y1):= .v nA<|.snd<|.snd<|.snd<|.self
theorem sZ:Fs 3 Int (λ(x:aK)y=>{x with Y1:=y}):= .v nA<|.snd<|.snd<|.snd<|.self
def s8(x:eR):=(x.X,x.Y)
instance instGTPoint:GT eR:=GT.via s8
instance instKVPoint:KV eR:=instKVvia (λ(x:eR)=>(x.X,x.Y))
theorem kI:Fd 0 (λx:eR=>x.X):= .v s8<|.fst .self
theorem H4:Fs 0 Int (λ(x:eR)y=>{x with X:=y}):= .v s8<|.fst .self
theorem jv:Fd 1 (λx:eR=>x.Y):= .v s8<|.snd<|.self
theorem H5:Fs 1 Int (λ(x:eR)y=>{x with Y:=y}):= .v s8<|.snd<|.self
def s9(x:cL):=(x.At,x.gG,x.cQ,x.To,x.jo)
instance instGTBore:GT cL:=GT.via s9
theorem Ad:Fd 0 (λx:cL=>x.At):= .v s9<|.fst .self
theorem tc:Fd 2 (λx:cL=>x.gG):= .v s9<|.snd<|.fst .self
theorem pj:Fd 3 (λx:cL=>x.cQ):= .v s9<|.snd<|.snd<|.fst .self
theorem rf:Fd 4 (λx:cL=>x.To):= .v s9<|.snd<|.snd<|.snd<|.fst .self
theorem wK:Fd 5 (λx:cL=>x.jo):= .v s9<|.snd<|.snd<|.snd<|.snd<|.self
def rD(x:cW):=(x.Part,x.bZ,x.dI,x.At)
instance instGTLand:GT cW:=GT.via rD
theorem wL:Fd 0 (λx:cW=>x.Part):= .v rD<|.fst .self
theorem Kq:Fs 0 cN (λ(x:cW)y=>{x with Part:=y}):= .v rD<|.fst .self
theorem wM:Fd 1 (λx:cW=>x.bZ):= .v rD<|.snd<|.fst .self
theorem Kr:Fs 1 cN (λ(x:cW)y=>{x with bZ:=y}):= .v rD<|.snd<|.fst .self
theorem Ae:Fd 2 (λx:cW=>x.dI):= .v rD<|.snd<|.snd<|.fst .self
theorem po:Fd 3 (λx:cW=>x.At):= .v rD<|.snd<|.snd<|.snd<|.self
def y6(x:iE):=(x.aS,x.dU,x.bQ,x.bX)
instance instGTArt:GT iE:=GT.via y6
theorem te:Fd 0 (λx:iE=>x.aS):= .v y6<|.fst .self
theorem Ci:Fd 1 (λx:iE=>x.dU):= .v y6<|.snd<|.fst .self
theorem vv:Fd 2 (λx:iE=>x.bQ):= .v y6<|.snd<|.snd<|.fst .self
theorem tf:Fd 3 (λx:iE=>x.bX):= .v y6<|.snd<|.snd<|.snd<|.self
def j3(x:aB):=(x.Y0,x.Y1,x.Xs)
instance instGTshape_Band:GT aB:=GT.via j3
theorem gM:Fd 0 (λx:aB=>x.Y0):= .v j3<|.fst .self
theorem uy:Fs 0 Int (λ(x:aB)y=>{x with Y0:=y}):= .v j3<|.fst .self
theorem fJ:Fd 1 (λx:aB=>x.Y1):= .v j3<|.snd<|.fst .self
theorem qt:Fs 1 Int (λ(x:aB)y=>{x with Y1:=y}):= .v j3<|.snd<|.fst .self
theorem eC:Fd 2 (λx:aB=>x.Xs):= .v j3<|.snd<|.snd<|.self
theorem uz:Fs 2 (aL Int) (λ(x:aB)y=>{x with Xs:=y}):= .v j3<|.snd<|.snd<|.self
def jN(x:aI):=(x.dI,x.Set,x.iU)
instance instGTcopper_Piece:GT aI:=GT.via jN
theorem jg:Fd 0 (λx:aI=>x.dI):= .v jN<|.fst .self
theorem y7:Fs 0 Int (λ(x:aI)y=>{x with dI:=y}):= .v jN<|.fst .self
theorem y8:Fs 1 (aL aB) (λ(x:aI)y=>{x with Set:=y}):= .v jN<|.snd<|.fst .self
theorem jh:Fd 2 (λx:aI=>x.iU):= .v jN<|.snd<|.snd<|.self
theorem y9:Fs 2 (aL aK) (λ(x:aI)y=>{x with iU:=y}):= .v jN<|.snd<|.snd<|.self
def Ef(x:bM):=(x.oD,x.bQ,x.aZ)
instance instGTGroup:GT bM:=GT.via Ef
theorem tU:Fd 2 (λx:bM=>x.aZ):= .v Ef<|.snd<|.snd<|.self
def tV(x:fN):=(x.cL,x.Number)
instance instGTHop:GT fN:=GT.via tV
instance instKVHop:KV fN:=instKVvia (λ(x:fN)=>(x.cL,x.Number))
theorem Cj:Fd 0 (λx:fN=>x.cL):= .v tV<|.fst .self
theorem L1:Fs 0 Bool (λ(x:fN)y=>{x with cL:=y}):= .v tV<|.fst .self
theorem rE:Fd 1 (λx:fN=>x.Number):= .v tV<|.snd<|.self
theorem GK:Fs 1 Int (λ(x:fN)y=>{x with Number:=y}):= .v tV<|.snd<|.self
def j4(x:aC):=(x.B7,x.i,x.k)
instance instGTprobe_pair:GT aC:=GT.via j4
instance instKVprobe_pair:KV aC:=instKVvia (λ(x:aC)=>(x.B7,x.i,x.k))
theorem uA:Fd 0 (λx:aC=>x.B7):= .v j4<|.fst .self
theorem Bc:Fs 0 Int (λ(x:aC)y=>{x with B7:=y}):= .v j4<|.fst .self
theorem qu:Fd 1 (λx:aC=>x.i):= .v j4<|.snd<|.fst .self
theorem Be:Fs 1 Int (λ(x:aC)y=>{x with i:=y}):= .v j4<|.snd<|.fst .self
theorem qw:Fd 2 (λx:aC=>x.k):= .v j4<|.snd<|.snd<|.self
theorem Bf:Fs 2 Int (λ(x:aC)y=>{x with k:=y}):= .v j4<|.snd<|.snd<|.self
def pW(x:Test):=(x.A,x.B,x.Joined)
instance instGTTest:GT Test:=GT.via pW
theorem lW:Fd 0 (λx:Test=>x.A):= .v pW<|.fst .self
theorem tg:Fs 0 bZ (λ(x:Test)y=>{x with A:=y}):= .v pW<|.fst .self
theorem lX:Fd 2 (λx:Test=>x.B):= .v pW<|.snd<|.fst .self
theorem th:Fs 2 bZ (λ(x:Test)y=>{x with B:=y}):= .v pW<|.snd<|.fst .self
theorem Eg:Fd 4 (λx:Test=>x.Joined):= .v pW<|.snd<|.snd<|.self
theorem Ks:Fs 4 Bool (λ(x:Test)y=>{x with Joined:=y}):= .v pW<|.snd<|.snd<|.self
def oO(x:bA):=(x.e0,x.e1)
instance instGTArr2_Int:GT bA:=GT.via oO
instance instKVArr2_Int:KV bA:=instKVvia (λ(x:bA)=>(x.e0,x.e1))
theorem xL:Fd 0 (λx:bA=>x.e0):= .v oO<|.fst .self
theorem pO:Fs 0 Int (λ(x:bA)y=>{x with e0:=y}):= .v oO<|.fst .self
theorem xM:Fd 1 (λx:bA=>x.e1):= .v oO<|.snd<|.self
theorem pP:Fs 1 Int (λ(x:bA)y=>{x with e1:=y}):= .v oO<|.snd<|.self
def tW(x:u6):=(x.A,x.B,x.gz,x.cQ,x.To)
instance instGTGap:GT u6:=GT.via tW
theorem GL:Fd 2 (λx:u6=>x.gz):= .v tW<|.snd<|.snd<|.fst .self
theorem L2:Fs 2 Int (λ(x:u6)y=>{x with gz:=y}):= .v tW<|.snd<|.snd<|.fst .self
theorem vx:Fd 3 (λx:u6=>x.cQ):= .v tW<|.snd<|.snd<|.snd<|.fst .self
theorem L3:Fs 3 eR (λ(x:u6)y=>{x with cQ:=y}):= .v tW<|.snd<|.snd<|.snd<|.fst .self
theorem L4:Fd 5 (λx:u6=>x.To):= .v tW<|.snd<|.snd<|.snd<|.snd<|.self
theorem L5:Fs 5 eR (λ(x:u6)y=>{x with To:=y}):= .v tW<|.snd<|.snd<|.snd<|.snd<|.self
def ti(x:mn):=(x.Open,x.fN,x.A,x.B)
instance instGTFlaw:GT mn:=GT.via ti
theorem pq:Fd 0 (λx:mn=>x.Open):= .v ti<|.fst .self
theorem rh:Fd 1 (λx:mn=>x.fN):= .v ti<|.snd<|.fst .self
theorem wN:Fd 3 (λx:mn=>x.A):= .v ti<|.snd<|.snd<|.fst .self
theorem wO:Fd 4 (λx:mn=>x.B):= .v ti<|.snd<|.snd<|.snd<|.self
theorem AX(M:dZ):GT.ok M (#[(.string ⟨#[]⟩),(.string ⟨#[]⟩)]:bB aV).toList (⟨⟨[]⟩,⟨[]⟩⟩:bZ):=⟨[(.string ⟨#[]⟩)],[(.string ⟨#[]⟩)],rfl,(show GT.ok M [(.string ⟨#[]⟩)] (⟨[]⟩:cN)from rfl),(show GT.ok M [(.string ⟨#[]⟩)] (⟨[]⟩:cN)from rfl)⟩
theorem E8(M:dZ):GT.ok M (#[(.string ⟨#[]⟩),(.string ⟨#[]⟩),(.string ⟨#[]⟩),(.string ⟨#[]⟩),(.bool false)]:bB aV).toList (⟨⟨⟨[]⟩,⟨[]⟩⟩,⟨⟨[]⟩,⟨[]⟩⟩,false⟩:Test):=⟨[(.string ⟨#[]⟩),(.string ⟨#[]⟩)],[(.string ⟨#[]⟩),(.string ⟨#[]⟩),(.bool false)],rfl,(show GT.ok M [(.string ⟨#[]⟩),(.string ⟨#[]⟩)] (⟨⟨[]⟩,⟨[]⟩⟩:bZ)from AX M),⟨[(.string ⟨#[]⟩),(.string ⟨#[]⟩)],[(.bool false)],rfl,(show GT.ok M [(.string ⟨#[]⟩),(.string ⟨#[]⟩)] (⟨⟨[]⟩,⟨[]⟩⟩:bZ)from AX M),(show GT.ok M [(.bool false)] (false:Bool)from rfl)⟩⟩
theorem vz(M:dZ):GT.ok M (#[e_,e_,e_,e_]:bB aV).toList (⟨0,0,0,0⟩:aK):=⟨[e_],[e_,e_,e_],rfl,(show GT.ok M [e_] (0:Int)from rfl),⟨[e_],[e_,e_],rfl,(show GT.ok M [e_] (0:Int)from rfl),⟨[e_],[e_],rfl,(show GT.ok M [e_] (0:Int)from rfl),(show GT.ok M [e_] (0:Int)from rfl)⟩⟩⟩
theorem BC(M:dZ):GT.ok M (#[e_,e_]:bB aV).toList (⟨0,0⟩:eR):=⟨[e_],[e_],rfl,(show GT.ok M [e_] (0:Int)from rfl),(show GT.ok M [e_] (0:Int)from rfl)⟩
theorem PT(M:dZ):GT.ok M (#[(.string ⟨#[]⟩),(.string ⟨#[]⟩),e_,e_,e_]:bB aV).toList (⟨⟨[]⟩,⟨[]⟩,0,⟨0,0⟩⟩:cW):=⟨[(.string ⟨#[]⟩)],[(.string ⟨#[]⟩),e_,e_,e_],rfl,(show GT.ok M [(.string ⟨#[]⟩)] (⟨[]⟩:cN)from rfl),⟨[(.string ⟨#[]⟩)],[e_,e_,e_],rfl,(show GT.ok M [(.string ⟨#[]⟩)] (⟨[]⟩:cN)from rfl),⟨[e_],[e_,e_],rfl,(show GT.ok M [e_] (0:Int)from rfl),(show GT.ok M [e_,e_] (⟨0,0⟩:eR)from BC M)⟩⟩⟩
theorem E9(M:dZ):GT.ok M (#[e_,e_,e_]:bB aV).toList (⟨0,0,0⟩:aC):=⟨[e_],[e_,e_],rfl,(show GT.ok M [e_] (0:Int)from rfl),⟨[e_],[e_],rfl,(show GT.ok M [e_] (0:Int)from rfl),(show GT.ok M [e_] (0:Int)from rfl)⟩⟩
theorem Ck(M:dZ):GT.ok M (#[e_,n_,n_]:bB aV).toList (⟨0,[],[]⟩:aI):=⟨[e_],[n_,n_],rfl,(show GT.ok M [e_] (0:Int)from rfl),⟨[n_],[n_],rfl,(show GT.ok M [n_] ([]:aL aB)from⟨_,rfl,none,0,0,rfl,rfl,bW _,by simp[maxLen],λ_ _ h=>by simp at h⟩),(show GT.ok M [n_] ([]:aL aK)from⟨_,rfl,none,0,0,rfl,rfl,bW _,by simp[maxLen],λ_ _ h=>by simp at h⟩)⟩⟩
theorem tX(M:dZ):GT.ok M (#[e_,e_]:bB aV).toList (⟨0,0⟩:bA):=⟨[e_],[e_],rfl,(show GT.ok M [e_] (0:Int)from rfl),(show GT.ok M [e_] (0:Int)from rfl)⟩
theorem Q3(M:dZ):GT.ok M (#[e_,e_,e_,e_,e_,e_,e_]:bB aV).toList (⟨0,0,0,⟨0,0⟩,⟨0,0⟩⟩:u6):=⟨[e_],[e_,e_,e_,e_,e_,e_],rfl,(show GT.ok M [e_] (0:Int)from rfl),⟨[e_],[e_,e_,e_,e_,e_],rfl,(show GT.ok M [e_] (0:Int)from rfl),⟨[e_],[e_,e_,e_,e_],rfl,(show GT.ok M [e_] (0:Int)from rfl),⟨[e_,e_],[e_,e_],rfl,(show GT.ok M [e_,e_] (⟨0,0⟩:eR)from BC M),(show GT.ok M [e_,e_] (⟨0,0⟩:eR)from BC M)⟩⟩⟩⟩
theorem Jt(M:dZ):GT.ok M (#[(.bool false),e_]:bB aV).toList (⟨false,0⟩:fN):=⟨[(.bool false)],[e_],rfl,(show GT.ok M [(.bool false)] (false:Bool)from rfl),(show GT.ok M [e_] (0:Int)from rfl)⟩
theorem za(M:dZ):GT.ok M (#[e_,e_,n_]:bB aV).toList (⟨0,0,[]⟩:aB):=⟨[e_],[e_,n_],rfl,(show GT.ok M [e_] (0:Int)from rfl),⟨[e_],[n_],rfl,(show GT.ok M [e_] (0:Int)from rfl),(show GT.ok M [n_] ([]:aL Int)from⟨_,rfl,none,0,0,rfl,rfl,bW _,by simp[maxLen],λ_ _ h=>by simp at h⟩)⟩⟩
structure cU where
  oD:aL Int
  bQ:aL Int
  aZ:RV
  deriving Inhabited
def tY(x:cU):=(x.oD,x.bQ,x.aZ)
instance instGTGroup_r2:GT cU:=GT.via tY
theorem DA:Fd 2 (λx:cU=>x.aZ):= .v tY<|.snd<|.snd<|.self
theorem DB:Fs 2 RV (λ(x:cU)y=>{x with aZ:=y}):= .v tY<|.snd<|.snd<|.self
def cP:XT cU bM:=⟨λu x=>u.oD=x.oD/\u.bQ=x.bQ,λM h u x=>(u.oD=x.oD/\u.bQ=x.bQ)/\xZ 41 M h u.aZ.v x.aZ,λ{M M' h u x}hk hh=>⟨hh.1,(own 41 u.aZ.v x.aZ).mono hk hh.2⟩,λh=>h.1⟩
theorem vA:XO cP 41 2 (λu=>u.aZ) (λu r=>{u with aZ:=r}) (λx=>x.aZ) (λx y=>{x with aZ:=y}):=⟨DA,DB,by decide,λh=>h.2,λhr ho=>⟨hr,ho⟩⟩
theorem Fa(M h:dZ)(u:cU)(x:bM)(cs:aL aV)(hd:∀b o,h b=some o->M b=none)(hx:cP.ok M h u x)(hc:GT.ok M cs u):GT.ok (qo M h) cs x:=by
 obtain⟨⟨e0,e1⟩,ho⟩:=hx;obtain⟨c0,d0,hd0,a0,c1,d1,hd1,a1,a2⟩:=hc;exact⟨c0,d0,hd0,GT.mono (wG M h) (show GT.ok M c0 x.oD from e0▸(show GT.ok M c0 u.oD from a0)),⟨c1,d1,hd1,GT.mono (wG M h) (show GT.ok M c1 x.bQ from e1▸(show GT.ok M c1 u.bQ from a1)),⟨u.aZ.v,a2,xZ.sl hd ho⟩⟩⟩
theorem ye:kR aX 26 true 2:=rY
theorem pw:kR aX 32 true 4:=rY
theorem PU:kR aX 22 false 1:=rY
theorem PV:Tryz.prog.underlying 22=some (.slice 192):=by kernel_rfl
theorem L6:uI aX 22 192 2:=Dt
theorem GM:kR aX 192 true 2:=rY
theorem Q4:z8 aX 192 2:=Bb<|.agg #[(.string ⟨#[]⟩),n_]
theorem BD:mm aX 192 0 0:=nz
theorem ri:kR aX 9 false 1:=rY
theorem Bg:Tryz.prog.underlying 9=some (.string):=by kernel_rfl
theorem Dw(a:cN)(b:Int)(w:aW):(callFunc 181 [str a,(.int .u8 b)].toArray).run aX w = .ok (.value<|vi<|Lib.indexByte a.dA (jQ b).toUInt8) w:=B1 Extern.BytealgIndexByte.indexByte Tryz.func181<|Lib.run_indexByteString _ _ w
theorem O3:fT aX 155:=gr Tryz.func155
theorem N9:fT aX 98:=gr Tryz.func98
theorem Ju:mm aX 192 1 1:=nz
theorem O4:kR aX 190 false 1:=rY
theorem Eh:Tryz.prog.underlying 190=some (.slice 219):=by kernel_rfl
theorem Cl:uI aX 190 219 3:=Dt
theorem Cm:kR aX 219 true 3:=rY
theorem O5:z8 aX 219 3:=Bb<|.agg #[(.string ⟨#[]⟩),e_,e_]
theorem BE:mm aX 219 0 0:=nz
theorem BF:mm aX 219 1 1:=nz
theorem cV:kR aX 3 false 1:=rY
theorem zb:mm aX 219 2 2:=nz
theorem mixed:Tryz.prog.follows .mixedOrders=true:=by kernel_rfl
theorem L7:mm aX 26 0 0:=nz
theorem Ra:kR aX 23 false 1:=rY
theorem PW:Tryz.prog.underlying 23=some (.slice 195):=by kernel_rfl
theorem L8:uI aX 23 195 2:=Dt
theorem Jv:kR aX 195 true 2:=rY
theorem Rb:z8 aX 195 2:=Bb<|.agg #[(.string ⟨#[]⟩),(.string ⟨#[]⟩)]
theorem BG:mm aX 195 0 0:=nz
theorem Jw:mm aX 195 1 1:=nz
theorem zc:Tryz.prog.underlying 3=some (.int .i64):=by kernel_rfl
theorem qH:Tryz.prog.underlying 110=some (.int .u64):=by kernel_rfl
theorem Km(a b:cN)(w:aW):(callFunc 119 [str a,str b].toArray).run aX w = .ok (.value<|vi<|Lib.compareBytes a.dA b.dA) w:=B1 Extern.BytealgCompare.compare Tryz.func119<|Lib.run_compareString _ _ w
theorem L9:fT aX 54:=gr Tryz.func54
theorem O6:fT aX 112:=gr Tryz.func112
theorem B8(a:cN)(b:Int)(w:aW):(callFunc 184 [str a,(.int .u8 b)].toArray).run aX w = .ok (.value<|vi ((Lib.countByte a.dA (jQ b).toUInt8:Nat):Int)) w:=B1 Extern.BytealgCount.count Tryz.func184<|Lib.run_countString _ _ w
theorem O7:fT aX 163:=gr Tryz.func163
theorem TF:uJ aX 70 9 1 16:=uJ.of<|.string ⟨#[]⟩
theorem Vs:HV aX 9 (⟨[]⟩:cN):=HV.of (.string ⟨#[]⟩)<|λM=>rfl
theorem Oa:uI aX 70 9 1:=Dt
theorem Rj:Tryz.prog.underlying 70=some (.slice 9):=by kernel_rfl
theorem PX:fT aX 78:=gr Tryz.func78
theorem Cn:mm aX 26 1 1:=nz
theorem Ma:kR aX 24 false 1:=rY
theorem Ob:Tryz.prog.underlying 24=some (.slice 72):=by kernel_rfl
theorem Oc:uI aX 24 72 3:=Dt
theorem Kt:kR aX 72 true 3:=rY
theorem PY:z8 aX 72 3:=Bb<|.agg #[(.string ⟨#[]⟩),n_,n_]
theorem H6:mm aX 72 0 0:=nz
theorem Fb:mm aX 72 1 1:=nz
theorem Bh:kR aX 69 false 1:=rY
theorem xg:Tryz.prog.underlying 69=some (.slice 41):=by kernel_rfl
theorem iv:kR aX 41 true 2:=rY
theorem H7:mm aX 41 0 0:=nz
theorem H8:mm aX 41 1 1:=nz
theorem zd:uI aX 69 41 2:=Dt
theorem Ku:z8 aX 41 2:=Bb<|.agg #[(.string ⟨#[]⟩),(.string ⟨#[]⟩)]
theorem Fc:fT aX 35:=gr Tryz.func35
theorem Ru:NU aX 41 bZ:=⟨λM cs ds a b w ha hb=>by
  obtain⟨_,_,rfl,rfl,rfl⟩:=ha
  obtain⟨_,_,rfl,rfl,rfl⟩:=hb
  refine(gR 9999 Tryz.underlying41<|xc.cons (by decide) (cM ri rfl _) (cM ri rfl _) (nS Bg _ _ w)<|xc.cons (by decide) (cM ri rfl _) (cM ri rfl _) (nS Bg _ _ w) xc.nil).trans ?_
  congr 1
  cases a;cases b;unfold tT
  rw[jE]
  simp,by kernel_rfl⟩
theorem O8:vg aX 41 bZ:=vg.struct Tryz.underlying41 rfl Ru (λk=>(OZ.cons (by decide) (cM ri rfl) (λb w=>MapKept.run_checkKey Bg (k:=Gk.str k.Part) trivial b 9998) (OZ.cons (by decide) (cM ri rfl) (λb w=>MapKept.run_checkKey Bg (k:=Gk.str k.bZ) trivial b 9998) OZ.nil))) (λk x hx=>by
  have hx:x∈[Sc.toV k.Part,Sc.toV k.bZ]:=hx
  simp only[eV,List.not_mem_nil,or_false]at hx
  rcases hx with rfl|rfl
  · exact MapKept.sameBits_self (d:= .string) (k:=Gk.str k.Part) trivial _
  · exact MapKept.sameBits_self (d:= .string) (k:=Gk.str k.bZ) trivial _)
theorem O9:Du aX 160 41 4 bZ Bool (false:Bool):=⟨by kernel_rfl,O8,yT (.bool false)<|λM=>⟨_,rfl,rfl⟩⟩
theorem PZ:mm aX 72 2 2:=nz
theorem TK:kR aX 70 false 1:=rY
theorem Af:mm aX 32 0 0:=nz
theorem Kv:kR aX 27 false 1:=rY
theorem GN:Tryz.prog.underlying 27=some (.slice 28):=by kernel_rfl
theorem Mb:mm aX 32 1 1:=nz
theorem Ag:kR aX 28 false 1:=rY
theorem rZ:Tryz.prog.underlying 28=some (.slice 56):=by kernel_rfl
theorem H9:uI aX 27 28 1:=Dt
theorem mD:uI aX 28 56 4:=Dt
theorem gH:kR aX 56 true 4:=rY
theorem px:z8 aX 56 4:=Bb<|.agg #[e_,e_,e_,e_]
theorem kJ:mm aX 56 0 0:=nz
theorem Ei:fT aX 133:=gr Tryz.func133
theorem lD:mm aX 56 1 1:=nz
theorem mE:mm aX 56 2 2:=nz
theorem rF:mm aX 56 3 3:=nz
theorem Pa:fT aX 121:=gr Tryz.func121
theorem Kw:uJ aX 28 56 4 32:=uJ.of<|.agg #[e_,e_,e_,e_]
theorem Pb:fT aX 123:=gr Tryz.func123
theorem Ry:QQ aX 91 [n_]:=⟨n_,λ_=>by kernel_rfl,rfl⟩
theorem gm:kR aX 91 false 1:=rY
theorem fH:uI aX 91 3 1:=Dt
theorem Kx:z8 aX 3 1:=Bb<|.int .i64 0
theorem ze:uJ aX 91 3 1 8:=uJ.of<|.int .i64 0
theorem pd:Tryz.prog.underlying 91=some (.slice 3):=by kernel_rfl
theorem QJ:HV aX 3 (0:Int):=HV.of e_<|λM=>rfl
theorem Pc:fT aX 137:=gr Tryz.func137
theorem TN:HV aX 56 (⟨0,0,0,0⟩:aK):=HV.of (.agg #[e_,e_,e_,e_])<|λM=>vz M
theorem Pd:x0 aX 212 [(0,1),(1,1),(2,1)] #[e_,e_,n_]:=x0.of (.agg #[e_,e_,n_]) Tryz.underlying212
theorem mf:mm aX 212 2 2:=nz
theorem nO:mm aX 212 1 1:=nz
theorem qT:mm aX 212 0 0:=nz
theorem xh:Tryz.prog.underlying 96=some (.slice 212):=by kernel_rfl
theorem qx:uI aX 96 212 3:=Dt
theorem zf:kR aX 212 true 3:=rY
theorem GO:z8 aX 212 3:=Bb<|.agg #[e_,e_,n_]
theorem TO:uJ aX 96 212 3 40:=uJ.of<|.agg #[e_,e_,n_]
theorem Pe:fT aX 129:=gr Tryz.func129
theorem Mc:fT aX 94:=gr Tryz.func94
theorem Ia:x0 aX 56 [(0,1),(1,1),(2,1),(3,1)] #[e_,e_,e_,e_]:=x0.of (.agg #[e_,e_,e_,e_]) Tryz.underlying56
theorem P0:fT aX 95:=gr Tryz.func95
theorem RH:NU aX 56 aK:=⟨λM cs ds a b w ha hb=>by
  obtain⟨_,_,rfl,rfl,⟨_,_,rfl,rfl,⟨_,_,rfl,rfl,rfl⟩⟩⟩:=ha
  obtain⟨_,_,rfl,rfl,⟨_,_,rfl,rfl,⟨_,_,rfl,rfl,rfl⟩⟩⟩:=hb
  refine(gR 9999 Tryz.underlying56<|xc.cons (by decide) (cM cV rfl _) (cM cV rfl _) (kE zc _ _ w)<|xc.cons (by decide) (cM cV rfl _) (cM cV rfl _) (kE zc _ _ w)<|xc.cons (by decide) (cM cV rfl _) (cM cV rfl _) (kE zc _ _ w)<|xc.cons (by decide) (cM cV rfl _) (cM cV rfl _) (kE zc _ _ w) xc.nil).trans ?_
  congr 1
  cases a;cases b;unfold nA
  rw[jE]
  simp,by kernel_rfl⟩
theorem RI:fT aX 65:=gr Tryz.func65
theorem py:mm aX 32 2 2:=nz
theorem Ah:kR aX 29 false 1:=rY
theorem Co:Tryz.prog.underlying 29=some (.slice 147):=by kernel_rfl
theorem Fe:uI aX 29 147 6:=Dt
theorem na:kR aX 147 true 6:=rY
theorem Ej:z8 aX 147 6:=Bb<|.agg #[e_,e_,e_,e_,e_,(.bool false)]
theorem zg:mm aX 147 1 2:=nz
theorem Od:fT aX 97:=gr Tryz.func97
theorem Ff:mm aX 147 0 0:=nz
theorem xk:kR aX 58 true 2:=rY
theorem sH:mm aX 58 0 0:=nz
theorem qy:mm aX 58 1 1:=nz
theorem RJ:fT aX 99:=gr Tryz.func99
theorem Ky:fT aX 68:=gr Tryz.func68
theorem tZ:mm aX 147 2 3:=nz
theorem wP:mm aX 147 3 4:=nz
theorem yf:mm aX 32 3 3:=nz
theorem Ib:kR aX 30 false 1:=rY
theorem GP:Tryz.prog.underlying 30=some (.slice 60):=by kernel_rfl
theorem Bi:uI aX 30 60 5:=Dt
theorem tj:kR aX 60 true 5:=rY
theorem GQ:z8 aX 60 5:=Bb<|.agg #[(.string ⟨#[]⟩),(.string ⟨#[]⟩),e_,e_,e_]
theorem Fg:mm aX 60 0 0:=nz
theorem Fh:mm aX 60 1 1:=nz
theorem Ic:mm aX 60 2 2:=nz
theorem yg:mm aX 60 3 3:=nz
theorem Md:x0 aX 41 [(0,1),(1,1)] #[(.string ⟨#[]⟩),(.string ⟨#[]⟩)]:=x0.of (.agg #[(.string ⟨#[]⟩),(.string ⟨#[]⟩)]) Tryz.underlying41
theorem Oe:fT aX 45:=gr Tryz.func45
theorem RN:fT aX 84:=gr Tryz.func84
theorem Of:fT aX 48:=gr Tryz.func48
theorem TT:x0 aX 94 [(0,4),(4,1),(5,1),(6,1),(7,1),(8,1),(9,1),(10,1),(11,1)] #[n_,n_,n_,n_,n_,n_,n_,n_,n_,n_,n_,n_]:=x0.of (.agg #[n_,n_,n_,n_,n_,n_,n_,n_,n_,n_,n_,n_]) Tryz.underlying94
theorem qz:mm aX 94 0 0:=nz
theorem Me:fT aX 100:=gr Tryz.func100
theorem Mf:uI aX 87 96 1:=Dt
theorem P3:z8 aX 96 1:=Bb<|.slice none 0 0
theorem RP:Tryz.prog.underlying 87=some (.slice 96):=by kernel_rfl
theorem RQ:kR aX 96 false 1:=rY
theorem Pg:fT aX 157:=gr Tryz.func157
theorem P4:Tryz.prog.underlying 4=some (.bool):=by kernel_rfl
theorem Mg:mm aX 94 1 4:=nz
theorem RX:kR aX 87 false 1:=rY
theorem RY:uJ aX 87 96 1 24:=uJ.of<|.slice none 0 0
theorem Mh:fT aX 136:=gr Tryz.func136
theorem AY:Du aX 156 3 3 Int Int (0:Int):=⟨by kernel_rfl,vg.int zc,yT e_<|λM=>⟨_,rfl,rfl⟩⟩
theorem RZ:z8 aX 28 1:=Bb<|.slice none 0 0
theorem TU:uJ aX 27 28 1 24:=uJ.of<|.slice none 0 0
theorem ng:mm aX 94 2 5:=nz
theorem xl:kR aX 88 false 1:=rY
theorem TV:x0 aX 98 [(0,1),(1,1),(2,1)] #[e_,n_,n_]:=x0.of (.agg #[e_,n_,n_]) Tryz.underlying98
theorem Fi:uI aX 88 98 3:=Dt
theorem Mi:z8 aX 98 3:=Bb<|.agg #[e_,n_,n_]
theorem TW:uJ aX 88 98 3 56:=uJ.of<|.agg #[e_,n_,n_]
theorem DC:Tryz.prog.underlying 88=some (.slice 98):=by kernel_rfl
theorem GR:kR aX 98 true 3:=rY
theorem BH:mm aX 147 4 5:=nz
theorem BJ:kR aX 4 false 1:=rY
theorem Ai:mm aX 98 0 0:=nz
theorem Aj:mm aX 98 2 2:=nz
theorem Ph:fT aX 104:=gr Tryz.func104
theorem Fj:mm aX 94 3 6:=nz
theorem Og:kR aX 89 false 1:=rY
theorem Ie:uI aX 89 91 1:=Dt
theorem R3:z8 aX 91 1:=Bb<|.slice none 0 0
theorem R4:uJ aX 89 91 1 24:=uJ.of<|.slice none 0 0
theorem R5:x0 aX 124 [(0,1)] #[n_]:=x0.of (.agg #[n_]) Tryz.underlying124
theorem qU:mm aX 124 0 0:=nz
theorem P5:fT aX 28:=gr Tryz.func28
theorem Oh:Tryz.prog.underlying 89=some (.slice 91):=by kernel_rfl
theorem GS:fT aX 29:=gr Tryz.func29
theorem P6:fT aX 30:=gr Tryz.func30
theorem rG:mm aX 94 5 8:=nz
theorem Fk:mm aX 94 6 9:=nz
theorem R7:QQ aX 104 [n_,n_,n_]:=⟨(.agg #[n_,n_,n_]),λ_=>by kernel_rfl,rfl⟩
theorem sI:mm aX 94 4 7:=nz
theorem DD:kR aX 90 false 1:=rY
theorem R8:Tryz.prog.underlying 90=some (.slice 104):=by kernel_rfl
theorem Fm:mm aX 104 0 0:=nz
theorem Fp:mm aX 104 1 1:=nz
theorem R9:kR aX 104 true 3:=rY
theorem Ig:uI aX 90 104 3:=Dt
theorem Sa:z8 aX 104 3:=Bb<|.agg #[n_,n_,n_]
theorem TZ:uJ aX 90 104 3 72:=uJ.of<|.agg #[n_,n_,n_]
theorem Jx:z8 aX 150 2:=Bb<|.agg #[(.bool false),e_]
theorem Pj:fT aX 138:=gr Tryz.func138
theorem Jy:x0 aX 150 [(0,1),(1,1)] #[(.bool false),e_]:=x0.of (.agg #[(.bool false),e_]) Tryz.underlying150
theorem qI:kR aX 150 true 2:=rY
theorem Fq:mm aX 150 0 0:=nz
theorem t7:mm aX 150 1 1:=nz
theorem wQ:mm aX 104 2 2:=nz
theorem P7:uJ aX 69 41 2 32:=uJ.of<|.agg #[(.string ⟨#[]⟩),(.string ⟨#[]⟩)]
theorem Ih:mm aX 94 7 10:=nz
theorem Ii:mm aX 94 8 11:=nz
theorem P8:kR aX 92 false 1:=rY
theorem Sf:uI aX 92 150 2:=Dt
theorem T0:uJ aX 92 150 2 16:=uJ.of<|.agg #[(.bool false),e_]
theorem P9:fT aX 39:=gr Tryz.func39
theorem Sg:fT aX 18:=gr Tryz.func18
theorem Oi:fT aX 21:=gr Tryz.func21
theorem Sh:fT aX 10:=gr Tryz.func10
theorem Ij:fT aX 23:=gr Tryz.func23
theorem T4:uJ aX 30 60 5 56:=uJ.of<|.agg #[(.string ⟨#[]⟩),(.string ⟨#[]⟩),e_,e_,e_]
theorem Si:fT aX 24:=gr Tryz.func24
theorem T5:x0 aX 77 [(0,1),(1,1),(2,1)] #[e_,e_,e_]:=x0.of (.agg #[e_,e_,e_]) Tryz.underlying77
theorem pX:uI aX 74 77 3:=Dt
theorem Sj:z8 aX 77 3:=Bb<|.agg #[e_,e_,e_]
theorem T6:uJ aX 74 77 3 24:=uJ.of<|.agg #[e_,e_,e_]
theorem Sk:Tryz.prog.underlying 74=some (.slice 77):=by kernel_rfl
theorem pY:kR aX 77 true 3:=rY
theorem Sm:fT aX 82:=gr Tryz.func82
theorem Mj:fT aX 149:=gr Tryz.func149
theorem Oj:fT aX 83:=gr Tryz.func83
theorem Mk:mm aX 77 0 0:=nz
theorem So:fT aX 47:=gr Tryz.func47
theorem Ik:mm aX 77 1 1:=nz
theorem Il:mm aX 77 2 2:=nz
theorem Qa:x0 aX 43 [(0,2),(2,2),(4,1)] #[(.string ⟨#[]⟩),(.string ⟨#[]⟩),(.string ⟨#[]⟩),(.string ⟨#[]⟩),(.bool false)]:=x0.of (.agg #[(.string ⟨#[]⟩),(.string ⟨#[]⟩),(.string ⟨#[]⟩),(.string ⟨#[]⟩),(.bool false)]) Tryz.underlying43
theorem xm:uI aX 33 43 5:=Dt
theorem Im:z8 aX 43 5:=Bb<|.agg #[(.string ⟨#[]⟩),(.string ⟨#[]⟩),(.string ⟨#[]⟩),(.string ⟨#[]⟩),(.bool false)]
theorem Ml:uJ aX 33 43 5 72:=uJ.of<|.agg #[(.string ⟨#[]⟩),(.string ⟨#[]⟩),(.string ⟨#[]⟩),(.string ⟨#[]⟩),(.bool false)]
theorem qA:mm aX 43 0 0:=nz
theorem qB:mm aX 43 1 2:=nz
theorem pA:kR aX 43 true 5:=rY
theorem Io:fT aX 16:=gr Tryz.func16
theorem Ol:fT aX 15:=gr Tryz.func15
theorem Qb:fT aX 12:=gr Tryz.func12
theorem Qc:Du aX 84 41 3 bZ Int (0:Int):=⟨by kernel_rfl,O8,yT e_<|λM=>⟨_,rfl,rfl⟩⟩
theorem Sp:fT aX 31:=gr Tryz.func31
theorem Qd:Ti aX 99 2 3 1:=⟨by kernel_rfl,λ_=>by kernel_rfl⟩
theorem Jz:QV aX 99 1 ((.agg #[e_,e_]):aV).cells:=QV.of Qd
theorem Sq:vg aX 99 bA:=vg.TC (e:=3) (by kernel_rfl) zc cV (λk=>k.e0) (λk=>k.e1) (λa b h1 h2=>by cases a;cases b;simp only at h1 h2;subst h1;subst h2;rfl)<|λk=>rfl
theorem Om:Du aX 86 99 4 bA Bool (false:Bool):=⟨by kernel_rfl,Sq,yT (.bool false)<|λM=>⟨_,rfl,rfl⟩⟩
theorem Pk:z8 aX 101 7:=Bb<|.agg #[e_,e_,e_,e_,e_,e_,e_]
theorem Sr:x0 aX 101 [(0,1),(1,1),(2,1),(3,2),(5,2)] #[e_,e_,e_,e_,e_,e_,e_]:=x0.of (.agg #[e_,e_,e_,e_,e_,e_,e_]) Tryz.underlying101
theorem JA:kR aX 101 true 7:=rY
theorem Qe:z8 aX 58 2:=Bb<|.agg #[e_,e_]
theorem Uc:x0 aX 58 [(0,1),(1,1)] #[e_,e_]:=x0.of (.agg #[e_,e_]) Tryz.underlying58
theorem Ss:fT aX 49:=gr Tryz.func49
theorem wR:mm aX 101 3 3:=nz
theorem St:fT aX 50:=gr Tryz.func50
theorem JB:mm aX 101 4 5:=nz
theorem Su:fT aX 32:=gr Tryz.func32
theorem JC:Tr aX 101 2 3 2:=⟨λ_ _=>by kernel_rfl⟩
theorem Sv:Tryz.prog.underlying 86=some (.map 99 4):=by kernel_rfl
theorem Sw:z8 aX 99 2:=Bb<|.agg #[e_,e_]
theorem Sx:kR aX 99 true 2:=rY
theorem Mm:QU aX 99 0 0:=Qd.at (k:=⟨0,by decide⟩) rfl
theorem Mn:QU aX 99 1 1:=Qd.at (k:=⟨1,by decide⟩) rfl
theorem JD:uI aX 130 69 1:=Dt
theorem Sy:z8 aX 69 1:=Bb<|.slice none 0 0
theorem Pl:Tryz.prog.underlying 130=some (.slice 69):=by kernel_rfl
theorem Ud:HV aX 41 (⟨⟨[]⟩,⟨[]⟩⟩:bZ):=HV.of (.agg #[(.string ⟨#[]⟩),(.string ⟨#[]⟩)])<|λM=>AX M
theorem Sz:fT aX 34:=gr Tryz.func34
theorem SA:kR aX 84 false 1:=rY
theorem SB:fT aX 33:=gr Tryz.func33
theorem SC:fT aX 13:=gr Tryz.func13
theorem Qg:uI aX 67 33 1:=Dt
theorem Ui:z8 aX 33 1:=Bb<|.slice none 0 0
theorem SD:Tryz.prog.underlying 67=some (.slice 33):=by kernel_rfl
theorem SE:kR aX 33 false 1:=rY
theorem uK:Tryz.prog.underlying 33=some (.slice 43):=by kernel_rfl
theorem Uj:HV aX 43 (⟨⟨⟨[]⟩,⟨[]⟩⟩,⟨⟨[]⟩,⟨[]⟩⟩,false⟩:Test):=HV.of (.agg #[(.string ⟨#[]⟩),(.string ⟨#[]⟩),(.string ⟨#[]⟩),(.string ⟨#[]⟩),(.bool false)])<|λM=>E8 M
theorem On:fT aX 14:=gr Tryz.func14
theorem Um:x0 aX 60 [(0,1),(1,1),(2,1),(3,2)] #[(.string ⟨#[]⟩),(.string ⟨#[]⟩),e_,e_,e_]:=x0.of (.agg #[(.string ⟨#[]⟩),(.string ⟨#[]⟩),e_,e_,e_]) Tryz.underlying60
theorem Un:x0 aX 32 [(0,1),(1,1),(2,1),(3,1)] #[n_,n_,n_,n_]:=x0.of (.agg #[n_,n_,n_,n_]) Tryz.underlying32
theorem Uo:z8 aX 32 4:=Bb<|.agg #[n_,n_,n_,n_]
theorem GU:Tryz.prog.underlying 112=some (.slice 152):=by kernel_rfl
theorem Qh:kR aX 46 false 1:=rY
theorem GV:uI aX 112 152 5:=Dt
theorem xN:kR aX 152 true 5:=rY
theorem Mo:z8 aX 152 5:=Bb<|.agg #[(.bool false),(.bool false),e_,e_,e_]
theorem t8:mm aX 152 0 0:=nz
theorem BK:mm aX 152 2 3:=nz
theorem BL:mm aX 152 3 4:=nz
theorem wS:mm aX 152 1 1:=nz
theorem Qi:NU aX 150 fN:=⟨λM cs ds a b w ha hb=>by
  obtain⟨_,_,rfl,rfl,rfl⟩:=ha
  obtain⟨_,_,rfl,rfl,rfl⟩:=hb
  refine(gR 9999 Tryz.underlying150<|xc.cons (by decide) (cM BJ rfl _) (cM BJ rfl _) (n0 P4 _ _ w)<|xc.cons (by decide) (cM cV rfl _) (cM cV rfl _) (kE zc _ _ w) xc.nil).trans ?_
  congr 1
  cases a;cases b;unfold tV
  rw[jE]
  simp,by kernel_rfl⟩
theorem Qj:fT aX 72:=gr Tryz.func72
theorem Qk:NU aX 152 mn:=⟨λM cs ds a b w ha hb=>by
  obtain⟨_,_,rfl,rfl,⟨_,_,rfl,⟨_,_,rfl,rfl,rfl⟩,⟨_,_,rfl,rfl,rfl⟩⟩⟩:=ha
  obtain⟨_,_,rfl,rfl,⟨_,_,rfl,⟨_,_,rfl,rfl,rfl⟩,⟨_,_,rfl,rfl,rfl⟩⟩⟩:=hb
  refine(gR 9999 Tryz.underlying152<|xc.cons (by decide) (cM BJ rfl _) (cM BJ rfl _) (n0 P4 _ _ w)<|xc.cons (by decide) (ph qI rfl _) (ph qI rfl _) (gR 9998 Tryz.underlying149<|xc.cons (by decide) (cM BJ rfl _) (cM BJ rfl _) (n0 P4 _ _ w)<|xc.cons (by decide) (cM cV rfl _) (cM cV rfl _) (kE zc _ _ w) xc.nil)<|xc.cons (by decide) (cM cV rfl _) (cM cV rfl _) (kE zc _ _ w)<|xc.cons (by decide) (cM cV rfl _) (cM cV rfl _) (kE zc _ _ w) xc.nil).trans ?_
  congr 1
  obtain⟨_,⟨_,_⟩,_,_⟩:=a;obtain⟨_,⟨_,_⟩,_,_⟩:=b;unfold ti tV
  rw[jE]
  simp,by kernel_rfl⟩
theorem SG:QQ aX 155 [(.map none)]:=⟨(.map none),λ_=>by kernel_rfl,rfl⟩
theorem GW:kR aX 155 false 1:=rY
theorem SI:fT aX 74:=gr Tryz.func74
theorem JE:Du aX 155 3 4 Int Bool (false:Bool):=⟨by kernel_rfl,vg.int zc,yT (.bool false)<|λM=>⟨_,rfl,rfl⟩⟩
theorem Ur:QQ aX 80 [(.pointer none)]:=⟨(.pointer none),λ_=>by kernel_rfl,rfl⟩
theorem Mp:kR aX 80 false 1:=rY
theorem SJ:fT aX 75:=gr Tryz.func75
theorem Us:Tryz.prog.underlying 92=some (.slice 150):=by kernel_rfl
theorem Va:fT aX 5:=gr Tryz.func5
theorem Mq:mm aX 43 2 4:=nz
theorem SK:NU aX 43 Test:=⟨λM cs ds a b w ha hb=>by
  obtain⟨_,_,rfl,⟨_,_,rfl,rfl,rfl⟩,⟨_,_,rfl,⟨_,_,rfl,rfl,rfl⟩,rfl⟩⟩:=ha
  obtain⟨_,_,rfl,⟨_,_,rfl,rfl,rfl⟩,⟨_,_,rfl,⟨_,_,rfl,rfl,rfl⟩,rfl⟩⟩:=hb
  refine(gR 9999 Tryz.underlying43<|xc.cons (by decide) (ph iv rfl _) (ph iv rfl _) (gR 9998 Tryz.underlying40<|xc.cons (by decide) (cM ri rfl _) (cM ri rfl _) (nS Bg _ _ w)<|xc.cons (by decide) (cM ri rfl _) (cM ri rfl _) (nS Bg _ _ w) xc.nil)<|xc.cons (by decide) (ph iv rfl _) (ph iv rfl _) (gR 9998 Tryz.underlying40<|xc.cons (by decide) (cM ri rfl _) (cM ri rfl _) (nS Bg _ _ w)<|xc.cons (by decide) (cM ri rfl _) (cM ri rfl _) (nS Bg _ _ w) xc.nil)<|xc.cons (by decide) (cM BJ rfl _) (cM BJ rfl _) (n0 P4 _ _ w) xc.nil).trans ?_
  congr 1
  obtain⟨⟨_,_⟩,⟨_,_⟩,_⟩:=a;obtain⟨⟨_,_⟩,⟨_,_⟩,_⟩:=b;unfold tT pW
  rw[jE]
  simp,by kernel_rfl⟩
theorem Vb:fT aX 8:=gr Tryz.func8
def kd(E:aW)(V:aL HP)(b0:Nat)(e_ i_:aV)(a_ d_:aV)(k_ b_:aV)(f_ p_:aV)(o_ l_:aV)(j_ g_:aV)(res:Int)(v:aV)(w:aW):Prop:=v= vi res/\Holds E w ([bc 94 b0 [e_,i_,a_,d_,k_,b_,f_,p_,o_,l_,j_,g_]]++V)
def lY(E:aW)(V:aL HP)(res:aU (aL (aL aK)×aL aK×aL cL×aL cW×aL (aL aB)×aL aI×aL (aL Int)×aL bM×aL Int×aL Int×aL Int×aL fN)×Int)(v:aV)(w:aW):Prop:=B6 res.1 (v = .tuple #[(.pointer none),vi res.2]/\Holds E w V) (λy=>∃(ub0:Nat)(Q_ b9_:aV)(c0_ c1_:aV)(X_ Y_:aV)(Z_ a0_:aV)(a1_ a2_:aV)(a3_ a4_:aV),v = .tuple #[vp ub0 0,vi res.2]/\Holds E w ([bc 94 ub0 [Q_,b9_,c0_,c1_,X_,Y_,Z_,a0_,a1_,a2_,a3_,a4_],rd Q_ y.1,rd b9_ y.2.1,rd c0_ y.2.2.1,rd c1_ y.2.2.2.1,own 96 X_ y.2.2.2.2.1,rd Y_ y.2.2.2.2.2.1,rd Z_ y.2.2.2.2.2.2.1,own 104 a0_ y.2.2.2.2.2.2.2.1,rd a1_ y.2.2.2.2.2.2.2.2.1,rd a2_ y.2.2.2.2.2.2.2.2.2.1,own 3 a3_ y.2.2.2.2.2.2.2.2.2.2.1,own 150 a4_ y.2.2.2.2.2.2.2.2.2.2.2]++V))
def aG(E:aW)(V:aL HP)(res:Int)(v:aV)(w:aW):Prop:=v= vi res/\Holds E w V
def bE(E:aW)(V:aL HP)(res:Bool)(v:aV)(w:aW):Prop:=v= vb res/\Holds E w V
def eD(E:aW)(V:aL HP)(res:Int×Bool)(v:aV)(w:aW):Prop:=v = .tuple #[vi res.1,vb res.2]/\Holds E w V
def rH(E:aW)(V:aL HP)(res:aL cN)(v:aV)(w:aW):Prop:=Holds E w<|[own 9 v res]++V
def sf(E:aW)(V:aL HP)(res:aK)(v:aV)(w:aW):Prop:=Holds E w<|[rd v res]++V
def cC(E:aW)(V:aL HP)(v0:aV)(res:aL aC)(v:aV)(w:aW):Prop:=v = .tuple #[]/\Holds E w ([own 77 v0 res]++V)
def sJ(E:aW)(V:aL HP)(res:aL Test)(v:aV)(w:aW):Prop:=Holds E w<|[own 43 v res]++V
def ni(E:aW)(V:aL HP)(res:aL aK)(v:aV)(w:aW):Prop:=Holds E w<|[own 56 v res]++V
def mF(E:aW)(V:aL HP)(res:aL Int)(v:aV)(w:aW):Prop:=Holds E w<|[own 3 v res]++V
def mX(E:aW)(V:aL HP)(res:aL aB)(v:aV)(w:aW):Prop:=Holds E w<|[own 212 v res]++V
def pf(E:aW)(V:aL HP)(res:aL bZ)(v:aV)(w:aW):Prop:=Holds E w<|[own 41 v res]++V
def t9(E:aW)(V:aL HP)(res:aL Test×Int)(v:aV)(w:aW):Prop:=∃u0:aV,v = .tuple #[u0,vi res.2]/\Holds E w ([rd u0 res.1]++V)
def wV(H:Type)(d:DataW H):Nat:=YtaadpbkoidcoeaaGreatDoor.Rows.uptoBulk d
def SM(H:Type)(d:List (DataW H)):Nat:=YtaadpbkoidcoeaaGreatDoor.Rows.uptoBulkAll d
theorem eT:UB wV SM where
  str:=λH b=>by simp[wV,YtaadpbkoidcoeaaGreatDoor.Rows.uptoBulk]
  pos:=λH d=>by
    unfold wV
    cases d with
    |lit l=>cases l <;> simp[YtaadpbkoidcoeaaGreatDoor.Rows.uptoBulk]
    |nil=>simp[YtaadpbkoidcoeaaGreatDoor.Rows.uptoBulk]
    |ptr d=>simp[YtaadpbkoidcoeaaGreatDoor.Rows.uptoBulk]
    |slice elems spare=>simp[YtaadpbkoidcoeaaGreatDoor.Rows.uptoBulk]
    |agg parts=>simp[YtaadpbkoidcoeaaGreatDoor.Rows.uptoBulk]
    |iface t d=>simp[YtaadpbkoidcoeaaGreatDoor.Rows.uptoBulk]
    |map entries=>simp[YtaadpbkoidcoeaaGreatDoor.Rows.uptoBulk]
    |held h=>simp[YtaadpbkoidcoeaaGreatDoor.Rows.uptoBulk]
  sl:=λH e s=>by simp[wV,SM,YtaadpbkoidcoeaaGreatDoor.Rows.uptoBulk]
  ag:=λH l=>by simp[wV,SM,YtaadpbkoidcoeaaGreatDoor.Rows.uptoBulk]
  nil:=λH=>by simp[SM,YtaadpbkoidcoeaaGreatDoor.Rows.uptoBulkAll]
  cons:=λH x l=>by simp[wV,SM,YtaadpbkoidcoeaaGreatDoor.Rows.uptoBulkAll]
theorem NK:gY wV Tryz.prog 9 cN:=KD eT (by kernel_rfl)
theorem KF:gY wV Tryz.prog 3 Int:=KC eT (by kernel_rfl)
theorem SN:gY wV Tryz.prog 219 dG:=iw eT (λ(x:dG)=>(x.Name,x.Kind,x.bM)) (λb=>⟨b.1,b.2.1,b.2.2⟩) (λb=>rfl) Tryz.underlying219 (eJ eT NK<|eJ eT KF<|k8 eT KF) (λb=>by simp only[Cv];omega)
theorem SO:gY wV Tryz.prog 190 (aL dG):=kK (e:=219) eT SN
theorem SP:gY wV Tryz.prog 192 aY:=iw eT (λ(x:aY)=>(x.Name,x.aZ)) (λb=>⟨b.1,b.2⟩) (λb=>rfl) Tryz.underlying192 (eJ eT NK<|k8 eT SO) (λb=>by simp only[vC];omega)
theorem Uy:gY wV Tryz.prog 22 (aL aY):=kK (e:=192) eT SP
theorem SQ:gY wV Tryz.prog 195 Part:=iw eT (λ(x:Part)=>(x.Name,x.pT)) (λb=>⟨b.1,b.2⟩) (λb=>rfl) Tryz.underlying195 (eJ eT NK<|k8 eT NK) (λb=>by simp only[JI];omega)
theorem Uz:gY wV Tryz.prog 23 (aL Part):=kK (e:=195) eT SQ
theorem UA:gY wV Tryz.prog 41 bZ:=iw eT (λ(x:bZ)=>(x.Part,x.bZ)) (λb=>⟨b.1,b.2⟩) (λb=>rfl) Tryz.underlying41 (eJ eT NK<|k8 eT NK) (λb=>by simp only[Ql];omega)
theorem UC:gY wV Tryz.prog 69 (aL bZ):=kK (e:=41) eT UA
theorem UD:gY wV Tryz.prog 70 (aL cN):=kK (e:=9) eT NK
theorem UE:gY wV Tryz.prog 72 Net:=iw eT (λ(x:Net)=>(x.Name,x.aZ,x.ux)) (λb=>⟨b.1,b.2.1,b.2.2⟩) (λb=>rfl) Tryz.underlying72 (eJ eT NK<|eJ eT UC<|k8 eT UD) (λb=>by simp only[Ir];omega)
theorem UG:gY wV Tryz.prog 24 (aL Net):=kK (e:=72) eT UE
theorem UH:gY wV Tryz.prog 26 cB:=iw eT (λ(x:cB)=>(x.kN,x.cF)) (λb=>⟨b.1,b.2⟩) (λb=>rfl) Tryz.underlying26 (eJ eT Uz<|k8 eT UG) (λb=>by simp only[Cw];omega)
theorem UI:gY wV Tryz.prog 56 aK:=iw eT (λ(x:aK)=>(x.X0,x.Y0,x.X1,x.Y1)) (λb=>⟨b.1,b.2.1,b.2.2.1,b.2.2.2⟩) (λb=>rfl) Tryz.underlying56 (eJ eT KF<|eJ eT KF<|eJ eT KF<|k8 eT KF) (λb=>by simp only[Ou];omega)
theorem SR:gY wV Tryz.prog 28 (aL aK):=kK (e:=56) eT UI
theorem UJ:gY wV Tryz.prog 27 (aL<|aL aK):=kK (e:=28) eT SR
theorem SS:gY wV Tryz.prog 58 eR:=iw eT (λ(x:eR)=>(x.X,x.Y)) (λb=>⟨b.1,b.2⟩) (λb=>rfl) Tryz.underlying58 (eJ eT KF<|k8 eT KF) (λb=>by simp only[Mx];omega)
theorem Vx:gY wV Tryz.prog 4 Bool:=Iq eT (by kernel_rfl)
theorem SU:gY wV Tryz.prog 147 cL:=iw eT (λ(x:cL)=>(x.At,x.gG,x.cQ,x.To,x.jo)) (λb=>⟨b.1,b.2.1,b.2.2.1,b.2.2.2.1,b.2.2.2.2⟩) (λb=>rfl) Tryz.underlying147 (eJ eT SS<|eJ eT KF<|eJ eT KF<|eJ eT KF<|k8 eT Vx) (λb=>by simp only[Ov];omega)
theorem UK:gY wV Tryz.prog 29 (aL cL):=kK (e:=147) eT SU
theorem UL:gY wV Tryz.prog 60 cW:=iw eT (λ(x:cW)=>(x.Part,x.bZ,x.dI,x.At)) (λb=>⟨b.1,b.2.1,b.2.2.1,b.2.2.2⟩) (λb=>rfl) Tryz.underlying60 (eJ eT NK<|eJ eT NK<|eJ eT KF<|k8 eT SS) (λb=>by simp only[JJ];omega)
theorem UM:gY wV Tryz.prog 30 (aL cW):=kK (e:=60) eT UL
theorem UN:gY wV Tryz.prog 32 iE:=iw eT (λ(x:iE)=>(x.aS,x.dU,x.bQ,x.bX)) (λb=>⟨b.1,b.2.1,b.2.2.1,b.2.2.2⟩) (λb=>rfl) Tryz.underlying32 (eJ eT UJ<|eJ eT SR<|eJ eT UK<|k8 eT UM) (λb=>by simp only[My];omega)
end Go.Gk
namespace Go.Proofs
open Go.Shelf Go.RowKit Go.Lib Go.Sort
def Tryz.lay123_ren : Go.Shelf.Ren := ⟨fun | 6 => 123 | 15 => 37 | 14 => 150 | 28 => 63 | 29 => 64 | 20 => 164 | 21 => 165 | 22 => 166 | 23 => 167 | 24 => 168 | 25 => 169 | 26 => 170 | 27 => 171 | 46 => 186 | 47 => 88 | 48 => 89 | 49 => 187 | 50 => 188 | 57 => 196 | n => n, fun | 22 => 28 | 24 => 56 | 25 => 125 | 3 => 3 | 39 => 110 | 0 => 0 | 53 => 141 | 55 => 143 | 4 => 4 | 46 => 135 | 45 => 134 | 50 => 117 | 5 => 5 | 9 => 9 | 66 => 167 | 70 => 171 | 76 => 201 | 77 => 202 | n => n, fun | n => n⟩
theorem Tryz.lay123 : Go.Proofs.SlLaysF0.n6 Tryz.prog Tryz.lay123_ren := {
  mixed := by kernel_rfl
  f6 := ⟨Tryz.f123.name, by decide, Tryz.func123.trans (congrArg some (by kernel_rfl))⟩
  f14 := ⟨Tryz.f150.name, by decide, Tryz.func150.trans (congrArg some (by kernel_rfl))⟩
  f15 := Tryz.func37.trans (congrArg some (by kernel_rfl))
  f20 := ⟨Tryz.f164.name, by decide, Tryz.func164.trans (congrArg some (by kernel_rfl))⟩
  f21 := ⟨Tryz.f165.name, by decide, Tryz.func165.trans (congrArg some (by kernel_rfl))⟩
  f22 := ⟨Tryz.f166.name, by decide, Tryz.func166.trans (congrArg some (by kernel_rfl))⟩
  f23 := ⟨Tryz.f167.name, by decide, Tryz.func167.trans (congrArg some (by kernel_rfl))⟩
  f24 := ⟨Tryz.f168.name, by decide, Tryz.func168.trans (congrArg some (by kernel_rfl))⟩
  f25 := ⟨Tryz.f169.name, by decide, Tryz.func169.trans (congrArg some (by kernel_rfl))⟩
  f26 := ⟨Tryz.f170.name, by decide, Tryz.func170.trans (congrArg some (by kernel_rfl))⟩
  f27 := ⟨Tryz.f171.name, by decide, Tryz.func171.trans (congrArg some (by kernel_rfl))⟩
  f28 := Tryz.func63.trans (congrArg some (by kernel_rfl))
  f29 := Tryz.func64.trans (congrArg some (by kernel_rfl))
  f46 := ⟨Tryz.f186.name, by decide, Tryz.func186.trans (congrArg some (by kernel_rfl))⟩
  f47 := Tryz.func88.trans (congrArg some (by kernel_rfl))
  f48 := Tryz.func89.trans (congrArg some (by kernel_rfl))
  f49 := ⟨Tryz.f187.name, by decide, Tryz.func187.trans (congrArg some (by kernel_rfl))⟩
  f50 := ⟨Tryz.f188.name, by decide, Tryz.func188.trans (congrArg some (by kernel_rfl))⟩
  f57 := ⟨Tryz.f196.name, by decide, Tryz.func196.trans (congrArg some (by kernel_rfl))⟩
  t0 := Tryz.underlying0
  a0 := Tryz.isAgg0
  z0 := Tryz.sizeOf0
  v0 := Tryz.zeroValue0
  t3 := Tryz.underlying3
  a3 := Tryz.isAgg3
  z3 := Tryz.sizeOf3
  v3 := Tryz.zeroValue3
  t4 := Tryz.underlying4
  a4 := Tryz.isAgg4
  z4 := Tryz.sizeOf4
  v4 := Tryz.zeroValue4
  t5 := Tryz.underlying5
  a5 := Tryz.isAgg5
  z5 := Tryz.sizeOf5
  v5 := Tryz.zeroValue5
  t9 := Tryz.underlying9
  a9 := Tryz.isAgg9
  z9 := Tryz.sizeOf9
  v9 := Tryz.zeroValue9
  t22 := Tryz.underlying28
  a22 := Tryz.isAgg28
  z22 := Tryz.sizeOf28
  v22 := Tryz.zeroValue28
  t25 := Tryz.underlying125
  a25 := Tryz.isAgg125
  z25 := Tryz.sizeOf125
  v25 := Tryz.zeroValue125
  t39 := Tryz.underlying110
  a39 := Tryz.isAgg110
  z39 := Tryz.sizeOf110
  v39 := Tryz.zeroValue110
  t45 := Tryz.underlying134
  a45 := Tryz.isAgg134
  z45 := Tryz.sizeOf134
  v45 := Tryz.zeroValue134
  t46 := Tryz.underlying135
  a46 := Tryz.isAgg135
  z46 := Tryz.sizeOf135
  v46 := Tryz.zeroValue135
  t50 := Tryz.underlying117
  a50 := Tryz.isAgg117
  z50 := Tryz.sizeOf117
  v50 := Tryz.zeroValue117
  t53 := Tryz.underlying141
  a53 := Tryz.isAgg141
  z53 := Tryz.sizeOf141
  v53 := Tryz.zeroValue141
  t55 := Tryz.underlying143
  a55 := Tryz.isAgg143
  z55 := Tryz.sizeOf143
  v55 := Tryz.zeroValue143
  t66 := Tryz.underlying167
  a66 := Tryz.isAgg167
  z66 := Tryz.sizeOf167
  v66 := Tryz.zeroValue167
  t70 := Tryz.underlying171
  a70 := Tryz.isAgg171
  z70 := Tryz.sizeOf171
  v70 := Tryz.zeroValue171
  t76 := Tryz.underlying201
  a76 := Tryz.isAgg201
  z76 := Tryz.sizeOf201
  v76 := Tryz.zeroValue201
  t77 := Tryz.underlying202
  a77 := Tryz.isAgg202
  z77 := Tryz.sizeOf202
  v77 := Tryz.zeroValue202 }
def Tryz.lay125_ren : Go.Shelf.Ren := ⟨fun | 5 => 125 | 8 => 37 | 7 => 151 | 19 => 63 | 20 => 64 | 10 => 172 | 11 => 173 | 12 => 174 | 13 => 175 | 14 => 176 | 15 => 177 | 16 => 178 | 17 => 179 | 18 => 180 | 30 => 189 | 31 => 88 | 32 => 89 | 33 => 190 | 34 => 191 | 35 => 47 | 40 => 197 | n => n, fun | 23 => 91 | 25 => 3 | 3 => 3 | 32 => 110 | 22 => 91 | 0 => 0 | 44 => 141 | 46 => 143 | 4 => 4 | 36 => 135 | 35 => 134 | 41 => 117 | 5 => 5 | 9 => 9 | 53 => 167 | 57 => 171 | 63 => 201 | 64 => 202 | n => n, fun | n => n⟩
theorem Tryz.lay125 : Go.Proofs.SlLaysM.n5 Tryz.prog Tryz.lay125_ren := {
  mixed := by kernel_rfl
  f5 := ⟨Tryz.f125.name, by decide, Tryz.func125.trans (congrArg some (by kernel_rfl))⟩
  f7 := ⟨Tryz.f151.name, by decide, Tryz.func151.trans (congrArg some (by kernel_rfl))⟩
  f8 := Tryz.func37.trans (congrArg some (by kernel_rfl))
  f10 := ⟨Tryz.f172.name, by decide, Tryz.func172.trans (congrArg some (by kernel_rfl))⟩
  f11 := ⟨Tryz.f173.name, by decide, Tryz.func173.trans (congrArg some (by kernel_rfl))⟩
  f12 := ⟨Tryz.f174.name, by decide, Tryz.func174.trans (congrArg some (by kernel_rfl))⟩
  f13 := ⟨Tryz.f175.name, by decide, Tryz.func175.trans (congrArg some (by kernel_rfl))⟩
  f14 := ⟨Tryz.f176.name, by decide, Tryz.func176.trans (congrArg some (by kernel_rfl))⟩
  f15 := ⟨Tryz.f177.name, by decide, Tryz.func177.trans (congrArg some (by kernel_rfl))⟩
  f16 := ⟨Tryz.f178.name, by decide, Tryz.func178.trans (congrArg some (by kernel_rfl))⟩
  f17 := ⟨Tryz.f179.name, by decide, Tryz.func179.trans (congrArg some (by kernel_rfl))⟩
  f18 := ⟨Tryz.f180.name, by decide, Tryz.func180.trans (congrArg some (by kernel_rfl))⟩
  f19 := Tryz.func63.trans (congrArg some (by kernel_rfl))
  f20 := Tryz.func64.trans (congrArg some (by kernel_rfl))
  f30 := ⟨Tryz.f189.name, by decide, Tryz.func189.trans (congrArg some (by kernel_rfl))⟩
  f31 := Tryz.func88.trans (congrArg some (by kernel_rfl))
  f32 := Tryz.func89.trans (congrArg some (by kernel_rfl))
  f33 := ⟨Tryz.f190.name, by decide, Tryz.func190.trans (congrArg some (by kernel_rfl))⟩
  f34 := ⟨Tryz.f191.name, by decide, Tryz.func191.trans (congrArg some (by kernel_rfl))⟩
  f35 := ⟨Tryz.f47.name, by decide, Tryz.func47.trans (congrArg some (by kernel_rfl))⟩
  f40 := ⟨Tryz.f197.name, by decide, Tryz.func197.trans (congrArg some (by kernel_rfl))⟩
  t0 := Tryz.underlying0
  a0 := Tryz.isAgg0
  z0 := Tryz.sizeOf0
  v0 := Tryz.zeroValue0
  t3 := Tryz.underlying3
  a3 := Tryz.isAgg3
  z3 := Tryz.sizeOf3
  v3 := Tryz.zeroValue3
  t4 := Tryz.underlying4
  a4 := Tryz.isAgg4
  z4 := Tryz.sizeOf4
  v4 := Tryz.zeroValue4
  t5 := Tryz.underlying5
  a5 := Tryz.isAgg5
  z5 := Tryz.sizeOf5
  v5 := Tryz.zeroValue5
  t9 := Tryz.underlying9
  a9 := Tryz.isAgg9
  z9 := Tryz.sizeOf9
  v9 := Tryz.zeroValue9
  t22 := Tryz.underlying91
  a22 := Tryz.isAgg91
  z22 := Tryz.sizeOf91
  v22 := Tryz.zeroValue91
  t23 := Tryz.underlying91
  a23 := Tryz.isAgg91
  z23 := Tryz.sizeOf91
  v23 := Tryz.zeroValue91
  t25 := Tryz.underlying3
  a25 := Tryz.isAgg3
  z25 := Tryz.sizeOf3
  v25 := Tryz.zeroValue3
  t32 := Tryz.underlying110
  a32 := Tryz.isAgg110
  z32 := Tryz.sizeOf110
  v32 := Tryz.zeroValue110
  t35 := Tryz.underlying134
  a35 := Tryz.isAgg134
  z35 := Tryz.sizeOf134
  v35 := Tryz.zeroValue134
  t36 := Tryz.underlying135
  a36 := Tryz.isAgg135
  z36 := Tryz.sizeOf135
  v36 := Tryz.zeroValue135
  t41 := Tryz.underlying117
  a41 := Tryz.isAgg117
  z41 := Tryz.sizeOf117
  v41 := Tryz.zeroValue117
  t44 := Tryz.underlying141
  a44 := Tryz.isAgg141
  z44 := Tryz.sizeOf141
  v44 := Tryz.zeroValue141
  t46 := Tryz.underlying143
  a46 := Tryz.isAgg143
  z46 := Tryz.sizeOf143
  v46 := Tryz.zeroValue143
  t53 := Tryz.underlying167
  a53 := Tryz.isAgg167
  z53 := Tryz.sizeOf167
  v53 := Tryz.zeroValue167
  t57 := Tryz.underlying171
  a57 := Tryz.isAgg171
  z57 := Tryz.sizeOf171
  v57 := Tryz.zeroValue171
  t63 := Tryz.underlying201
  a63 := Tryz.isAgg201
  z63 := Tryz.sizeOf201
  v63 := Tryz.zeroValue201
  t64 := Tryz.underlying202
  a64 := Tryz.isAgg202
  z64 := Tryz.sizeOf202
  v64 := Tryz.zeroValue202 }
def Tryz.lay15_ren : Go.Shelf.Ren := ⟨fun | 6 => 15 | 15 => 37 | 14 => 36 | 28 => 63 | 29 => 64 | 20 => 55 | 21 => 56 | 22 => 57 | 23 => 58 | 24 => 59 | 25 => 60 | 26 => 61 | 27 => 62 | 46 => 87 | 47 => 88 | 48 => 89 | 49 => 90 | 50 => 91 | 57 => 120 | n => n, fun | 22 => 33 | 24 => 43 | 25 => 54 | 3 => 3 | 39 => 110 | 0 => 0 | 53 => 141 | 55 => 143 | 4 => 4 | 46 => 135 | 45 => 134 | 50 => 117 | 5 => 5 | 9 => 9 | 66 => 167 | 70 => 171 | 76 => 201 | 77 => 202 | n => n, fun | n => n⟩
theorem Tryz.lay15 : Go.Proofs.SlLaysF0.n6 Tryz.prog Tryz.lay15_ren := {
  mixed := by kernel_rfl
  f6 := ⟨Tryz.f15.name, by decide, Tryz.func15.trans (congrArg some (by kernel_rfl))⟩
  f14 := ⟨Tryz.f36.name, by decide, Tryz.func36.trans (congrArg some (by kernel_rfl))⟩
  f15 := Tryz.func37.trans (congrArg some (by kernel_rfl))
  f20 := ⟨Tryz.f55.name, by decide, Tryz.func55.trans (congrArg some (by kernel_rfl))⟩
  f21 := ⟨Tryz.f56.name, by decide, Tryz.func56.trans (congrArg some (by kernel_rfl))⟩
  f22 := ⟨Tryz.f57.name, by decide, Tryz.func57.trans (congrArg some (by kernel_rfl))⟩
  f23 := ⟨Tryz.f58.name, by decide, Tryz.func58.trans (congrArg some (by kernel_rfl))⟩
  f24 := ⟨Tryz.f59.name, by decide, Tryz.func59.trans (congrArg some (by kernel_rfl))⟩
  f25 := ⟨Tryz.f60.name, by decide, Tryz.func60.trans (congrArg some (by kernel_rfl))⟩
  f26 := ⟨Tryz.f61.name, by decide, Tryz.func61.trans (congrArg some (by kernel_rfl))⟩
  f27 := ⟨Tryz.f62.name, by decide, Tryz.func62.trans (congrArg some (by kernel_rfl))⟩
  f28 := Tryz.func63.trans (congrArg some (by kernel_rfl))
  f29 := Tryz.func64.trans (congrArg some (by kernel_rfl))
  f46 := ⟨Tryz.f87.name, by decide, Tryz.func87.trans (congrArg some (by kernel_rfl))⟩
  f47 := Tryz.func88.trans (congrArg some (by kernel_rfl))
  f48 := Tryz.func89.trans (congrArg some (by kernel_rfl))
  f49 := ⟨Tryz.f90.name, by decide, Tryz.func90.trans (congrArg some (by kernel_rfl))⟩
  f50 := ⟨Tryz.f91.name, by decide, Tryz.func91.trans (congrArg some (by kernel_rfl))⟩
  f57 := ⟨Tryz.f120.name, by decide, Tryz.func120.trans (congrArg some (by kernel_rfl))⟩
  t0 := Tryz.underlying0
  a0 := Tryz.isAgg0
  z0 := Tryz.sizeOf0
  v0 := Tryz.zeroValue0
  t3 := Tryz.underlying3
  a3 := Tryz.isAgg3
  z3 := Tryz.sizeOf3
  v3 := Tryz.zeroValue3
  t4 := Tryz.underlying4
  a4 := Tryz.isAgg4
  z4 := Tryz.sizeOf4
  v4 := Tryz.zeroValue4
  t5 := Tryz.underlying5
  a5 := Tryz.isAgg5
  z5 := Tryz.sizeOf5
  v5 := Tryz.zeroValue5
  t9 := Tryz.underlying9
  a9 := Tryz.isAgg9
  z9 := Tryz.sizeOf9
  v9 := Tryz.zeroValue9
  t22 := Tryz.underlying33
  a22 := Tryz.isAgg33
  z22 := Tryz.sizeOf33
  v22 := Tryz.zeroValue33
  t25 := Tryz.underlying54
  a25 := Tryz.isAgg54
  z25 := Tryz.sizeOf54
  v25 := Tryz.zeroValue54
  t39 := Tryz.underlying110
  a39 := Tryz.isAgg110
  z39 := Tryz.sizeOf110
  v39 := Tryz.zeroValue110
  t45 := Tryz.underlying134
  a45 := Tryz.isAgg134
  z45 := Tryz.sizeOf134
  v45 := Tryz.zeroValue134
  t46 := Tryz.underlying135
  a46 := Tryz.isAgg135
  z46 := Tryz.sizeOf135
  v46 := Tryz.zeroValue135
  t50 := Tryz.underlying117
  a50 := Tryz.isAgg117
  z50 := Tryz.sizeOf117
  v50 := Tryz.zeroValue117
  t53 := Tryz.underlying141
  a53 := Tryz.isAgg141
  z53 := Tryz.sizeOf141
  v53 := Tryz.zeroValue141
  t55 := Tryz.underlying143
  a55 := Tryz.isAgg143
  z55 := Tryz.sizeOf143
  v55 := Tryz.zeroValue143
  t66 := Tryz.underlying167
  a66 := Tryz.isAgg167
  z66 := Tryz.sizeOf167
  v66 := Tryz.zeroValue167
  t70 := Tryz.underlying171
  a70 := Tryz.isAgg171
  z70 := Tryz.sizeOf171
  v70 := Tryz.zeroValue171
  t76 := Tryz.underlying201
  a76 := Tryz.isAgg201
  z76 := Tryz.sizeOf201
  v76 := Tryz.zeroValue201
  t77 := Tryz.underlying202
  a77 := Tryz.isAgg202
  z77 := Tryz.sizeOf202
  v77 := Tryz.zeroValue202 }
end Go.Proofs
namespace Go.Gk
open Go IntKind Go.Proofs
variable (N:Nat){E w:aW}{i0 i1 i2:Nat}{p1 p2 p3 res:Int}{v0 v1 v2:aV}{V:aL HP}
theorem nC{p0:cN}(o:Holds E w V)(j:iL N p0 p1=some res):c_ 155 [str p0,(.int .u8 p1)] w<|aG E V res:=by
 unfold iL at j;refine enter Tryz.func155 zr zr<|w_<|aJ 0<|IN<|mv (str p0)<|mv (.int .u8 p1)<|XR (vi<|Lib.indexByte p0.dA (jQ p1).toUInt8) zr [str p0,(.int .u8 p1)] zr (Dw p0 p1 w)<|aJ (Lib.indexByte p0.dA (jQ p1).toUInt8)<|AS ?_;exact VN<|oi j▸bT ⟨rfl,o.drop 0⟩
theorem vD{p0:cN}(o:Holds E w V)(j:i9 N p0 p1=some res):c_ 132 [str p0,(.int .u8 p1)] w<|aG E V res:=by
 unfold i9 at j;exact enter Tryz.func132 zr zr<|w_<|aJ 0<|IN<|mv (str p0)<|mv (.int .u8 p1)<|q_ j λaa ab j=>VM O3 (nC N (p0:=p0) (p1:=p1) o ab) λw o=>aJ aa<|AS<|VN<|oi j▸bT ⟨rfl,o.drop 0⟩
theorem mg{p0:cN}{res:Bool}(hw:Holds E w V)(o:gI N p0=some res):c_ 98 [str p0] w<|bE E V res:=by
 unfold gI at o;refine enter Tryz.func98 zr zr<|w_<|bV false<|IT<|w_<|mv (str p0)<|Xa p0 Bg<|aO 0<|AS<|WJ E V (λ(ag:Unit)=>[]) (λ_=>[(0,str p0)]) (λad _=>[(6,vi p0.dA.length),(7,vi ad)]) (λr=>ml aX 49 Tryz.f98 (bE E V r) .ret) o ?_ ?_ ?_ ?_;exact hw.sp 0 [];rintro hm ad ag fl _ w hk⟨O,rfl,hw⟩o;refine IS<|VW<|aO (ad:Int)<|aJ (ad:Int)<|IN<|mv (str p0)<|aO (ad:Int)<|q_ o λj ak o=>XM p0 (ad:Int) j zr zr zr Bg ak<|dN (.int .u8 (j.toNat:Int))<|IT ?_;refine q_ o λaf hj o=>VR (λ(af:Bool)=>SH E V [(0,str p0),(6,vi p0.dA.length),(7,vi ad),(39,vb af)] []) af ?_ ?_;refine BY<|mv (.int .u8 (j.toNat:Int))<|ic ((j.toNat:Int)) 65<|fY (jP<|(j.toNat:Int)<65)<|Wb (.int .u8 (j.toNat:Int)) zr zr tR<|Wb (vb<|jP<|(j.toNat:Int)>90) zr zr (u9 .gtr)<|Wl (b:=jP<|(j.toNat:Int)<65) (v:=vb<|jP ((j.toNat:Int)<65)||jP ((j.toNat:Int)>90)) zt zr zr (sU true)<|fY (jP ((j.toNat:Int)<65)||jP ((j.toNat:Int)>90))<|Wb (.int .u8 (j.toNat:Int)) zr zr tR ?_;refine Wb (vb<|jP<|(j.toNat:Int)<97) zr zr (u9 .lss)<|Wb (vb<|jP<|(j.toNat:Int)<97) zr zr tR<|Wy (.int .u8 (j.toNat:Int)) zr zr tR<|Wy (vb<|jP<|(j.toNat:Int)>122) zr zr (u9 .gtr)<|Wb (vb<|jP ((j.toNat:Int)<97)||jP ((j.toNat:Int)>122)) zr zr Q2<|Wl (b:=jP ((j.toNat:Int)<65)||jP ((j.toNat:Int)>90)) (v:=vb<|(jP ((j.toNat:Int)<65)||jP ((j.toNat:Int)>90))&&(jP ((j.toNat:Int)<97)||jP ((j.toNat:Int)>122))) zt zr zr (kc true)<|fY ((jP ((j.toNat:Int)<65)||jP ((j.toNat:Int)>90))&&(jP ((j.toNat:Int)<97)||jP ((j.toNat:Int)>122)))<|Wb (.int .u8 (j.toNat:Int)) zr zr tR<|Wb (vb<|jP<|(j.toNat:Int)<48) zr zr (u9 .lss) ?_;refine Wb (vb<|jP<|(j.toNat:Int)<48) zr zr tR<|Wy (.int .u8 (j.toNat:Int)) zr zr tR<|Wy (vb<|jP<|(j.toNat:Int)>57) zr zr (u9 .gtr)<|Wb (vb<|jP ((j.toNat:Int)<48)||jP ((j.toNat:Int)>57)) zr zr Q2<|Wl (b:=(jP ((j.toNat:Int)<65)||jP ((j.toNat:Int)>90))&&(jP ((j.toNat:Int)<97)||jP ((j.toNat:Int)>122))) (v:=vb<|((jP ((j.toNat:Int)<65)||jP ((j.toNat:Int)>90))&&(jP ((j.toNat:Int)<97)||jP ((j.toNat:Int)>122)))&&(jP ((j.toNat:Int)<48)||jP ((j.toNat:Int)>57))) zt zr zr (kc true)<|fY (((jP ((j.toNat:Int)<65)||jP ((j.toNat:Int)>90))&&(jP ((j.toNat:Int)<97)||jP ((j.toNat:Int)>122)))&&(jP ((j.toNat:Int)<48)||jP ((j.toNat:Int)>57)))<|fx hj (λab hj=>?_) λab hj=>?_;refine VK (.int .u8 (j.toNat:Int)) (cg ab)<|q_ hj λah al hj=>VM (gr Tryz.func132) (vD N (p0:=⟨[95,43,45,35]⟩) (p1:=(j.toNat:Int)) hw al) λw hw=>Ws ah 0 (cg ab)<|fw ab (vb<|ah<0)<|By ?_;exact oi hj▸⟨rfl,hw.sp 0 []⟩;exact bH ab<|bH ab<|bH ab<|fw ab (vb false)<|By<|oi hj▸⟨rfl,hw.sp 0 []⟩;rintro _ w⟨O,rfl,hw⟩;refine aD<|dM o (λo=>?_) λo=>?_;exact w_<|bV false<|AS<|Wm<|bJ<|oi o▸⟨rfl,bT ⟨rfl,hw.drop 0⟩⟩;exact Wc<|bI<|aD<|BY<|Wa hk hm<|aO ((ad+1:Nat):Int)<|By<|oi o▸⟨rfl,hw.sp 0 []⟩;intro r U w o hK;exact bJ<|oi o▸hK;rintro ag _ w o⟨O,rfl,hw⟩;refine aD<|w_<|mv (str p0)<|Xa p0 Bg<|ic ((p0.dA.length:Int)) 1<|fY (jP<|(p0.dA.length:Int)>=1)<|Wb (str p0) rfl rfl tR<|Wk true (jP<|(p0.dA.length:Int)>=1) (vi p0.dA.length) rfl rfl rfl (NQ (s:=p0) rfl (by exact z_ (str p0)) Bg)<|Wb (vb<|jP<|(p0.dA.length:Int)<=40) rfl rfl (u9 .leq) ?_;exact Wl (b:=jP<|(p0.dA.length:Int)>=1) (v:=vb<|jP ((p0.dA.length:Int)>=1)&&jP ((p0.dA.length:Int)<=40)) zt zr zr (kc true)<|bV (jP ((p0.dA.length:Int)>=1)&&jP ((p0.dA.length:Int)<=40))<|AS<|VN<|oi o▸bT ⟨rfl,hw.drop 0⟩
theorem tk{p0 p1:dG}{res:Bool}(j:Holds E w V)(h0:fC V i0 v0 p0)(h1:fI V i1 v1 p1)(hb:gh N p0 p1=some res):c_ 140 [v0,v1] w<|bE E V res:=by
 unfold gh at hb;refine enter Tryz.func140 zr zr ?_;have j:=(j.dup (i0+0) h0).rm (i:=i1+1) h1;refine w_<|V7 1 v0 j zr λaf w j=>?_;refine bV false<|IT<|q_ hb λae hj hb=>VR (λ(ae:Bool)=>SH E V [(3,vb ae)] []) ae ?_ ?_;refine BY<|Wo 1 j zr zb oM λag j=>Wd p1.bM 0 j cV<|ic p1.bM 0<|fY (jP<|p1.bM>0)<|fx hj (λo hj=>?_) λo hj=>?_;refine AT zr zb<|VL 1 j zr oM cV<|Wo 2 j zr zb oM λah j=>Wd p1.bM 0 j cV<|Ws p0.bM p1.bM (cg o)<|fw o (vb<|p0.bM==p1.bM)<|fY (p0.bM==p1.bM)<|fx hj (λaa hj=>?_) λaa hj=>?_;refine AT zr BF<|VL 2 j zr qS cV<|Wo 3 j zr BF qS λai j=>Wd p1.Kind 0 j cV<|Ws p0.Kind p1.Kind (cg aa)<|fw aa (vb<|p0.Kind != p1.Kind)<|bV (p0.Kind != p1.Kind)<|By ?_;exact oi hj▸⟨rfl,j.sp 6 []⟩;exact bH aa<|bH aa<|bH aa<|bH aa<|bH aa<|fw aa (vb false)<|bV false<|By<|oi hj▸⟨rfl,j.sp 5 []⟩;refine bH o<|bH o<|bH o<|bH o<|bH o<|fw o (vb false)<|fY false<|kH<|kH<|kH<|kH<|kH<|Wl (b:=false) (v:=vb false) zt zr zr zr<|bV false<|By ?_;exact oi hj▸⟨rfl,j.sp 4 []⟩;rintro _ w⟨O,rfl,j⟩;exact aD<|VN<|oi hb▸bT ⟨rfl,j.drop 0⟩
theorem qV{p0:aL dG}{p1:dG->aU Bool}(o:Holds E w V)(h0:fC V i0 v0 p0)(h1:Jb aX E V v1 p1 (λ(r:Bool)=>Value.bool r))(j:kF N p0 p1=some res):c_ 160 [v0,v1] w<|aG E V res:=by
 unfold kF at j;refine enter Tryz.func160 zr zr ?_;have o:=o.dup (i0+0) h0;refine w_<|aJ 0<|IT<|w_<|mv v0<|VP 0 p0 o Eh<|aO 0<|AS<|WJ E V (λ(ab:Unit)=>[rd v0 p0]) (λ_=>[]) (λaa _=>[(0,v0),(1,v1),(7,vi p0.length),(8,vi aa)]) (λr=>ml aX 19 Tryz.f160 (aG E V r) .ret) j ?_ ?_ ?_ ?_;exact o.sp 1 [0];rintro hm aa ab fl _ w hk⟨O,rfl,o⟩j;refine IS<|VW<|aO (aa:Int)<|aJ (aa:Int)<|IN<|mv v1<|mv v0<|aO (aa:Int)<|q_ j λaf ag j=>VO 0 o Cl ag λak o=>VS 0 af o Cm λal o=>?_;refine q_ j λan ah j=>Xl 0 o h1 3 ah λw o=>AS<|dM j (λj=>?_) λj=>?_;exact w_<|aO (aa:Int)<|aJ (aa:Int)<|AS<|Wm<|bJ<|oi j▸⟨rfl,bT ⟨rfl,o.drop 3⟩⟩;exact Wc<|bI<|aD<|BY<|Wa hk hm<|aO ((aa+1:Nat):Int)<|By<|oi j▸⟨rfl,o.sp 3 [2]⟩;intro r U w j hK;exact bJ<|oi j▸hK;rintro ab _ w j⟨O,rfl,o⟩;exact aD<|w_<|aJ (-1)<|AS<|VN<|oi j▸bT ⟨rfl,o.drop 1⟩
theorem pD{p0:aL dG}{p1:dG->aU Bool}{res:Bool}(j:Holds E w V)(h0:fC V i0 v0 p0)(h1:Jb aX E V v1 p1 (λ(r:Bool)=>Value.bool r))(o:g9 N p0 p1=some res):c_ 139 [v0,v1] w<|bE E V res:=by
 unfold g9 at o;refine enter Tryz.func139 zr zr ?_;have j:=j.dup (i0+0) h0;refine w_<|bV false<|IN<|mv v0<|mv v1<|q_ o λaa ab o=>VM (gr Tryz.func160) (qV N (i0:=0) j zr (h1.lift 1 zr) ab) λw j=>ic aa 0<|bV (jP<|aa>=0)<|AS<|VN ?_;exact oi o▸bT ⟨rfl,j.drop 1⟩
def qJ(E:aW)(V:aL HP)(r:Int)(U:Nat->aV)(w:aW):Prop:=ml aX 71 Tryz.f111 (aG E V r) .ret U w
theorem vE{p0:aL dG}(j:Holds E w V)(h0:fC V i0 v0 p0)(o:kn N p0=some res):c_ 111 [v0] w<|aG E V res:=by
 unfold kn at o;refine enter Tryz.func111 zr zr ?_;have j:=j.dup (i0+0) h0;refine w_<|aJ 0<|IT<|w_<|mv v0<|VP 0 p0 j Eh<|ic ((p0.length:Int)) 0<|AS<|dM o (λo=>?_) λo=>?_;exact w_<|aJ 9<|AS<|V4<|oi o▸bT ⟨rfl,j.drop 1⟩;refine We<|w_<|mv v0<|VP 0 p0 j Eh<|ic ((p0.length:Int)) 200<|AS<|dM o (λo=>?_) λo=>?_;exact w_<|aJ 2<|AS<|V4<|oi o▸bT ⟨rfl,j.drop 1⟩;refine We<|w_<|mv v0<|VP 0 p0 j Eh<|aO 0<|AS<|WJ E V (λ(al:Unit)=>[rd v0 p0]) (λ_=>[(0,v0)]) (λad _=>[(13,v0),(14,vi p0.length),(15,vi ad)]) (qJ E V) o ?_ ?_ ?_ ?_;exact j.sp 1 [0];rintro hm ad al fl _ w hk⟨O,rfl,j⟩o;refine IS<|VW<|aO (ad:Int)<|q_ o λaa au o=>VO 0 j Cl au λa1 j=>VS 0 aa j Cm λa2 j=>V9 j O5.z λaf w j=>?_;refine aJ (ad:Int)<|V5 0 j 1 zr Cm λw j=>?_;refine AS<|VW<|AT zr BE<|VL 0 j zr qR ri<|q_ o λan av o=>VM N9 (mg N (p0:=aa.Name) j av) λw j=>Wr an<|bV (!an)<|AS<|dM o (λo=>?_) λo=>?_;exact w_<|aJ 5<|AS<|Wm<|fU<|bJ<|oi o▸⟨rfl,bT ⟨rfl,j.drop 4⟩⟩;refine w_<|AT rfl BF<|VL 0 j rfl qS cV<|ic aa.Kind 1<|fY (jP<|aa.Kind<1)<|Wk true (aa.Kind<1) (vp af 1) rfl rfl rfl (eF BF)<|Wk true (aa.Kind<1) (vi aa.Kind) rfl rfl rfl (cA 0 rfl j (by exact z_ (vp af 1)) rfl qS cV)<|Wb (vb<|aa.Kind>7) rfl rfl (u9 .gtr)<|Wl (b:=jP<|aa.Kind<1) (v:=vb<|jP (aa.Kind<1)||jP (aa.Kind>7)) trivial rfl rfl (sU true) ?_;refine bV (jP (aa.Kind<1)||jP (aa.Kind>7))<|AS<|dM o (λo=>?_) λo=>?_;exact w_<|aJ 4<|AS<|Wm<|fU<|bJ<|oi o▸⟨rfl,bT ⟨rfl,j.drop 4⟩⟩;refine w_<|AT rfl zb<|VL 0 j rfl oM cV<|ic aa.bM 0<|fY (jP<|aa.bM<0)<|Wk true (aa.bM<0) (vp af 2) rfl rfl rfl (eF zb)<|Wk true (aa.bM<0) (vi aa.bM) rfl rfl rfl (cA 0 rfl j (by exact z_ (vp af 2)) rfl oM cV)<|Wb (vb<|aa.bM>200) rfl rfl (u9 .gtr)<|Wl (b:=jP<|aa.bM<0) (v:=vb<|jP (aa.bM<0)||jP (aa.bM>200)) trivial rfl rfl (sU true) ?_;refine bV (jP (aa.bM<0)||jP (aa.bM>200))<|AS<|dM o (λo=>?_) λo=>?_;exact w_<|aJ 1<|AS<|Wm<|fU<|bJ<|oi o▸⟨rfl,bT ⟨rfl,j.drop 4⟩⟩;refine IS<|q_ o λaj hj o=>VR (λ(aj:Bool)=>SH E V [(0,v0),(13,v0),(14,vi p0.length),(15,vi ad),(43,vb aj)] [rd v0 p0]) aj ?_ ?_;refine WD mixed ?_;have j:=j.drew;refine WC<|aO (ad:Int)<|AI<|ic ((ad:Int)) 0<|AI<|fY (jP<|(ad:Int)>0)<|fx hj (λab hj=>?_) λab hj=>?_;refine AI<|AT zr BE<|AI<|VL 0 j zr qR ri<|AI<|VK v0 (cg ab)<|AI<|VK (vi ad) (cg ab)<|AI<|OF (ad:Int) 1<|AI ?_;refine q_ hj λB8 aw hj=>VO 3 j Cl aw λa3 j=>AI<|Wo 0 j zr BE qR λa4 j=>AI<|Wd B8.Name 0 j ri<|AI<|Xw aa.Name B8.Name (cg ab) zr zr zr zr<|AI<|fw ab (vb<|aa.Name.BV B8.Name||aa.Name.u5 B8.Name)<|AI<|bV (aa.Name.BV B8.Name||aa.Name.u5 B8.Name)<|Wt ?_;exact oi hj▸⟨rfl,j.sp 6 [5]⟩;refine AI<|bH ab<|AI<|bH ab<|AI<|bH ab<|AI<|bH ab<|AI<|bH ab<|AI<|bH ab<|AI<|bH ab<|AI<|bH ab<|AI<|bH ab ?_;exact AI<|fw ab (vb false)<|AI<|bV false<|Wt<|oi hj▸⟨rfl,j.sp 4 [3]⟩;rintro _ w⟨O,rfl,j⟩;refine aD<|dM o (λo=>?_) λo=>?_;exact w_<|aJ 8<|AS<|Wm<|fU<|bJ<|oi o▸⟨rfl,bT ⟨rfl,j.drop 1⟩⟩;exact Wc<|bI<|bI<|aD<|BY<|Wa hk hm<|aO ((ad+1:Nat):Int)<|By<|oi o▸⟨rfl,j.sp 1 [0]⟩;intro r U w o hK;exact bJ<|oi o▸hK;rintro al _ w o⟨O,rfl,j⟩;refine aD<|IS<|w_<|mv v0<|VP 0 p0 j Eh<|aO 0<|AS<|WJ E V (λ(ao:Unit)=>[rd v0 p0]) (λ_=>[]) (λag _=>[(0,v0),(58,v0),(59,vi p0.length),(60,vi ag)]) (qJ E V) o ?_ ?_ ?_ ?_;exact j.sp 1 [0];rintro hm ag ao fl _ w hk⟨O,rfl,j⟩o;refine IS<|VW<|aO (ag:Int)<|q_ o λax ay o=>VO 0 j Cl ay λa5 j=>VS 0 ax j Cm λa6 j=>V9 j O5.z λaq w j=>?_;refine aJ (ag:Int)<|V5 0 j 1 zr Cm λw j=>?_;refine IN<|mv v0<|aO (ag:Int)<|q_ o λa7 az o=>Xo (hl:= .inr ⟨rfl,zr⟩) 3 j Cl (.inl zr) az λa8 j=>?_;have j:=j.fM (i:=1) rfl;refine Xc [vp aq 0] ?_;refine q_ o λa9 a0 o=>VM (gr Tryz.func139) (pD N (i0:=0) j rfl ⟨140,[vp aq 0],rfl,(gr Tryz.func140),λw Γl v y0 r i j hi hr=>by exact eA (tk N (i0:=i) (i1:=Γl.length+1) j hi x4 hr) λ_ _ h=>h⟩ a0) λw j=>AS<|dM o (λo=>?_) λo=>?_;exact w_<|aJ 12<|AS<|Wm<|bJ<|oi o▸⟨rfl,bT ⟨rfl,j.drop 5⟩⟩;exact Wc<|bI<|aD<|BY<|Wa hk hm<|aO ((ag+1:Nat):Int)<|By<|oi o▸⟨rfl,j.sp 5 [4]⟩;intro r U w o hK;exact bJ<|oi o▸hK;rintro ao _ w o⟨O,rfl,j⟩;exact aD<|w_<|aJ 0<|AS<|VN<|oi o▸bT ⟨rfl,j.drop 1⟩
theorem uL{p0:aL aY}(j:Holds E w V)(h0:fC V i0 v0 p0)(o:jR N p0=some res):c_ 76 [v0] w<|aG E V res:=by
 unfold jR at o;refine enter Tryz.func76 zr zr ?_;have j:=j.dup (i0+0) h0;refine w_<|aJ 0<|IT<|w_<|mv v0<|VP 0 p0 j PV<|ic ((p0.length:Int)) 200<|AS<|dM o (λo=>?_) λo=>?_;exact w_<|aJ 2<|AS<|V4<|oi o▸bT ⟨rfl,j.drop 1⟩;refine We<|w_<|mv v0<|VP 0 p0 j PV<|aO 0<|AS<|WJ E V (λ(ai:Unit)=>[rd v0 p0]) (λ_=>[]) (λab _=>[(0,v0),(9,v0),(10,vi p0.length),(11,vi ab)]) (λr=>ml aX 40 Tryz.f76 (aG E V r) .ret) o ?_ ?_ ?_ ?_;exact j.sp 1 [0];rintro hm ab ai fl _ w hk⟨O,rfl,j⟩o;refine IS<|VW<|aO (ab:Int)<|q_ o λae al o=>VO 0 j L6 al λaw j=>VS 0 ae j GM λax j=>V9 j Q4.z λay w j=>?_;refine aJ (ab:Int)<|V5 0 j 1 zr GM λw j=>?_;refine IT<|w_<|AT zr BD<|VL 0 j zr pN ri<|q_ o λan ao o=>VM N9 (mg N (p0:=ae.Name) j ao) λw j=>Wr an<|AS<|dM o (λo=>?_) λo=>?_;exact w_<|aJ 5<|AS<|V4<|fU<|bJ<|oi o▸⟨rfl,bT ⟨rfl,j.drop 4⟩⟩;refine We<|w_<|AT zr Ju<|Wh 0 j zr xK O4 λaz j=>?_;refine q_ o λaf aq o=>VM (gr Tryz.func111) (vE N (i0:=0) j zr aq) λw j=>aJ af<|IN<|aO af<|ic af 0<|AS<|dM o (λo=>?_) λo=>?_;exact w_<|aO af<|aJ af<|AS<|V4<|fU<|bJ<|oi o▸⟨rfl,bT ⟨rfl,j.drop 5⟩⟩;refine We<|q_ o λah hj o=>VR (λ(ah:Bool)=>SH E V [(0,v0),(9,v0),(10,vi p0.length),(11,vi ab),(38,vb ah)] [rd v0 p0]) ah ?_ ?_;refine WD mixed ?_;have j:=j.drew;refine WC<|aO (ab:Int)<|AI<|ic ((ab:Int)) 0<|AI<|fY (jP<|(ab:Int)>0)<|fx hj (λaa hj=>?_) λaa hj=>?_;refine AI<|AT zr BD<|AI<|VL 1 j zr pN ri<|AI<|VK v0 (cg aa)<|AI<|VK (vi ab) (cg aa)<|AI<|OF (ab:Int) 1<|AI ?_;refine q_ hj λag ar hj=>VO 4 j L6 ar λa0 j=>AI<|Wo 0 j zr BD pN λa1 j=>AI<|Wd ag.Name 0 j ri<|AI<|Xw ae.Name ag.Name (cg aa) zr zr zr zr<|AI<|fw aa (vb<|ae.Name.BV ag.Name||ae.Name.u5 ag.Name)<|Wt ?_;exact oi hj▸⟨rfl,j.sp 7 [6]⟩;refine AI<|bH aa<|AI<|bH aa<|AI<|bH aa<|AI<|bH aa<|AI<|bH aa<|AI<|bH aa<|AI<|bH aa<|AI<|bH aa<|AI<|bH aa ?_;exact AI<|fw aa (vb false)<|Wt<|oi hj▸⟨rfl,j.sp 5 [4]⟩;rintro _ w⟨O,rfl,j⟩;refine aD<|dM o (λo=>?_) λo=>?_;exact w_<|aJ 8<|AS<|Wm<|bJ<|oi o▸⟨rfl,bT ⟨rfl,j.drop 1⟩⟩;exact Wc<|bI<|aD<|BY<|Wa hk hm<|aO ((ab+1:Nat):Int)<|By<|oi o▸⟨rfl,j.sp 1 [0]⟩;intro r U w o hK;exact bJ<|oi o▸hK;rintro ai _ w o⟨O,rfl,j⟩;exact aD<|w_<|aJ 0<|AS<|VN<|oi o▸bT ⟨rfl,j.drop 1⟩
theorem lE{p0:aL aY}{p1:cN}{p2:aY->cN->aU Int}{res:Int×Bool}(o:Holds E w V)(h0:fC V i0 v0 p0)(h2:ES aX E V v2 p2 (λ(r:Int)=>Value.int .i64 r))(hb:eI N p0 p1 p2=some res):c_ 141 [v0,str p1,v2] w<|eD E V res:=by
 unfold eI at hb;refine enter Tryz.func141 zr zr ?_;have o:=o.dup (i0+0) h0;refine w_<|aJ 0<|bV false<|IN<|mv v0<|VP 0 p0 o PV<|aJ (p0.length:Int)<|IN<|aO (p0.length:Int)<|aJ 0<|aJ (p0.length:Int)<|IT<|WR E V (λ(j:Int×Int)=>[rd v0 p0]) (λj=>[(0,v0),(1,str p1),(2,v2),(8,vi p0.length),(9,vi j.1)]) (λj=>[(10,vi j.2)]) hb ?_ ?_ ?_;exact o.sp 1 [0];rintro j fl _ w⟨O,rfl,o⟩hb;refine IS<|w_<|aO j.1<|aO j.2<|ic j.1 j.2<|AS<|dM hb (λhb=>?_) λhb=>?_;refine WL<|VW<|aO j.1<|aO j.2<|OF j.1 j.2<|WX (cE<|j.1+j.2) ⟨_,zc⟩ qH<|W7 (.int .u64<|wrap .u64<|cE<|j.1+j.2) (.int .u64 1) (.int .u64<|Int.fdiv (wrap .u64<|cE<|j.1+j.2) 2) zr zr zr<|WX (Int.fdiv (wrap .u64<|cE<|j.1+j.2) 2) ⟨_,qH⟩ zc<|aJ (cE<|Int.fdiv (wrap .u64<|cE<|j.1+j.2) 2) ?_;refine IN<|mv v2<|mv v0<|aO (cE<|Int.fdiv (wrap .u64<|cE<|j.1+j.2) 2)<|q_ hb λah ai hb=>VO 0 o L6 ai λar o=>VS 0 ah o GM λau o=>mv (str p1) ?_;have o:=o.sc cN p1;refine q_ hb λaj ak hb=>W5 1 0 o h2 4 ak λw o=>ic aj 0<|AS<|q_ hb λae hj hb=>VR (λ(ae:Int×Int)=>SH E V [(0,v0),(1,str p1),(2,v2),(8,vi p0.length),(9,vi ae.1),(10,vi ae.2)] [rd v0 p0]) ae ?_ ?_;refine dM hj (λhj=>?_) λhj=>?_;refine BY<|aO (cE<|Int.fdiv (wrap .u64<|cE<|j.1+j.2) 2)<|OF (cE<|Int.fdiv (wrap .u64<|cE<|j.1+j.2) 2) 1<|aJ (cE<|cE (Int.fdiv (wrap .u64<|cE<|j.1+j.2) 2)+1)<|By ?_;exact oi hj▸⟨rfl,o.sp 4 [3]⟩;refine BY<|aO (cE<|Int.fdiv (wrap .u64<|cE<|j.1+j.2) 2)<|aJ (cE<|Int.fdiv (wrap .u64<|cE<|j.1+j.2) 2)<|By ?_;exact oi hj▸⟨rfl,o.sp 4 [3]⟩;rintro _ w⟨O,rfl,o⟩;exact bI<|oi hb▸⟨rfl,o.sp 1 [0]⟩;exact Wp<|oi hb▸⟨rfl,o.sp 1 [0]⟩;rintro j _ w hb⟨O,rfl,o⟩;refine aD<|IS<|q_ hb λaf hj hb=>VR (λ(af:Bool)=>SH E V [(6,vi j.1),(7,vb af)] []) af ?_ ?_;refine BY<|aO j.1<|aO j.1<|aO (p0.length:Int)<|ic j.1 ((p0.length:Int))<|fY (jP<|j.1<(p0.length:Int))<|fx hj (λaa hj=>?_) λaa hj=>?_;refine VK v2 (cg aa)<|VK v0 (cg aa)<|VK (vi j.1) (cg aa)<|q_ hj λal an hj=>VO 0 o L6 an λav o=>VS 0 al o GM λaw o=>VK (str p1) (cg aa) ?_;have o:=o.sc cN p1;refine q_ hj λag ao hj=>W5 (hg:=cg aa) 1 0 o h2 4 ao λw o=>Ws ag 0 (cg aa)<|fw aa (vb<|ag==0)<|aJ j.1<|bV (ag==0)<|By ?_;exact oi hj▸⟨rfl,o.sp 4 []⟩;refine bH aa<|bH aa<|bH aa<|bH aa<|bH aa<|bH aa<|bH aa<|bH aa<|fw aa (vb false)<|aJ j.1<|bV false<|By ?_;exact oi hj▸⟨rfl,o.sp 1 []⟩;rintro _ w⟨O,rfl,o⟩;exact aD<|VN<|oi hb▸ik ⟨rfl,o.drop 0⟩
theorem sL{p0 p1:cN}(o:Holds E w V)(j:l6 N p0 p1=some res):c_ 86 [str p0,str p1] w<|aG E V res:=by
 unfold l6 at j;refine enter Tryz.func86 zr zr<|w_<|aJ 0<|IN<|mv (str p0)<|mv (str p1)<|XR (vi<|Lib.compareBytes p0.dA p1.dA) zr [str p0,str p1] zr (Km p0 p1 w)<|aJ (Lib.compareBytes p0.dA p1.dA)<|AS ?_;exact VN<|oi j▸bT ⟨rfl,o.drop 0⟩
theorem j5{p0 p1:cN}(o:Holds E w V)(j:jq N p0 p1=some res):c_ 54 [str p0,str p1] w<|aG E V res:=by
 unfold jq at j;exact enter Tryz.func54 zr zr<|w_<|aJ 0<|IN<|mv (str p0)<|mv (str p1)<|q_ j λaa ab j=>VM (gr Tryz.func86) (sL N (p0:=p0) (p1:=p1) o ab) λw o=>aJ aa<|AS<|VN<|oi j▸bT ⟨rfl,o.drop 0⟩
theorem vG{p0:aY}{p1:cN}(j:Holds E w V)(h0:fC V i0 v0 p0)(o:ja N p0 p1=some res):c_ 142 [v0,str p1] w<|aG E V res:=by
 unfold ja at o;refine enter Tryz.func142 zr zr ?_;have j:=j.dup (i0+0) h0;refine w_<|V7 0 v0 j zr λad w j=>?_;exact aJ 0<|IN<|AT zr BD<|VL 0 j zr pN ri<|mv (str p1)<|q_ o λaa ab o=>VM L9 (j5 N (p0:=p0.Name) (p1:=p1) j ab) λw j=>aJ aa<|AS<|VN<|oi o▸bT ⟨rfl,j.drop 2⟩
theorem sg{p0:aL aY}{p1:cN}(hw:Holds E w V)(h0:fC V i0 v0 p0)(hb:kS N p0 p1=some res):c_ 112 [v0,str p1] w<|aG E V res:=by
 unfold kS at hb;refine enter Tryz.func112 zr zr ?_;have hw:=hw.dup (i0+0) h0;refine w_<|aJ 0<|IN<|mv v0<|mv (str p1) ?_;refine q_ hb λo ad hb=>VM (gr Tryz.func141) (lE N (p1:=p1) (i0:=0) hw rfl ⟨142,[],rfl,(gr Tryz.func142),λw Γl v v' y0 y1 r i j hw hi hj hr=>by obtain rfl:=hw.ve (γ:=cN) hj;exact eA (vG N (p1:=y1) (i0:=i) hw hi hr) λ_ _ h=>h⟩ ad) λw hw=>mv (.tuple #[vi o.1,vb o.2])<|V6 (vi o.1)<|V6 (vb o.2)<|aJ o.1<|bV o.2<|IT<|w_<|fY o.2 ?_;refine Wr o.2<|AS<|dM hb (λhb=>?_) λhb=>?_;exact w_<|aJ (-1)<|AS<|V4<|oi hb▸bT ⟨rfl,hw.drop 1⟩;exact Ww<|aO o.1<|aJ o.1<|AS<|VN<|oi hb▸bT ⟨rfl,hw.drop 1⟩
theorem uM{p0:aL aY}{p1:aL Part}{p2:cN->aU Bool}(j:Holds E w V)(h0:fC V i0 v0 p0)(h1:fC V i1 v1 p1)(h2:Jb aX E V v2 p2 (λ(r:Bool)=>Value.bool r))(o:jS N p0 p1 p2=some res):c_ 77 [v0,v1,v2] w<|aG E V res:=by
 unfold jS at o;refine enter Tryz.func77 zr zr ?_;have j:=(j.dup (i0+0) h0).dup (i1+1) h1;refine w_<|aJ 0<|IT<|w_<|mv v1<|VP 0 p1 j PW<|ic ((p1.length:Int)) 1000<|AS<|dM o (λo=>?_) λo=>?_;exact w_<|aJ 2<|AS<|V4<|oi o▸bT ⟨rfl,j.drop 2⟩;refine We<|w_<|mv v1<|VP 0 p1 j PW<|aO 0<|AS<|WJ E V (λ(ah:Unit)=>[rd v0 p0,rd v1 p1]) (λ_=>[]) (λab _=>[(0,v0),(1,v1),(2,v2),(12,v1),(13,vi p1.length),(14,vi ab)]) (λr=>ml aX 46 Tryz.f77 (aG E V r) .ret) o ?_ ?_ ?_ ?_;exact j.sp 2 [1,0];rintro hm ab ah fl _ w hk⟨O,rfl,j⟩o;refine IS<|VW<|aO (ab:Int)<|q_ o λad an o=>VO 1 j L8 an λaw j=>VS 0 ad j Jv λax j=>V9 j Rb.z λay w j=>?_;refine aJ (ab:Int)<|V5 0 j 1 zr Jv λw j=>?_;refine AS<|VW<|mv v2<|AT zr BG<|VL 0 j zr wI ri ?_;have j:=j.sc cN ad.Name;refine q_ o λai ao o=>Xl 0 j h2 6 ao λw j=>Wr ai<|bV (!ai)<|AS<|dM o (λo=>?_) λo=>?_;exact w_<|aJ 5<|AS<|Wm<|fU<|bJ<|oi o▸⟨rfl,bT ⟨rfl,j.drop 6⟩⟩;refine w_<|mv v0<|AT zr Jw<|VL 1 j zr Ee ri<|q_ o λaj aq o=>VM O6 (sg N (p1:=ad.pT) (i0:=4) j zr aq) λw j=>ic aj 0<|bV (jP<|aj<0)<|AS<|dM o (λo=>?_) λo=>?_;exact w_<|aJ 9<|AS<|Wm<|fU<|bJ<|oi o▸⟨rfl,bT ⟨rfl,j.drop 6⟩⟩;refine IS<|q_ o λag hj o=>VR (λ(ag:Bool)=>SH E V [(0,v0),(1,v1),(2,v2),(12,v1),(13,vi p1.length),(14,vi ab),(31,vb ag)] [rd v0 p0,rd v1 p1]) ag ?_ ?_;refine WD mixed ?_;have j:=j.drew;refine WC<|aO (ab:Int)<|AI<|ic ((ab:Int)) 0<|AI<|fY (jP<|(ab:Int)>0)<|fx hj (λaa hj=>?_) λaa hj=>?_;refine AI<|AT zr BG<|AI<|VL 1 j zr wI ri<|AI<|VK v1 (cg aa)<|AI<|VK (vi ab) (cg aa)<|AI<|OF (ab:Int) 1<|AI ?_;refine q_ hj λaf ar hj=>VO 5 j L8 ar λaz j=>AI<|Wo 0 j zr BG wI λa0 j=>AI<|Wd af.Name 0 j ri<|AI<|Xw ad.Name af.Name (cg aa) zr zr zr zr<|AI<|fw aa (vb<|ad.Name.BV af.Name||ad.Name.u5 af.Name)<|AI<|bV (ad.Name.BV af.Name||ad.Name.u5 af.Name)<|Wt ?_;exact oi hj▸⟨rfl,j.sp 8 [6,7]⟩;refine AI<|bH aa<|AI<|bH aa<|AI<|bH aa<|AI<|bH aa<|AI<|bH aa<|AI<|bH aa<|AI<|bH aa<|AI<|bH aa<|AI<|bH aa ?_;exact AI<|fw aa (vb false)<|AI<|bV false<|Wt<|oi hj▸⟨rfl,j.sp 6 [4,5]⟩;rintro _ w⟨O,rfl,j⟩;refine aD<|dM o (λo=>?_) λo=>?_;exact w_<|aJ 8<|AS<|Wm<|fU<|bJ<|oi o▸⟨rfl,bT ⟨rfl,j.drop 2⟩⟩;exact Wc<|bI<|bI<|aD<|BY<|Wa hk hm<|aO ((ab+1:Nat):Int)<|By<|oi o▸⟨rfl,j.sp 2 [0,1]⟩;intro r U w o hK;exact bJ<|oi o▸hK;rintro ah _ w o⟨O,rfl,j⟩;exact aD<|w_<|aJ 0<|AS<|VN<|oi o▸bT ⟨rfl,j.drop 2⟩
theorem vI{p0 p1:cN}(o:Holds E w V)(j:ko N p0 p1=some res):c_ 185 [str p0,str p1] w<|aG E V res:=by
 unfold ko at j;refine enter Tryz.func185 zr zr<|w_<|aJ 0<|IN<|mv (str p1)<|Xa p1 Bg<|aJ (p1.dA.length:Int)<|IT<|VW<|aO (p1.dA.length:Int)<|ic ((p1.dA.length:Int)) 0<|fY ((p1.dA.length:Int)==0)<|Wb (str p1) zr zr tR<|Wb (str p0) zr zr tR<|Wb (vb<|p1.u5 p0) zr zr (Vq .eql)<|Wl (b:=(p1.dA.length:Int)==0) (v:=vb<|((p1.dA.length:Int)==0)||p1.u5 p0) zt zr zr (sU true)<|bV (((p1.dA.length:Int)==0)||p1.u5 p0)<|AS ?_;refine dM j (λj=>?_) λj=>?_;exact w_<|aJ 0<|AS<|Wm<|bJ<|oi j▸bT ⟨rfl,o.drop 0⟩;refine w_<|aO (p1.dA.length:Int)<|ic ((p1.dA.length:Int)) 1<|bV ((p1.dA.length:Int)==1)<|AS<|dM j (λj=>?_) λj=>?_;exact w_<|mv (str p0)<|mv (str p1)<|q_ j λaa ab j=>XM p1 0 aa zr zr zr Bg ab<|q_ j λad ae j=>VM O3 (nC N (p0:=p0) (p1:=(aa.toNat:Int)) o ae) λw o=>aJ ad<|AS<|Wm<|bJ<|oi j▸bT ⟨rfl,o.drop 0⟩;refine w_<|aO (p1.dA.length:Int)<|mv (str p0)<|Xa p0 Bg<|ic ((p1.dA.length:Int)) ((p0.dA.length:Int))<|bV (jP<|(p1.dA.length:Int)>=(p0.dA.length:Int))<|AS<|dM j (λj=>?_) λj=>?_;exact w_<|aJ (-1)<|AS<|Wm<|bJ<|oi j▸bT ⟨rfl,o.drop 0⟩;cases j
theorem tl{p0 p1:cN}(o:Holds E w V)(j:lT N p0 p1=some res):c_ 163 [str p0,str p1] w<|aG E V res:=by
 unfold lT at j;exact enter Tryz.func163 zr zr<|w_<|aJ 0<|IN<|mv (str p0)<|mv (str p1)<|q_ j λaa ab j=>VM (gr Tryz.func185) (vI N (p0:=p0) (p1:=p1) o ab) λw o=>aJ aa<|AS<|VN<|oi j▸bT ⟨rfl,o.drop 0⟩
theorem Am{p0 p1:cN}(hw:Holds E w V)(j:nr N p0 p1=some res):c_ 162 [str p0,str p1] w<|aG E V res:=by
 unfold nr at j;refine enter Tryz.func162 zr zr<|w_<|aJ 0<|IT<|w_<|mv (str p1)<|Xa p1 Bg<|ic ((p1.dA.length:Int)) 0<|AS<|dM j (λj=>?_) λj=>?_;cases j;refine We<|w_<|mv (str p1)<|Xa p1 Bg<|ic ((p1.dA.length:Int)) 1<|AS<|dM j (λj=>?_) λj=>?_;exact w_<|mv (str p0)<|mv (str p1)<|q_ j λab ae j=>XM p1 0 ab zr zr zr Bg ae<|XR (vi ((Lib.countByte p0.dA (jQ (ab.toNat:Int)).toUInt8:Nat):Int)) zr [str p0,(.int .u8 (ab.toNat:Int))] zr (B8 p0 (ab.toNat:Int) w)<|aJ ((Lib.countByte p0.dA (jQ (ab.toNat:Int)).toUInt8:Nat):Int)<|AS<|V4<|oi j▸bT ⟨rfl,hw.drop 0⟩;refine Ww<|aJ 0<|AS<|Xr E V (λ(o:cN×Int)=>[]) (λ_=>[(4,vi 0)]) (λo=>[(0,str o.1),(1,str p1),(5,vi o.2)]) (λr=>ml aX 34 Tryz.f162 (aG E V r) .ret) j ?_ ?_ ?_ ?_;exact hw.sp 0 [];rintro o fl _ w⟨O,rfl,hw⟩j;refine VW<|mv (str o.1)<|mv (str p1)<|q_ j λad af j=>VM O7 (tl N (p0:=o.1) (p1:=p1) hw af) λw hw=>aJ ad<|IT<|w_<|aO ad<|ic ad ((-1))<|AS<|dM j (λj=>?_) λj=>?_;exact w_<|aO o.2<|aJ o.2<|AS<|V4<|fU<|oi j▸⟨rfl,bT ⟨rfl,hw.drop 0⟩⟩;refine Ww<|aO o.2<|OF o.2 1<|aJ (cE<|o.2+1)<|AS<|BY<|mv (str o.1)<|aO ad<|mv (str p1) ?_;refine Xa p1 Bg<|OF ad (p1.dA.length:Int)<|q_ j λag ah j=>XU o.1 zr zr Bg (.inl zr) (.inr ⟨rfl,zr⟩) ah<|dN (str ag)<|By<|bI ?_;exact oi j▸⟨rfl,hw.sp 0 []⟩;intro r U w j hK;exact oi j▸hK;rintro o _ w j⟨O,rfl,hw⟩;obtain rfl:=oi j;exact vd<|bT ⟨rfl,hw.drop 0⟩
theorem xn{p0 p1:cN}{res:aL cN}(o:Holds E w V)(j:mR N p0 p1 p2 p3=some res):c_ 144 [str p0,str p1,vi p2,vi p3] w<|rH E V res:=by
 unfold mR at j;refine enter Tryz.func144 zr zr<|w_<|dN n_<|IT<|w_<|aO p3<|ic p3 0<|AS<|dM j (λj=>?_) λj=>?_;refine w_<|dN n_<|AS<|V4 ?_;obtain rfl:=oi j;exact bT<|(o.dQ cN 9).pk 1 [0];refine We<|w_<|mv (str p1)<|Xw p1 ⟨[]⟩ zt zr zr zr zr<|AS<|dM j (λj=>?_) λj=>?_;cases j;refine We<|w_<|aO p3<|ic p3 0<|AS<|q_ j λaa hj j=>VR (λ(aa:Int)=>SH E V [(0,str p0),(1,str p1),(2,vi p2),(3,vi aa)] []) aa ?_ ?_;refine dM hj (λhj=>?_) λhj=>?_;refine BY<|mv (str p0)<|mv (str p1)<|q_ hj λag aj hj=>VM (gr Tryz.func162) (Am N (p0:=p0) (p1:=p1) o aj) λw o=>OF ag 1<|aJ (cE<|ag+1)<|By ?_;exact oi hj▸⟨rfl,o.sp 0 []⟩;exact Wc<|oi hj▸⟨rfl,o.sp 0 []⟩;rintro _ w⟨O,rfl,o⟩;refine aD<|w_<|aO aa<|mv (str p0)<|Xa p0 Bg<|OF (p0.dA.length:Int) 1<|Xb aa (cE<|(p0.dA.length:Int)+1)<|aJ (aN (cE ((p0.dA.length:Int)+1)) aa)<|IN ?_;refine aO (aN (cE ((p0.dA.length:Int)+1)) aa)<|q_ j λaw ak j=>Xq (aN (cE ((p0.dA.length:Int)+1)) aa) o TF Vs ak λaf w o=>?_;refine dN af<|IN<|aO (aN (cE ((p0.dA.length:Int)+1)) aa)<|OF (aN (cE ((p0.dA.length:Int)+1)) aa) 1<|aJ (cE<|(aN (cE ((p0.dA.length:Int)+1)) aa) - 1)<|IN<|aJ 0<|IT<|WR E V (λ(ab:cN×aL cN×Int)=>[own 9 af ab.2.1]) (λab=>[(0,str ab.1),(9,af),(10,vi ab.2.2)]) (λ_=>[(1,str p1),(2,vi p2),(3,vi<|cE<|(aN (cE ((p0.dA.length:Int)+1)) aa) - 1)]) j ?_ ?_ ?_;exact o.sp 1 [0];rintro ab fl _ w⟨O,rfl,o⟩j;refine IS<|w_<|aO ab.2.2<|aO (cE<|(aN (cE ((p0.dA.length:Int)+1)) aa) - 1)<|ic ab.2.2 (cE<|(aN (cE ((p0.dA.length:Int)+1)) aa) - 1)<|AS<|dM j (λj=>?_) λj=>?_;refine WL<|VW<|mv (str ab.1)<|mv (str p1)<|q_ j λae al j=>VM O7 (tl N (p0:=ab.1) (p1:=p1) o al) λw o=>aJ ae<|IT<|w_<|aO ae<|ic ae 0<|AS<|dM j (λj=>?_) λj=>?_;refine Wp<|PF (by decide) ?_;exact oi j▸⟨rfl,o.sp 1 [0]⟩;refine Ww<|mv af<|aO ab.2.2<|mv (str ab.1)<|aO ae<|aO p2<|OF ae p2<|q_ j λan ao j=>XU ab.1 zr zr Bg (.inr ⟨rfl,zr⟩) (.inl zr) ao<|q_ j λay ah j=>VX 0 o zr zr Oa ah ?_;have o:=o.sc cN an;refine WQ 1 0 o ah ri λw o=>?_;refine IN<|mv (str ab.1)<|aO ae<|mv (str p1)<|Xa p1 Bg<|OF ae (p1.dA.length:Int)<|q_ j λaq ar j=>XU ab.1 zr zr Bg (.inl zr) (.inr ⟨rfl,zr⟩) ar<|dN (str aq)<|AS<|BY<|aO ab.2.2<|OF ab.2.2 1<|aJ (cE<|ab.2.2+1)<|By<|bI ?_;exact oi j▸⟨rfl,o.sp 2 [1]⟩;exact Wp<|oi j▸⟨rfl,o.sp 1 [0]⟩;rintro ab _ w j⟨O,rfl,o⟩;refine aD<|w_<|mv af<|aO ab.2.2<|mv (str ab.1)<|q_ j λaz ai j=>VX 0 o zr zr Oa ai ?_;have o:=o.sc cN ab.1;refine WQ 1 0 o ai ri λw o=>?_;refine IN<|mv af<|aO ab.2.2<|OF ab.2.2 1<|q_ j λa0 au j=>Xy 1 zr o zr zr Oa (.inr ⟨rfl,zr⟩) au λav o=>dN av<|AS<|VN ?_;obtain rfl:=oi j;exact bT<|o.pk 2 [1]
theorem An{p0 p1:cN}{res:aL cN}(o:Holds E w V)(j:nu N p0 p1=some res):c_ 114 [str p0,str p1] w<|rH E V res:=by
 unfold nu at j;refine enter Tryz.func114 zr zr<|w_<|dN n_<|IN<|mv (str p0)<|mv (str p1)<|q_ j λad aa j=>V2 (gr Tryz.func144) (xn N (p0:=p0) (p1:=p1) (p2:=0) (p3:=(-1)) o aa) λab w o=>dN ab<|AS<|VN ?_;obtain rfl:=oi j;exact bT<|o.pk 1 [0]
theorem rK{p0:aL cN}{p1:cN->aU Bool}(j:Holds E w V)(h0:fC V i0 v0 p0)(h1:Jb aX E V v1 p1 (λ(r:Bool)=>Value.bool r))(o:kT N p0 p1=some res):c_ 143 [v0,v1] w<|aG E V res:=by
 unfold kT at o;refine enter Tryz.func143 zr zr ?_;have j:=j.dup (i0+0) h0;refine w_<|aJ 0<|IT<|w_<|mv v0<|VP 0 p0 j Rj<|aO 0<|AS<|WJ E V (λ(ab:Unit)=>[rd v0 p0]) (λ_=>[]) (λaa _=>[(0,v0),(1,v1),(7,vi p0.length),(8,vi aa)]) (λr=>ml aX 19 Tryz.f143 (aG E V r) .ret) o ?_ ?_ ?_ ?_;exact j.sp 1 [0];rintro hm aa ab fl _ w hk⟨O,rfl,j⟩o;refine IS<|VW<|aO (aa:Int)<|aJ (aa:Int)<|IN<|mv v1<|mv v0<|aO (aa:Int)<|q_ o λad ag o=>VO 0 j Oa ag λak j=>Wd ad 0 j ri ?_;have j:=j.sc cN ad;refine q_ o λal ah o=>Xl 0 j h1 3 ah λw j=>AS<|dM o (λo=>?_) λo=>?_;exact w_<|aO (aa:Int)<|aJ (aa:Int)<|AS<|Wm<|bJ<|oi o▸⟨rfl,bT ⟨rfl,j.drop 3⟩⟩;exact Wc<|bI<|aD<|BY<|Wa hk hm<|aO ((aa+1:Nat):Int)<|By<|oi o▸⟨rfl,j.sp 3 [2]⟩;intro r U w o hK;exact bJ<|oi o▸hK;rintro ab _ w o⟨O,rfl,j⟩;exact aD<|w_<|aJ (-1)<|AS<|VN<|oi o▸bT ⟨rfl,j.drop 1⟩
theorem pZ{p0:aL cN}{p1:cN->aU Bool}{res:Bool}(j:Holds E w V)(h0:fC V i0 v0 p0)(h1:Jb aX E V v1 p1 (λ(r:Bool)=>Value.bool r))(o:il N p0 p1=some res):c_ 113 [v0,v1] w<|bE E V res:=by
 unfold il at o;refine enter Tryz.func113 zr zr ?_;have j:=j.dup (i0+0) h0;refine w_<|bV false<|IN<|mv v0<|mv v1<|q_ o λaa ab o=>VM (gr Tryz.func143) (rK N (i0:=0) j zr (h1.lift 1 zr) ab) λw j=>ic aa 0<|bV (jP<|aa>=0)<|AS<|VN ?_;exact oi o▸bT ⟨rfl,j.drop 1⟩
theorem vJ{p0:cN}{res:Bool}(o:Holds E w V)(j:iq N p0=some res):c_ 115 [str p0] w<|bE E V res:=by
 unfold iq at j;exact enter Tryz.func115 zr zr<|w_<|bV false<|IN<|mv (str p0)<|q_ j λaa ab j=>VM N9 (mg N (p0:=p0) o ab) λw o=>Wr aa<|bV (!aa)<|AS<|VN<|oi j▸bT ⟨rfl,o.drop 0⟩
theorem oQ{p0:cN}{res:Bool}(j:Holds E w V)(hb:iV N p0=some res):c_ 78 [str p0] w<|bE E V res:=by
 unfold iV at hb;refine enter Tryz.func78 zr zr<|w_<|bV false<|IT<|q_ hb λad hj hb=>VR (λ(ad:Bool)=>SH E V [(2,vb ad)] []) ad ?_ ?_;refine BY<|mv (str p0)<|Xa p0 Bg<|ic ((p0.dA.length:Int)) 200<|fY (jP<|(p0.dA.length:Int)<=200)<|fx hj (λo hj=>?_) λo hj=>?_;refine VK (str p0) (cg o)<|q_ hj λah af hj=>V2 (gr Tryz.func114) (An N (p0:=p0) (p1:=⟨[47]⟩) j af) λai w j=>?_;have j:=j.freeze 0;refine q_ hj λae ag hj=>VM (gr Tryz.func113) (pZ N (i0:=0) j rfl ⟨115,[],rfl,(gr Tryz.func115),λw Γl v y0 r i j hi hr=>by obtain rfl:=j.ve (γ:=cN) hi;exact eA (vJ N (p0:=y0) j hr) λ_ _ h=>h⟩ ag) λw j=>Wr ae<|fw o (vb<|!ae)<|bV (!ae)<|By ?_;exact oi hj▸⟨rfl,j.sp 1 []⟩;exact bH o<|bH o<|bH o<|bH o<|fw o (vb false)<|bV false<|By<|oi hj▸⟨rfl,j.sp 0 []⟩;rintro _ w⟨O,rfl,j⟩;exact aD<|VN<|oi hb▸bT ⟨rfl,j.drop 0⟩
theorem mI{p0:aL Part}{p1:cN}{p2:Part->cN->aU Int}{res:Int×Bool}(o:Holds E w V)(h0:fC V i0 v0 p0)(h2:ES aX E V v2 p2 (λ(r:Int)=>Value.int .i64 r))(hb:fu N p0 p1 p2=some res):c_ 145 [v0,str p1,v2] w<|eD E V res:=by
 unfold fu at hb;refine enter Tryz.func145 zr zr ?_;have o:=o.dup (i0+0) h0;refine w_<|aJ 0<|bV false<|IN<|mv v0<|VP 0 p0 o PW<|aJ (p0.length:Int)<|IN<|aO (p0.length:Int)<|aJ 0<|aJ (p0.length:Int)<|IT<|WR E V (λ(j:Int×Int)=>[rd v0 p0]) (λj=>[(0,v0),(1,str p1),(2,v2),(8,vi p0.length),(9,vi j.1)]) (λj=>[(10,vi j.2)]) hb ?_ ?_ ?_;exact o.sp 1 [0];rintro j fl _ w⟨O,rfl,o⟩hb;refine IS<|w_<|aO j.1<|aO j.2<|ic j.1 j.2<|AS<|dM hb (λhb=>?_) λhb=>?_;refine WL<|VW<|aO j.1<|aO j.2<|OF j.1 j.2<|WX (cE<|j.1+j.2) ⟨_,zc⟩ qH<|W7 (.int .u64<|wrap .u64<|cE<|j.1+j.2) (.int .u64 1) (.int .u64<|Int.fdiv (wrap .u64<|cE<|j.1+j.2) 2) zr zr zr<|WX (Int.fdiv (wrap .u64<|cE<|j.1+j.2) 2) ⟨_,qH⟩ zc<|aJ (cE<|Int.fdiv (wrap .u64<|cE<|j.1+j.2) 2) ?_;refine IN<|mv v2<|mv v0<|aO (cE<|Int.fdiv (wrap .u64<|cE<|j.1+j.2) 2)<|q_ hb λah ai hb=>VO 0 o L8 ai λar o=>VS 0 ah o Jv λau o=>mv (str p1) ?_;have o:=o.sc cN p1;refine q_ hb λaj ak hb=>W5 1 0 o h2 4 ak λw o=>ic aj 0<|AS<|q_ hb λae hj hb=>VR (λ(ae:Int×Int)=>SH E V [(0,v0),(1,str p1),(2,v2),(8,vi p0.length),(9,vi ae.1),(10,vi ae.2)] [rd v0 p0]) ae ?_ ?_;refine dM hj (λhj=>?_) λhj=>?_;refine BY<|aO (cE<|Int.fdiv (wrap .u64<|cE<|j.1+j.2) 2)<|OF (cE<|Int.fdiv (wrap .u64<|cE<|j.1+j.2) 2) 1<|aJ (cE<|cE (Int.fdiv (wrap .u64<|cE<|j.1+j.2) 2)+1)<|By ?_;exact oi hj▸⟨rfl,o.sp 4 [3]⟩;refine BY<|aO (cE<|Int.fdiv (wrap .u64<|cE<|j.1+j.2) 2)<|aJ (cE<|Int.fdiv (wrap .u64<|cE<|j.1+j.2) 2)<|By ?_;exact oi hj▸⟨rfl,o.sp 4 [3]⟩;rintro _ w⟨O,rfl,o⟩;exact bI<|oi hb▸⟨rfl,o.sp 1 [0]⟩;exact Wp<|oi hb▸⟨rfl,o.sp 1 [0]⟩;rintro j _ w hb⟨O,rfl,o⟩;refine aD<|IS<|q_ hb λaf hj hb=>VR (λ(af:Bool)=>SH E V [(6,vi j.1),(7,vb af)] []) af ?_ ?_;refine BY<|aO j.1<|aO j.1<|aO (p0.length:Int)<|ic j.1 ((p0.length:Int))<|fY (jP<|j.1<(p0.length:Int))<|fx hj (λaa hj=>?_) λaa hj=>?_;refine VK v2 (cg aa)<|VK v0 (cg aa)<|VK (vi j.1) (cg aa)<|q_ hj λal an hj=>VO 0 o L8 an λav o=>VS 0 al o Jv λaw o=>VK (str p1) (cg aa) ?_;have o:=o.sc cN p1;refine q_ hj λag ao hj=>W5 (hg:=cg aa) 1 0 o h2 4 ao λw o=>Ws ag 0 (cg aa)<|fw aa (vb<|ag==0)<|aJ j.1<|bV (ag==0)<|By ?_;exact oi hj▸⟨rfl,o.sp 4 []⟩;refine bH aa<|bH aa<|bH aa<|bH aa<|bH aa<|bH aa<|bH aa<|bH aa<|fw aa (vb false)<|aJ j.1<|bV false<|By ?_;exact oi hj▸⟨rfl,o.sp 1 []⟩;rintro _ w⟨O,rfl,o⟩;exact aD<|VN<|oi hb▸ik ⟨rfl,o.drop 0⟩
theorem vK{p0:Part}{p1:cN}(j:Holds E w V)(h0:fC V i0 v0 p0)(o:jc N p0 p1=some res):c_ 146 [v0,str p1] w<|aG E V res:=by
 unfold jc at o;refine enter Tryz.func146 zr zr ?_;have j:=j.dup (i0+0) h0;refine w_<|V7 0 v0 j zr λad w j=>?_;exact aJ 0<|IN<|AT zr BG<|VL 0 j zr wI ri<|mv (str p1)<|q_ o λaa ab o=>VM L9 (j5 N (p0:=p0.Name) (p1:=p1) j ab) λw j=>aJ aa<|AS<|VN<|oi o▸bT ⟨rfl,j.drop 2⟩
theorem zk{p0:aL Part}{p1:cN}(hw:Holds E w V)(h0:fC V i0 v0 p0)(hb:mz N p0 p1=some res):c_ 116 [v0,str p1] w<|aG E V res:=by
 unfold mz at hb;refine enter Tryz.func116 zr zr ?_;have hw:=hw.dup (i0+0) h0;refine w_<|aJ 0<|IN<|mv v0<|mv (str p1) ?_;refine q_ hb λo ad hb=>VM (gr Tryz.func145) (mI N (p1:=p1) (i0:=0) hw rfl ⟨146,[],rfl,(gr Tryz.func146),λw Γl v v' y0 y1 r i j hw hi hj hr=>by obtain rfl:=hw.ve (γ:=cN) hj;exact eA (vK N (p1:=y1) (i0:=i) hw hi hr) λ_ _ h=>h⟩ ad) λw hw=>mv (.tuple #[vi o.1,vb o.2])<|V6 (vi o.1)<|V6 (vb o.2)<|aJ o.1<|bV o.2<|IT<|w_<|fY o.2 ?_;refine Wr o.2<|AS<|dM hb (λhb=>?_) λhb=>?_;exact w_<|aJ (-1)<|AS<|V4<|oi hb▸bT ⟨rfl,hw.drop 1⟩;exact Ww<|aO o.1<|aJ o.1<|AS<|VN<|oi hb▸bT ⟨rfl,hw.drop 1⟩
theorem lP{p0:aL dG}{p1:cN}{p2:dG->cN->aU Int}{res:Int×Bool}(o:Holds E w V)(h0:fC V i0 v0 p0)(h2:ES aX E V v2 p2 (λ(r:Int)=>Value.int .i64 r))(hb:eM N p0 p1 p2=some res):c_ 147 [v0,str p1,v2] w<|eD E V res:=by
 unfold eM at hb;refine enter Tryz.func147 zr zr ?_;have o:=o.dup (i0+0) h0;refine w_<|aJ 0<|bV false<|IN<|mv v0<|VP 0 p0 o Eh<|aJ (p0.length:Int)<|IN<|aO (p0.length:Int)<|aJ 0<|aJ (p0.length:Int)<|IT<|WR E V (λ(j:Int×Int)=>[rd v0 p0]) (λj=>[(0,v0),(1,str p1),(2,v2),(8,vi p0.length),(9,vi j.1)]) (λj=>[(10,vi j.2)]) hb ?_ ?_ ?_;exact o.sp 1 [0];rintro j fl _ w⟨O,rfl,o⟩hb;refine IS<|w_<|aO j.1<|aO j.2<|ic j.1 j.2<|AS<|dM hb (λhb=>?_) λhb=>?_;refine WL<|VW<|aO j.1<|aO j.2<|OF j.1 j.2<|WX (cE<|j.1+j.2) ⟨_,zc⟩ qH<|W7 (.int .u64<|wrap .u64<|cE<|j.1+j.2) (.int .u64 1) (.int .u64<|Int.fdiv (wrap .u64<|cE<|j.1+j.2) 2) zr zr zr<|WX (Int.fdiv (wrap .u64<|cE<|j.1+j.2) 2) ⟨_,qH⟩ zc<|aJ (cE<|Int.fdiv (wrap .u64<|cE<|j.1+j.2) 2) ?_;refine IN<|mv v2<|mv v0<|aO (cE<|Int.fdiv (wrap .u64<|cE<|j.1+j.2) 2)<|q_ hb λah ai hb=>VO 0 o Cl ai λar o=>VS 0 ah o Cm λau o=>mv (str p1) ?_;have o:=o.sc cN p1;refine q_ hb λaj ak hb=>W5 1 0 o h2 4 ak λw o=>ic aj 0<|AS<|q_ hb λae hj hb=>VR (λ(ae:Int×Int)=>SH E V [(0,v0),(1,str p1),(2,v2),(8,vi p0.length),(9,vi ae.1),(10,vi ae.2)] [rd v0 p0]) ae ?_ ?_;refine dM hj (λhj=>?_) λhj=>?_;refine BY<|aO (cE<|Int.fdiv (wrap .u64<|cE<|j.1+j.2) 2)<|OF (cE<|Int.fdiv (wrap .u64<|cE<|j.1+j.2) 2) 1<|aJ (cE<|cE (Int.fdiv (wrap .u64<|cE<|j.1+j.2) 2)+1)<|By ?_;exact oi hj▸⟨rfl,o.sp 4 [3]⟩;refine BY<|aO (cE<|Int.fdiv (wrap .u64<|cE<|j.1+j.2) 2)<|aJ (cE<|Int.fdiv (wrap .u64<|cE<|j.1+j.2) 2)<|By ?_;exact oi hj▸⟨rfl,o.sp 4 [3]⟩;rintro _ w⟨O,rfl,o⟩;exact bI<|oi hb▸⟨rfl,o.sp 1 [0]⟩;exact Wp<|oi hb▸⟨rfl,o.sp 1 [0]⟩;rintro j _ w hb⟨O,rfl,o⟩;refine aD<|IS<|q_ hb λaf hj hb=>VR (λ(af:Bool)=>SH E V [(6,vi j.1),(7,vb af)] []) af ?_ ?_;refine BY<|aO j.1<|aO j.1<|aO (p0.length:Int)<|ic j.1 ((p0.length:Int))<|fY (jP<|j.1<(p0.length:Int))<|fx hj (λaa hj=>?_) λaa hj=>?_;refine VK v2 (cg aa)<|VK v0 (cg aa)<|VK (vi j.1) (cg aa)<|q_ hj λal an hj=>VO 0 o Cl an λav o=>VS 0 al o Cm λaw o=>VK (str p1) (cg aa) ?_;have o:=o.sc cN p1;refine q_ hj λag ao hj=>W5 (hg:=cg aa) 1 0 o h2 4 ao λw o=>Ws ag 0 (cg aa)<|fw aa (vb<|ag==0)<|aJ j.1<|bV (ag==0)<|By ?_;exact oi hj▸⟨rfl,o.sp 4 []⟩;refine bH aa<|bH aa<|bH aa<|bH aa<|bH aa<|bH aa<|bH aa<|bH aa<|fw aa (vb false)<|aJ j.1<|bV false<|By ?_;exact oi hj▸⟨rfl,o.sp 1 []⟩;rintro _ w⟨O,rfl,o⟩;exact aD<|VN<|oi hb▸ik ⟨rfl,o.drop 0⟩
theorem xo{p0:dG}{p1:cN}(j:Holds E w V)(h0:fC V i0 v0 p0)(o:jK N p0 p1=some res):c_ 148 [v0,str p1] w<|aG E V res:=by
 unfold jK at o;refine enter Tryz.func148 zr zr ?_;have j:=j.dup (i0+0) h0;refine w_<|V7 0 v0 j zr λad w j=>?_;exact aJ 0<|IN<|AT zr BE<|VL 0 j zr qR ri<|mv (str p1)<|q_ o λaa ab o=>VM L9 (j5 N (p0:=p0.Name) (p1:=p1) j ab) λw j=>aJ aa<|AS<|VN<|oi o▸bT ⟨rfl,j.drop 2⟩
theorem Ao{p0:aY}{p1:cN}(o:Holds E w V)(h0:fC V i0 v0 p0)(hb:nv N p0 p1=some res):c_ 117 [v0,str p1] w<|aG E V res:=by
 unfold nv at hb;refine enter Tryz.func117 zr zr ?_;have o:=o.dup (i0+0) h0;refine w_<|V7 0 v0 o zr λaf w o=>?_;refine aJ 0<|IN<|AT zr Ju<|Wh 0 o zr xK O4 λag o=>mv (str p1) ?_;refine q_ hb λaa ad hb=>VM (gr Tryz.func147) (lP N (p1:=p1) (i0:=0) o rfl ⟨148,[],rfl,(gr Tryz.func148),λw Γl v v' y0 y1 r i j o hi hj hr=>by obtain rfl:=o.ve (γ:=cN) hj;exact eA (xo N (p1:=y1) (i0:=i) o hi hr) λ_ _ h=>h⟩ ad) λw o=>mv (.tuple #[vi aa.1,vb aa.2])<|V6 (vi aa.1)<|V6 (vb aa.2)<|aJ aa.1<|bV aa.2<|IT<|w_<|fY aa.2 ?_;refine Wr aa.2<|AS<|dM hb (λhb=>?_) λhb=>?_;exact w_<|aJ (-1)<|AS<|V4<|oi hb▸bT ⟨rfl,o.drop 3⟩;exact Ww<|aO aa.1<|aJ aa.1<|AS<|VN<|oi hb▸bT ⟨rfl,o.drop 3⟩
theorem zm{p0:aL aY}{p1:aL Part}{p2:bZ}{res:Bool}(j:Holds E w V)(h0:fC V i0 v0 p0)(h1:fC V i1 v1 p1)(h2:fC V i2 v2 p2)(hb:oE N p0 p1 p2=some res):c_ 81 [v0,v1,v2] w<|bE E V res:=by
 unfold oE at hb;refine enter Tryz.func81 zr zr ?_;have j:=((j.dup (i0+0) h0).dup (i1+1) h1).dup (i2+2) h2;refine w_<|V7 0 v2 j zr λag w j=>?_;refine bV false<|IN<|mv v1<|AT zr H7<|VL 0 j zr Cf ri<|q_ hb λad ai hb=>VM (gr Tryz.func116) (zk N (p1:=p2.Part) (i0:=2) j zr ai) λw j=>aJ ad<|IT<|q_ hb λae hj hb=>VR (λ(ae:Bool)=>SH E V [(6,vb ae)] []) ae ?_ ?_;have j:=j.drew;refine Xf (λw=>Holds E w<|[bx 41 ag p2]++V) mixed [0,0,0,1,0,0,0,0,0,0,2,0,0,1,1,2,0,0,0] [0,1,2,3,4,5,6,7,8,9,13,14,10,11,12,15,16,17,18] (j.pk 4 [0])<|VU zr zr<|aO ad<|bF zr<|ic ad 0<|bF zr<|fY (jP<|ad>=0)<|VZ<|fx hj (λo hj=>?_) λo hj=>?_;refine V8 v0 zr (λw=>VK v0 (cg o) V0)<|VU zr zr<|VK v0 (cg o)<|bF zr<|VK v1 (cg o)<|bF zr<|VK (vi ad) (cg o)<|bF zr<|q_ hj λah aj hj=>VO 2 j L8 aj λaq j=>bF zr<|Wo 0 j zr Jw Ee λar j=>bF zr<|Wd ah.pT 0 j ri<|VZ<|V8 (vp ag 1) zr (λw=>AT zr H8 V0)<|WW (str p2.bZ) zr (λw j=>VL 0 j zr Cg ri V0)<|Wq zr zr ?_;refine q_ hj λau ak hj=>VM O6 (sg N (p1:=ah.pT) (i0:=5) j zr ak) λw j=>Wj (j.pk 6 [2])<|VU zr zr<|q_ hj λal an hj=>VO 5 j L6 an λav j=>bF zr<|VS 0 al j GM λaw j=>rW zr<|q_ hj λaf ao hj=>VM (gr Tryz.func117) (Ao N (p1:=p2.bZ) (i0:=0) j zr ao) λw j=>Wj (j.pk 8 [4])<|VU zr zr<|Ws af 0 (cg o)<|bF zr<|fw o (vb<|af>=0)<|bF zr<|bV (jP<|af>=0)<|VZ ?_;exact Wi<|oi hj▸⟨rfl,j.sp 8 []⟩;refine V8 undef zr (λw=>bH o V0)<|VU zr zr<|bH o<|bF zr<|bH o<|bF zr<|bH o<|bF zr<|bH o<|bF zr<|bH o<|bF zr<|bH o<|VZ<|V8 undef zr (λw=>bH o V0)<|V8 undef zr (λw=>bH o V0)<|Wq zr zr<|bH o ?_;refine Wj (j.pk 4 [0])<|VU zr zr<|bH o<|bF zr<|bH o<|rW zr<|bH o<|Wj (j.pk 4 [0])<|VU zr zr<|bH o<|bF zr<|fw o (vb false)<|bF zr<|bV false<|VZ<|Wi ?_;exact oi hj▸⟨rfl,j.sp 4 []⟩;rintro _ w⟨O,rfl,j⟩;exact aD<|VN<|oi hb▸bT ⟨rfl,j.drop 0⟩
theorem tm{p0:bZ}{p1:aL aY}{p2:cB}{res:Bool}(j:Holds E w V)(h0:fC V i0 v0 p0)(h1:fI V i1 v1 p1)(h2:fI V i2 v2 p2)(o:kp N p0 p1 p2=some res):c_ 80 [v0,v1,v2] w<|bE E V res:=by
 unfold kp at o;refine enter Tryz.func80 zr zr ?_;have j:=((j.dup (i0+0) h0).rm (i:=i1+1) h1).rm (i:=i2+2) h2;refine w_<|V7 2 v0 j zr λad w j=>?_;refine bV false<|IN<|VS 2 p1 j PU λae j=>Wo 2 j zr L7 y5 λaf j=>VS 0 p2.kN j Ra λag j=>V1 3 j zr iv λah j=>?_;exact q_ o λaa ab o=>VM (gr Tryz.func81) (zm N (i0:=3) (i1:=1) (i2:=0) j zr zr zr ab) λw j=>bV aa<|AS<|VN<|oi o▸bT ⟨rfl,j.drop 8⟩
theorem dX{p0 p1:bZ}(j:Holds E w V)(h0:fC V i0 v0 p0)(h1:fC V i1 v1 p1)(o:cO N p0 p1=some res):c_ 35 [v0,v1] w<|aG E V res:=by
 unfold cO at o;refine enter Tryz.func35 zr zr ?_;have j:=(j.dup (i0+0) h0).dup (i1+1) h1;refine w_<|V7 1 v0 j zr λaf w j=>?_;refine V7 1 v1 j zr λag w j=>?_;refine aJ 0<|IT<|w_<|AT zr H7<|VL 1 j zr Cf ri<|AT zr H7<|VL 0 j zr Cf ri<|q_ o λaa ab o=>VM L9 (j5 N (p0:=p0.Part) (p1:=p1.Part) j ab) λw j=>aJ aa<|IN<|aO aa<|ic aa 0<|AS<|dM o (λo=>?_) λo=>?_;exact w_<|aO aa<|aJ aa<|AS<|V4<|oi o▸bT ⟨rfl,j.drop 4⟩;exact Ww<|AT zr H8<|VL 1 j zr Cg ri<|AT zr H8<|VL 0 j zr Cg ri<|q_ o λad ae o=>VM L9 (j5 N (p0:=p0.bZ) (p1:=p1.bZ) j ae) λw j=>aJ ad<|AS<|VN<|oi o▸bT ⟨rfl,j.drop 4⟩
def oR(E:aW)(V:aL HP)(v2:aV)(res:Int×aL (bZ×Bool))(v:aV)(w:aW):Prop:=v= vi res.1/\Holds E w ([mp v2 res.2]++V)
theorem tn{p0:aL bZ}{p1:bZ->aU Bool}{p2:aL (bZ×Bool)}{res:Int×aL (bZ×Bool)}(j:Holds E w (mp v2 p2::V))(h0:fC V i0 v0 p0)(h1:Jb aX E V v1 p1 (λ(r:Bool)=>Value.bool r))(o:iW N p0 p1 p2=some res):c_ 79 [v0,v1,v2] w<|oR E V v2 res:=by
 unfold iW at o;refine enter Tryz.func79 zr zr ?_;have j:=j.dup (i0+1) h0;refine w_<|aJ 0<|IT<|w_<|mv v0<|VP 0 p0 j xg<|ic ((p0.length:Int)) 500<|AS<|dM o (λo=>?_) λo=>?_;exact w_<|aJ 2<|AS<|V4<|oi o▸bT ⟨rfl,j.pk 2 [1]⟩;refine We<|w_<|mv v0<|VP 0 p0 j xg<|aO 0<|AS<|WJ E V (λ(al:Unit)=>[rd v0 p0,mp v2 p2]) (λ_=>[(0,v0),(2,v2)]) (λab _=>[(1,v1),(14,v0),(15,vi p0.length),(16,vi ab)]) (λr=>ml aX 53 Tryz.f79 (oR E V v2 r) .ret) o ?_ ?_ ?_ ?_;exact j.sp 2 [0,1];rintro hm ab al fl _ w hk⟨O,rfl,j⟩o;refine IS<|VW<|aO (ab:Int)<|q_ o λae ar o=>VO 0 j zd ar λa1 j=>VS 0 ae j iv λa2 j=>V9 j Ku.z λan w j=>?_;refine aJ (ab:Int)<|V5 0 j 1 zr iv λw j=>?_;refine AS<|VW<|mv v1<|V1 0 j zr iv λa3 j=>?_;refine q_ o λao au o=>Xl 0 j h1 6 au λw j=>Wr ao<|bV (!ao)<|AS<|dM o (λo=>?_) λo=>?_;exact w_<|aJ 9<|AS<|Wm<|fU<|bJ<|oi o▸⟨rfl,bT ⟨rfl,j.pk 6 [5]⟩⟩;refine IS<|q_ o λah hj o=>VR (λ(ah:Bool)=>SH E V [(0,v0),(1,v1),(2,v2),(8,vp an 0),(14,v0),(15,vi p0.length),(16,vi ab),(26,vb ah)] [rd v0 p0,mp v2 p2,bx 41 an ae]) ah ?_ ?_;refine WA mixed (ix 13 2000000000) (fR 0 13 []) ?_;have j:=j.drew;refine VU zr zr<|aO (ab:Int)<|bF zr<|ic ((ab:Int)) 0<|bF zr<|fY (jP<|(ab:Int)>0)<|VZ<|fx hj (λaa hj=>?_) λaa hj=>?_;refine VU zr zr<|V1 1 j zr iv λa4 j=>bF zr<|VK v0 (cg aa)<|bF zr<|VK (vi ab) (cg aa)<|bF zr<|OF (ab:Int) 1<|bF zr<|q_ hj λav aw hj=>VO 5 j zd aw λa5 j=>bF zr<|VS 0 av j iv λa6 j=>rW zr ?_;refine q_ hj λai ax hj=>VM Fc (dX N (i0:=2) (i1:=0) j zr zr ax) λw j=>u7 zr<|Ws ai 0 (cg aa)<|bF zr<|fw aa (vb<|ai<=0)<|bF zr<|bV (jP<|ai<=0)<|VZ<|Wi ?_;exact oi hj▸⟨rfl,j.sp 9 [7,8,4]⟩;refine VU zr zr<|bH aa<|bF zr<|bH aa<|bF zr<|bH aa<|bF zr<|bH aa<|bF zr<|bH aa<|bF zr<|bH aa<|rW zr<|bH aa<|u7 zr<|bH aa<|bF zr<|fw aa (vb false) ?_;exact bF zr<|bV false<|VZ<|Wi<|oi hj▸⟨rfl,j.sp 6 [4,5,1]⟩;rintro _ w⟨O,rfl,j⟩;refine aD<|dM o (λo=>?_) λo=>?_;exact w_<|aJ 8<|AS<|Wm<|fU<|bJ<|oi o▸⟨rfl,bT ⟨rfl,j.pk 3 [1]⟩⟩;refine w_<|mv v2<|V1 2 j zr iv λa7 j=>Xe 2 ae zt j (rp 0 j) O9<|bV (dE p2 ae (false:Bool))<|AS<|dM o (λo=>?_) λo=>?_;exact w_<|aJ 7<|AS<|Wm<|fU<|bJ<|oi o▸⟨rfl,bT ⟨rfl,j.pk 4 [2]⟩⟩;exact Wc<|bI<|bI<|aD<|BY<|Wa hk hm<|aO ((ab+1:Nat):Int)<|By<|oi o▸⟨rfl,j.sp 4 [1,2]⟩;intro r U w o hK;exact bJ<|oi o▸hK;rintro al _ w o⟨O,rfl,j⟩;refine aD<|IS<|w_<|mv v0<|VP 0 p0 j xg<|aO 0<|AS<|WU E V (λ(aj:aL (bZ×Bool))=>[mp v2 aj,rd v0 p0]) (λ_=>[(2,v2)]) (λak _=>[(44,v0),(45,vi p0.length),(46,vi ak)]) o ?_ ?_ ?_;exact j.sp 2 [1,0];rintro hm ak aj s' _ w hk⟨O,rfl,j⟩o;refine IS<|VW<|q_ o λaq az o=>VO 1 j zd az λa8 j=>VS 0 aq j iv λa9 j=>V9 j Ku.z λba w j=>?_;refine V5 0 j 1 zr iv λw j=>?_;refine AS<|BY<|mv v2<|V1 0 j zr iv λbb j=>?_;have j:=j.sc Bool true;exact Xi 5 0 aq j zr (rp 1 j) zr zr O9 λw j=>By<|bI<|aD<|BY<|Wa hk hm<|aO ((ak+1:Nat):Int)<|By<|oi o▸⟨rfl,j.sp 7 [5,6]⟩;rintro aj _ w o⟨O,rfl,j⟩;exact aD<|w_<|aJ 0<|AS<|VN<|oi o▸bT ⟨rfl,j.pk 2 [0]⟩
end Go.Gk
