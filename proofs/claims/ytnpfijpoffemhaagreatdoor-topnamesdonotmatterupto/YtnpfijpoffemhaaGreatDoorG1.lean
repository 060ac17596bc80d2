/-
  Printed texts: Go functions as plain functions, and that they are. No statement of the seed is proved here.
-/
import Derived.Test.YtnpfijpoffemhaaGreatDoorProg
import Derived.Test.YtnpfijpoffemhaaGreatDoorE1
import Derived.Test.YtnpfijpoffemhaaGreatDoorA1
import Derived.Test.YtnpfijpoffemhaaGreatDoorA2
import Derived.Test.YtnpfijpoffemhaaGreatDoorRows
import Derived.Shelf.SlGeneric
import Derived.Ground.SlsfProg
import Derived.Ground.SlgmProg
import Derived.Ground.GgzProg
set_option linter.unusedVariables false
set_option linter.unusedSimpArgs false
set_option linter.unusedSectionVars false
set_option maxRecDepth 100000
set_option maxHeartbeats 40000000
namespace Go.Gk
open Go IntKind Go.Proofs
noncomputable abbrev aZ:=Tryz.prog
abbrev c_(f:Nat)(l:List Value)(w:World)(R:Value->World->Prop):Prop:=Calls aZ f l.toArray w (fP R)
def pE(x:cE):=(x.Name,x.Kind,x.bK)
instance instGTPinType:GT cE:=GT.via pE
instance instKVPinType:KV cE:=instKVvia (λ(x:cE)=>(x.Name,x.Kind,x.bK))
theorem mI:Fd 0 (λx:cE=>x.Name):= .v pE<|.fst .self
theorem og:Fd 1 (λx:cE=>x.Kind):= .v pE<|.snd<|.fst .self
theorem mJ:Fd 2 (λx:cE=>x.bK):= .v pE<|.snd<|.snd<|.self
def ri(x:aJ):=(x.Name,x.aP)
instance instGTPartType:GT aJ:=GT.via ri
theorem nA:Fd 0 (λx:aJ=>x.Name):= .v ri<|.fst .self
theorem pZ:Fd 1 (λx:aJ=>x.aP):= .v ri<|.snd<|.self
def sR(x:Part):=(x.Name,x.iB)
instance instGTPart:GT Part:=GT.via sR
instance instKVPart:KV Part:=instKVvia (λ(x:Part)=>(x.Name,x.iB))
theorem oz:Fd 0 (λx:Part=>x.Name):= .v sR<|.fst .self
theorem Gt:Fs 0 bG (λ(x:Part)y=>{x with Name:=y}):= .v sR<|.fst .self
theorem tX:Fd 1 (λx:Part=>x.iB):= .v sR<|.snd<|.self
theorem Gu:Fs 1 bG (λ(x:Part)y=>{x with iB:=y}):= .v sR<|.snd<|.self
def tY(x:aS):=(x.Part,x.aS)
instance instGTPin:GT aS:=GT.via tY
instance instKVPin:KV aS:=instKVvia (λ(x:aS)=>(x.Part,x.aS))
theorem vS:Fd 0 (λx:aS=>x.Part):= .v tY<|.fst .self
theorem yT:Fs 0 bG (λ(x:aS)y=>{x with Part:=y}):= .v tY<|.fst .self
theorem vT:Fd 1 (λx:aS=>x.aS):= .v tY<|.snd<|.self
theorem yU:Fs 1 bG (λ(x:aS)y=>{x with aS:=y}):= .v tY<|.snd<|.self
def yo(x:Net):=(x.Name,x.aP,x.rU)
instance instGTNet:GT Net:=GT.via yo
theorem qq:Fd 0 (λx:Net=>x.Name):= .v yo<|.fst .self
theorem qt:Fd 1 (λx:Net=>x.aP):= .v yo<|.snd<|.fst .self
theorem H4:Fd 2 (λx:Net=>x.rU):= .v yo<|.snd<|.snd<|.self
def sS(x:aT):=(x.cJ,x.bA)
instance instGTNetlist:GT aT:=GT.via sS
theorem mK:Fd 0 (λx:aT=>x.cJ):= .v sS<|.fst .self
theorem jJ:Fd 1 (λx:aT=>x.bA):= .v sS<|.snd<|.self
def lR(x:aI):=(x.X0,x.Y0,x.X1,x.Y1)
instance instGTRect:GT aI:=GT.via lR
instance instKVRect:KV aI:=instKVvia (λ(x:aI)=>(x.X0,x.Y0,x.X1,x.Y1))
theorem eV:Fd 0 (λx:aI=>x.X0):= .v lR<|.fst .self
theorem tZ:Fs 0 Int (λ(x:aI)y=>{x with X0:=y}):= .v lR<|.fst .self
theorem fB:Fd 1 (λx:aI=>x.Y0):= .v lR<|.snd<|.fst .self
theorem w5:Fs 1 Int (λ(x:aI)y=>{x with Y0:=y}):= .v lR<|.snd<|.fst .self
theorem fS:Fd 2 (λx:aI=>x.X1):= .v lR<|.snd<|.snd<|.fst .self
theorem qu:Fs 2 Int (λ(x:aI)y=>{x with X1:=y}):= .v lR<|.snd<|.snd<|.fst .self
theorem jo:Fd 3 (λx:aI=>x.Y1):= .v lR<|.snd<|.snd<|.snd<|.self
theorem t3:Fs 3 Int (λ(x:aI)y=>{x with Y1:=y}):= .v lR<|.snd<|.snd<|.snd<|.self
def w6(x:kG):=(x.X,x.Y)
instance instGTPoint:GT kG:=GT.via w6
instance instKVPoint:KV kG:=instKVvia (λ(x:kG)=>(x.X,x.Y))
theorem rj:Fd 0 (λx:kG=>x.X):= .v w6<|.fst .self
theorem rk:Fd 1 (λx:kG=>x.Y):= .v w6<|.snd<|.self
def qw(x:cK):=(x.At,x.eU,x.dZ,x.To,x.jL)
instance instGTBore:GT cK:=GT.via qw
theorem w7:Fd 0 (λx:cK=>x.At):= .v qw<|.fst .self
theorem qx:Fd 2 (λx:cK=>x.eU):= .v qw<|.snd<|.fst .self
theorem m4:Fd 3 (λx:cK=>x.dZ):= .v qw<|.snd<|.snd<|.fst .self
theorem oA:Fd 4 (λx:cK=>x.To):= .v qw<|.snd<|.snd<|.snd<|.fst .self
theorem w8:Fd 5 (λx:cK=>x.jL):= .v qw<|.snd<|.snd<|.snd<|.snd<|.self
def qy(x:dD):=(x.Part,x.aS,x.eX,x.At)
instance instGTLand:GT dD:=GT.via qy
theorem w9:Fd 0 (λx:dD=>x.Part):= .v qy<|.fst .self
theorem Gv:Fs 0 bG (λ(x:dD)y=>{x with Part:=y}):= .v qy<|.fst .self
theorem A2:Fd 1 (λx:dD=>x.aS):= .v qy<|.snd<|.fst .self
theorem xc:Fd 2 (λx:dD=>x.eX):= .v qy<|.snd<|.snd<|.fst .self
theorem xd:Fd 3 (λx:dD=>x.At):= .v qy<|.snd<|.snd<|.snd<|.self
def vU(x:jg):=(x.aN,x.cL,x.bN,x.bC)
instance instGTArt:GT jg:=GT.via vU
theorem oN:Fd 0 (λx:jg=>x.aN):= .v vU<|.fst .self
theorem vV:Fd 1 (λx:jg=>x.cL):= .v vU<|.snd<|.fst .self
theorem qz:Fd 2 (λx:jg=>x.bN):= .v vU<|.snd<|.snd<|.fst .self
theorem nH:Fd 3 (λx:jg=>x.bC):= .v vU<|.snd<|.snd<|.snd<|.self
def iY(x:aA):=(x.Y0,x.Y1,x.Xs)
instance instGTshape_Band:GT aA:=GT.via iY
theorem fI:Fd 0 (λx:aA=>x.Y0):= .v iY<|.fst .self
theorem rW:Fs 0 Int (λ(x:aA)y=>{x with Y0:=y}):= .v iY<|.fst .self
theorem eC:Fd 1 (λx:aA=>x.Y1):= .v iY<|.snd<|.fst .self
theorem nV:Fs 1 Int (λ(x:aA)y=>{x with Y1:=y}):= .v iY<|.snd<|.fst .self
theorem dB:Fd 2 (λx:aA=>x.Xs):= .v iY<|.snd<|.snd<|.self
theorem rX:Fs 2 (List Int) (λ(x:aA)y=>{x with Xs:=y}):= .v iY<|.snd<|.snd<|.self
def iM(x:aH):=(x.eX,x.Set,x.nZ)
instance instGTcopper_Piece:GT aH:=GT.via iM
theorem pF:Fd 0 (λx:aH=>x.eX):= .v iM<|.fst .self
theorem vW:Fs 0 Int (λ(x:aH)y=>{x with eX:=y}):= .v iM<|.fst .self
theorem vX:Fs 1 (List aA) (λ(x:aH)y=>{x with Set:=y}):= .v iM<|.snd<|.fst .self
theorem pG:Fd 2 (λx:aH=>x.nZ):= .v iM<|.snd<|.snd<|.self
theorem vY:Fs 2 (List aI) (λ(x:aH)y=>{x with nZ:=y}):= .v iM<|.snd<|.snd<|.self
def A3(x:bK):=(x.mA,x.bN,x.aP)
instance instGTGroup:GT bK:=GT.via A3
theorem Ep:Fd 2 (λx:bK=>x.aP):= .v A3<|.snd<|.snd<|.self
def vZ(x:j4):=(x.cK,x.Number)
instance instGTHop:GT j4:=GT.via vZ
instance instKVHop:KV j4:=instKVvia (λ(x:j4)=>(x.cK,x.Number))
theorem H5:Fd 0 (λx:j4=>x.cK):= .v vZ<|.fst .self
theorem H6:Fs 0 Bool (λ(x:j4)y=>{x with cK:=y}):= .v vZ<|.fst .self
theorem Dh:Fd 1 (λx:j4=>x.Number):= .v vZ<|.snd<|.self
theorem Di:Fs 1 Int (λ(x:j4)y=>{x with Number:=y}):= .v vZ<|.snd<|.self
def m5(x:cP):=(x.Kind,x.bA,x.aP)
instance instGTWrong:GT cP:=GT.via m5
theorem yV:Fd 0 (λx:cP=>x.Kind):= .v m5<|.fst .self
theorem rl:Fs 0 Int (λ(x:cP)y=>{x with Kind:=y}):= .v m5<|.fst .self
theorem yW:Fd 1 (λx:cP=>x.bA):= .v m5<|.snd<|.fst .self
theorem yX:Fs 1 (List bG) (λ(x:cP)y=>{x with bA:=y}):= .v m5<|.snd<|.fst .self
theorem yY:Fd 2 (λx:cP=>x.aP):= .v m5<|.snd<|.snd<|.self
theorem rm:Fs 2 (List aS) (λ(x:cP)y=>{x with aP:=y}):= .v m5<|.snd<|.snd<|.self
theorem yp(M:dJ):GT.ok M (#[(.int .i64 0),n_,n_]:Array Value).toList (⟨0,[],[]⟩:cP):=⟨[(.int .i64 0)],[n_,n_],rfl,(show GT.ok M [(.int .i64 0)] (0:Int)from rfl),⟨[n_],[n_],rfl,(show GT.ok M [n_] ([]:List bG)from⟨_,rfl,none,0,0,rfl,rfl,bU _,by simp[maxLen],λ_ _ h=>by simp at h⟩),(show GT.ok M [n_] ([]:List aS)from⟨_,rfl,none,0,0,rfl,rfl,bU _,by simp[maxLen],λ_ _ h=>by simp at h⟩)⟩⟩
theorem FK(M:dJ):GT.ok M (#[(.string ⟨#[]⟩),(.string ⟨#[]⟩)]:Array Value).toList (⟨⟨[]⟩,⟨[]⟩⟩:aS):=⟨[(.string ⟨#[]⟩)],[(.string ⟨#[]⟩)],rfl,(show GT.ok M [(.string ⟨#[]⟩)] (⟨[]⟩:bG)from rfl),(show GT.ok M [(.string ⟨#[]⟩)] (⟨[]⟩:bG)from rfl)⟩
theorem u9(M:dJ):GT.ok M (#[(.int .i64 0),(.int .i64 0),(.int .i64 0),(.int .i64 0)]:Array Value).toList (⟨0,0,0,0⟩:aI):=⟨[(.int .i64 0)],[(.int .i64 0),(.int .i64 0),(.int .i64 0)],rfl,(show GT.ok M [(.int .i64 0)] (0:Int)from rfl),⟨[(.int .i64 0)],[(.int .i64 0),(.int .i64 0)],rfl,(show GT.ok M [(.int .i64 0)] (0:Int)from rfl),⟨[(.int .i64 0)],[(.int .i64 0)],rfl,(show GT.ok M [(.int .i64 0)] (0:Int)from rfl),(show GT.ok M [(.int .i64 0)] (0:Int)from rfl)⟩⟩⟩
theorem Ll(M:dJ):GT.ok M (#[(.string ⟨#[]⟩),(.string ⟨#[]⟩)]:Array Value).toList (⟨⟨[]⟩,⟨[]⟩⟩:Part):=⟨[(.string ⟨#[]⟩)],[(.string ⟨#[]⟩)],rfl,(show GT.ok M [(.string ⟨#[]⟩)] (⟨[]⟩:bG)from rfl),(show GT.ok M [(.string ⟨#[]⟩)] (⟨[]⟩:bG)from rfl)⟩
theorem yZ(M:dJ):GT.ok M (#[(.int .i64 0),n_,n_]:Array Value).toList (⟨0,[],[]⟩:aH):=⟨[(.int .i64 0)],[n_,n_],rfl,(show GT.ok M [(.int .i64 0)] (0:Int)from rfl),⟨[n_],[n_],rfl,(show GT.ok M [n_] ([]:List aA)from⟨_,rfl,none,0,0,rfl,rfl,bU _,by simp[maxLen],λ_ _ h=>by simp at h⟩),(show GT.ok M [n_] ([]:List aI)from⟨_,rfl,none,0,0,rfl,rfl,bU _,by simp[maxLen],λ_ _ h=>by simp at h⟩)⟩⟩
theorem H7(M:dJ):GT.ok M (#[(.bool false),(.int .i64 0)]:Array Value).toList (⟨false,0⟩:j4):=⟨[(.bool false)],[(.int .i64 0)],rfl,(show GT.ok M [(.bool false)] (false:Bool)from rfl),(show GT.ok M [(.int .i64 0)] (0:Int)from rfl)⟩
theorem v5(M:dJ):GT.ok M (#[(.int .i64 0),(.int .i64 0),n_]:Array Value).toList (⟨0,0,[]⟩:aA):=⟨[(.int .i64 0)],[(.int .i64 0),n_],rfl,(show GT.ok M [(.int .i64 0)] (0:Int)from rfl),⟨[(.int .i64 0)],[n_],rfl,(show GT.ok M [(.int .i64 0)] (0:Int)from rfl),(show GT.ok M [n_] ([]:List Int)from⟨_,rfl,none,0,0,rfl,rfl,bU _,by simp[maxLen],λ_ _ h=>by simp at h⟩)⟩⟩
structure cA where
  mA:List Int
  bN:List Int
  aP:RV
  deriving Inhabited
def rn(x:cA):=(x.mA,x.bN,x.aP)
instance instGTGroup_r2:GT cA:=GT.via rn
theorem Al:Fd 2 (λx:cA=>x.aP):= .v rn<|.snd<|.snd<|.self
theorem Am:Fs 2 RV (λ(x:cA)y=>{x with aP:=y}):= .v rn<|.snd<|.snd<|.self
def bZ:XT cA bK:=⟨λu x=>u.mA=x.mA/\u.bN=x.bN,λM h u x=>(u.mA=x.mA/\u.bN=x.bN)/\uV 59 M h u.aP.v x.aP,λ{M M' h u x}hk hh=>⟨hh.1,(own 59 u.aP.v x.aP).mono hk hh.2⟩,λh=>h.1⟩
theorem sT:XO bZ 59 2 (λu=>u.aP) (λu r=>{u with aP:=r}) (λx=>x.aP) (λx y=>{x with aP:=y}):=⟨Al,Am,by decide,λh=>h.2,λhr ho=>⟨hr,ho⟩⟩
theorem BN(M h:dJ)(u:cA)(x:bK)(cs:List Value)(hd:∀b o,h b=some o->M b=none)(hx:bZ.ok M h u x)(hc:GT.ok M cs u):GT.ok (ph M h) cs x:=by
 obtain⟨⟨e0,e1⟩,ho⟩:=hx;obtain⟨c0,d0,hd0,a0,c1,d1,hd1,a1,a2⟩:=hc;exact⟨c0,d0,hd0,GT.mono (tT M h) (show GT.ok M c0 x.mA from e0▸(show GT.ok M c0 u.mA from a0)),⟨c1,d1,hd1,GT.mono (tT M h) (show GT.ok M c1 x.bN from e1▸(show GT.ok M c1 u.bN from a1)),⟨u.aP.v,a2,uV.sl hd ho⟩⟩⟩
theorem y4:kF aZ 26 true 2:=rV
theorem y5:kF aZ 32 true 4:=rV
theorem Lm:kF aZ 22 false 1:=rV
theorem Ln:Tryz.prog.underlying 22=some (.slice 118):=by kernel_rfl
theorem Gw:tU aZ 22 118 2:=BM
theorem Dj:kF aZ 118 true 2:=rV
theorem Mg:Ag aZ 118 2:=AY<|.agg #[(.string ⟨#[]⟩),n_]
theorem yq:lJ aZ 118 0 0:=mH
theorem oC:kF aZ 9 false 1:=rV
theorem y6:Tryz.prog.underlying 9=some (.string):=by kernel_rfl
theorem JR(a:bG)(b:Int)(w:World):(callFunc 170 [str a,(.int .u8 b)].toArray).run aZ w = .ok (.value<|vi<|Lib.indexByte a.bX (Int.toNat b).toUInt8) w:=yF Extern.BytealgIndexByte.indexByte Tryz.func170<|Lib.run_indexByteString _ _ w
theorem KN:gh aZ 139:=gH Tryz.func139
theorem JT:gh aZ 65:=gH Tryz.func65
theorem BO:lJ aZ 118 1 1:=mH
theorem H8:kF aZ 116 false 1:=rV
theorem y7:Tryz.prog.underlying 116=some (.slice 121):=by kernel_rfl
theorem xV:tU aZ 116 121 3:=BM
theorem v7:kF aZ 121 true 3:=rV
theorem H9:Ag aZ 121 3:=AY<|.agg #[(.string ⟨#[]⟩),(.int .i64 0),(.int .i64 0)]
theorem v8:lJ aZ 121 0 0:=mH
theorem yr:lJ aZ 121 1 1:=mH
theorem cY:kF aZ 3 false 1:=rV
theorem v9:lJ aZ 121 2 2:=mH
theorem mixed:Tryz.prog.follows .mixedOrders=true:=by kernel_rfl
theorem xe:lJ aZ 26 0 0:=mH
theorem Gx:kF aZ 23 false 1:=rV
theorem Ia:Tryz.prog.underlying 23=some (.slice 85):=by kernel_rfl
theorem Dk:tU aZ 23 85 2:=BM
theorem BP:kF aZ 85 true 2:=rV
theorem JU:Ag aZ 85 2:=AY<|.agg #[(.string ⟨#[]⟩),(.string ⟨#[]⟩)]
theorem xf:lJ aZ 85 0 0:=mH
theorem BQ:lJ aZ 85 1 1:=mH
theorem FL:Tryz.prog.underlying 3=some (.int .i64):=by kernel_rfl
theorem Dl:Tryz.prog.underlying 94=some (.int .u64):=by kernel_rfl
theorem Ny(a b:bG)(w:World):(callFunc 95 [str a,str b].toArray).run aZ w = .ok (.value<|vi<|Lib.compareBytes a.bX b.bX) w:=yF Extern.BytealgCompare.compare Tryz.func95<|Lib.run_compareString _ _ w
theorem Ib:gh aZ 26:=gH Tryz.func26
theorem Lo:gh aZ 45:=gH Tryz.func45
theorem NV(a:bG)(b:Int)(w:World):(callFunc 173 [str a,(.int .u8 b)].toArray).run aZ w = .ok (.value<|vi ((Lib.countByte a.bX (Int.toNat b).toUInt8:Nat):Int)) w:=yF Extern.BytealgCount.count Tryz.func173<|Lib.run_countString _ _ w
theorem KO:gh aZ 143:=gH Tryz.func143
theorem NW:qj aZ 44 9 1 16:=qj.of<|.string ⟨#[]⟩
theorem PZ:Gj aZ 9 (⟨[]⟩:bG):=Gj.of (.string ⟨#[]⟩)<|λM=>rfl
theorem Ic:tU aZ 44 9 1:=BM
theorem JV:Tryz.prog.underlying 44=some (.slice 9):=by kernel_rfl
theorem Lp:gh aZ 34:=gH Tryz.func34
theorem p4:lJ aZ 26 1 1:=mH
theorem An:kF aZ 24 false 1:=rV
theorem Gy:Tryz.prog.underlying 24=some (.slice 61):=by kernel_rfl
theorem Dm:tU aZ 24 61 3:=BM
theorem xg:kF aZ 61 true 3:=rV
theorem Gz:Ag aZ 61 3:=AY<|.agg #[(.string ⟨#[]⟩),n_,n_]
theorem xh:lJ aZ 61 0 0:=mH
theorem sU:lJ aZ 61 1 1:=mH
theorem sV:kF aZ 45 false 1:=rV
theorem p5:Tryz.prog.underlying 45=some (.slice 59):=by kernel_rfl
theorem jd:kF aZ 59 true 2:=rV
theorem BR:lJ aZ 59 0 0:=mH
theorem BS:lJ aZ 59 1 1:=mH
theorem p6:tU aZ 45 59 2:=BM
theorem rp:Ag aZ 59 2:=AY<|.agg #[(.string ⟨#[]⟩),(.string ⟨#[]⟩)]
theorem JW:gh aZ 13:=gH Tryz.func13
theorem Mt:LR aZ 59 aS:=⟨λM cs ds a b w ha hb=>by
  obtain⟨_,_,rfl,rfl,rfl⟩:=ha
  obtain⟨_,_,rfl,rfl,rfl⟩:=hb
  refine(ql 9999 Tryz.underlying59<|HA.cons (by decide) (hG oC rfl _) (hG oC rfl _) (uZ y6 _ _ w)<|HA.cons (by decide) (hG oC rfl _) (hG oC rfl _) (uZ y6 _ _ w) HA.nil).trans ?_
  congr 1
  cases a;cases b;unfold tY
  rw[g9]
  simp,by kernel_rfl⟩
theorem KP:wX aZ 59 aS:=wX.struct Tryz.underlying59 rfl Mt (λk=>(KH.cons (by decide) (hG oC rfl) (λb w=>MapKept.run_checkKey y6 (k:=Gk.str k.Part) trivial b 9998) (KH.cons (by decide) (hG oC rfl) (λb w=>MapKept.run_checkKey y6 (k:=Gk.str k.aS) trivial b 9998) KH.nil))) (λk x hx=>by
  have hx:x∈[Sc.toV k.Part,Sc.toV k.aS]:=hx
  simp only[gk,List.not_mem_nil,or_false]at hx
  rcases hx with rfl|rfl
  · exact MapKept.sameBits_self (d:= .string) (k:=Gk.str k.Part) trivial _
  · exact MapKept.sameBits_self (d:= .string) (k:=Gk.str k.aS) trivial _)
theorem Ie:BB aZ 54 59 4 aS Bool (false:Bool):=⟨by kernel_rfl,KP,yk (.bool false)<|λM=>⟨_,rfl,rfl⟩⟩
theorem Lq:lJ aZ 61 2 2:=mH
theorem Lr:kF aZ 44 false 1:=rV
theorem xk:lJ aZ 32 0 0:=mH
theorem GA:kF aZ 27 false 1:=rV
theorem Dn:Tryz.prog.underlying 27=some (.slice 28):=by kernel_rfl
theorem Ig:lJ aZ 32 1 1:=mH
theorem BT:kF aZ 28 false 1:=rV
theorem r9:Tryz.prog.underlying 28=some (.slice 83):=by kernel_rfl
theorem GB:tU aZ 27 28 1:=BM
theorem mc:tU aZ 28 83 4:=BM
theorem iZ:kF aZ 83 true 4:=rV
theorem pj:Ag aZ 83 4:=AY<|.agg #[(.int .i64 0),(.int .i64 0),(.int .i64 0),(.int .i64 0)]
theorem jW:lJ aZ 83 0 0:=mH
theorem A4:gh aZ 118:=gH Tryz.func118
theorem kz:lJ aZ 83 1 1:=mH
theorem kA:lJ aZ 83 2 2:=mH
theorem nW:lJ aZ 83 3 3:=mH
theorem Mv:gh aZ 98:=gH Tryz.func98
theorem GC:qj aZ 28 83 4 32:=qj.of<|.agg #[(.int .i64 0),(.int .i64 0),(.int .i64 0),(.int .i64 0)]
theorem KQ:gh aZ 100:=gH Tryz.func100
theorem Mx:K9 aZ 70 [n_]:=⟨n_,λ_=>by kernel_rfl,rfl⟩
theorem fT:kF aZ 70 false 1:=rV
theorem fU:tU aZ 70 3 1:=BM
theorem Jy:Ag aZ 3 1:=AY<|.int .i64 0
theorem xl:qj aZ 70 3 1 8:=qj.of<|.int .i64 0
theorem nI:Tryz.prog.underlying 70=some (.slice 3):=by kernel_rfl
theorem Mz:Gj aZ 3 (0:Int):=Gj.of (.int .i64 0)<|λM=>rfl
theorem KR:gh aZ 122:=gH Tryz.func122
theorem N9:Gj aZ 83 (⟨0,0,0,0⟩:aI):=Gj.of (.agg #[(.int .i64 0),(.int .i64 0),(.int .i64 0),(.int .i64 0)])<|λM=>u9 M
theorem KS:wW aZ 185 [(0,1),(1,1),(2,1)] #[(.int .i64 0),(.int .i64 0),n_]:=wW.of (.agg #[(.int .i64 0),(.int .i64 0),n_]) Tryz.underlying185
theorem kH:lJ aZ 185 2 2:=mH
theorem l7:lJ aZ 185 1 1:=mH
theorem oh:lJ aZ 185 0 0:=mH
theorem n8:Tryz.prog.underlying 137=some (.slice 185):=by kernel_rfl
theorem kh:tU aZ 137 185 3:=BM
theorem wc:kF aZ 185 true 3:=rV
theorem Dp:Ag aZ 185 3:=AY<|.agg #[(.int .i64 0),(.int .i64 0),n_]
theorem MG:qj aZ 137 185 3 40:=qj.of<|.agg #[(.int .i64 0),(.int .i64 0),n_]
theorem KT:gh aZ 106:=gH Tryz.func106
theorem Ih:gh aZ 63:=gH Tryz.func63
theorem GD:wW aZ 83 [(0,1),(1,1),(2,1),(3,1)] #[(.int .i64 0),(.int .i64 0),(.int .i64 0),(.int .i64 0)]:=wW.of (.agg #[(.int .i64 0),(.int .i64 0),(.int .i64 0),(.int .i64 0)]) Tryz.underlying83
theorem Ls:gh aZ 64:=gH Tryz.func64
theorem MH:LR aZ 83 aI:=⟨λM cs ds a b w ha hb=>by
  obtain⟨_,_,rfl,rfl,⟨_,_,rfl,rfl,⟨_,_,rfl,rfl,rfl⟩⟩⟩:=ha
  obtain⟨_,_,rfl,rfl,⟨_,_,rfl,rfl,⟨_,_,rfl,rfl,rfl⟩⟩⟩:=hb
  refine(ql 9999 Tryz.underlying83<|HA.cons (by decide) (hG cY rfl _) (hG cY rfl _) (oF FL _ _ w)<|HA.cons (by decide) (hG cY rfl _) (hG cY rfl _) (oF FL _ _ w)<|HA.cons (by decide) (hG cY rfl _) (hG cY rfl _) (oF FL _ _ w)<|HA.cons (by decide) (hG cY rfl _) (hG cY rfl _) (oF FL _ _ w) HA.nil).trans ?_
  congr 1
  cases a;cases b;unfold lR
  rw[g9]
  simp,by kernel_rfl⟩
theorem Lt:gh aZ 30:=gH Tryz.func30
theorem p7:lJ aZ 32 2 2:=mH
theorem Ao:kF aZ 29 false 1:=rV
theorem BU:Tryz.prog.underlying 29=some (.slice 113):=by kernel_rfl
theorem Dq:tU aZ 29 113 6:=BM
theorem lI:kF aZ 113 true 6:=rV
theorem A5:Ag aZ 113 6:=AY<|.agg #[(.int .i64 0),(.int .i64 0),(.int .i64 0),(.int .i64 0),(.int .i64 0),(.bool false)]
theorem we:lJ aZ 113 1 2:=mH
theorem JX:gh aZ 73:=gH Tryz.func73
theorem BV:lJ aZ 113 0 0:=mH
theorem JY:kF aZ 40 true 2:=rV
theorem BW:lJ aZ 40 0 0:=mH
theorem BX:lJ aZ 40 1 1:=mH
theorem MI:gh aZ 74:=gH Tryz.func74
theorem GF:gh aZ 41:=gH Tryz.func41
theorem rq:lJ aZ 113 2 3:=mH
theorem t4:lJ aZ 113 3 4:=mH
theorem oO:lJ aZ 32 3 3:=mH
theorem y8:kF aZ 30 false 1:=rV
theorem Er:Tryz.prog.underlying 30=some (.slice 42):=by kernel_rfl
theorem BZ:tU aZ 30 42 5:=BM
theorem va:kF aZ 42 true 5:=rV
theorem JZ:Ag aZ 42 5:=AY<|.agg #[(.string ⟨#[]⟩),(.string ⟨#[]⟩),(.int .i64 0),(.int .i64 0),(.int .i64 0)]
theorem B0:lJ aZ 42 0 0:=mH
theorem Ii:lJ aZ 42 1 1:=mH
theorem Es:lJ aZ 42 2 2:=mH
theorem Et:lJ aZ 42 3 3:=mH
theorem Lu:wW aZ 59 [(0,1),(1,1)] #[(.string ⟨#[]⟩),(.string ⟨#[]⟩)]:=wW.of (.agg #[(.string ⟨#[]⟩),(.string ⟨#[]⟩)]) Tryz.underlying59
theorem GG:gh aZ 17:=gH Tryz.func17
theorem ML:gh aZ 75:=gH Tryz.func75
theorem Of:wW aZ 73 [(0,4),(4,1),(5,1),(6,1),(7,1),(8,1),(9,1),(10,1),(11,1)] #[n_,n_,n_,n_,n_,n_,n_,n_,n_,n_,n_,n_]:=wW.of (.agg #[n_,n_,n_,n_,n_,n_,n_,n_,n_,n_,n_,n_]) Tryz.underlying73
theorem ru:lJ aZ 73 0 0:=mH
theorem Lv:gh aZ 76:=gH Tryz.func76
theorem Ij:tU aZ 66 137 1:=BM
theorem Ik:Ag aZ 137 1:=AY<|.slice none 0 0
theorem MM:Tryz.prog.underlying 66=some (.slice 137):=by kernel_rfl
theorem KU:kF aZ 137 false 1:=rV
theorem KW:gh aZ 146:=gH Tryz.func146
theorem P0:Tryz.prog.underlying 4=some (.bool):=by kernel_rfl
theorem Il:lJ aZ 73 1 4:=mH
theorem MQ:kF aZ 66 false 1:=rV
theorem MR:qj aZ 66 137 1 24:=qj.of<|.slice none 0 0
theorem Im:gh aZ 121:=gH Tryz.func121
theorem Eu:BB aZ 97 3 3 Int Int (0:Int):=⟨by kernel_rfl,wX.int FL,yk (.int .i64 0)<|λM=>⟨_,rfl,rfl⟩⟩
theorem Oi:Ag aZ 28 1:=AY<|.slice none 0 0
theorem Oj:qj aZ 27 28 1 24:=qj.of<|.slice none 0 0
theorem xm:lJ aZ 73 2 5:=mH
theorem GH:kF aZ 67 false 1:=rV
theorem MS:wW aZ 155 [(0,1),(1,1),(2,1)] #[(.int .i64 0),n_,n_]:=wW.of (.agg #[(.int .i64 0),n_,n_]) Tryz.underlying155
theorem Lw:tU aZ 67 155 3:=BM
theorem Io:Ag aZ 155 3:=AY<|.agg #[(.int .i64 0),n_,n_]
theorem Om:qj aZ 67 155 3 56:=qj.of<|.agg #[(.int .i64 0),n_,n_]
theorem J0:Tryz.prog.underlying 67=some (.slice 155):=by kernel_rfl
theorem FM:kF aZ 155 true 3:=rV
theorem B1:lJ aZ 113 4 5:=mH
theorem NA:kF aZ 4 false 1:=rV
theorem FN:lJ aZ 155 0 0:=mH
theorem FO:lJ aZ 155 2 2:=mH
theorem MT:gh aZ 80:=gH Tryz.func80
theorem Ev:lJ aZ 73 3 6:=mH
theorem Lx:kF aZ 68 false 1:=rV
theorem GI:tU aZ 68 70 1:=BM
theorem MU:Ag aZ 70 1:=AY<|.slice none 0 0
theorem MV:qj aZ 68 70 1 24:=qj.of<|.slice none 0 0
theorem MW:wW aZ 201 [(0,1)] #[n_]:=wW.of (.agg #[n_]) Tryz.underlying201
theorem oj:lJ aZ 201 0 0:=mH
theorem Ly:Tryz.prog.underlying 68=some (.slice 70):=by kernel_rfl
theorem Ip:gh aZ 123:=gH Tryz.func123
theorem Ew:lJ aZ 73 5 8:=mH
theorem B2:lJ aZ 73 6 9:=mH
theorem Ox:K9 aZ 75 [n_,n_,n_]:=⟨(.agg #[n_,n_,n_]),λ_=>by kernel_rfl,rfl⟩
theorem vc:lJ aZ 73 4 7:=mH
theorem Ex:kF aZ 69 false 1:=rV
theorem Lz:Tryz.prog.underlying 69=some (.slice 75):=by kernel_rfl
theorem Ey:lJ aZ 75 0 0:=mH
theorem Ez:lJ aZ 75 1 1:=mH
theorem J3:kF aZ 75 true 3:=rV
theorem J4:tU aZ 69 75 3:=BM
theorem MX:Ag aZ 75 3:=AY<|.agg #[n_,n_,n_]
theorem Oy:qj aZ 69 75 3 72:=qj.of<|.agg #[n_,n_,n_]
theorem Iq:Ag aZ 164 2:=AY<|.agg #[(.bool false),(.int .i64 0)]
theorem KX:gh aZ 124:=gH Tryz.func124
theorem Ir:wW aZ 164 [(0,1),(1,1)] #[(.bool false),(.int .i64 0)]:=wW.of (.agg #[(.bool false),(.int .i64 0)]) Tryz.underlying164
theorem wg:kF aZ 164 true 2:=rV
theorem J5:lJ aZ 164 0 0:=mH
theorem FP:lJ aZ 164 1 1:=mH
theorem EA:lJ aZ 75 2 2:=mH
theorem y9:qj aZ 45 59 2 32:=qj.of<|.agg #[(.string ⟨#[]⟩),(.string ⟨#[]⟩)]
theorem EB:lJ aZ 73 7 10:=mH
theorem Is:lJ aZ 73 8 11:=mH
theorem MZ:kF aZ 71 false 1:=rV
theorem OB:tU aZ 71 164 2:=BM
theorem OC:qj aZ 71 164 2 16:=qj.of<|.agg #[(.bool false),(.int .i64 0)]
theorem J6:BB aZ 52 59 3 aS Int (0:Int):=⟨by kernel_rfl,KP,yk (.int .i64 0)<|λM=>⟨_,rfl,rfl⟩⟩
theorem PE:gh aZ 9:=gH Tryz.func9
theorem OG:wW aZ 56 [(0,2),(2,1),(3,1)] #[n_,n_,(.map none),(.map none)]:=wW.of (.agg #[n_,n_,(.map none),(.map none)]) Tryz.underlying56
theorem OH:K9 aZ 56 [n_,n_,(.map none),(.map none)]:=⟨(.agg #[n_,n_,(.map none),(.map none)]),λ_=>by kernel_rfl,rfl⟩
theorem LA:kF aZ 56 true 4:=rV
theorem EC:lJ aZ 56 2 3:=mH
theorem LB:kF aZ 54 false 1:=rV
theorem M1:gh aZ 11:=gH Tryz.func11
theorem J7:wW aZ 47 [(0,1),(1,1),(2,1)] #[(.int .i64 0),n_,n_]:=wW.of (.agg #[(.int .i64 0),n_,n_]) Tryz.underlying47
theorem Ap:tU aZ 33 47 3:=BM
theorem J8:Ag aZ 47 3:=AY<|.agg #[(.int .i64 0),n_,n_]
theorem J9:qj aZ 33 47 3 56:=qj.of<|.agg #[(.int .i64 0),n_,n_]
theorem Ka:Tryz.prog.underlying 96=some (.slice 45):=by kernel_rfl
theorem It:tU aZ 96 45 1:=BM
theorem ON:Ag aZ 45 1:=AY<|.slice none 0 0
theorem OO:qj aZ 96 45 1 24:=qj.of<|.slice none 0 0
theorem OP:Gj aZ 59 (⟨⟨[]⟩,⟨[]⟩⟩:aS):=Gj.of (.agg #[(.string ⟨#[]⟩),(.string ⟨#[]⟩)])<|λM=>FK M
theorem P4:Ag aZ 9 1:=AY<|.string ⟨#[]⟩
theorem Iu:lJ aZ 56 1 2:=mH
theorem M3:kF aZ 52 false 1:=rV
theorem LC:lJ aZ 56 0 0:=mH
theorem OT:BB aZ 99 9 4 bG Bool (false:Bool):=⟨by kernel_rfl,wX.str y6,yk (.bool false)<|λM=>⟨_,rfl,rfl⟩⟩
theorem OY:Tryz.prog.underlying 99=some (.map 9 4):=by kernel_rfl
theorem PF:gh aZ 4:=gH Tryz.func4
theorem Kb:Tryz.prog.underlying 33=some (.slice 47):=by kernel_rfl
theorem O3:gh aZ 5:=gH Tryz.func5
theorem O4:K9 aZ 32 [n_,n_,n_,n_]:=⟨(.agg #[n_,n_,n_,n_]),λ_=>by kernel_rfl,rfl⟩
theorem O5:qj aZ 30 42 5 56:=qj.of<|.agg #[(.string ⟨#[]⟩),(.string ⟨#[]⟩),(.int .i64 0),(.int .i64 0),(.int .i64 0)]
theorem O6:Ag aZ 26 2:=AY<|.agg #[n_,n_]
theorem O7:K9 aZ 26 [n_,n_]:=⟨(.agg #[n_,n_]),λ_=>by kernel_rfl,rfl⟩
theorem O8:wW aZ 85 [(0,1),(1,1)] #[(.string ⟨#[]⟩),(.string ⟨#[]⟩)]:=wW.of (.agg #[(.string ⟨#[]⟩),(.string ⟨#[]⟩)]) Tryz.underlying85
theorem O9:qj aZ 23 85 2 32:=qj.of<|.agg #[(.string ⟨#[]⟩),(.string ⟨#[]⟩)]
theorem Pa:wW aZ 61 [(0,1),(1,1),(2,1)] #[(.string ⟨#[]⟩),n_,n_]:=wW.of (.agg #[(.string ⟨#[]⟩),n_,n_]) Tryz.underlying61
theorem Pb:K9 aZ 61 [(.string ⟨#[]⟩),n_,n_]:=⟨(.agg #[(.string ⟨#[]⟩),n_,n_]),λ_=>by kernel_rfl,rfl⟩
theorem Pc:qj aZ 24 61 3 64:=qj.of<|.agg #[(.string ⟨#[]⟩),n_,n_]
theorem Iv:lJ aZ 47 0 0:=mH
theorem Iw:lJ aZ 47 2 2:=mH
theorem Ix:lJ aZ 47 1 1:=mH
def pH(E:World)(V:List HP)(res:aI)(v:Value)(w:World):Prop:=Holds E w<|[rd v res]++V
def aD(E:World)(V:List HP)(res:Int)(v:Value)(w:World):Prop:=v= vi res/\Holds E w V
def bB(E:World)(V:List HP)(res:Bool)(v:Value)(w:World):Prop:=v= vb res/\Holds E w V
def dC(E:World)(V:List HP)(res:Int×Bool)(v:Value)(w:World):Prop:=v = .tuple #[vi res.1,vb res.2]/\Holds E w V
def oQ(E:World)(V:List HP)(res:List bG)(v:Value)(w:World):Prop:=Holds E w<|[own 9 v res]++V
def p8(E:World)(V:List HP)(res:Option (List (List aI)×List aI×List cK×List dD×List (List aA)×List aH×List (List Int)×List bK×List Int×List Int×List Int×List j4)×Int)(v:Value)(w:World):Prop:=Jv res.1 (v = .tuple #[(.pointer none),vi res.2]/\Holds E w V) (λy=>∃(ub0:Nat)(v_ L_:Value)(M_ N_:Value)(D_ E_:Value)(F_ G_:Value)(H_ I_:Value)(J_ K_:Value),v = .tuple #[vp ub0 0,vi res.2]/\Holds E w ([bc 73 ub0 [v_,L_,M_,N_,D_,E_,F_,G_,H_,I_,J_,K_],rd v_ y.1,rd L_ y.2.1,rd M_ y.2.2.1,rd N_ y.2.2.2.1,own 137 D_ y.2.2.2.2.1,rd E_ y.2.2.2.2.2.1,rd F_ y.2.2.2.2.2.2.1,own 75 G_ y.2.2.2.2.2.2.2.1,rd H_ y.2.2.2.2.2.2.2.2.1,rd I_ y.2.2.2.2.2.2.2.2.2.1,own 3 J_ y.2.2.2.2.2.2.2.2.2.2.1,own 164 K_ y.2.2.2.2.2.2.2.2.2.2.2]++V))
def lC(E:World)(V:List HP)(res:List aS)(v:Value)(w:World):Prop:=Holds E w<|[own 59 v res]++V
def lL(E:World)(V:List HP)(res:List aI)(v:Value)(w:World):Prop:=Holds E w<|[own 83 v res]++V
def kV(E:World)(V:List HP)(res:List Int)(v:Value)(w:World):Prop:=Holds E w<|[own 3 v res]++V
def lD(E:World)(V:List HP)(res:List aA)(v:Value)(w:World):Prop:=Holds E w<|[own 185 v res]++V
def t6(H:Type)(d:DataW H):Nat:=YtnpfijpoffemhaaGreatDoor.Rows.uptoBulk d
def M5(H:Type)(d:List (DataW H)):Nat:=YtnpfijpoffemhaaGreatDoor.Rows.uptoBulkAll d
theorem dS:UB t6 M5 where
  str:=λH b=>by simp[t6,YtnpfijpoffemhaaGreatDoor.Rows.uptoBulk]
  pos:=λH d=>by
    unfold t6
    cases d with
    |lit l=>cases l <;> simp[YtnpfijpoffemhaaGreatDoor.Rows.uptoBulk]
    |nil=>simp[YtnpfijpoffemhaaGreatDoor.Rows.uptoBulk]
    |ptr d=>simp[YtnpfijpoffemhaaGreatDoor.Rows.uptoBulk]
    |slice elems spare=>simp[YtnpfijpoffemhaaGreatDoor.Rows.uptoBulk]
    |agg parts=>simp[YtnpfijpoffemhaaGreatDoor.Rows.uptoBulk]
    |iface t d=>simp[YtnpfijpoffemhaaGreatDoor.Rows.uptoBulk]
    |map entries=>simp[YtnpfijpoffemhaaGreatDoor.Rows.uptoBulk]
    |held h=>simp[YtnpfijpoffemhaaGreatDoor.Rows.uptoBulk]
  sl:=λH e s=>by simp[t6,M5,YtnpfijpoffemhaaGreatDoor.Rows.uptoBulk]
  ag:=λH l=>by simp[t6,M5,YtnpfijpoffemhaaGreatDoor.Rows.uptoBulk]
  nil:=λH=>by simp[M5,YtnpfijpoffemhaaGreatDoor.Rows.uptoBulkAll]
  cons:=λH x l=>by simp[t6,M5,YtnpfijpoffemhaaGreatDoor.Rows.uptoBulkAll]
theorem IE:fV t6 Tryz.prog 9 bG:=GM dS (by kernel_rfl)
theorem HB:fV t6 Tryz.prog 3 Int:=GL dS (by kernel_rfl)
theorem M6:fV t6 Tryz.prog 121 cE:=gv dS (λ(x:cE)=>(x.Name,x.Kind,x.bK)) (λb=>⟨b.1,b.2.1,b.2.2⟩) (λb=>rfl) Tryz.underlying121 (dI dS IE<|dI dS HB<|jX dS HB) (λb=>by simp only[zf];omega)
theorem M7:fV t6 Tryz.prog 116 (List cE):=jO (e:=121) dS M6
theorem M8:fV t6 Tryz.prog 118 aJ:=gv dS (λ(x:aJ)=>(x.Name,x.aP)) (λb=>⟨b.1,b.2⟩) (λb=>rfl) Tryz.underlying118 (dI dS IE<|jX dS M7) (λb=>by simp only[pJ];omega)
theorem Pe:fV t6 Tryz.prog 22 (List aJ):=jO (e:=118) dS M8
theorem Pf:fV t6 Tryz.prog 85 Part:=gv dS (λ(x:Part)=>(x.Name,x.iB)) (λb=>⟨b.1,b.2⟩) (λb=>rfl) Tryz.underlying85 (dI dS IE<|jX dS IE) (λb=>by simp only[B9];omega)
theorem Pg:fV t6 Tryz.prog 23 (List Part):=jO (e:=85) dS Pf
theorem Ph:fV t6 Tryz.prog 59 aS:=gv dS (λ(x:aS)=>(x.Part,x.aS)) (λb=>⟨b.1,b.2⟩) (λb=>rfl) Tryz.underlying59 (dI dS IE<|jX dS IE) (λb=>by simp only[IC];omega)
theorem Pj:fV t6 Tryz.prog 45 (List aS):=jO (e:=59) dS Ph
theorem Pk:fV t6 Tryz.prog 44 (List bG):=jO (e:=9) dS IE
theorem Pl:fV t6 Tryz.prog 61 Net:=gv dS (λ(x:Net)=>(x.Name,x.aP,x.rU)) (λb=>⟨b.1,b.2.1,b.2.2⟩) (λb=>rfl) Tryz.underlying61 (dI dS IE<|dI dS Pj<|jX dS Pk) (λb=>by simp only[zg];omega)
theorem Pm:fV t6 Tryz.prog 24 (List Net):=jO (e:=61) dS Pl
theorem Pn:fV t6 Tryz.prog 26 aT:=gv dS (λ(x:aT)=>(x.cJ,x.bA)) (λb=>⟨b.1,b.2⟩) (λb=>rfl) Tryz.underlying26 (dI dS Pg<|jX dS Pm) (λb=>by simp only[rz];omega)
theorem Po:fV t6 Tryz.prog 83 aI:=gv dS (λ(x:aI)=>(x.X0,x.Y0,x.X1,x.Y1)) (λb=>⟨b.1,b.2.1,b.2.2.1,b.2.2.2⟩) (λb=>rfl) Tryz.underlying83 (dI dS HB<|dI dS HB<|dI dS HB<|jX dS HB) (λb=>by simp only[Kf];omega)
theorem M9:fV t6 Tryz.prog 28 (List aI):=jO (e:=83) dS Po
theorem Pp:fV t6 Tryz.prog 27 (List<|List aI):=jO (e:=28) dS M9
theorem Na:fV t6 Tryz.prog 40 kG:=gv dS (λ(x:kG)=>(x.X,x.Y)) (λb=>⟨b.1,b.2⟩) (λb=>rfl) Tryz.underlying40 (dI dS HB<|jX dS HB) (λb=>by simp only[ID];omega)
theorem P7:fV t6 Tryz.prog 4 Bool:=EG dS (by kernel_rfl)
theorem Nb:fV t6 Tryz.prog 113 cK:=gv dS (λ(x:cK)=>(x.At,x.eU,x.dZ,x.To,x.jL)) (λb=>⟨b.1,b.2.1,b.2.2.1,b.2.2.2.1,b.2.2.2.2⟩) (λb=>rfl) Tryz.underlying113 (dI dS Na<|dI dS HB<|dI dS HB<|dI dS HB<|jX dS P7) (λb=>by simp only[Kg];omega)
theorem Pq:fV t6 Tryz.prog 29 (List cK):=jO (e:=113) dS Nb
theorem Ps:fV t6 Tryz.prog 42 dD:=gv dS (λ(x:dD)=>(x.Part,x.aS,x.eX,x.At)) (λb=>⟨b.1,b.2.1,b.2.2.1,b.2.2.2⟩) (λb=>rfl) Tryz.underlying42 (dI dS IE<|dI dS IE<|dI dS HB<|jX dS Na) (λb=>by simp only[Ca];omega)
theorem Pt:fV t6 Tryz.prog 30 (List dD):=jO (e:=42) dS Ps
theorem Pv:fV t6 Tryz.prog 32 jg:=gv dS (λ(x:jg)=>(x.aN,x.cL,x.bN,x.bC)) (λb=>⟨b.1,b.2.1,b.2.2.1,b.2.2.2⟩) (λb=>rfl) Tryz.underlying32 (dI dS Pp<|dI dS M9<|dI dS Pq<|jX dS Pt) (λb=>by simp only[EH];omega)
end Go.Gk
namespace Go.Proofs
open Go.Shelf Go.RowKit Go.Lib Go.Sort
def Tryz.lay100_ren : Go.Shelf.Ren := ⟨fun | 6 => 100 | 15 => 25 | 14 => 135 | 28 => 54 | 29 => 55 | 20 => 153 | 21 => 154 | 22 => 155 | 23 => 156 | 24 => 157 | 25 => 158 | 26 => 159 | 27 => 160 | 46 => 176 | 47 => 91 | 48 => 92 | 49 => 177 | 50 => 178 | 57 => 187 | n => n, fun | 22 => 28 | 24 => 83 | 25 => 114 | 3 => 3 | 39 => 94 | 0 => 0 | 53 => 130 | 55 => 132 | 4 => 4 | 46 => 124 | 45 => 123 | 50 => 89 | 5 => 5 | 9 => 9 | 66 => 169 | 70 => 173 | 76 => 203 | 77 => 204 | n => n, fun | n => n⟩
theorem Tryz.lay100 : Go.Proofs.SlLaysF0.n6 Tryz.prog Tryz.lay100_ren := {
  mixed := by kernel_rfl
  f6 := ⟨Tryz.f100.name, by decide, Tryz.func100.trans (congrArg some (by kernel_rfl))⟩
  f14 := ⟨Tryz.f135.name, by decide, Tryz.func135.trans (congrArg some (by kernel_rfl))⟩
  f15 := Tryz.func25.trans (congrArg some (by kernel_rfl))
  f20 := ⟨Tryz.f153.name, by decide, Tryz.func153.trans (congrArg some (by kernel_rfl))⟩
  f21 := ⟨Tryz.f154.name, by decide, Tryz.func154.trans (congrArg some (by kernel_rfl))⟩
  f22 := ⟨Tryz.f155.name, by decide, Tryz.func155.trans (congrArg some (by kernel_rfl))⟩
  f23 := ⟨Tryz.f156.name, by decide, Tryz.func156.trans (congrArg some (by kernel_rfl))⟩
  f24 := ⟨Tryz.f157.name, by decide, Tryz.func157.trans (congrArg some (by kernel_rfl))⟩
  f25 := ⟨Tryz.f158.name, by decide, Tryz.func158.trans (congrArg some (by kernel_rfl))⟩
  f26 := ⟨Tryz.f159.name, by decide, Tryz.func159.trans (congrArg some (by kernel_rfl))⟩
  f27 := ⟨Tryz.f160.name, by decide, Tryz.func160.trans (congrArg some (by kernel_rfl))⟩
  f28 := Tryz.func54.trans (congrArg some (by kernel_rfl))
  f29 := Tryz.func55.trans (congrArg some (by kernel_rfl))
  f46 := ⟨Tryz.f176.name, by decide, Tryz.func176.trans (congrArg some (by kernel_rfl))⟩
  f47 := Tryz.func91.trans (congrArg some (by kernel_rfl))
  f48 := Tryz.func92.trans (congrArg some (by kernel_rfl))
  f49 := ⟨Tryz.f177.name, by decide, Tryz.func177.trans (congrArg some (by kernel_rfl))⟩
  f50 := ⟨Tryz.f178.name, by decide, Tryz.func178.trans (congrArg some (by kernel_rfl))⟩
  f57 := ⟨Tryz.f187.name, by decide, Tryz.func187.trans (congrArg some (by kernel_rfl))⟩
  t0 := Tryz.underlying0
  a0 := Tryz.isAgg0
  z0 := Tryz.sizeOf0
  v0 := Tryz.zeroValue0
  t3 := Tryz.underlying3
  a3 := Tryz.isAgg3
  z3 := Tryz.sizeOf3
  v3 := Tryz.zeroValue3
  t4 := Tryz.underlying4
  a4 := Tryz.isAgg4
  z4 := Tryz.sizeOf4
  v4 := Tryz.zeroValue4
  t5 := Tryz.underlying5
  a5 := Tryz.isAgg5
  z5 := Tryz.sizeOf5
  v5 := Tryz.zeroValue5
  t9 := Tryz.underlying9
  a9 := Tryz.isAgg9
  z9 := Tryz.sizeOf9
  v9 := Tryz.zeroValue9
  t22 := Tryz.underlying28
  a22 := Tryz.isAgg28
  z22 := Tryz.sizeOf28
  v22 := Tryz.zeroValue28
  t25 := Tryz.underlying114
  a25 := Tryz.isAgg114
  z25 := Tryz.sizeOf114
  v25 := Tryz.zeroValue114
  t39 := Tryz.underlying94
  a39 := Tryz.isAgg94
  z39 := Tryz.sizeOf94
  v39 := Tryz.zeroValue94
  t45 := Tryz.underlying123
  a45 := Tryz.isAgg123
  z45 := Tryz.sizeOf123
  v45 := Tryz.zeroValue123
  t46 := Tryz.underlying124
  a46 := Tryz.isAgg124
  z46 := Tryz.sizeOf124
  v46 := Tryz.zeroValue124
  t50 := Tryz.underlying89
  a50 := Tryz.isAgg89
  z50 := Tryz.sizeOf89
  v50 := Tryz.zeroValue89
  t53 := Tryz.underlying130
  a53 := Tryz.isAgg130
  z53 := Tryz.sizeOf130
  v53 := Tryz.zeroValue130
  t55 := Tryz.underlying132
  a55 := Tryz.isAgg132
  z55 := Tryz.sizeOf132
  v55 := Tryz.zeroValue132
  t66 := Tryz.underlying169
  a66 := Tryz.isAgg169
  z66 := Tryz.sizeOf169
  v66 := Tryz.zeroValue169
  t70 := Tryz.underlying173
  a70 := Tryz.isAgg173
  z70 := Tryz.sizeOf173
  v70 := Tryz.zeroValue173
  t76 := Tryz.underlying203
  a76 := Tryz.isAgg203
  z76 := Tryz.sizeOf203
  v76 := Tryz.zeroValue203
  t77 := Tryz.underlying204
  a77 := Tryz.isAgg204
  z77 := Tryz.sizeOf204
  v77 := Tryz.zeroValue204 }
def Tryz.lay102_ren : Go.Shelf.Ren := ⟨fun | 5 => 102 | 8 => 25 | 7 => 136 | 19 => 54 | 20 => 55 | 10 => 161 | 11 => 162 | 12 => 163 | 13 => 164 | 14 => 165 | 15 => 166 | 16 => 167 | 17 => 168 | 18 => 169 | 30 => 179 | 31 => 91 | 32 => 92 | 33 => 180 | 34 => 181 | 35 => 182 | 40 => 188 | n => n, fun | 23 => 70 | 25 => 3 | 3 => 3 | 32 => 94 | 22 => 70 | 0 => 0 | 44 => 130 | 46 => 132 | 4 => 4 | 36 => 124 | 35 => 123 | 41 => 89 | 5 => 5 | 9 => 9 | 53 => 169 | 57 => 173 | 63 => 203 | 64 => 204 | n => n, fun | n => n⟩
theorem Tryz.lay102 : Go.Proofs.SlLaysM.n5 Tryz.prog Tryz.lay102_ren := {
  mixed := by kernel_rfl
  f5 := ⟨Tryz.f102.name, by decide, Tryz.func102.trans (congrArg some (by kernel_rfl))⟩
  f7 := ⟨Tryz.f136.name, by decide, Tryz.func136.trans (congrArg some (by kernel_rfl))⟩
  f8 := Tryz.func25.trans (congrArg some (by kernel_rfl))
  f10 := ⟨Tryz.f161.name, by decide, Tryz.func161.trans (congrArg some (by kernel_rfl))⟩
  f11 := ⟨Tryz.f162.name, by decide, Tryz.func162.trans (congrArg some (by kernel_rfl))⟩
  f12 := ⟨Tryz.f163.name, by decide, Tryz.func163.trans (congrArg some (by kernel_rfl))⟩
  f13 := ⟨Tryz.f164.name, by decide, Tryz.func164.trans (congrArg some (by kernel_rfl))⟩
  f14 := ⟨Tryz.f165.name, by decide, Tryz.func165.trans (congrArg some (by kernel_rfl))⟩
  f15 := ⟨Tryz.f166.name, by decide, Tryz.func166.trans (congrArg some (by kernel_rfl))⟩
  f16 := ⟨Tryz.f167.name, by decide, Tryz.func167.trans (congrArg some (by kernel_rfl))⟩
  f17 := ⟨Tryz.f168.name, by decide, Tryz.func168.trans (congrArg some (by kernel_rfl))⟩
  f18 := ⟨Tryz.f169.name, by decide, Tryz.func169.trans (congrArg some (by kernel_rfl))⟩
  f19 := Tryz.func54.trans (congrArg some (by kernel_rfl))
  f20 := Tryz.func55.trans (congrArg some (by kernel_rfl))
  f30 := ⟨Tryz.f179.name, by decide, Tryz.func179.trans (congrArg some (by kernel_rfl))⟩
  f31 := Tryz.func91.trans (congrArg some (by kernel_rfl))
  f32 := Tryz.func92.trans (congrArg some (by kernel_rfl))
  f33 := ⟨Tryz.f180.name, by decide, Tryz.func180.trans (congrArg some (by kernel_rfl))⟩
  f34 := ⟨Tryz.f181.name, by decide, Tryz.func181.trans (congrArg some (by kernel_rfl))⟩
  f35 := ⟨Tryz.f182.name, by decide, Tryz.func182.trans (congrArg some (by kernel_rfl))⟩
  f40 := ⟨Tryz.f188.name, by decide, Tryz.func188.trans (congrArg some (by kernel_rfl))⟩
  t0 := Tryz.underlying0
  a0 := Tryz.isAgg0
  z0 := Tryz.sizeOf0
  v0 := Tryz.zeroValue0
  t3 := Tryz.underlying3
  a3 := Tryz.isAgg3
  z3 := Tryz.sizeOf3
  v3 := Tryz.zeroValue3
  t4 := Tryz.underlying4
  a4 := Tryz.isAgg4
  z4 := Tryz.sizeOf4
  v4 := Tryz.zeroValue4
  t5 := Tryz.underlying5
  a5 := Tryz.isAgg5
  z5 := Tryz.sizeOf5
  v5 := Tryz.zeroValue5
  t9 := Tryz.underlying9
  a9 := Tryz.isAgg9
  z9 := Tryz.sizeOf9
  v9 := Tryz.zeroValue9
  t22 := Tryz.underlying70
  a22 := Tryz.isAgg70
  z22 := Tryz.sizeOf70
  v22 := Tryz.zeroValue70
  t23 := Tryz.underlying70
  a23 := Tryz.isAgg70
  z23 := Tryz.sizeOf70
  v23 := Tryz.zeroValue70
  t25 := Tryz.underlying3
  a25 := Tryz.isAgg3
  z25 := Tryz.sizeOf3
  v25 := Tryz.zeroValue3
  t32 := Tryz.underlying94
  a32 := Tryz.isAgg94
  z32 := Tryz.sizeOf94
  v32 := Tryz.zeroValue94
  t35 := Tryz.underlying123
  a35 := Tryz.isAgg123
  z35 := Tryz.sizeOf123
  v35 := Tryz.zeroValue123
  t36 := Tryz.underlying124
  a36 := Tryz.isAgg124
  z36 := Tryz.sizeOf124
  v36 := Tryz.zeroValue124
  t41 := Tryz.underlying89
  a41 := Tryz.isAgg89
  z41 := Tryz.sizeOf89
  v41 := Tryz.zeroValue89
  t44 := Tryz.underlying130
  a44 := Tryz.isAgg130
  z44 := Tryz.sizeOf130
  v44 := Tryz.zeroValue130
  t46 := Tryz.underlying132
  a46 := Tryz.isAgg132
  z46 := Tryz.sizeOf132
  v46 := Tryz.zeroValue132
  t53 := Tryz.underlying169
  a53 := Tryz.isAgg169
  z53 := Tryz.sizeOf169
  v53 := Tryz.zeroValue169
  t57 := Tryz.underlying173
  a57 := Tryz.isAgg173
  z57 := Tryz.sizeOf173
  v57 := Tryz.zeroValue173
  t63 := Tryz.underlying203
  a63 := Tryz.isAgg203
  z63 := Tryz.sizeOf203
  v63 := Tryz.zeroValue203
  t64 := Tryz.underlying204
  a64 := Tryz.isAgg204
  z64 := Tryz.sizeOf204
  v64 := Tryz.zeroValue204 }
def Tryz.lay12_ren : Go.Shelf.Ren := ⟨fun | 6 => 12 | 15 => 25 | 14 => 24 | 28 => 54 | 29 => 55 | 20 => 46 | 21 => 47 | 22 => 48 | 23 => 49 | 24 => 50 | 25 => 51 | 26 => 52 | 27 => 53 | 46 => 90 | 47 => 91 | 48 => 92 | 49 => 93 | 50 => 94 | 57 => 125 | n => n, fun | 22 => 45 | 24 => 59 | 25 => 64 | 3 => 3 | 39 => 94 | 0 => 0 | 53 => 130 | 55 => 132 | 4 => 4 | 46 => 124 | 45 => 123 | 50 => 89 | 5 => 5 | 9 => 9 | 66 => 169 | 70 => 173 | 76 => 203 | 77 => 204 | n => n, fun | n => n⟩
theorem Tryz.lay12 : Go.Proofs.SlLaysF0.n6 Tryz.prog Tryz.lay12_ren := {
  mixed := by kernel_rfl
  f6 := ⟨Tryz.f12.name, by decide, Tryz.func12.trans (congrArg some (by kernel_rfl))⟩
  f14 := ⟨Tryz.f24.name, by decide, Tryz.func24.trans (congrArg some (by kernel_rfl))⟩
  f15 := Tryz.func25.trans (congrArg some (by kernel_rfl))
  f20 := ⟨Tryz.f46.name, by decide, Tryz.func46.trans (congrArg some (by kernel_rfl))⟩
  f21 := ⟨Tryz.f47.name, by decide, Tryz.func47.trans (congrArg some (by kernel_rfl))⟩
  f22 := ⟨Tryz.f48.name, by decide, Tryz.func48.trans (congrArg some (by kernel_rfl))⟩
  f23 := ⟨Tryz.f49.name, by decide, Tryz.func49.trans (congrArg some (by kernel_rfl))⟩
  f24 := ⟨Tryz.f50.name, by decide, Tryz.func50.trans (congrArg some (by kernel_rfl))⟩
  f25 := ⟨Tryz.f51.name, by decide, Tryz.func51.trans (congrArg some (by kernel_rfl))⟩
  f26 := ⟨Tryz.f52.name, by decide, Tryz.func52.trans (congrArg some (by kernel_rfl))⟩
  f27 := ⟨Tryz.f53.name, by decide, Tryz.func53.trans (congrArg some (by kernel_rfl))⟩
  f28 := Tryz.func54.trans (congrArg some (by kernel_rfl))
  f29 := Tryz.func55.trans (congrArg some (by kernel_rfl))
  f46 := ⟨Tryz.f90.name, by decide, Tryz.func90.trans (congrArg some (by kernel_rfl))⟩
  f47 := Tryz.func91.trans (congrArg some (by kernel_rfl))
  f48 := Tryz.func92.trans (congrArg some (by kernel_rfl))
  f49 := ⟨Tryz.f93.name, by decide, Tryz.func93.trans (congrArg some (by kernel_rfl))⟩
  f50 := ⟨Tryz.f94.name, by decide, Tryz.func94.trans (congrArg some (by kernel_rfl))⟩
  f57 := ⟨Tryz.f125.name, by decide, Tryz.func125.trans (congrArg some (by kernel_rfl))⟩
  t0 := Tryz.underlying0
  a0 := Tryz.isAgg0
  z0 := Tryz.sizeOf0
  v0 := Tryz.zeroValue0
  t3 := Tryz.underlying3
  a3 := Tryz.isAgg3
  z3 := Tryz.sizeOf3
  v3 := Tryz.zeroValue3
  t4 := Tryz.underlying4
  a4 := Tryz.isAgg4
  z4 := Tryz.sizeOf4
  v4 := Tryz.zeroValue4
  t5 := Tryz.underlying5
  a5 := Tryz.isAgg5
  z5 := Tryz.sizeOf5
  v5 := Tryz.zeroValue5
  t9 := Tryz.underlying9
  a9 := Tryz.isAgg9
  z9 := Tryz.sizeOf9
  v9 := Tryz.zeroValue9
  t22 := Tryz.underlying45
  a22 := Tryz.isAgg45
  z22 := Tryz.sizeOf45
  v22 := Tryz.zeroValue45
  t25 := Tryz.underlying64
  a25 := Tryz.isAgg64
  z25 := Tryz.sizeOf64
  v25 := Tryz.zeroValue64
  t39 := Tryz.underlying94
  a39 := Tryz.isAgg94
  z39 := Tryz.sizeOf94
  v39 := Tryz.zeroValue94
  t45 := Tryz.underlying123
  a45 := Tryz.isAgg123
  z45 := Tryz.sizeOf123
  v45 := Tryz.zeroValue123
  t46 := Tryz.underlying124
  a46 := Tryz.isAgg124
  z46 := Tryz.sizeOf124
  v46 := Tryz.zeroValue124
  t50 := Tryz.underlying89
  a50 := Tryz.isAgg89
  z50 := Tryz.sizeOf89
  v50 := Tryz.zeroValue89
  t53 := Tryz.underlying130
  a53 := Tryz.isAgg130
  z53 := Tryz.sizeOf130
  v53 := Tryz.zeroValue130
  t55 := Tryz.underlying132
  a55 := Tryz.isAgg132
  z55 := Tryz.sizeOf132
  v55 := Tryz.zeroValue132
  t66 := Tryz.underlying169
  a66 := Tryz.isAgg169
  z66 := Tryz.sizeOf169
  v66 := Tryz.zeroValue169
  t70 := Tryz.underlying173
  a70 := Tryz.isAgg173
  z70 := Tryz.sizeOf173
  v70 := Tryz.zeroValue173
  t76 := Tryz.underlying203
  a76 := Tryz.isAgg203
  z76 := Tryz.sizeOf203
  v76 := Tryz.zeroValue203
  t77 := Tryz.underlying204
  a77 := Tryz.isAgg204
  z77 := Tryz.sizeOf204
  v77 := Tryz.zeroValue204 }
def Tryz.lay29_ren : Go.Shelf.Ren := ⟨fun | 7 => 29 | 10 => 60 | n => n, fun | 23 => 99 | 26 => 9 | 3 => 4 | 28 => 102 | 0 => 0 | 27 => 101 | 33 => 108 | 4 => 4 | n => n, fun | n => n⟩
theorem Tryz.lay29 : Go.Proofs.SlLaysZ.n7 Tryz.prog Tryz.lay29_ren := {
  mixed := by kernel_rfl
  f7 := ⟨Tryz.f29.name, by decide, Tryz.func29.trans (congrArg some (by kernel_rfl))⟩
  f10 := ⟨Tryz.f60.name, by decide, Tryz.func60.trans (congrArg some (by kernel_rfl))⟩
  t0 := Tryz.underlying0
  a0 := Tryz.isAgg0
  z0 := Tryz.sizeOf0
  v0 := Tryz.zeroValue0
  t4 := Tryz.underlying4
  a4 := Tryz.isAgg4
  z4 := Tryz.sizeOf4
  v4 := Tryz.zeroValue4
  t23 := Tryz.underlying99
  a23 := Tryz.isAgg99
  z23 := Tryz.sizeOf99
  v23 := Tryz.zeroValue99
  t26 := Tryz.underlying9
  a26 := Tryz.isAgg9
  z26 := Tryz.sizeOf9
  v26 := Tryz.zeroValue9
  t27 := Tryz.underlying101
  a27 := Tryz.isAgg101
  z27 := Tryz.sizeOf101
  v27 := Tryz.zeroValue101
  t28 := Tryz.underlying102
  a28 := Tryz.isAgg102
  z28 := Tryz.sizeOf102
  v28 := Tryz.zeroValue102
  t33 := Tryz.underlying108
  a33 := Tryz.isAgg108
  z33 := Tryz.sizeOf108
  v33 := Tryz.zeroValue108 }
def Tryz.lay28_ren : Go.Shelf.Ren := ⟨fun | 6 => 28 | 8 => 58 | 9 => 59 | 11 => 96 | 13 => 25 | 12 => 97 | 23 => 54 | 24 => 55 | 14 => 126 | 15 => 127 | 16 => 128 | 17 => 129 | 18 => 130 | 19 => 131 | 20 => 132 | 21 => 133 | 22 => 134 | 25 => 149 | 26 => 91 | 27 => 92 | 28 => 150 | 29 => 151 | 30 => 152 | 31 => 175 | n => n, fun | 26 => 9 | 28 => 102 | 24 => 44 | 0 => 0 | 3 => 3 | 37 => 94 | 48 => 130 | 50 => 132 | 4 => 4 | 40 => 124 | 39 => 123 | 45 => 89 | 5 => 5 | 9 => 9 | 51 => 169 | 55 => 173 | 57 => 203 | 58 => 204 | 33 => 108 | n => n, fun | n => n⟩
theorem Tryz.lay28 : Go.Proofs.SlLaysZ.n6 Tryz.prog Tryz.lay28_ren := {
  mixed := by kernel_rfl
  f6 := ⟨Tryz.f28.name, by decide, Tryz.func28.trans (congrArg some (by kernel_rfl))⟩
  f8 := ⟨Tryz.f58.name, by decide, Tryz.func58.trans (congrArg some (by kernel_rfl))⟩
  f11 := ⟨Tryz.f96.name, by decide, Tryz.func96.trans (congrArg some (by kernel_rfl))⟩
  t0 := Tryz.underlying0
  a0 := Tryz.isAgg0
  z0 := Tryz.sizeOf0
  v0 := Tryz.zeroValue0
  t24 := Tryz.underlying44
  a24 := Tryz.isAgg44
  z24 := Tryz.sizeOf44
  v24 := Tryz.zeroValue44
  t26 := Tryz.underlying9
  a26 := Tryz.isAgg9
  z26 := Tryz.sizeOf9
  v26 := Tryz.zeroValue9
  t28 := Tryz.underlying102
  a28 := Tryz.isAgg102
  z28 := Tryz.sizeOf102
  v28 := Tryz.zeroValue102
  i26 := by kernel_rfl }
def Tryz.lay59_ren : Go.Shelf.Ren := ⟨fun | 6 => 59 | 8 => 25 | 9 => 97 | 19 => 54 | 20 => 55 | 21 => 126 | 22 => 127 | 23 => 128 | 24 => 129 | 25 => 130 | 26 => 131 | 27 => 132 | 28 => 133 | 29 => 134 | 36 => 149 | 31 => 91 | 32 => 92 | 37 => 150 | 38 => 151 | 39 => 152 | 41 => 175 | n => n, fun | 27 => 44 | 29 => 9 | 3 => 3 | 32 => 94 | 26 => 44 | 0 => 0 | 44 => 130 | 46 => 132 | 4 => 4 | 36 => 124 | 35 => 123 | 41 => 89 | 5 => 5 | 9 => 9 | 53 => 169 | 57 => 173 | 63 => 203 | 64 => 204 | n => n, fun | n => n⟩
theorem Tryz.lay59 : Go.Proofs.SlLaysM.n6 Tryz.prog Tryz.lay59_ren := {
  mixed := by kernel_rfl
  f6 := ⟨Tryz.f59.name, by decide, Tryz.func59.trans (congrArg some (by kernel_rfl))⟩
  f8 := Tryz.func25.trans (congrArg some (by kernel_rfl))
  f9 := ⟨Tryz.f97.name, by decide, Tryz.func97.trans (congrArg some (by kernel_rfl))⟩
  f19 := Tryz.func54.trans (congrArg some (by kernel_rfl))
  f20 := Tryz.func55.trans (congrArg some (by kernel_rfl))
  f21 := ⟨Tryz.f126.name, by decide, Tryz.func126.trans (congrArg some (by kernel_rfl))⟩
  f22 := ⟨Tryz.f127.name, by decide, Tryz.func127.trans (congrArg some (by kernel_rfl))⟩
  f23 := ⟨Tryz.f128.name, by decide, Tryz.func128.trans (congrArg some (by kernel_rfl))⟩
  f24 := ⟨Tryz.f129.name, by decide, Tryz.func129.trans (congrArg some (by kernel_rfl))⟩
  f25 := ⟨Tryz.f130.name, by decide, Tryz.func130.trans (congrArg some (by kernel_rfl))⟩
  f26 := ⟨Tryz.f131.name, by decide, Tryz.func131.trans (congrArg some (by kernel_rfl))⟩
  f27 := ⟨Tryz.f132.name, by decide, Tryz.func132.trans (congrArg some (by kernel_rfl))⟩
  f28 := ⟨Tryz.f133.name, by decide, Tryz.func133.trans (congrArg some (by kernel_rfl))⟩
  f29 := ⟨Tryz.f134.name, by decide, Tryz.func134.trans (congrArg some (by kernel_rfl))⟩
  f31 := Tryz.func91.trans (congrArg some (by kernel_rfl))
  f32 := Tryz.func92.trans (congrArg some (by kernel_rfl))
  f36 := ⟨Tryz.f149.name, by decide, Tryz.func149.trans (congrArg some (by kernel_rfl))⟩
  f37 := ⟨Tryz.f150.name, by decide, Tryz.func150.trans (congrArg some (by kernel_rfl))⟩
  f38 := ⟨Tryz.f151.name, by decide, Tryz.func151.trans (congrArg some (by kernel_rfl))⟩
  f39 := ⟨Tryz.f152.name, by decide, Tryz.func152.trans (congrArg some (by kernel_rfl))⟩
  f41 := ⟨Tryz.f175.name, by decide, Tryz.func175.trans (congrArg some (by kernel_rfl))⟩
  t0 := Tryz.underlying0
  a0 := Tryz.isAgg0
  z0 := Tryz.sizeOf0
  v0 := Tryz.zeroValue0
  t3 := Tryz.underlying3
  a3 := Tryz.isAgg3
  z3 := Tryz.sizeOf3
  v3 := Tryz.zeroValue3
  t4 := Tryz.underlying4
  a4 := Tryz.isAgg4
  z4 := Tryz.sizeOf4
  v4 := Tryz.zeroValue4
  t5 := Tryz.underlying5
  a5 := Tryz.isAgg5
  z5 := Tryz.sizeOf5
  v5 := Tryz.zeroValue5
  t9 := Tryz.underlying9
  a9 := Tryz.isAgg9
  z9 := Tryz.sizeOf9
  v9 := Tryz.zeroValue9
  t26 := Tryz.underlying44
  a26 := Tryz.isAgg44
  z26 := Tryz.sizeOf44
  v26 := Tryz.zeroValue44
  t27 := Tryz.underlying44
  a27 := Tryz.isAgg44
  z27 := Tryz.sizeOf44
  v27 := Tryz.zeroValue44
  t29 := Tryz.underlying9
  a29 := Tryz.isAgg9
  z29 := Tryz.sizeOf9
  v29 := Tryz.zeroValue9
  t32 := Tryz.underlying94
  a32 := Tryz.isAgg94
  z32 := Tryz.sizeOf94
  v32 := Tryz.zeroValue94
  t35 := Tryz.underlying123
  a35 := Tryz.isAgg123
  z35 := Tryz.sizeOf123
  v35 := Tryz.zeroValue123
  t36 := Tryz.underlying124
  a36 := Tryz.isAgg124
  z36 := Tryz.sizeOf124
  v36 := Tryz.zeroValue124
  t41 := Tryz.underlying89
  a41 := Tryz.isAgg89
  z41 := Tryz.sizeOf89
  v41 := Tryz.zeroValue89
  t44 := Tryz.underlying130
  a44 := Tryz.isAgg130
  z44 := Tryz.sizeOf130
  v44 := Tryz.zeroValue130
  t46 := Tryz.underlying132
  a46 := Tryz.isAgg132
  z46 := Tryz.sizeOf132
  v46 := Tryz.zeroValue132
  t53 := Tryz.underlying169
  a53 := Tryz.isAgg169
  z53 := Tryz.sizeOf169
  v53 := Tryz.zeroValue169
  t57 := Tryz.underlying173
  a57 := Tryz.isAgg173
  z57 := Tryz.sizeOf173
  v57 := Tryz.zeroValue173
  t63 := Tryz.underlying203
  a63 := Tryz.isAgg203
  z63 := Tryz.sizeOf203
  v63 := Tryz.zeroValue203
  t64 := Tryz.underlying204
  a64 := Tryz.isAgg204
  z64 := Tryz.sizeOf204
  v64 := Tryz.zeroValue204 }
end Go.Proofs
namespace Go.Gk
open Go IntKind Go.Proofs
variable (N:Nat){E w:World}{i0 i1 i2:Nat}{p1 p2 p3 res:Int}{v0 v1 v2:Value}{V:List HP}
theorem lS{p0:bG}(o:Holds E w V)(j:gF N p0 p1=some res):c_ 139 [str p0,(.int .u8 p1)] w<|aD E V res:=by
 unfold gF at j;refine enter Tryz.func139 zr zr<|AI<|aL 0<|IN<|mv (str p0)<|mv (.int .u8 p1)<|Ss (vi<|Lib.indexByte p0.bX (Int.toNat p1).toUInt8) zr [str p0,(.int .u8 p1)] zr (JR p0 p1 w)<|aL (Lib.indexByte p0.bX (Int.toNat p1).toUInt8)<|AS ?_;exact Qk<|oi j▸bT ⟨rfl,o.drop 0⟩
theorem sW{p0:bG}(o:Holds E w V)(j:hU N p0 p1=some res):c_ 108 [str p0,(.int .u8 p1)] w<|aD E V res:=by
 unfold hU at j;exact enter Tryz.func108 zr zr<|AI<|aL 0<|IN<|mv (str p0)<|mv (.int .u8 p1)<|q_ j λaa ab j=>Qp KN (lS N (p0:=p0) (p1:=p1) o ab) λw o=>aL aa<|AS<|Qk<|oi j▸bT ⟨rfl,o.drop 0⟩
theorem kI{p0:bG}{res:Bool}(hw:Holds E w V)(o:fD N p0=some res):c_ 65 [str p0] w<|bB E V res:=by
 unfold fD at o;refine enter Tryz.func65 zr zr<|AI<|bY false<|IT<|AI<|mv (str p0)<|RA p0 y6<|aX 0<|AS<|Rf E V (λ(ag:Unit)=>[]) (λ_=>[(0,str p0)]) (λad _=>[(6,vi p0.bX.length),(7,vi ad)]) (λr=>mq aZ 49 Tryz.f65 (bB E V r) .ret) o ?_ ?_ ?_ ?_;exact hw.sp 0 [];rintro hm ad ag fl _ w hk⟨O,rfl,hw⟩o;refine IS<|Qt<|aX (ad:Int)<|aL (ad:Int)<|IN<|mv (str p0)<|aX (ad:Int)<|q_ o λj ak o=>Sq p0 (ad:Int) j zr zr zr y6 ak<|dU (.int .u8 (j.toNat:Int))<|IT ?_;refine q_ o λaf hj o=>Qu (λ(af:Bool)=>SH E V [(0,str p0),(6,vi p0.bX.length),(7,vi ad),(39,vb af)] []) af ?_ ?_;refine BY<|mv (.int .u8 (j.toNat:Int))<|ic ((j.toNat:Int)) 65<|gU (decide<|(j.toNat:Int)<65)<|QI (.int .u8 (j.toNat:Int)) zr zr w3<|QI (vb<|decide<|(j.toNat:Int)>90) zr zr (w4 .gtr)<|QV (b:=decide<|(j.toNat:Int)<65) (v:=vb<|decide ((j.toNat:Int)<65)||decide ((j.toNat:Int)>90)) zt zr zr (sG true)<|gU (decide ((j.toNat:Int)<65)||decide ((j.toNat:Int)>90))<|QI (.int .u8 (j.toNat:Int)) zr zr w3 ?_;refine QI (vb<|decide<|(j.toNat:Int)<97) zr zr (w4 .lss)<|QI (vb<|decide<|(j.toNat:Int)<97) zr zr w3<|Q9 (.int .u8 (j.toNat:Int)) zr zr w3<|Q9 (vb<|decide<|(j.toNat:Int)>122) zr zr (w4 .gtr)<|QI (vb<|decide ((j.toNat:Int)<97)||decide ((j.toNat:Int)>122)) zr zr Nz<|QV (b:=decide ((j.toNat:Int)<65)||decide ((j.toNat:Int)>90)) (v:=vb<|(decide ((j.toNat:Int)<65)||decide ((j.toNat:Int)>90))&&(decide ((j.toNat:Int)<97)||decide ((j.toNat:Int)>122))) zt zr zr (ma true)<|gU ((decide ((j.toNat:Int)<65)||decide ((j.toNat:Int)>90))&&(decide ((j.toNat:Int)<97)||decide ((j.toNat:Int)>122)))<|QI (.int .u8 (j.toNat:Int)) zr zr w3<|QI (vb<|decide<|(j.toNat:Int)<48) zr zr (w4 .lss) ?_;refine QI (vb<|decide<|(j.toNat:Int)<48) zr zr w3<|Q9 (.int .u8 (j.toNat:Int)) zr zr w3<|Q9 (vb<|decide<|(j.toNat:Int)>57) zr zr (w4 .gtr)<|QI (vb<|decide ((j.toNat:Int)<48)||decide ((j.toNat:Int)>57)) zr zr Nz<|QV (b:=(decide ((j.toNat:Int)<65)||decide ((j.toNat:Int)>90))&&(decide ((j.toNat:Int)<97)||decide ((j.toNat:Int)>122))) (v:=vb<|((decide ((j.toNat:Int)<65)||decide ((j.toNat:Int)>90))&&(decide ((j.toNat:Int)<97)||decide ((j.toNat:Int)>122)))&&(decide ((j.toNat:Int)<48)||decide ((j.toNat:Int)>57))) zt zr zr (ma true)<|gU (((decide ((j.toNat:Int)<65)||decide ((j.toNat:Int)>90))&&(decide ((j.toNat:Int)<97)||decide ((j.toNat:Int)>122)))&&(decide ((j.toNat:Int)<48)||decide ((j.toNat:Int)>57)))<|gK hj (λab hj=>?_) λab hj=>?_;refine Qq (.int .u8 (j.toNat:Int)) (cg ab)<|q_ hj λah al hj=>Qp (hg:=cg ab) (gH Tryz.func108) (sW N (p0:=⟨[95,43,45,35]⟩) (p1:=(j.toNat:Int)) hw al) λw hw=>Q1 ah 0 (cg ab)<|gT ab (vb<|decide<|ah<0)<|By ?_;exact oi hj▸⟨rfl,hw.sp 0 []⟩;exact bS ab<|bS ab<|bS ab<|gT ab (vb false)<|By<|oi hj▸⟨rfl,hw.sp 0 []⟩;rintro _ w⟨O,rfl,hw⟩;refine aC<|eH o (λo=>?_) λo=>?_;exact AI<|bY false<|AS<|QY<|bL<|oi o▸⟨rfl,bT ⟨rfl,hw.drop 0⟩⟩;exact QJ<|bJ<|aC<|BY<|Qw hk hm<|aX ((ad+1:Nat):Int)<|By<|oi o▸⟨rfl,hw.sp 0 []⟩;intro r U w o hK;exact bL<|oi o▸hK;rintro ag _ w o⟨O,rfl,hw⟩;refine aC<|AI<|mv (str p0)<|RA p0 y6<|ic ((p0.bX.length:Int)) 1<|gU (decide<|(p0.bX.length:Int)>=1)<|QI (str p0) rfl rfl w3<|QT true (decide<|(p0.bX.length:Int)>=1) (vi p0.bX.length) rfl rfl rfl (JD (s:=p0) rfl (by exact z_ (str p0)) y6)<|QI (vb<|decide<|(p0.bX.length:Int)<=40) rfl rfl (w4 .leq) ?_;exact QV (b:=decide<|(p0.bX.length:Int)>=1) (v:=vb<|decide ((p0.bX.length:Int)>=1)&&decide ((p0.bX.length:Int)<=40)) zt zr zr (ma true)<|bY (decide ((p0.bX.length:Int)>=1)&&decide ((p0.bX.length:Int)<=40))<|AS<|Qk<|oi o▸bT ⟨rfl,hw.drop 0⟩
theorem qC{p0 p1:cE}{res:Bool}(j:Holds E w V)(h0:V[i0]? =some (rd v0 p0))(h1:V[i1]? =some (pt v1 p1))(hb:eN N p0 p1=some res):c_ 110 [v0,v1] w<|bB E V res:=by
 unfold eN at hb;refine enter Tryz.func110 zr zr ?_;have j:=(j.dup (i0+0) h0).uY (i:=i1+1) h1;refine AI<|QH 1 v0 j zr λaf w j=>?_;refine bY false<|IT<|q_ hb λae hj hb=>Qu (λ(ae:Bool)=>SH E V [(3,vb ae)] []) ae ?_ ?_;refine BY<|QR 1 j zr v9 mJ λag j=>QG p1.bK 0 j cY<|ic p1.bK 0<|gU (decide<|p1.bK>0)<|gK hj (λo hj=>?_) λo hj=>?_;refine AT (hg:=cg o) zr v9<|Qj (hg:=cg o) 1 j zr mJ cY<|QR (hg:=cg o) 2 j zr v9 mJ λah j=>QG (hg:=cg o) p1.bK 0 j cY<|Q1 p0.bK p1.bK (cg o)<|gT o (vb<|p0.bK==p1.bK)<|gU (p0.bK==p1.bK)<|gK hj (λaa hj=>?_) λaa hj=>?_;refine AT (hg:=cg aa) zr yr<|Qj (hg:=cg aa) 2 j zr og cY<|QR (hg:=cg aa) 3 j zr yr og λai j=>QG (hg:=cg aa) p1.Kind 0 j cY<|Q1 p0.Kind p1.Kind (cg aa)<|gT aa (vb<|p0.Kind != p1.Kind)<|bY (p0.Kind != p1.Kind)<|By ?_;exact oi hj▸⟨rfl,j.sp 6 []⟩;exact bS aa<|bS aa<|bS aa<|bS aa<|bS aa<|gT aa (vb false)<|bY false<|By<|oi hj▸⟨rfl,j.sp 5 []⟩;refine bS o<|bS o<|bS o<|bS o<|bS o<|gT o (vb false)<|gU false<|mw<|mw<|mw<|mw<|mw<|QV (b:=false) (v:=vb false) zt zr zr zr<|bY false<|By ?_;exact oi hj▸⟨rfl,j.sp 4 []⟩;rintro _ w⟨O,rfl,j⟩;exact aC<|Qk<|oi hb▸bT ⟨rfl,j.drop 0⟩
theorem om{p0:List cE}{p1:cE->Option Bool}(o:Holds E w V)(h0:V[i0]? =some (rd v0 p0))(h1:Fy aZ E V v1 p1 (λ(r:Bool)=>Value.bool r))(j:jM N p0 p1=some res):c_ 140 [v0,v1] w<|aD E V res:=by
 unfold jM at j;refine enter Tryz.func140 zr zr ?_;have o:=o.dup (i0+0) h0;refine AI<|aL 0<|IT<|AI<|mv v0<|Ql 0 p0 o y7<|aX 0<|AS<|Rf E V (λ(ab:Unit)=>[rd v0 p0]) (λ_=>[]) (λaa _=>[(0,v0),(1,v1),(7,vi p0.length),(8,vi aa)]) (λr=>mq aZ 19 Tryz.f140 (aD E V r) .ret) j ?_ ?_ ?_ ?_;exact o.sp 1 [0];rintro hm aa ab fl _ w hk⟨O,rfl,o⟩j;refine IS<|Qt<|aX (aa:Int)<|aL (aa:Int)<|IN<|mv v1<|mv v0<|aX (aa:Int)<|q_ j λaf ag j=>Qm 0 o xV ag λak o=>Qs 0 af o v7 λal o=>?_;refine q_ j λan ah j=>RN 0 o h1 3 ah λw o=>AS<|eH j (λj=>?_) λj=>?_;exact AI<|aX (aa:Int)<|aL (aa:Int)<|AS<|QY<|bL<|oi j▸⟨rfl,bT ⟨rfl,o.drop 3⟩⟩;exact QJ<|bJ<|aC<|BY<|Qw hk hm<|aX ((aa+1:Nat):Int)<|By<|oi j▸⟨rfl,o.sp 3 [2]⟩;intro r U w j hK;exact bL<|oi j▸hK;rintro ab _ w j⟨O,rfl,o⟩;exact aC<|AI<|aL (-1)<|AS<|Qk<|oi j▸bT ⟨rfl,o.drop 1⟩
theorem na{p0:List cE}{p1:cE->Option Bool}{res:Bool}(j:Holds E w V)(h0:V[i0]? =some (rd v0 p0))(h1:Fy aZ E V v1 p1 (λ(r:Bool)=>Value.bool r))(o:fZ N p0 p1=some res):c_ 109 [v0,v1] w<|bB E V res:=by
 unfold fZ at o;refine enter Tryz.func109 zr zr ?_;have j:=j.dup (i0+0) h0;refine AI<|bY false<|IN<|mv v0<|mv v1<|q_ o λaa ab o=>Qp (gH Tryz.func140) (om N (i0:=0) j zr (h1.lift 1 zr) ab) λw j=>ic aa 0<|bY (decide<|aa>=0)<|AS<|Qk ?_;exact oi o▸bT ⟨rfl,j.drop 1⟩
def n9(E:World)(V:List HP)(r:Int)(U:Nat->Value)(w:World):Prop:=mq aZ 71 Tryz.f66 (aD E V r) .ret U w
theorem sX{p0:List cE}(j:Holds E w V)(h0:V[i0]? =some (rd v0 p0))(o:jy N p0=some res):c_ 66 [v0] w<|aD E V res:=by
 unfold jy at o;refine enter Tryz.func66 zr zr ?_;have j:=j.dup (i0+0) h0;refine AI<|aL 0<|IT<|AI<|mv v0<|Ql 0 p0 j y7<|ic ((p0.length:Int)) 0<|AS<|eH o (λo=>?_) λo=>?_;exact AI<|aL 9<|AS<|QE<|oi o▸bT ⟨rfl,j.drop 1⟩;refine QN<|AI<|mv v0<|Ql 0 p0 j y7<|ic ((p0.length:Int)) 200<|AS<|eH o (λo=>?_) λo=>?_;exact AI<|aL 2<|AS<|QE<|oi o▸bT ⟨rfl,j.drop 1⟩;refine QN<|AI<|mv v0<|Ql 0 p0 j y7<|aX 0<|AS<|Rf E V (λ(an:Unit)=>[rd v0 p0]) (λ_=>[(0,v0)]) (λad _=>[(13,v0),(14,vi p0.length),(15,vi ad)]) (n9 E V) o ?_ ?_ ?_ ?_;exact j.sp 1 [0];rintro hm ad an fl _ w hk⟨O,rfl,j⟩o;refine IS<|Qt<|aX (ad:Int)<|q_ o λaa av o=>Qm 0 j xV av λa2 j=>Qs 0 aa j v7 λa3 j=>QD j H9.z λaf w j=>?_;refine aL (ad:Int)<|QB 0 j 1 zr v7 λw j=>?_;refine AS<|Qt<|AT zr v8<|Qj 0 j zr mI oC<|q_ o λao aw o=>Qp JT (kI N (p0:=aa.Name) j aw) λw j=>Q4 ao<|bY (!ao)<|AS<|eH o (λo=>?_) λo=>?_;exact AI<|aL 5<|AS<|QY<|iq<|bL<|oi o▸⟨rfl,bT ⟨rfl,j.drop 4⟩⟩;refine AI<|AT rfl yr<|Qj 0 j rfl og cY<|ic aa.Kind 1<|gU (decide<|aa.Kind<1)<|QT true (decide<|aa.Kind<1) (vp af 1) rfl rfl rfl (eT yr)<|QT true (decide<|aa.Kind<1) (vi aa.Kind) rfl rfl rfl (cD 0 rfl j (by exact z_ (vp af 1)) rfl og cY)<|QI (vb<|decide<|aa.Kind>7) rfl rfl (w4 .gtr)<|QV (b:=decide<|aa.Kind<1) (v:=vb<|decide (aa.Kind<1)||decide (aa.Kind>7)) trivial rfl rfl (sG true) ?_;refine bY (decide (aa.Kind<1)||decide (aa.Kind>7))<|AS<|eH o (λo=>?_) λo=>?_;exact AI<|aL 4<|AS<|QY<|iq<|bL<|oi o▸⟨rfl,bT ⟨rfl,j.drop 4⟩⟩;refine AI<|AT rfl v9<|Qj 0 j rfl mJ cY<|ic aa.bK 0<|gU (decide<|aa.bK<0)<|QT true (decide<|aa.bK<0) (vp af 2) rfl rfl rfl (eT v9)<|QT true (decide<|aa.bK<0) (vi aa.bK) rfl rfl rfl (cD 0 rfl j (by exact z_ (vp af 2)) rfl mJ cY)<|QI (vb<|decide<|aa.bK>200) rfl rfl (w4 .gtr)<|QV (b:=decide<|aa.bK<0) (v:=vb<|decide (aa.bK<0)||decide (aa.bK>200)) trivial rfl rfl (sG true) ?_;refine bY (decide (aa.bK<0)||decide (aa.bK>200))<|AS<|eH o (λo=>?_) λo=>?_;exact AI<|aL 1<|AS<|QY<|iq<|bL<|oi o▸⟨rfl,bT ⟨rfl,j.drop 4⟩⟩;refine IS<|q_ o λak hj o=>Qu (λ(ak:Bool)=>SH E V [(0,v0),(13,v0),(14,vi p0.length),(15,vi ad),(43,vb ak)] [rd v0 p0]) ak ?_ ?_;refine Rc mixed ?_;have j:=j.drew;refine Rb<|aX (ad:Int)<|w_<|ic ((ad:Int)) 0<|w_<|gU (decide<|(ad:Int)>0)<|gK hj (λab hj=>?_) λab hj=>?_;refine w_<|AT (hg:=cg ab) zr v8<|w_<|Qj (hg:=cg ab) 0 j zr mI oC<|w_<|Qq v0 (cg ab)<|w_<|Qq (vi ad) (cg ab)<|w_<|Qr (hg:=cg ab) (ad:Int) 1<|w_ ?_;refine q_ hj λag ax hj=>Qm (hg:=cg ab) 3 j xV ax λa4 j=>w_<|QR (hg:=cg ab) 0 j zr v8 mI λa5 j=>w_<|QG (hg:=cg ab) ag.Name 0 j oC<|w_<|R3 aa.Name ag.Name (cg ab) zr zr zr zr<|w_<|gT ab (vb<|aa.Name.wT ag.Name||aa.Name.pW ag.Name)<|w_<|bY (aa.Name.wT ag.Name||aa.Name.pW ag.Name)<|QZ ?_;exact oi hj▸⟨rfl,j.sp 6 [5]⟩;refine w_<|bS ab<|w_<|bS ab<|w_<|bS ab<|w_<|bS ab<|w_<|bS ab<|w_<|bS ab<|w_<|bS ab<|w_<|bS ab<|w_<|bS ab ?_;exact w_<|gT ab (vb false)<|w_<|bY false<|QZ<|oi hj▸⟨rfl,j.sp 4 [3]⟩;rintro _ w⟨O,rfl,j⟩;refine aC<|eH o (λo=>?_) λo=>?_;exact AI<|aL 8<|AS<|QY<|iq<|bL<|oi o▸⟨rfl,bT ⟨rfl,j.drop 1⟩⟩;exact QJ<|bJ<|bJ<|aC<|BY<|Qw hk hm<|aX ((ad+1:Nat):Int)<|By<|oi o▸⟨rfl,j.sp 1 [0]⟩;intro r U w o hK;exact bL<|oi o▸hK;rintro an _ w o⟨O,rfl,j⟩;refine aC<|IS<|AI<|mv v0<|Ql 0 p0 j y7<|aX 0<|AS<|Rf E V (λ(aq:Unit)=>[rd v0 p0]) (λ_=>[]) (λah _=>[(0,v0),(58,v0),(59,vi p0.length),(60,vi ah)]) (n9 E V) o ?_ ?_ ?_ ?_;exact j.sp 1 [0];rintro hm ah aq fl _ w hk⟨O,rfl,j⟩o;refine IS<|Qt<|aX (ah:Int)<|q_ o λay az o=>Qm 0 j xV az λa6 j=>Qs 0 ay j v7 λa7 j=>QD j H9.z λar w j=>?_;refine aL (ah:Int)<|QB 0 j 1 zr v7 λw j=>?_;refine IN<|mv v0<|aX (ah:Int)<|q_ o λa8 a0 o=>RW (hl:= .inr ⟨rfl,zr⟩) 3 j xV (.inl zr) a0 λa9 j=>?_;have j:=j.ji (i:=1) rfl;refine RX [vp ar 0] ?_;refine q_ o λba a1 o=>Qp (gH Tryz.func109) (na N (i0:=0) j rfl ⟨110,[vp ar 0],rfl,(gH Tryz.func110),λw Γl v y0 r i j hi hr=>by exact fA (qC N (i0:=i) (i1:=Γl.length+1) j hi uW hr) λ_ _ h=>h⟩ a1) λw j=>AS<|eH o (λo=>?_) λo=>?_;exact AI<|aL 12<|AS<|QY<|bL<|oi o▸⟨rfl,bT ⟨rfl,j.drop 5⟩⟩;exact QJ<|bJ<|aC<|BY<|Qw hk hm<|aX ((ah+1:Nat):Int)<|By<|oi o▸⟨rfl,j.sp 5 [4]⟩;intro r U w o hK;exact bL<|oi o▸hK;rintro aq _ w o⟨O,rfl,j⟩;exact aC<|AI<|aL 0<|AS<|Qk<|oi o▸bT ⟨rfl,j.drop 1⟩
theorem sd{p0:List aJ}(j:Holds E w V)(h0:V[i0]? =some (rd v0 p0))(o:iP N p0=some res):c_ 32 [v0] w<|aD E V res:=by
 unfold iP at o;refine enter Tryz.func32 zr zr ?_;have j:=j.dup (i0+0) h0;refine AI<|aL 0<|IT<|AI<|mv v0<|Ql 0 p0 j Ln<|ic ((p0.length:Int)) 200<|AS<|eH o (λo=>?_) λo=>?_;exact AI<|aL 2<|AS<|QE<|oi o▸bT ⟨rfl,j.drop 1⟩;refine QN<|AI<|mv v0<|Ql 0 p0 j Ln<|aX 0<|AS<|Rf E V (λ(ai:Unit)=>[rd v0 p0]) (λ_=>[]) (λab _=>[(0,v0),(9,v0),(10,vi p0.length),(11,vi ab)]) (λr=>mq aZ 40 Tryz.f32 (aD E V r) .ret) o ?_ ?_ ?_ ?_;exact j.sp 1 [0];rintro hm ab ai fl _ w hk⟨O,rfl,j⟩o;refine IS<|Qt<|aX (ab:Int)<|q_ o λae al o=>Qm 0 j Gw al λaw j=>Qs 0 ae j Dj λax j=>QD j Mg.z λay w j=>?_;refine aL (ab:Int)<|QB 0 j 1 zr Dj λw j=>?_;refine IT<|AI<|AT zr yq<|Qj 0 j zr nA oC<|q_ o λan ao o=>Qp JT (kI N (p0:=ae.Name) j ao) λw j=>Q4 an<|AS<|eH o (λo=>?_) λo=>?_;exact AI<|aL 5<|AS<|QE<|iq<|bL<|oi o▸⟨rfl,bT ⟨rfl,j.drop 4⟩⟩;refine QN<|AI<|AT zr BO<|QL 0 j zr pZ H8 λaz j=>?_;refine q_ o λaf aq o=>Qp (gH Tryz.func66) (sX N (i0:=0) j zr aq) λw j=>aL af<|IN<|aX af<|ic af 0<|AS<|eH o (λo=>?_) λo=>?_;exact AI<|aX af<|aL af<|AS<|QE<|iq<|bL<|oi o▸⟨rfl,bT ⟨rfl,j.drop 5⟩⟩;refine QN<|q_ o λah hj o=>Qu (λ(ah:Bool)=>SH E V [(0,v0),(9,v0),(10,vi p0.length),(11,vi ab),(38,vb ah)] [rd v0 p0]) ah ?_ ?_;refine Rc mixed ?_;have j:=j.drew;refine Rb<|aX (ab:Int)<|w_<|ic ((ab:Int)) 0<|w_<|gU (decide<|(ab:Int)>0)<|gK hj (λaa hj=>?_) λaa hj=>?_;refine w_<|AT (hg:=cg aa) zr yq<|w_<|Qj (hg:=cg aa) 1 j zr nA oC<|w_<|Qq v0 (cg aa)<|w_<|Qq (vi ab) (cg aa)<|w_<|Qr (hg:=cg aa) (ab:Int) 1<|w_ ?_;refine q_ hj λag ar hj=>Qm (hg:=cg aa) 4 j Gw ar λa0 j=>w_<|QR (hg:=cg aa) 0 j zr yq nA λa1 j=>w_<|QG (hg:=cg aa) ag.Name 0 j oC<|w_<|R3 ae.Name ag.Name (cg aa) zr zr zr zr<|w_<|gT aa (vb<|ae.Name.wT ag.Name||ae.Name.pW ag.Name)<|QZ ?_;exact oi hj▸⟨rfl,j.sp 7 [6]⟩;refine w_<|bS aa<|w_<|bS aa<|w_<|bS aa<|w_<|bS aa<|w_<|bS aa<|w_<|bS aa<|w_<|bS aa<|w_<|bS aa<|w_<|bS aa ?_;exact w_<|gT aa (vb false)<|QZ<|oi hj▸⟨rfl,j.sp 5 [4]⟩;rintro _ w⟨O,rfl,j⟩;refine aC<|eH o (λo=>?_) λo=>?_;exact AI<|aL 8<|AS<|QY<|bL<|oi o▸⟨rfl,bT ⟨rfl,j.drop 1⟩⟩;exact QJ<|bJ<|aC<|BY<|Qw hk hm<|aX ((ab+1:Nat):Int)<|By<|oi o▸⟨rfl,j.sp 1 [0]⟩;intro r U w o hK;exact bL<|oi o▸hK;rintro ai _ w o⟨O,rfl,j⟩;exact aC<|AI<|aL 0<|AS<|Qk<|oi o▸bT ⟨rfl,j.drop 1⟩
theorem kc{p0:List aJ}{p1:bG}{p2:aJ->bG->Option Int}{res:Int×Bool}(o:Holds E w V)(h0:V[i0]? =some (rd v0 p0))(h2:Js aZ E V v2 p2 (λ(r:Int)=>Value.int .i64 r))(hb:dH N p0 p1 p2=some res):c_ 88 [v0,str p1,v2] w<|dC E V res:=by
 unfold dH at hb;refine enter Tryz.func88 zr zr ?_;have o:=o.dup (i0+0) h0;refine AI<|aL 0<|bY false<|IN<|mv v0<|Ql 0 p0 o Ln<|aL (p0.length:Int)<|IN<|aX (p0.length:Int)<|aL 0<|aL (p0.length:Int)<|IT<|RF E V (λ(j:Int×Int)=>[rd v0 p0]) (λj=>[(0,v0),(1,str p1),(2,v2),(8,vi p0.length),(9,vi j.1)]) (λj=>[(10,vi j.2)]) hb ?_ ?_ ?_;exact o.sp 1 [0];rintro j fl _ w⟨O,rfl,o⟩hb;refine IS<|AI<|aX j.1<|aX j.2<|ic j.1 j.2<|AS<|eH hb (λhb=>?_) λhb=>?_;refine Rl<|Qt<|aX j.1<|aX j.2<|Qr j.1 j.2<|RI (wrap .i64<|j.1+j.2) ⟨_,FL⟩ Dl<|RH (v:=(.int .u64<|wrap .u64<|wrap .i64<|j.1+j.2)) (v':=(.int .u64 1)) (u:=(.int .u64<|Int.fdiv (wrap .u64<|wrap .i64<|j.1+j.2) 2)) zt zr zr zr (λ_=>zr) (λ_=>zr)<|RI (Int.fdiv (wrap .u64<|wrap .i64<|j.1+j.2) 2) ⟨_,Dl⟩ FL<|aL (wrap .i64<|Int.fdiv (wrap .u64<|wrap .i64<|j.1+j.2) 2) ?_;refine IN<|mv v2<|mv v0<|aX (wrap .i64<|Int.fdiv (wrap .u64<|wrap .i64<|j.1+j.2) 2)<|q_ hb λah ai hb=>Qm 0 o Gw ai λar o=>Qs 0 ah o Dj λau o=>mv (str p1) ?_;have o:=o.sc bG p1;refine q_ hb λaj ak hb=>RE 1 0 zt o h2 4 ak λw o=>ic aj 0<|AS<|q_ hb λae hj hb=>Qu (λ(ae:Int×Int)=>SH E V [(0,v0),(1,str p1),(2,v2),(8,vi p0.length),(9,vi ae.1),(10,vi ae.2)] [rd v0 p0]) ae ?_ ?_;refine eH hj (λhj=>?_) λhj=>?_;refine BY<|aX (wrap .i64<|Int.fdiv (wrap .u64<|wrap .i64<|j.1+j.2) 2)<|Qr (wrap .i64<|Int.fdiv (wrap .u64<|wrap .i64<|j.1+j.2) 2) 1<|aL (wrap .i64<|wrap .i64 (Int.fdiv (wrap .u64<|wrap .i64<|j.1+j.2) 2)+1)<|By ?_;exact oi hj▸⟨rfl,o.sp 4 [3]⟩;refine BY<|aX (wrap .i64<|Int.fdiv (wrap .u64<|wrap .i64<|j.1+j.2) 2)<|aL (wrap .i64<|Int.fdiv (wrap .u64<|wrap .i64<|j.1+j.2) 2)<|By ?_;exact oi hj▸⟨rfl,o.sp 4 [3]⟩;rintro _ w⟨O,rfl,o⟩;exact bJ<|oi hb▸⟨rfl,o.sp 1 [0]⟩;exact Q7<|oi hb▸⟨rfl,o.sp 1 [0]⟩;rintro j _ w hb⟨O,rfl,o⟩;refine aC<|IS<|q_ hb λaf hj hb=>Qu (λ(af:Bool)=>SH E V [(6,vi j.1),(7,vb af)] []) af ?_ ?_;refine BY<|aX j.1<|aX j.1<|aX (p0.length:Int)<|ic j.1 ((p0.length:Int))<|gU (decide<|j.1<(p0.length:Int))<|gK hj (λaa hj=>?_) λaa hj=>?_;refine Qq v2 (cg aa)<|Qq v0 (cg aa)<|Qq (vi j.1) (cg aa)<|q_ hj λal an hj=>Qm (hg:=cg aa) 0 o Gw an λav o=>Qs (hg:=cg aa) 0 al o Dj λaw o=>Qq (str p1) (cg aa) ?_;have o:=o.sc bG p1;refine q_ hj λag ao hj=>RE 1 0 (cg aa) o h2 4 ao λw o=>Q1 ag 0 (cg aa)<|gT aa (vb<|ag==0)<|aL j.1<|bY (ag==0)<|By ?_;exact oi hj▸⟨rfl,o.sp 4 []⟩;refine bS aa<|bS aa<|bS aa<|bS aa<|bS aa<|bS aa<|bS aa<|bS aa<|gT aa (vb false)<|aL j.1<|bY false<|By ?_;exact oi hj▸⟨rfl,o.sp 1 []⟩;rintro _ w⟨O,rfl,o⟩;exact aC<|Qk<|oi hb▸nT ⟨rfl,o.drop 0⟩
theorem p9{p0 p1:bG}(o:Holds E w V)(j:kx N p0 p1=some res):c_ 56 [str p0,str p1] w<|aD E V res:=by
 unfold kx at j;refine enter Tryz.func56 zr zr<|AI<|aL 0<|IN<|mv (str p0)<|mv (str p1)<|Ss (vi<|Lib.compareBytes p0.bX p1.bX) zr [str p0,str p1] zr (Ny p0 p1 w)<|aL (Lib.compareBytes p0.bX p1.bX)<|AS ?_;exact Qk<|oi j▸bT ⟨rfl,o.drop 0⟩
theorem i6{p0 p1:bG}(o:Holds E w V)(j:ir N p0 p1=some res):c_ 26 [str p0,str p1] w<|aD E V res:=by
 unfold ir at j;exact enter Tryz.func26 zr zr<|AI<|aL 0<|IN<|mv (str p0)<|mv (str p1)<|q_ j λaa ab j=>Qp (gH Tryz.func56) (p9 N (p0:=p0) (p1:=p1) o ab) λw o=>aL aa<|AS<|Qk<|oi j▸bT ⟨rfl,o.drop 0⟩
theorem sZ{p0:aJ}{p1:bG}(j:Holds E w V)(h0:V[i0]? =some (rd v0 p0))(o:hZ N p0 p1=some res):c_ 89 [v0,str p1] w<|aD E V res:=by
 unfold hZ at o;refine enter Tryz.func89 zr zr ?_;have j:=j.dup (i0+0) h0;refine AI<|QH 0 v0 j zr λad w j=>?_;exact aL 0<|IN<|AT zr yq<|Qj 0 j zr nA oC<|mv (str p1)<|q_ o λaa ab o=>Qp Ib (i6 N (p0:=p0.Name) (p1:=p1) j ab) λw j=>aL aa<|AS<|Qk<|oi o▸bT ⟨rfl,j.drop 2⟩
theorem mM{p0:List aJ}{p1:bG}(hw:Holds E w V)(h0:V[i0]? =some (rd v0 p0))(hb:iQ N p0 p1=some res):c_ 45 [v0,str p1] w<|aD E V res:=by
 unfold iQ at hb;refine enter Tryz.func45 zr zr ?_;have hw:=hw.dup (i0+0) h0;refine AI<|aL 0<|IN<|mv v0<|mv (str p1) ?_;refine q_ hb λo ad hb=>Qp (gH Tryz.func88) (kc N (p1:=p1) (i0:=0) hw rfl ⟨89,[],rfl,(gH Tryz.func89),λw Γl v v' y0 y1 r i j hw hi hj hr=>by obtain rfl:=hw.x8 (γ:=bG) hj;exact fA (sZ N (p1:=y1) (i0:=i) hw hi hr) λ_ _ h=>h⟩ ad) λw hw=>mv (.tuple #[vi o.1,vb o.2])<|QQ (vi o.1)<|QQ (vb o.2)<|aL o.1<|bY o.2<|IT<|AI<|gU o.2 ?_;refine Q4 o.2<|AS<|eH hb (λhb=>?_) λhb=>?_;exact AI<|aL (-1)<|AS<|QE<|oi hb▸bT ⟨rfl,hw.drop 1⟩;exact Ra<|aX o.1<|aL o.1<|AS<|Qk<|oi hb▸bT ⟨rfl,hw.drop 1⟩
theorem sf{p0:List aJ}{p1:List Part}{p2:bG->Option Bool}(j:Holds E w V)(h0:V[i0]? =some (rd v0 p0))(h1:V[i1]? =some (rd v1 p1))(h2:Fy aZ E V v2 p2 (λ(r:Bool)=>Value.bool r))(o:iR N p0 p1 p2=some res):c_ 33 [v0,v1,v2] w<|aD E V res:=by
 unfold iR at o;refine enter Tryz.func33 zr zr ?_;have j:=(j.dup (i0+0) h0).dup (i1+1) h1;refine AI<|aL 0<|IT<|AI<|mv v1<|Ql 0 p1 j Ia<|ic ((p1.length:Int)) 1000<|AS<|eH o (λo=>?_) λo=>?_;exact AI<|aL 2<|AS<|QE<|oi o▸bT ⟨rfl,j.drop 2⟩;refine QN<|AI<|mv v1<|Ql 0 p1 j Ia<|aX 0<|AS<|Rf E V (λ(ah:Unit)=>[rd v0 p0,rd v1 p1]) (λ_=>[]) (λab _=>[(0,v0),(1,v1),(2,v2),(12,v1),(13,vi p1.length),(14,vi ab)]) (λr=>mq aZ 46 Tryz.f33 (aD E V r) .ret) o ?_ ?_ ?_ ?_;exact j.sp 2 [1,0];rintro hm ab ah fl _ w hk⟨O,rfl,j⟩o;refine IS<|Qt<|aX (ab:Int)<|q_ o λad an o=>Qm 1 j Dk an λaw j=>Qs 0 ad j BP λax j=>QD j JU.z λay w j=>?_;refine aL (ab:Int)<|QB 0 j 1 zr BP λw j=>?_;refine AS<|Qt<|mv v2<|AT zr xf<|Qj 0 j zr oz oC ?_;have j:=j.sc bG ad.Name;refine q_ o λai ao o=>RN 0 j h2 6 ao λw j=>Q4 ai<|bY (!ai)<|AS<|eH o (λo=>?_) λo=>?_;exact AI<|aL 5<|AS<|QY<|iq<|bL<|oi o▸⟨rfl,bT ⟨rfl,j.drop 6⟩⟩;refine AI<|mv v0<|AT zr BQ<|Qj 1 j zr tX oC<|q_ o λaj aq o=>Qp Lo (mM N (p1:=ad.iB) (i0:=4) j zr aq) λw j=>ic aj 0<|bY (decide<|aj<0)<|AS<|eH o (λo=>?_) λo=>?_;exact AI<|aL 9<|AS<|QY<|iq<|bL<|oi o▸⟨rfl,bT ⟨rfl,j.drop 6⟩⟩;refine IS<|q_ o λag hj o=>Qu (λ(ag:Bool)=>SH E V [(0,v0),(1,v1),(2,v2),(12,v1),(13,vi p1.length),(14,vi ab),(31,vb ag)] [rd v0 p0,rd v1 p1]) ag ?_ ?_;refine Rc mixed ?_;have j:=j.drew;refine Rb<|aX (ab:Int)<|w_<|ic ((ab:Int)) 0<|w_<|gU (decide<|(ab:Int)>0)<|gK hj (λaa hj=>?_) λaa hj=>?_;refine w_<|AT (hg:=cg aa) zr xf<|w_<|Qj (hg:=cg aa) 1 j zr oz oC<|w_<|Qq v1 (cg aa)<|w_<|Qq (vi ab) (cg aa)<|w_<|Qr (hg:=cg aa) (ab:Int) 1<|w_ ?_;refine q_ hj λaf ar hj=>Qm (hg:=cg aa) 5 j Dk ar λaz j=>w_<|QR (hg:=cg aa) 0 j zr xf oz λa0 j=>w_<|QG (hg:=cg aa) af.Name 0 j oC<|w_<|R3 ad.Name af.Name (cg aa) zr zr zr zr<|w_<|gT aa (vb<|ad.Name.wT af.Name||ad.Name.pW af.Name)<|w_<|bY (ad.Name.wT af.Name||ad.Name.pW af.Name)<|QZ ?_;exact oi hj▸⟨rfl,j.sp 8 [6,7]⟩;refine w_<|bS aa<|w_<|bS aa<|w_<|bS aa<|w_<|bS aa<|w_<|bS aa<|w_<|bS aa<|w_<|bS aa<|w_<|bS aa<|w_<|bS aa ?_;exact w_<|gT aa (vb false)<|w_<|bY false<|QZ<|oi hj▸⟨rfl,j.sp 6 [4,5]⟩;rintro _ w⟨O,rfl,j⟩;refine aC<|eH o (λo=>?_) λo=>?_;exact AI<|aL 8<|AS<|QY<|iq<|bL<|oi o▸⟨rfl,bT ⟨rfl,j.drop 2⟩⟩;exact QJ<|bJ<|bJ<|aC<|BY<|Qw hk hm<|aX ((ab+1:Nat):Int)<|By<|oi o▸⟨rfl,j.sp 2 [0,1]⟩;intro r U w o hK;exact bL<|oi o▸hK;rintro ah _ w o⟨O,rfl,j⟩;exact aC<|AI<|aL 0<|AS<|Qk<|oi o▸bT ⟨rfl,j.drop 2⟩
theorem s9{p0 p1:bG}(o:Holds E w V)(j:jz N p0 p1=some res):c_ 174 [str p0,str p1] w<|aD E V res:=by
 unfold jz at j;refine enter Tryz.func174 zr zr<|AI<|aL 0<|IN<|mv (str p1)<|RA p1 y6<|aL (p1.bX.length:Int)<|IT<|Qt<|aX (p1.bX.length:Int)<|ic ((p1.bX.length:Int)) 0<|gU ((p1.bX.length:Int)==0)<|QI (str p1) zr zr w3<|QI (str p0) zr zr w3<|QI (vb<|p1.pW p0) zr zr (PX .eql)<|QV (b:=(p1.bX.length:Int)==0) (v:=vb<|((p1.bX.length:Int)==0)||p1.pW p0) zt zr zr (sG true)<|bY (((p1.bX.length:Int)==0)||p1.pW p0)<|AS ?_;refine eH j (λj=>?_) λj=>?_;exact AI<|aL 0<|AS<|QY<|bL<|oi j▸bT ⟨rfl,o.drop 0⟩;refine AI<|aX (p1.bX.length:Int)<|ic ((p1.bX.length:Int)) 1<|bY ((p1.bX.length:Int)==1)<|AS<|eH j (λj=>?_) λj=>?_;exact AI<|mv (str p0)<|mv (str p1)<|q_ j λaa ab j=>Sq p1 0 aa zr zr zr y6 ab<|q_ j λad ae j=>Qp KN (lS N (p0:=p0) (p1:=(aa.toNat:Int)) o ae) λw o=>aL ad<|AS<|QY<|bL<|oi j▸bT ⟨rfl,o.drop 0⟩;refine AI<|aX (p1.bX.length:Int)<|mv (str p0)<|RA p0 y6<|ic ((p1.bX.length:Int)) ((p0.bX.length:Int))<|bY (decide<|(p1.bX.length:Int)>=(p0.bX.length:Int))<|AS<|eH j (λj=>?_) λj=>?_;exact AI<|aL (-1)<|AS<|QY<|bL<|oi j▸bT ⟨rfl,o.drop 0⟩;cases j
theorem qD{p0 p1:bG}(o:Holds E w V)(j:ko N p0 p1=some res):c_ 143 [str p0,str p1] w<|aD E V res:=by
 unfold ko at j;exact enter Tryz.func143 zr zr<|AI<|aL 0<|IN<|mv (str p0)<|mv (str p1)<|q_ j λaa ab j=>Qp (gH Tryz.func174) (s9 N (p0:=p0) (p1:=p1) o ab) λw o=>aL aa<|AS<|Qk<|oi j▸bT ⟨rfl,o.drop 0⟩
theorem xo{p0 p1:bG}(hw:Holds E w V)(j:lO N p0 p1=some res):c_ 142 [str p0,str p1] w<|aD E V res:=by
 unfold lO at j;refine enter Tryz.func142 zr zr<|AI<|aL 0<|IT<|AI<|mv (str p1)<|RA p1 y6<|ic ((p1.bX.length:Int)) 0<|AS<|eH j (λj=>?_) λj=>?_;cases j;refine QN<|AI<|mv (str p1)<|RA p1 y6<|ic ((p1.bX.length:Int)) 1<|AS<|eH j (λj=>?_) λj=>?_;exact AI<|mv (str p0)<|mv (str p1)<|q_ j λab ae j=>Sq p1 0 ab zr zr zr y6 ae<|Ss (vi ((Lib.countByte p0.bX (Int.toNat (ab.toNat:Int)).toUInt8:Nat):Int)) zr [str p0,(.int .u8 (ab.toNat:Int))] zr (NV p0 (ab.toNat:Int) w)<|aL ((Lib.countByte p0.bX (Int.toNat (ab.toNat:Int)).toUInt8:Nat):Int)<|AS<|QE<|oi j▸bT ⟨rfl,hw.drop 0⟩;refine Ra<|aL 0<|AS<|Sn E V (λ(o:bG×Int)=>[]) (λ_=>[(4,vi 0)]) (λo=>[(0,str o.1),(1,str p1),(5,vi o.2)]) (λr=>mq aZ 34 Tryz.f142 (aD E V r) .ret) j ?_ ?_ ?_ ?_;exact hw.sp 0 [];rintro o fl _ w⟨O,rfl,hw⟩j;refine Qt<|mv (str o.1)<|mv (str p1)<|q_ j λad af j=>Qp KO (qD N (p0:=o.1) (p1:=p1) hw af) λw hw=>aL ad<|IT<|AI<|aX ad<|ic ad ((-1))<|AS<|eH j (λj=>?_) λj=>?_;exact AI<|aX o.2<|aL o.2<|AS<|QE<|iq<|oi j▸⟨rfl,bT ⟨rfl,hw.drop 0⟩⟩;refine Ra<|aX o.2<|Qr o.2 1<|aL (wrap .i64<|o.2+1)<|AS<|BY<|mv (str o.1)<|aX ad<|mv (str p1) ?_;refine RA p1 y6<|Qr ad (p1.bX.length:Int)<|q_ j λag ah j=>St o.1 zr zr y6 (.inl zr) (.inr ⟨rfl,zr⟩) ah<|dU (str ag)<|By<|bJ ?_;exact oi j▸⟨rfl,hw.sp 0 []⟩;intro r U w j hK;exact oi j▸hK;rintro o _ w j⟨O,rfl,hw⟩;obtain rfl:=oi j;exact Fw<|bT ⟨rfl,hw.drop 0⟩
theorem uq{p0 p1:bG}{res:List bG}(o:Holds E w V)(j:lu N p0 p1 p2 p3=some res):c_ 112 [str p0,str p1,vi p2,vi p3] w<|oQ E V res:=by
 unfold lu at j;refine enter Tryz.func112 zr zr<|AI<|dU n_<|IT<|AI<|aX p3<|ic p3 0<|AS<|eH j (λj=>?_) λj=>?_;refine AI<|dU n_<|AS<|QE ?_;obtain rfl:=oi j;have o:=o.cH bG 9;exact bT<|o.pk 1 [0];refine QN<|AI<|mv (str p1)<|R3 p1 ⟨[]⟩ zt zr zr zr zr<|AS<|eH j (λj=>?_) λj=>?_;cases j;refine QN<|AI<|aX p3<|ic p3 0<|AS<|q_ j λaa hj j=>Qu (λ(aa:Int)=>SH E V [(0,str p0),(1,str p1),(2,vi p2),(3,vi aa)] []) aa ?_ ?_;refine eH hj (λhj=>?_) λhj=>?_;refine BY<|mv (str p0)<|mv (str p1)<|q_ hj λag aj hj=>Qp (gH Tryz.func142) (xo N (p0:=p0) (p1:=p1) o aj) λw o=>Qr ag 1<|aL (wrap .i64<|ag+1)<|By ?_;exact oi hj▸⟨rfl,o.sp 0 []⟩;exact QJ<|oi hj▸⟨rfl,o.sp 0 []⟩;rintro _ w⟨O,rfl,o⟩;refine aC<|AI<|aX aa<|mv (str p0)<|RA p0 y6<|Qr (p0.bX.length:Int) 1<|RJ aa (wrap .i64<|(p0.bX.length:Int)+1)<|aL (if wrap .i64 ((p0.bX.length:Int)+1)<aa then wrap .i64 ((p0.bX.length:Int)+1)else aa)<|IN ?_;refine aX (if wrap .i64 ((p0.bX.length:Int)+1)<aa then wrap .i64 ((p0.bX.length:Int)+1)else aa)<|q_ j λaw ak j=>R7 (if wrap .i64 ((p0.bX.length:Int)+1)<aa then wrap .i64 ((p0.bX.length:Int)+1)else aa) zr o zr zr NW PZ ak λaf w o=>?_;refine dU af<|IN<|aX (if wrap .i64 ((p0.bX.length:Int)+1)<aa then wrap .i64 ((p0.bX.length:Int)+1)else aa)<|Qr (if wrap .i64 ((p0.bX.length:Int)+1)<aa then wrap .i64 ((p0.bX.length:Int)+1)else aa) 1<|aL (wrap .i64<|(if wrap .i64 ((p0.bX.length:Int)+1)<aa then wrap .i64 ((p0.bX.length:Int)+1)else aa) - 1)<|IN<|aL 0<|IT<|RF E V (λ(ab:bG×List bG×Int)=>[own 9 af ab.2.1]) (λab=>[(0,str ab.1),(9,af),(10,vi ab.2.2)]) (λ_=>[(1,str p1),(2,vi p2),(3,vi<|wrap .i64<|(if wrap .i64 ((p0.bX.length:Int)+1)<aa then wrap .i64 ((p0.bX.length:Int)+1)else aa) - 1)]) j ?_ ?_ ?_;exact o.sp 1 [0];rintro ab fl _ w⟨O,rfl,o⟩j;refine IS<|AI<|aX ab.2.2<|aX (wrap .i64<|(if wrap .i64 ((p0.bX.length:Int)+1)<aa then wrap .i64 ((p0.bX.length:Int)+1)else aa) - 1)<|ic ab.2.2 (wrap .i64<|(if wrap .i64 ((p0.bX.length:Int)+1)<aa then wrap .i64 ((p0.bX.length:Int)+1)else aa) - 1)<|AS<|eH j (λj=>?_) λj=>?_;refine Rl<|Qt<|mv (str ab.1)<|mv (str p1)<|q_ j λae al j=>Qp KO (qD N (p0:=ab.1) (p1:=p1) o al) λw o=>aL ae<|IT<|AI<|aX ae<|ic ae 0<|AS<|eH j (λj=>?_) λj=>?_;refine Q7<|K7 (by decide) ?_;exact oi j▸⟨rfl,o.sp 1 [0]⟩;refine Ra<|mv af<|aX ab.2.2<|mv (str ab.1)<|aX ae<|aX p2<|Qr ae p2<|q_ j λan ao j=>St ab.1 zr zr y6 (.inr ⟨rfl,zr⟩) (.inl zr) ao<|q_ j λay ah j=>Qz 0 o zr zr Ic ah ?_;have o:=o.sc bG an;refine Rs 1 0 o ah oC λw o=>?_;refine IN<|mv (str ab.1)<|aX ae<|mv (str p1)<|RA p1 y6<|Qr ae (p1.bX.length:Int)<|q_ j λaq ar j=>St ab.1 zr zr y6 (.inl zr) (.inr ⟨rfl,zr⟩) ar<|dU (str aq)<|AS<|BY<|aX ab.2.2<|Qr ab.2.2 1<|aL (wrap .i64<|ab.2.2+1)<|By<|bJ ?_;exact oi j▸⟨rfl,o.sp 2 [1]⟩;exact Q7<|oi j▸⟨rfl,o.sp 1 [0]⟩;rintro ab _ w j⟨O,rfl,o⟩;refine aC<|AI<|mv af<|aX ab.2.2<|mv (str ab.1)<|q_ j λaz ai j=>Qz 0 o zr zr Ic ai ?_;have o:=o.sc bG ab.1;refine Rs 1 0 o ai oC λw o=>?_;refine IN<|mv af<|aX ab.2.2<|Qr ab.2.2 1<|q_ j λa0 au j=>Sg 1 zr o zr zr Ic (.inr ⟨rfl,zr⟩) au λav o=>dU av<|AS<|Qk ?_;obtain rfl:=oi j;exact bT<|o.pk 2 [1]
theorem xp{p0 p1:bG}{res:List bG}(o:Holds E w V)(j:lP N p0 p1=some res):c_ 68 [str p0,str p1] w<|oQ E V res:=by
 unfold lP at j;refine enter Tryz.func68 zr zr<|AI<|dU n_<|IN<|mv (str p0)<|mv (str p1)<|q_ j λad aa j=>QA (gH Tryz.func112) (uq N (p0:=p0) (p1:=p1) (p2:=0) (p3:=(-1)) o aa) λab w o=>dU ab<|AS<|Qk ?_;obtain rfl:=oi j;exact bT<|o.pk 1 [0]
theorem oS{p0:List bG}{p1:bG->Option Bool}(j:Holds E w V)(h0:V[i0]? =some (rd v0 p0))(h1:Fy aZ E V v1 p1 (λ(r:Bool)=>Value.bool r))(o:jR N p0 p1=some res):c_ 111 [v0,v1] w<|aD E V res:=by
 unfold jR at o;refine enter Tryz.func111 zr zr ?_;have j:=j.dup (i0+0) h0;refine AI<|aL 0<|IT<|AI<|mv v0<|Ql 0 p0 j JV<|aX 0<|AS<|Rf E V (λ(ab:Unit)=>[rd v0 p0]) (λ_=>[]) (λaa _=>[(0,v0),(1,v1),(7,vi p0.length),(8,vi aa)]) (λr=>mq aZ 19 Tryz.f111 (aD E V r) .ret) o ?_ ?_ ?_ ?_;exact j.sp 1 [0];rintro hm aa ab fl _ w hk⟨O,rfl,j⟩o;refine IS<|Qt<|aX (aa:Int)<|aL (aa:Int)<|IN<|mv v1<|mv v0<|aX (aa:Int)<|q_ o λad ag o=>Qm 0 j Ic ag λak j=>QG ad 0 j oC ?_;have j:=j.sc bG ad;refine q_ o λal ah o=>RN 0 j h1 3 ah λw j=>AS<|eH o (λo=>?_) λo=>?_;exact AI<|aX (aa:Int)<|aL (aa:Int)<|AS<|QY<|bL<|oi o▸⟨rfl,bT ⟨rfl,j.drop 3⟩⟩;exact QJ<|bJ<|aC<|BY<|Qw hk hm<|aX ((aa+1:Nat):Int)<|By<|oi o▸⟨rfl,j.sp 3 [2]⟩;intro r U w o hK;exact bL<|oi o▸hK;rintro ab _ w o⟨O,rfl,j⟩;exact aC<|AI<|aL (-1)<|AS<|Qk<|oi o▸bT ⟨rfl,j.drop 1⟩
theorem nJ{p0:List bG}{p1:bG->Option Bool}{res:Bool}(j:Holds E w V)(h0:V[i0]? =some (rd v0 p0))(h1:Fy aZ E V v1 p1 (λ(r:Bool)=>Value.bool r))(o:gm N p0 p1=some res):c_ 67 [v0,v1] w<|bB E V res:=by
 unfold gm at o;refine enter Tryz.func67 zr zr ?_;have j:=j.dup (i0+0) h0;refine AI<|bY false<|IN<|mv v0<|mv v1<|q_ o λaa ab o=>Qp (gH Tryz.func111) (oS N (i0:=0) j zr (h1.lift 1 zr) ab) λw j=>ic aa 0<|bY (decide<|aa>=0)<|AS<|Qk ?_;exact oi o▸bT ⟨rfl,j.drop 1⟩
theorem tc{p0:bG}{res:Bool}(o:Holds E w V)(j:gp N p0=some res):c_ 69 [str p0] w<|bB E V res:=by
 unfold gp at j;exact enter Tryz.func69 zr zr<|AI<|bY false<|IN<|mv (str p0)<|q_ j λaa ab j=>Qp JT (kI N (p0:=p0) o ab) λw o=>Q4 aa<|bY (!aa)<|AS<|Qk<|oi j▸bT ⟨rfl,o.drop 0⟩
theorem mN{p0:bG}{res:Bool}(j:Holds E w V)(hb:gQ N p0=some res):c_ 34 [str p0] w<|bB E V res:=by
 unfold gQ at hb;refine enter Tryz.func34 zr zr<|AI<|bY false<|IT<|q_ hb λad hj hb=>Qu (λ(ad:Bool)=>SH E V [(2,vb ad)] []) ad ?_ ?_;refine BY<|mv (str p0)<|RA p0 y6<|ic ((p0.bX.length:Int)) 200<|gU (decide<|(p0.bX.length:Int)<=200)<|gK hj (λo hj=>?_) λo hj=>?_;refine Qq (str p0) (cg o)<|q_ hj λah af hj=>QA (hg:=cg o) (gH Tryz.func68) (xp N (p0:=p0) (p1:=⟨[47]⟩) j af) λai w j=>?_;have j:=j.freeze 0;refine q_ hj λae ag hj=>Qp (hg:=cg o) (gH Tryz.func67) (nJ N (i0:=0) j rfl ⟨69,[],rfl,(gH Tryz.func69),λw Γl v y0 r i j hi hr=>by obtain rfl:=j.x8 (γ:=bG) hi;exact fA (tc N (p0:=y0) j hr) λ_ _ h=>h⟩ ag) λw j=>Q4 (hg:=cg o) ae<|gT o (vb<|!ae)<|bY (!ae)<|By ?_;exact oi hj▸⟨rfl,j.sp 1 []⟩;exact bS o<|bS o<|bS o<|bS o<|gT o (vb false)<|bY false<|By<|oi hj▸⟨rfl,j.sp 0 []⟩;rintro _ w⟨O,rfl,j⟩;exact aC<|Qk<|oi hb▸bT ⟨rfl,j.drop 0⟩
theorem kX{p0:List Part}{p1:bG}{p2:Part->bG->Option Int}{res:Int×Bool}(o:Holds E w V)(h0:V[i0]? =some (rd v0 p0))(h2:Js aZ E V v2 p2 (λ(r:Int)=>Value.int .i64 r))(hb:dY N p0 p1 p2=some res):c_ 113 [v0,str p1,v2] w<|dC E V res:=by
 unfold dY at hb;refine enter Tryz.func113 zr zr ?_;have o:=o.dup (i0+0) h0;refine AI<|aL 0<|bY false<|IN<|mv v0<|Ql 0 p0 o Ia<|aL (p0.length:Int)<|IN<|aX (p0.length:Int)<|aL 0<|aL (p0.length:Int)<|IT<|RF E V (λ(j:Int×Int)=>[rd v0 p0]) (λj=>[(0,v0),(1,str p1),(2,v2),(8,vi p0.length),(9,vi j.1)]) (λj=>[(10,vi j.2)]) hb ?_ ?_ ?_;exact o.sp 1 [0];rintro j fl _ w⟨O,rfl,o⟩hb;refine IS<|AI<|aX j.1<|aX j.2<|ic j.1 j.2<|AS<|eH hb (λhb=>?_) λhb=>?_;refine Rl<|Qt<|aX j.1<|aX j.2<|Qr j.1 j.2<|RI (wrap .i64<|j.1+j.2) ⟨_,FL⟩ Dl<|RH (v:=(.int .u64<|wrap .u64<|wrap .i64<|j.1+j.2)) (v':=(.int .u64 1)) (u:=(.int .u64<|Int.fdiv (wrap .u64<|wrap .i64<|j.1+j.2) 2)) zt zr zr zr (λ_=>zr) (λ_=>zr)<|RI (Int.fdiv (wrap .u64<|wrap .i64<|j.1+j.2) 2) ⟨_,Dl⟩ FL<|aL (wrap .i64<|Int.fdiv (wrap .u64<|wrap .i64<|j.1+j.2) 2) ?_;refine IN<|mv v2<|mv v0<|aX (wrap .i64<|Int.fdiv (wrap .u64<|wrap .i64<|j.1+j.2) 2)<|q_ hb λah ai hb=>Qm 0 o Dk ai λar o=>Qs 0 ah o BP λau o=>mv (str p1) ?_;have o:=o.sc bG p1;refine q_ hb λaj ak hb=>RE 1 0 zt o h2 4 ak λw o=>ic aj 0<|AS<|q_ hb λae hj hb=>Qu (λ(ae:Int×Int)=>SH E V [(0,v0),(1,str p1),(2,v2),(8,vi p0.length),(9,vi ae.1),(10,vi ae.2)] [rd v0 p0]) ae ?_ ?_;refine eH hj (λhj=>?_) λhj=>?_;refine BY<|aX (wrap .i64<|Int.fdiv (wrap .u64<|wrap .i64<|j.1+j.2) 2)<|Qr (wrap .i64<|Int.fdiv (wrap .u64<|wrap .i64<|j.1+j.2) 2) 1<|aL (wrap .i64<|wrap .i64 (Int.fdiv (wrap .u64<|wrap .i64<|j.1+j.2) 2)+1)<|By ?_;exact oi hj▸⟨rfl,o.sp 4 [3]⟩;refine BY<|aX (wrap .i64<|Int.fdiv (wrap .u64<|wrap .i64<|j.1+j.2) 2)<|aL (wrap .i64<|Int.fdiv (wrap .u64<|wrap .i64<|j.1+j.2) 2)<|By ?_;exact oi hj▸⟨rfl,o.sp 4 [3]⟩;rintro _ w⟨O,rfl,o⟩;exact bJ<|oi hb▸⟨rfl,o.sp 1 [0]⟩;exact Q7<|oi hb▸⟨rfl,o.sp 1 [0]⟩;rintro j _ w hb⟨O,rfl,o⟩;refine aC<|IS<|q_ hb λaf hj hb=>Qu (λ(af:Bool)=>SH E V [(6,vi j.1),(7,vb af)] []) af ?_ ?_;refine BY<|aX j.1<|aX j.1<|aX (p0.length:Int)<|ic j.1 ((p0.length:Int))<|gU (decide<|j.1<(p0.length:Int))<|gK hj (λaa hj=>?_) λaa hj=>?_;refine Qq v2 (cg aa)<|Qq v0 (cg aa)<|Qq (vi j.1) (cg aa)<|q_ hj λal an hj=>Qm (hg:=cg aa) 0 o Dk an λav o=>Qs (hg:=cg aa) 0 al o BP λaw o=>Qq (str p1) (cg aa) ?_;have o:=o.sc bG p1;refine q_ hj λag ao hj=>RE 1 0 (cg aa) o h2 4 ao λw o=>Q1 ag 0 (cg aa)<|gT aa (vb<|ag==0)<|aL j.1<|bY (ag==0)<|By ?_;exact oi hj▸⟨rfl,o.sp 4 []⟩;refine bS aa<|bS aa<|bS aa<|bS aa<|bS aa<|bS aa<|bS aa<|bS aa<|gT aa (vb false)<|aL j.1<|bY false<|By ?_;exact oi hj▸⟨rfl,o.sp 1 []⟩;rintro _ w⟨O,rfl,o⟩;exact aC<|Qk<|oi hb▸nT ⟨rfl,o.drop 0⟩
theorem te{p0:Part}{p1:bG}(j:Holds E w V)(h0:V[i0]? =some (rd v0 p0))(o:ig N p0 p1=some res):c_ 114 [v0,str p1] w<|aD E V res:=by
 unfold ig at o;refine enter Tryz.func114 zr zr ?_;have j:=j.dup (i0+0) h0;refine AI<|QH 0 v0 j zr λad w j=>?_;exact aL 0<|IN<|AT zr xf<|Qj 0 j zr oz oC<|mv (str p1)<|q_ o λaa ab o=>Qp Ib (i6 N (p0:=p0.Name) (p1:=p1) j ab) λw j=>aL aa<|AS<|Qk<|oi o▸bT ⟨rfl,j.drop 2⟩
theorem wk{p0:List Part}{p1:bG}(hw:Holds E w V)(h0:V[i0]? =some (rd v0 p0))(hb:kR N p0 p1=some res):c_ 70 [v0,str p1] w<|aD E V res:=by
 unfold kR at hb;refine enter Tryz.func70 zr zr ?_;have hw:=hw.dup (i0+0) h0;refine AI<|aL 0<|IN<|mv v0<|mv (str p1) ?_;refine q_ hb λo ad hb=>Qp (gH Tryz.func113) (kX N (p1:=p1) (i0:=0) hw rfl ⟨114,[],rfl,(gH Tryz.func114),λw Γl v v' y0 y1 r i j hw hi hj hr=>by obtain rfl:=hw.x8 (γ:=bG) hj;exact fA (te N (p1:=y1) (i0:=i) hw hi hr) λ_ _ h=>h⟩ ad) λw hw=>mv (.tuple #[vi o.1,vb o.2])<|QQ (vi o.1)<|QQ (vb o.2)<|aL o.1<|bY o.2<|IT<|AI<|gU o.2 ?_;refine Q4 o.2<|AS<|eH hb (λhb=>?_) λhb=>?_;exact AI<|aL (-1)<|AS<|QE<|oi hb▸bT ⟨rfl,hw.drop 1⟩;exact Ra<|aX o.1<|aL o.1<|AS<|Qk<|oi hb▸bT ⟨rfl,hw.drop 1⟩
theorem kj{p0:List cE}{p1:bG}{p2:cE->bG->Option Int}{res:Int×Bool}(o:Holds E w V)(h0:V[i0]? =some (rd v0 p0))(h2:Js aZ E V v2 p2 (λ(r:Int)=>Value.int .i64 r))(hb:dP N p0 p1 p2=some res):c_ 115 [v0,str p1,v2] w<|dC E V res:=by
 unfold dP at hb;refine enter Tryz.func115 zr zr ?_;have o:=o.dup (i0+0) h0;refine AI<|aL 0<|bY false<|IN<|mv v0<|Ql 0 p0 o y7<|aL (p0.length:Int)<|IN<|aX (p0.length:Int)<|aL 0<|aL (p0.length:Int)<|IT<|RF E V (λ(j:Int×Int)=>[rd v0 p0]) (λj=>[(0,v0),(1,str p1),(2,v2),(8,vi p0.length),(9,vi j.1)]) (λj=>[(10,vi j.2)]) hb ?_ ?_ ?_;exact o.sp 1 [0];rintro j fl _ w⟨O,rfl,o⟩hb;refine IS<|AI<|aX j.1<|aX j.2<|ic j.1 j.2<|AS<|eH hb (λhb=>?_) λhb=>?_;refine Rl<|Qt<|aX j.1<|aX j.2<|Qr j.1 j.2<|RI (wrap .i64<|j.1+j.2) ⟨_,FL⟩ Dl<|RH (v:=(.int .u64<|wrap .u64<|wrap .i64<|j.1+j.2)) (v':=(.int .u64 1)) (u:=(.int .u64<|Int.fdiv (wrap .u64<|wrap .i64<|j.1+j.2) 2)) zt zr zr zr (λ_=>zr) (λ_=>zr)<|RI (Int.fdiv (wrap .u64<|wrap .i64<|j.1+j.2) 2) ⟨_,Dl⟩ FL<|aL (wrap .i64<|Int.fdiv (wrap .u64<|wrap .i64<|j.1+j.2) 2) ?_;refine IN<|mv v2<|mv v0<|aX (wrap .i64<|Int.fdiv (wrap .u64<|wrap .i64<|j.1+j.2) 2)<|q_ hb λah ai hb=>Qm 0 o xV ai λar o=>Qs 0 ah o v7 λau o=>mv (str p1) ?_;have o:=o.sc bG p1;refine q_ hb λaj ak hb=>RE 1 0 zt o h2 4 ak λw o=>ic aj 0<|AS<|q_ hb λae hj hb=>Qu (λ(ae:Int×Int)=>SH E V [(0,v0),(1,str p1),(2,v2),(8,vi p0.length),(9,vi ae.1),(10,vi ae.2)] [rd v0 p0]) ae ?_ ?_;refine eH hj (λhj=>?_) λhj=>?_;refine BY<|aX (wrap .i64<|Int.fdiv (wrap .u64<|wrap .i64<|j.1+j.2) 2)<|Qr (wrap .i64<|Int.fdiv (wrap .u64<|wrap .i64<|j.1+j.2) 2) 1<|aL (wrap .i64<|wrap .i64 (Int.fdiv (wrap .u64<|wrap .i64<|j.1+j.2) 2)+1)<|By ?_;exact oi hj▸⟨rfl,o.sp 4 [3]⟩;refine BY<|aX (wrap .i64<|Int.fdiv (wrap .u64<|wrap .i64<|j.1+j.2) 2)<|aL (wrap .i64<|Int.fdiv (wrap .u64<|wrap .i64<|j.1+j.2) 2)<|By ?_;exact oi hj▸⟨rfl,o.sp 4 [3]⟩;rintro _ w⟨O,rfl,o⟩;exact bJ<|oi hb▸⟨rfl,o.sp 1 [0]⟩;exact Q7<|oi hb▸⟨rfl,o.sp 1 [0]⟩;rintro j _ w hb⟨O,rfl,o⟩;refine aC<|IS<|q_ hb λaf hj hb=>Qu (λ(af:Bool)=>SH E V [(6,vi j.1),(7,vb af)] []) af ?_ ?_;refine BY<|aX j.1<|aX j.1<|aX (p0.length:Int)<|ic j.1 ((p0.length:Int))<|gU (decide<|j.1<(p0.length:Int))<|gK hj (λaa hj=>?_) λaa hj=>?_;refine Qq v2 (cg aa)<|Qq v0 (cg aa)<|Qq (vi j.1) (cg aa)<|q_ hj λal an hj=>Qm (hg:=cg aa) 0 o xV an λav o=>Qs (hg:=cg aa) 0 al o v7 λaw o=>Qq (str p1) (cg aa) ?_;have o:=o.sc bG p1;refine q_ hj λag ao hj=>RE 1 0 (cg aa) o h2 4 ao λw o=>Q1 ag 0 (cg aa)<|gT aa (vb<|ag==0)<|aL j.1<|bY (ag==0)<|By ?_;exact oi hj▸⟨rfl,o.sp 4 []⟩;refine bS aa<|bS aa<|bS aa<|bS aa<|bS aa<|bS aa<|bS aa<|bS aa<|gT aa (vb false)<|aL j.1<|bY false<|By ?_;exact oi hj▸⟨rfl,o.sp 1 []⟩;rintro _ w⟨O,rfl,o⟩;exact aC<|Qk<|oi hb▸nT ⟨rfl,o.drop 0⟩
theorem uu{p0:cE}{p1:bG}(j:Holds E w V)(h0:V[i0]? =some (rd v0 p0))(o:iL N p0 p1=some res):c_ 116 [v0,str p1] w<|aD E V res:=by
 unfold iL at o;refine enter Tryz.func116 zr zr ?_;have j:=j.dup (i0+0) h0;refine AI<|QH 0 v0 j zr λad w j=>?_;exact aL 0<|IN<|AT zr v8<|Qj 0 j zr mI oC<|mv (str p1)<|q_ o λaa ab o=>Qp Ib (i6 N (p0:=p0.Name) (p1:=p1) j ab) λw j=>aL aa<|AS<|Qk<|oi o▸bT ⟨rfl,j.drop 2⟩
theorem xq{p0:aJ}{p1:bG}(o:Holds E w V)(h0:V[i0]? =some (rd v0 p0))(hb:lQ N p0 p1=some res):c_ 71 [v0,str p1] w<|aD E V res:=by
 unfold lQ at hb;refine enter Tryz.func71 zr zr ?_;have o:=o.dup (i0+0) h0;refine AI<|QH 0 v0 o zr λaf w o=>?_;refine aL 0<|IN<|AT zr BO<|QL 0 o zr pZ H8 λag o=>mv (str p1) ?_;refine q_ hb λaa ad hb=>Qp (gH Tryz.func115) (kj N (p1:=p1) (i0:=0) o rfl ⟨116,[],rfl,(gH Tryz.func116),λw Γl v v' y0 y1 r i j o hi hj hr=>by obtain rfl:=o.x8 (γ:=bG) hj;exact fA (uu N (p1:=y1) (i0:=i) o hi hr) λ_ _ h=>h⟩ ad) λw o=>mv (.tuple #[vi aa.1,vb aa.2])<|QQ (vi aa.1)<|QQ (vb aa.2)<|aL aa.1<|bY aa.2<|IT<|AI<|gU aa.2 ?_;refine Q4 aa.2<|AS<|eH hb (λhb=>?_) λhb=>?_;exact AI<|aL (-1)<|AS<|QE<|oi hb▸bT ⟨rfl,o.drop 3⟩;exact Ra<|aX aa.1<|aL aa.1<|AS<|Qk<|oi hb▸bT ⟨rfl,o.drop 3⟩
theorem wm{p0:List aJ}{p1:List Part}{p2:aS}{res:Bool}(j:Holds E w V)(h0:V[i0]? =some (rd v0 p0))(h1:V[i1]? =some (rd v1 p1))(h2:V[i2]? =some (rd v2 p2))(hb:mB N p0 p1 p2=some res):c_ 37 [v0,v1,v2] w<|bB E V res:=by
 unfold mB at hb;refine enter Tryz.func37 zr zr ?_;have j:=((j.dup (i0+0) h0).dup (i1+1) h1).dup (i2+2) h2;refine AI<|QH 0 v2 j zr λag w j=>?_;refine bY false<|IN<|mv v1<|AT zr BR<|Qj 0 j zr vS oC<|q_ hb λad ai hb=>Qp (gH Tryz.func70) (wk N (p1:=p2.Part) (i0:=2) j zr ai) λw j=>aL ad<|IT<|q_ hb λae hj hb=>Qu (λ(ae:Bool)=>SH E V [(6,vb ae)] []) ae ?_ ?_;have j:=j.drew;refine RZ (λw=>Holds E w<|[bx 59 ag p2]++V) mixed zr [0,0,0,1,0,0,0,0,0,0,2,0,0,1,1,2,0,0,0] [0,1,2,3,4,5,6,7,8,9,13,14,10,11,12,15,16,17,18] (j.pk 4 [0])<|QF zr zr<|aX ad<|cV zr<|ic ad 0<|cV zr<|gU (decide<|ad>=0)<|QO<|gK hj (λo hj=>?_) λo hj=>?_;refine QX v0 zr (λw=>Qq v0 (cg o) QP)<|QF zr zr<|Qq v0 (cg o)<|cV zr<|Qq v1 (cg o)<|cV zr<|Qq (vi ad) (cg o)<|cV zr<|q_ hj λah aj hj=>Qm (hg:=cg o) 2 j Dk aj λaq j=>cV zr<|QR (hg:=cg o) 0 j zr BQ tX λar j=>cV zr<|QG (hg:=cg o) ah.iB 0 j oC<|QO<|QX (vp ag 1) zr (λw=>AT (hg:=cg o) zr BS QP)<|RK (str p2.aS) zr (λw j=>Qj (hg:=cg o) 0 j zr vT oC QP)<|Rh zr zr ?_;refine q_ hj λau ak hj=>Qp (hg:=cg o) Lo (mM N (p1:=ah.iB) (i0:=5) j zr ak) λw j=>Q0 (j.pk 6 [2])<|QF zr zr<|q_ hj λal an hj=>Qm (hg:=cg o) 5 j Gw an λav j=>cV zr<|Qs (hg:=cg o) 0 al j Dj λaw j=>wZ zr<|q_ hj λaf ao hj=>Qp (hg:=cg o) (gH Tryz.func71) (xq N (p1:=p2.aS) (i0:=0) j zr ao) λw j=>Q0 (j.pk 8 [4])<|QF zr zr<|Q1 af 0 (cg o)<|cV zr<|gT o (vb<|decide<|af>=0)<|cV zr<|bY (decide<|af>=0)<|QO ?_;exact Q5<|oi hj▸⟨rfl,j.sp 8 []⟩;refine QX undef zr (λw=>bS o QP)<|QF zr zr<|bS o<|cV zr<|bS o<|cV zr<|bS o<|cV zr<|bS o<|cV zr<|bS o<|cV zr<|bS o<|QO<|QX undef zr (λw=>bS o QP)<|QX undef zr (λw=>bS o QP)<|Rh zr zr<|bS o ?_;refine Q0 (j.pk 4 [0])<|QF zr zr<|bS o<|cV zr<|bS o<|wZ zr<|bS o<|Q0 (j.pk 4 [0])<|QF zr zr<|bS o<|cV zr<|gT o (vb false)<|cV zr<|bY false<|QO<|Q5 ?_;exact oi hj▸⟨rfl,j.sp 4 []⟩;rintro _ w⟨O,rfl,j⟩;exact aC<|Qk<|oi hb▸bT ⟨rfl,j.drop 0⟩
theorem qE{p0:aS}{p1:List aJ}{p2:aT}{res:Bool}(j:Holds E w V)(h0:V[i0]? =some (rd v0 p0))(h1:V[i1]? =some (pt v1 p1))(h2:V[i2]? =some (pt v2 p2))(o:jA N p0 p1 p2=some res):c_ 36 [v0,v1,v2] w<|bB E V res:=by
 unfold jA at o;refine enter Tryz.func36 zr zr ?_;have j:=((j.dup (i0+0) h0).uY (i:=i1+1) h1).uY (i:=i2+2) h2;refine AI<|QH 2 v0 j zr λad w j=>?_;refine bY false<|IN<|Qs 2 p1 j Lm λae j=>QR 2 j zr xe mK λaf j=>Qs 0 p2.cJ j Gx λag j=>Qx 3 j zr jd λah j=>?_;exact q_ o λaa ab o=>Qp (gH Tryz.func37) (wm N (i0:=3) (i1:=1) (i2:=0) j zr zr zr ab) λw j=>bY aa<|AS<|Qk<|oi o▸bT ⟨rfl,j.drop 8⟩
theorem iJ{p0 p1:aS}(j:Holds E w V)(h0:V[i0]? =some (rd v0 p0))(h1:V[i1]? =some (rd v1 p1))(o:cX N p0 p1=some res):c_ 13 [v0,v1] w<|aD E V res:=by
 unfold cX at o;refine enter Tryz.func13 zr zr ?_;have j:=(j.dup (i0+0) h0).dup (i1+1) h1;refine AI<|QH 1 v0 j zr λaf w j=>?_;refine QH 1 v1 j zr λag w j=>?_;refine aL 0<|IT<|AI<|AT zr BR<|Qj 1 j zr vS oC<|AT zr BR<|Qj 0 j zr vS oC<|q_ o λaa ab o=>Qp Ib (i6 N (p0:=p0.Part) (p1:=p1.Part) j ab) λw j=>aL aa<|IN<|aX aa<|ic aa 0<|AS<|eH o (λo=>?_) λo=>?_;exact AI<|aX aa<|aL aa<|AS<|QE<|oi o▸bT ⟨rfl,j.drop 4⟩;exact Ra<|AT zr BS<|Qj 1 j zr vT oC<|AT zr BS<|Qj 0 j zr vT oC<|q_ o λad ae o=>Qp Ib (i6 N (p0:=p0.aS) (p1:=p1.aS) j ae) λw j=>aL ad<|AS<|Qk<|oi o▸bT ⟨rfl,j.drop 4⟩
def mO(E:World)(V:List HP)(v2:Value)(res:Int×List (aS×Bool))(v:Value)(w:World):Prop:=v= vi res.1/\Holds E w ([mp v2 res.2]++V)
theorem qF{p0:List aS}{p1:aS->Option Bool}{p2:List (aS×Bool)}{res:Int×List (aS×Bool)}(j:Holds E w (mp v2 p2::V))(h0:V[i0]? =some (rd v0 p0))(h1:Fy aZ E V v1 p1 (λ(r:Bool)=>Value.bool r))(o:gR N p0 p1 p2=some res):c_ 35 [v0,v1,v2] w<|mO E V v2 res:=by
 unfold gR at o;refine enter Tryz.func35 zr zr ?_;have j:=j.dup (i0+1) h0;refine AI<|aL 0<|IT<|AI<|mv v0<|Ql 0 p0 j p5<|ic ((p0.length:Int)) 500<|AS<|eH o (λo=>?_) λo=>?_;exact AI<|aL 2<|AS<|QE<|oi o▸bT ⟨rfl,j.pk 2 [1]⟩;refine QN<|AI<|mv v0<|Ql 0 p0 j p5<|aX 0<|AS<|Rf E V (λ(al:Unit)=>[rd v0 p0,mp v2 p2]) (λ_=>[(0,v0),(2,v2)]) (λab _=>[(1,v1),(14,v0),(15,vi p0.length),(16,vi ab)]) (λr=>mq aZ 53 Tryz.f35 (mO E V v2 r) .ret) o ?_ ?_ ?_ ?_;exact j.sp 2 [0,1];rintro hm ab al fl _ w hk⟨O,rfl,j⟩o;refine IS<|Qt<|aX (ab:Int)<|q_ o λae ar o=>Qm 0 j p6 ar λa1 j=>Qs 0 ae j jd λa2 j=>QD j rp.z λan w j=>?_;refine aL (ab:Int)<|QB 0 j 1 zr jd λw j=>?_;refine AS<|Qt<|mv v1<|Qx 0 j zr jd λa3 j=>?_;refine q_ o λao au o=>RN 0 j h1 6 au λw j=>Q4 ao<|bY (!ao)<|AS<|eH o (λo=>?_) λo=>?_;exact AI<|aL 9<|AS<|QY<|iq<|bL<|oi o▸⟨rfl,bT ⟨rfl,j.pk 6 [5]⟩⟩;refine IS<|q_ o λah hj o=>Qu (λ(ah:Bool)=>SH E V [(0,v0),(1,v1),(2,v2),(8,vp an 0),(14,v0),(15,vi p0.length),(16,vi ab),(26,vb ah)] [rd v0 p0,mp v2 p2,bx 59 an ae]) ah ?_ ?_;refine Rn mixed [0,0,0,0,0,0,0,0,0,2,0,0,0] [0,1,2,3,4,5,6,7,8,9,10,11,12] ?_;have j:=j.drew;refine QF zr zr<|aX (ab:Int)<|cV zr<|ic ((ab:Int)) 0<|cV zr<|gU (decide<|(ab:Int)>0)<|QO<|gK hj (λaa hj=>?_) λaa hj=>?_;refine QF zr zr<|Qx (hg:=cg aa) 1 j zr jd λa4 j=>cV zr<|Qq v0 (cg aa)<|cV zr<|Qq (vi ab) (cg aa)<|cV zr<|Qr (hg:=cg aa) (ab:Int) 1<|cV zr<|q_ hj λav aw hj=>Qm (hg:=cg aa) 5 j p6 aw λa5 j=>cV zr<|Qs (hg:=cg aa) 0 av j jd λa6 j=>wZ zr ?_;refine q_ hj λai ax hj=>Qp (hg:=cg aa) JW (iJ N (i0:=2) (i1:=0) j zr zr ax) λw j=>Eo zr<|Q1 ai 0 (cg aa)<|cV zr<|gT aa (vb<|decide<|ai<=0)<|cV zr<|bY (decide<|ai<=0)<|QO<|Q5 ?_;exact oi hj▸⟨rfl,j.sp 9 [7,8,4]⟩;refine QF zr zr<|bS aa<|cV zr<|bS aa<|cV zr<|bS aa<|cV zr<|bS aa<|cV zr<|bS aa<|cV zr<|bS aa<|wZ zr<|bS aa<|Eo zr<|bS aa<|cV zr<|gT aa (vb false) ?_;exact cV zr<|bY false<|QO<|Q5<|oi hj▸⟨rfl,j.sp 6 [4,5,1]⟩;rintro _ w⟨O,rfl,j⟩;refine aC<|eH o (λo=>?_) λo=>?_;exact AI<|aL 8<|AS<|QY<|iq<|bL<|oi o▸⟨rfl,bT ⟨rfl,j.pk 3 [1]⟩⟩;refine AI<|mv v2<|Qx 2 j zr jd λa7 j=>R9 2 ae zr j zr (oH 0 j) zr Ie<|bY (dR p2 ae (false:Bool))<|AS<|eH o (λo=>?_) λo=>?_;exact AI<|aL 7<|AS<|QY<|iq<|bL<|oi o▸⟨rfl,bT ⟨rfl,j.pk 4 [2]⟩⟩;exact QJ<|bJ<|bJ<|aC<|BY<|Qw hk hm<|aX ((ab+1:Nat):Int)<|By<|oi o▸⟨rfl,j.sp 4 [1,2]⟩;intro r U w o hK;exact bL<|oi o▸hK;rintro al _ w o⟨O,rfl,j⟩;refine aC<|IS<|AI<|mv v0<|Ql 0 p0 j p5<|aX 0<|AS<|Ry E V (λ(aj:List (aS×Bool))=>[mp v2 aj,rd v0 p0]) (λ_=>[(2,v2)]) (λak _=>[(44,v0),(45,vi p0.length),(46,vi ak)]) o ?_ ?_ ?_;exact j.sp 2 [1,0];rintro hm ak aj s' _ w hk⟨O,rfl,j⟩o;refine IS<|Qt<|q_ o λaq az o=>Qm 1 j p6 az λa8 j=>Qs 0 aq j jd λa9 j=>QD j rp.z λba w j=>?_;refine QB 0 j 1 zr jd λw j=>?_;refine AS<|BY<|mv v2<|Qx 0 j zr jd λbb j=>?_;have j:=j.sc Bool true;exact RR 5 0 aq j zr (oH 1 j) zr zr Ie λw j=>By<|bJ<|aC<|BY<|Qw hk hm<|aX ((ak+1:Nat):Int)<|By<|oi o▸⟨rfl,j.sp 7 [5,6]⟩;rintro aj _ w o⟨O,rfl,j⟩;exact aC<|AI<|aL 0<|AS<|Qk<|oi o▸bT ⟨rfl,j.pk 2 [0]⟩
end Go.Gk
