/-
  Printed texts: Go functions as plain functions, and that they are. No statement of the seed is proved here.
-/
import Derived.Test.YtoklpakgcjcdoaaGreatDoorProg
import Derived.Test.YtoklpakgcjcdoaaGreatDoorE1
import Derived.Test.YtoklpakgcjcdoaaGreatDoorA1
import Derived.Test.YtoklpakgcjcdoaaGreatDoorA2
import Derived.Test.YtoklpakgcjcdoaaGreatDoorRows
import Derived.Shelf.SlGeneric
import Derived.Ground.SlsfProg
import Derived.Ground.SlgmProg
set_option linter.unusedVariables false
set_option linter.unusedSimpArgs false
set_option linter.unusedSectionVars false
set_option maxRecDepth 100000
set_option maxHeartbeats 40000000
namespace Go.Gk
open Go IntKind Go.Proofs
noncomputable abbrev bC:=Tryz.prog
abbrev c_(f:Nat)(l:List Value)(w:World)(R:Value->World->Prop):Prop:=Calls bC f l.toArray w (fi R)
def hO(x:aP):=(x.Name,x.Kind,x.aN)
instance instGTPinType:GT aP:=GT.via hO
instance instKVPinType:KV aP:=instKVvia (λ(x:aP)=>(x.Name,x.Kind,x.aN))
theorem eH:Fd 0 (λx:aP=>x.Name):= .v hO<|.fst .self
theorem q5:Fs 0 aQ (λ(x:aP)y=>{x with Name:=y}):= .v hO<|.fst .self
theorem f9:Fd 1 (λx:aP=>x.Kind):= .v hO<|.snd<|.fst .self
theorem q6:Fs 1 Int (λ(x:aP)y=>{x with Kind:=y}):= .v hO<|.snd<|.fst .self
theorem cQ:Fd 2 (λx:aP=>x.aN):= .v hO<|.snd<|.snd<|.self
def il(x:aC):=(x.Name,x.aJ)
instance instGTPartType:GT aC:=GT.via il
theorem eK:Fd 0 (λx:aC=>x.Name):= .v il<|.fst .self
theorem p9:Fs 0 aQ (λ(x:aC)y=>{x with Name:=y}):= .v il<|.fst .self
theorem cF:Fd 1 (λx:aC=>x.aJ):= .v il<|.snd<|.self
theorem qa:Fs 1 (List aP) (λ(x:aC)y=>{x with aJ:=y}):= .v il<|.snd<|.self
def mb(x:Part):=(x.Name,x.bR)
instance instGTPart:GT Part:=GT.via mb
instance instKVPart:KV Part:=instKVvia (λ(x:Part)=>(x.Name,x.bR))
theorem gP:Fd 0 (λx:Part=>x.Name):= .v mb<|.fst .self
theorem tV:Fs 0 aQ (λ(x:Part)y=>{x with Name:=y}):= .v mb<|.fst .self
theorem fk:Fd 1 (λx:Part=>x.bR):= .v mb<|.snd<|.self
theorem tW:Fs 1 aQ (λ(x:Part)y=>{x with bR:=y}):= .v mb<|.snd<|.self
def mH(x:bP):=(x.Part,x.bP)
instance instGTPin:GT bP:=GT.via mH
instance instKVPin:KV bP:=instKVvia (λ(x:bP)=>(x.Part,x.bP))
theorem fR:Fd 0 (λx:bP=>x.Part):= .v mH<|.fst .self
theorem rX:Fs 0 aQ (λ(x:bP)y=>{x with Part:=y}):= .v mH<|.fst .self
theorem iq:Fd 1 (λx:bP=>x.bP):= .v mH<|.snd<|.self
theorem rY:Fs 1 aQ (λ(x:bP)y=>{x with bP:=y}):= .v mH<|.snd<|.self
def oV(x:Net):=(x.Name,x.aJ,x.jh)
instance instGTNet:GT Net:=GT.via oV
theorem iX:Fd 0 (λx:Net=>x.Name):= .v oV<|.fst .self
theorem gF:Fd 1 (λx:Net=>x.aJ):= .v oV<|.snd<|.fst .self
theorem rZ:Fd 2 (λx:Net=>x.jh):= .v oV<|.snd<|.snd<|.self
def jW(x:aF):=(x.aU,x.aY)
instance instGTNetlist:GT aF:=GT.via jW
theorem bN:Fd 0 (λx:aF=>x.aU):= .v jW<|.fst .self
theorem q7:Fs 0 (List Part) (λ(x:aF)y=>{x with aU:=y}):= .v jW<|.fst .self
theorem cR:Fd 1 (λx:aF=>x.aY):= .v jW<|.snd<|.self
def mc(x:aI):=(x.A,x.B)
instance instGTPairing:GT aI:=GT.via mc
instance instKVPairing:KV aI:=instKVvia (λ(x:aI)=>(x.A,x.B))
theorem d6:Fd 0 (λx:aI=>x.A):= .v mc<|.fst .self
theorem d7:Fd 1 (λx:aI=>x.B):= .v mc<|.snd<|.self
def g4(x:aE):=(x.part,x.wM,x.mark)
instance instGTnetlist_tie:GT aE:=GT.via g4
instance instKVnetlist_tie:KV aE:=instKVvia (λ(x:aE)=>(x.part,x.wM,x.mark))
theorem ky:Fs 0 Int (λ(x:aE)y=>{x with part:=y}):= .v g4<|.fst .self
theorem kz:Fs 2 Int (λ(x:aE)y=>{x with mark:=y}):= .v g4<|.snd<|.snd<|.self
theorem tX(M:cE):GT.ok M (#[n_,n_]:Array Value).toList (⟨[],[]⟩:aF):=⟨[n_],[n_],rfl,(show GT.ok M [n_] ([]:List Part)from⟨_,rfl,none,0,0,rfl,rfl,cI _,by simp[maxLen],λ_ _ h=>by simp at h⟩),(show GT.ok M [n_] ([]:List Net)from⟨_,rfl,none,0,0,rfl,rfl,cI _,by simp[maxLen],λ_ _ h=>by simp at h⟩)⟩
theorem wy(M:cE):GT.ok M (#[(.string ⟨#[]⟩),(.string ⟨#[]⟩)]:Array Value).toList (⟨⟨[]⟩,⟨[]⟩⟩:Part):=⟨[(.string ⟨#[]⟩)],[(.string ⟨#[]⟩)],rfl,(show GT.ok M [(.string ⟨#[]⟩)] (⟨[]⟩:aQ)from rfl),(show GT.ok M [(.string ⟨#[]⟩)] (⟨[]⟩:aQ)from rfl)⟩
theorem we(M:cE):GT.ok M (#[(.string ⟨#[]⟩),(.string ⟨#[]⟩)]:Array Value).toList (⟨⟨[]⟩,⟨[]⟩⟩:bP):=⟨[(.string ⟨#[]⟩)],[(.string ⟨#[]⟩)],rfl,(show GT.ok M [(.string ⟨#[]⟩)] (⟨[]⟩:aQ)from rfl),(show GT.ok M [(.string ⟨#[]⟩)] (⟨[]⟩:aQ)from rfl)⟩
theorem tb(M:cE):GT.ok M (#[(.string ⟨#[]⟩),n_]:Array Value).toList (⟨⟨[]⟩,[]⟩:aC):=⟨[(.string ⟨#[]⟩)],[n_],rfl,(show GT.ok M [(.string ⟨#[]⟩)] (⟨[]⟩:aQ)from rfl),(show GT.ok M [n_] ([]:List aP)from⟨_,rfl,none,0,0,rfl,rfl,cI _,by simp[maxLen],λ_ _ h=>by simp at h⟩)⟩
theorem m1(M:cE):GT.ok M (#[(.int .i64 0),(.int .i64 0),(.int .i64 0)]:Array Value).toList (⟨0,0,0⟩:aE):=⟨[(.int .i64 0)],[(.int .i64 0),(.int .i64 0)],rfl,(show GT.ok M [(.int .i64 0)] (0:Int)from rfl),⟨[(.int .i64 0)],[(.int .i64 0)],rfl,(show GT.ok M [(.int .i64 0)] (0:Int)from rfl),(show GT.ok M [(.int .i64 0)] (0:Int)from rfl)⟩⟩
theorem tY(M:cE):GT.ok M (#[(.string ⟨#[]⟩),(.int .i64 0),(.int .i64 0)]:Array Value).toList (⟨⟨[]⟩,0,0⟩:aP):=⟨[(.string ⟨#[]⟩)],[(.int .i64 0),(.int .i64 0)],rfl,(show GT.ok M [(.string ⟨#[]⟩)] (⟨[]⟩:aQ)from rfl),⟨[(.int .i64 0)],[(.int .i64 0)],rfl,(show GT.ok M [(.int .i64 0)] (0:Int)from rfl),(show GT.ok M [(.int .i64 0)] (0:Int)from rfl)⟩⟩
theorem mixed:Tryz.prog.follows .mixedOrders=true:=by kernel_rfl
theorem gV:kn bC 26 true 2:=ru
theorem r5:kn bC 22 false 1:=ru
theorem tZ:Tryz.prog.underlying 22=some (.slice 55):=by kernel_rfl
theorem nS:sO bC 22 55 2:=wb
theorem jN:kn bC 55 true 2:=ru
theorem tc:vv bC 55 2:=wc<|.agg #[(.string ⟨#[]⟩),n_]
theorem md:pY bC 55 0 0:=sP
theorem eF:kn bC 9 false 1:=ru
theorem om:Tryz.prog.underlying 9=some (.string):=by kernel_rfl
theorem sY(a:aQ)(b:Int)(w:World):(callFunc 102 [str a,(.int .u8 b)].toArray).run bC w = .ok (.value<|vi<|Lib.indexByte a.bF (Int.toNat b).toUInt8) w:=o8 Extern.BytealgIndexByte.indexByte Tryz.func102<|Lib.run_indexByteString _ _ w
theorem w7:fK bC 97:=gj Tryz.func97
theorem w8:fK bC 84:=gj Tryz.func84
theorem wz:fK bC 63:=gj Tryz.func63
theorem g8:pY bC 55 1 1:=sP
theorem nj:kn bC 53 false 1:=ru
theorem oo:Tryz.prog.underlying 53=some (.slice 66):=by kernel_rfl
theorem lf:sO bC 53 66 3:=wb
theorem me:kn bC 66 true 3:=ru
theorem r6:vv bC 66 3:=wc<|.agg #[(.string ⟨#[]⟩),(.int .i64 0),(.int .i64 0)]
theorem lg:pY bC 66 0 0:=sP
theorem nk:pY bC 66 1 1:=sP
theorem mf:kn bC 3 false 1:=ru
theorem ir:pY bC 66 2 2:=sP
theorem w9:fK bC 36:=gj Tryz.func36
theorem fG:pY bC 26 0 0:=sP
theorem j9:kn bC 23 false 1:=ru
theorem td:Tryz.prog.underlying 23=some (.slice 39):=by kernel_rfl
theorem lR:sO bC 23 39 2:=wb
theorem pq:kn bC 39 true 2:=ru
theorem u6:vv bC 39 2:=wc<|.agg #[(.string ⟨#[]⟩),(.string ⟨#[]⟩)]
theorem lh:pY bC 39 0 0:=sP
theorem je:pY bC 39 1 1:=sP
theorem tB:Tryz.prog.underlying 3=some (.int .i64):=by kernel_rfl
theorem r7:Tryz.prog.underlying 89=some (.int .u64):=by kernel_rfl
theorem pZ(a b:aQ)(w:World):(callFunc 69 [str a,str b].toArray).run bC w = .ok (.value<|vi<|Lib.compareBytes a.bF b.bF) w:=o8 Extern.BytealgCompare.compare Tryz.func69<|Lib.run_compareString _ _ w
theorem t3:fK bC 30:=gj Tryz.func30
theorem u7:fK bC 18:=gj Tryz.func18
theorem x5(a:aQ)(b:Int)(w:World):(callFunc 105 [str a,(.int .u8 b)].toArray).run bC w = .ok (.value<|vi ((Lib.countByte a.bF (Int.toNat b).toUInt8:Nat):Int)) w:=o8 Extern.BytealgCount.count Tryz.func105<|Lib.run_countString _ _ w
theorem wg:fK bC 100:=gj Tryz.func100
theorem x8:uN bC 47 9 1 16:=uN.of (.string ⟨#[]⟩) rfl
theorem zA:wU bC 9 (⟨[]⟩:aQ):=wU.of (Z:=(.string ⟨#[]⟩)) (by kernel_rfl)<|λM=>rfl
theorem u9:sO bC 47 9 1:=wb
theorem xb:fK bC 66:=gj Tryz.func66
theorem vR:Tryz.prog.underlying 47=some (.slice 9):=by kernel_rfl
theorem xc:fK bC 47:=gj Tryz.func47
theorem iu:pY bC 26 1 1:=sP
theorem nT:kn bC 24 false 1:=ru
theorem r8:Tryz.prog.underlying 24=some (.slice 49):=by kernel_rfl
theorem nU:sO bC 24 49 3:=wb
theorem nV:kn bC 49 true 3:=ru
theorem va:vv bC 49 3:=wc<|.agg #[(.string ⟨#[]⟩),n_,n_]
theorem mg:pY bC 49 0 0:=sP
theorem jz:pY bC 49 1 1:=sP
theorem pr:kn bC 46 false 1:=ru
theorem nW:Tryz.prog.underlying 46=some (.slice 51):=by kernel_rfl
theorem gQ:kn bC 51 true 2:=ru
theorem iG:pY bC 51 0 0:=sP
theorem vS:fK bC 10:=gj Tryz.func10
theorem lj:pY bC 51 1 1:=sP
theorem xd:fK bC 35:=gj Tryz.func35
theorem nX:sO bC 46 51 2:=wb
theorem qb:vv bC 51 2:=wc<|.agg #[(.string ⟨#[]⟩),(.string ⟨#[]⟩)]
theorem vc:wS bC 51 bP:=⟨λM cs ds a b w ha hb=>by
  obtain⟨_,_,rfl,rfl,rfl⟩:=ha
  obtain⟨_,_,rfl,rfl,rfl⟩:=hb
  refine(kq 9999 Tryz.underlying51<|uP.cons (by decide) (ei eF rfl _) (ei eF rfl _) (nc om _ _ w)<|uP.cons (by decide) (ei eF rfl _) (ei eF rfl _) (nc om _ _ w) uP.nil).trans ?_
  congr 1
  cases a;cases b;unfold mH
  rw[ia]
  simp,by kernel_rfl⟩
theorem wh:ng bC 51 bP:=ng.struct Tryz.underlying51 rfl vc (λk=>(uF.cons (by decide) (ei eF rfl) (λb w=>MapKept.run_checkKey om (k:=Gk.str k.Part) trivial b 9998) (uF.cons (by decide) (ei eF rfl) (λb w=>MapKept.run_checkKey om (k:=Gk.str k.bP) trivial b 9998) uF.nil))) (λk x hx=>by
  have hx:x∈[Sc.toV k.Part,Sc.toV k.bP]:=hx
  simp only[fm,List.not_mem_nil,or_false]at hx
  rcases hx with rfl|rfl
  · exact MapKept.sameBits_self (d:= .string) (k:=Gk.str k.Part) trivial _
  · exact MapKept.sameBits_self (d:= .string) (k:=Gk.str k.bP) trivial _)
theorem xe:oL bC 85 51 4 bP Bool (false:Bool):=⟨by kernel_rfl,wh,nL (.bool false)<|λM=>⟨_,rfl,rfl⟩⟩
theorem vd:pY bC 49 2 2:=sP
theorem xf:kn bC 47 false 1:=ru
theorem wA:fK bC 27:=gj Tryz.func27
theorem oO:Tryz.prog.underlying 27=some (.slice 44):=by kernel_rfl
theorem zh:fK bC 8:=gj Tryz.func8
theorem oq:sO bC 27 44 2:=wb
theorem mQ:kn bC 44 true 2:=ru
theorem r9:vv bC 44 2:=wc<|.agg #[(.string ⟨#[]⟩),(.string ⟨#[]⟩)]
theorem jA:pY bC 44 0 0:=sP
theorem jB:pY bC 44 1 1:=sP
theorem xg:oL bC 75 9 4 aQ Bool (false:Bool):=⟨by kernel_rfl,ng.str om,nL (.bool false)<|λM=>⟨_,rfl,rfl⟩⟩
theorem zi:fK bC 9:=gj Tryz.func9
theorem xh:fK bC 14:=gj Tryz.func14
theorem wB:fK bC 13:=gj Tryz.func13
theorem xi:fK bC 11:=gj Tryz.func11
theorem xj:fK bC 12:=gj Tryz.func12
theorem wC:xG bC 42 2 41 1:=⟨by kernel_rfl,λ_=>by kernel_rfl⟩
theorem xk:wX bC 42 1 ((.agg #[(.map none),(.map none)]):Value).cells:=wX.of wC
theorem yq:za bC 42 [(.map none),(.map none)]:=⟨(.agg #[(.map none),(.map none)]),λ_=>by kernel_rfl,rfl⟩
theorem yr:kn bC 42 true 2:=ru
theorem ve:wW bC 42 0 0:=wC.at (k:=⟨0,by decide⟩) rfl
theorem vT:kn bC 41 false 1:=ru
theorem vf:wW bC 42 1 1:=wC.at (k:=⟨1,by decide⟩) rfl
theorem vU:oL bC 41 9 3 aQ Int (0:Int):=⟨by kernel_rfl,ng.str om,nL (.int .i64 0)<|λM=>⟨_,rfl,rfl⟩⟩
theorem zj:vv bC 3 1:=wc<|.int .i64 0
theorem xl:fK bC 19:=gj Tryz.func19
theorem xm:sU bC 59 [(0,1),(1,1),(2,1)] #[(.int .i64 0),(.int .i64 0),(.int .i64 0)]:=sU.of (.agg #[(.int .i64 0),(.int .i64 0),(.int .i64 0)]) Tryz.underlying59
theorem xn:wS bC 59 aE:=⟨λM cs ds a b w ha hb=>by
  obtain⟨_,_,rfl,rfl,⟨_,_,rfl,rfl,rfl⟩⟩:=ha
  obtain⟨_,_,rfl,rfl,⟨_,_,rfl,rfl,rfl⟩⟩:=hb
  refine(kq 9999 Tryz.underlying59<|uP.cons (by decide) (ei mf rfl _) (ei mf rfl _) (k7 tB _ _ w)<|uP.cons (by decide) (ei mf rfl _) (ei mf rfl _) (k7 tB _ _ w)<|uP.cons (by decide) (ei mf rfl _) (ei mf rfl _) (k7 tB _ _ w) uP.nil).trans ?_
  congr 1
  cases a;cases b;unfold g4
  rw[ia]
  simp,by kernel_rfl⟩
theorem xo:ng bC 59 aE:=ng.struct Tryz.underlying59 rfl xn (λk=>(uF.cons (by decide) (ei mf rfl) (λb w=>MapKept.run_checkKey tB (k:= .int .i64 k.part) rfl b 9998) (uF.cons (by decide) (ei mf rfl) (λb w=>MapKept.run_checkKey tB (k:= .int .i64 k.wM) rfl b 9998) (uF.cons (by decide) (ei mf rfl) (λb w=>MapKept.run_checkKey tB (k:= .int .i64 k.mark) rfl b 9998) uF.nil)))) (λk x hx=>by
  have hx:x∈[Sc.toV k.part,Sc.toV k.wM,Sc.toV k.mark]:=hx
  simp only[fm,List.not_mem_nil,or_false]at hx
  rcases hx with rfl|rfl|rfl
  · exact MapKept.sameBits_self (d:= .int .i64) (k:= .int .i64 k.part) rfl _
  · exact MapKept.sameBits_self (d:= .int .i64) (k:= .int .i64 k.wM) rfl _
  · exact MapKept.sameBits_self (d:= .int .i64) (k:= .int .i64 k.mark) rfl _)
theorem vg:oL bC 45 59 3 aE Int (0:Int):=⟨by kernel_rfl,xo,nL (.int .i64 0)<|λM=>⟨_,rfl,rfl⟩⟩
theorem xp:fK bC 17:=gj Tryz.func17
theorem wD:Tryz.prog.underlying 45=some (.map 59 3):=by kernel_rfl
theorem yu:vv bC 59 3:=wc<|.agg #[(.int .i64 0),(.int .i64 0),(.int .i64 0)]
theorem xq:kn bC 59 true 3:=ru
theorem wE:fK bC 89:=gj Tryz.func89
theorem wF:fK bC 71:=gj Tryz.func71
theorem xr:fK bC 55:=gj Tryz.func55
theorem wG:fK bC 40:=gj Tryz.func40
theorem vV:fK bC 21:=gj Tryz.func21
theorem xt:fK bC 42:=gj Tryz.func42
theorem xu:fK bC 39:=gj Tryz.func39
theorem xv:fK bC 22:=gj Tryz.func22
theorem vW:fK bC 23:=gj Tryz.func23
theorem wH:sO bC 63 3 1:=wb
theorem yF:uN bC 63 3 1 8:=uN.of (.int .i64 0) rfl
theorem xw:fK bC 25:=gj Tryz.func25
theorem wI:Tryz.prog.underlying 63=some (.slice 3):=by kernel_rfl
theorem yI:sU bC 66 [(0,1),(1,1),(2,1)] #[(.string ⟨#[]⟩),(.int .i64 0),(.int .i64 0)]:=sU.of (.agg #[(.string ⟨#[]⟩),(.int .i64 0),(.int .i64 0)]) Tryz.underlying66
theorem yJ:sU bC 55 [(0,1),(1,1)] #[(.string ⟨#[]⟩),n_]:=sU.of (.agg #[(.string ⟨#[]⟩),n_]) Tryz.underlying55
theorem yK:sU bC 39 [(0,1),(1,1)] #[(.string ⟨#[]⟩),(.string ⟨#[]⟩)]:=sU.of (.agg #[(.string ⟨#[]⟩),(.string ⟨#[]⟩)]) Tryz.underlying39
theorem yL:sU bC 26 [(0,1),(1,1)] #[n_,n_]:=sU.of (.agg #[n_,n_]) Tryz.underlying26
theorem xx:oL bC 97 51 3 bP Int (0:Int):=⟨by kernel_rfl,wh,nL (.int .i64 0)<|λM=>⟨_,rfl,rfl⟩⟩
theorem xy:sU bC 51 [(0,1),(1,1)] #[(.string ⟨#[]⟩),(.string ⟨#[]⟩)]:=sU.of (.agg #[(.string ⟨#[]⟩),(.string ⟨#[]⟩)]) Tryz.underlying51
theorem xz:uN bC 46 51 2 32:=uN.of (.agg #[(.string ⟨#[]⟩),(.string ⟨#[]⟩)]) rfl
def aA(E:World)(V:List HP)(res:Int)(v:Value)(w:World):Prop:=v= vi res/\Holds E w V
def aT(E:World)(V:List HP)(res:Bool)(v:Value)(w:World):Prop:=v= vb res/\Holds E w V
def bW(E:World)(V:List HP)(res:Int×Bool)(v:Value)(w:World):Prop:=v = .tuple #[vi res.1,vb res.2]/\Holds E w V
def jC(E:World)(V:List HP)(res:List aQ)(v:Value)(w:World):Prop:=Holds E w<|[own 9 v res]++V
def kA(E:World)(V:List HP)(res:List bP)(v:Value)(w:World):Prop:=Holds E w<|[own 51 v res]++V
def gk(E:World)(V:List HP)(b3:Nat)(d_:Value)(a_:List (aQ×Int))(e_:Value)(b_:List (aQ×Int))(res:List (aE×Int))(v:Value)(w:World):Prop:=Holds E w<|[mp v res,bc 42 b3 [d_,e_],mp d_ a_,mp e_ b_]++V
def ou(H:Type)(d:DataW H):Nat:=YtoklpakgcjcdoaaGreatDoor.Rows.uptoBulk d
def xB(H:Type)(d:List (DataW H)):Nat:=YtoklpakgcjcdoaaGreatDoor.Rows.uptoBulkAll d
theorem eL:UB ou xB where
  str:=λH b=>by simp[ou,YtoklpakgcjcdoaaGreatDoor.Rows.uptoBulk]
  pos:=λH d=>by
    unfold ou
    cases d with
    |lit l=>cases l <;> simp[YtoklpakgcjcdoaaGreatDoor.Rows.uptoBulk]
    |nil=>simp[YtoklpakgcjcdoaaGreatDoor.Rows.uptoBulk]
    |ptr d=>simp[YtoklpakgcjcdoaaGreatDoor.Rows.uptoBulk]
    |slice elems spare=>simp[YtoklpakgcjcdoaaGreatDoor.Rows.uptoBulk]
    |agg parts=>simp[YtoklpakgcjcdoaaGreatDoor.Rows.uptoBulk]
    |iface t d=>simp[YtoklpakgcjcdoaaGreatDoor.Rows.uptoBulk]
    |map entries=>simp[YtoklpakgcjcdoaaGreatDoor.Rows.uptoBulk]
    |held h=>simp[YtoklpakgcjcdoaaGreatDoor.Rows.uptoBulk]
  sl:=λH e s=>by simp[ou,xB,YtoklpakgcjcdoaaGreatDoor.Rows.uptoBulk]
  ag:=λH l=>by simp[ou,xB,YtoklpakgcjcdoaaGreatDoor.Rows.uptoBulk]
  nil:=λH=>by simp[xB,YtoklpakgcjcdoaaGreatDoor.Rows.uptoBulkAll]
  cons:=λH x l=>by simp[ou,xB,YtoklpakgcjcdoaaGreatDoor.Rows.uptoBulkAll]
theorem vx:eX ou Tryz.prog 9 aQ:=ud eL (by kernel_rfl)
theorem zk:eX ou Tryz.prog 3 Int:=uc eL (by kernel_rfl)
theorem yQ:eX ou Tryz.prog 66 aP:=gf eL (λ(x:aP)=>(x.Name,x.Kind,x.aN)) (λb=>⟨b.1,b.2.1,b.2.2⟩) (λb=>rfl) Tryz.underlying66 (gb eL vx<|gb eL zk<|iI eL zk) (λb=>by simp only[nr];omega)
theorem yR:eX ou Tryz.prog 53 (List aP):=g9 (e:=66) eL yQ
theorem yS:eX ou Tryz.prog 55 aC:=gf eL (λ(x:aC)=>(x.Name,x.aJ)) (λb=>⟨b.1,b.2⟩) (λb=>rfl) Tryz.underlying55 (gb eL vx<|iI eL yR) (λb=>by simp only[hQ];omega)
theorem yT:eX ou Tryz.prog 22 (List aC):=g9 (e:=55) eL yS
theorem yU:eX ou Tryz.prog 39 Part:=gf eL (λ(x:Part)=>(x.Name,x.bR)) (λb=>⟨b.1,b.2⟩) (λb=>rfl) Tryz.underlying39 (gb eL vx<|iI eL vx) (λb=>by simp only[rf];omega)
theorem yV:eX ou Tryz.prog 23 (List Part):=g9 (e:=39) eL yU
theorem yW:eX ou Tryz.prog 51 bP:=gf eL (λ(x:bP)=>(x.Part,x.bP)) (λb=>⟨b.1,b.2⟩) (λb=>rfl) Tryz.underlying51 (gb eL vx<|iI eL vx) (λb=>by simp only[wJ];omega)
theorem yX:eX ou Tryz.prog 46 (List bP):=g9 (e:=51) eL yW
theorem yY:eX ou Tryz.prog 47 (List aQ):=g9 (e:=9) eL vx
theorem yZ:eX ou Tryz.prog 49 Net:=gf eL (λ(x:Net)=>(x.Name,x.aJ,x.jh)) (λb=>⟨b.1,b.2.1,b.2.2⟩) (λb=>rfl) Tryz.underlying49 (gb eL vx<|gb eL yX<|iI eL yY) (λb=>by simp only[pE];omega)
theorem y2:eX ou Tryz.prog 24 (List Net):=g9 (e:=49) eL yZ
theorem xC:eX ou Tryz.prog 26 aF:=gf eL (λ(x:aF)=>(x.aU,x.aY)) (λb=>⟨b.1,b.2⟩) (λb=>rfl) Tryz.underlying26 (gb eL yV<|iI eL y2) (λb=>by simp only[ln];omega)
theorem y3:eX ou Tryz.prog 44 aI:=gf eL (λ(x:aI)=>(x.A,x.B)) (λb=>⟨b.1,b.2⟩) (λb=>rfl) Tryz.underlying44 (gb eL vx<|iI eL vx) (λb=>by simp only[tj];omega)
theorem xD:eX ou Tryz.prog 27 (List aI):=g9 (e:=44) eL y3
end Go.Gk
namespace Go.Proofs
open Go.Shelf Go.RowKit Go.Lib Go.Sort
def Tryz.lay43_ren : Go.Shelf.Ren := ⟨fun | 5 => 43 | 8 => 60 | 7 => 59 | 19 => 82 | 20 => 83 | 10 => 73 | 11 => 74 | 12 => 75 | 13 => 76 | 14 => 77 | 15 => 78 | 16 => 79 | 17 => 80 | 18 => 81 | 30 => 91 | 31 => 92 | 32 => 93 | 33 => 94 | 34 => 95 | 35 => 96 | 40 => 101 | n => n, fun | 23 => 63 | 25 => 3 | 3 => 3 | 32 => 89 | 22 => 63 | 0 => 0 | 44 => 114 | 46 => 116 | 4 => 4 | 36 => 108 | 35 => 107 | 41 => 52 | 5 => 5 | 9 => 9 | 53 => 123 | 57 => 127 | 63 => 131 | 64 => 132 | n => n, fun | n => n⟩
theorem Tryz.lay43 : Go.Proofs.SlLaysM.n5 Tryz.prog Tryz.lay43_ren := {
  mixed := by kernel_rfl
  f5 := ⟨Tryz.f43.name, by decide, Tryz.func43.trans (congrArg some (by kernel_rfl))⟩
  f7 := ⟨Tryz.f59.name, by decide, Tryz.func59.trans (congrArg some (by kernel_rfl))⟩
  f8 := Tryz.func60.trans (congrArg some (by kernel_rfl))
  f10 := ⟨Tryz.f73.name, by decide, Tryz.func73.trans (congrArg some (by kernel_rfl))⟩
  f11 := ⟨Tryz.f74.name, by decide, Tryz.func74.trans (congrArg some (by kernel_rfl))⟩
  f12 := ⟨Tryz.f75.name, by decide, Tryz.func75.trans (congrArg some (by kernel_rfl))⟩
  f13 := ⟨Tryz.f76.name, by decide, Tryz.func76.trans (congrArg some (by kernel_rfl))⟩
  f14 := ⟨Tryz.f77.name, by decide, Tryz.func77.trans (congrArg some (by kernel_rfl))⟩
  f15 := ⟨Tryz.f78.name, by decide, Tryz.func78.trans (congrArg some (by kernel_rfl))⟩
  f16 := ⟨Tryz.f79.name, by decide, Tryz.func79.trans (congrArg some (by kernel_rfl))⟩
  f17 := ⟨Tryz.f80.name, by decide, Tryz.func80.trans (congrArg some (by kernel_rfl))⟩
  f18 := ⟨Tryz.f81.name, by decide, Tryz.func81.trans (congrArg some (by kernel_rfl))⟩
  f19 := Tryz.func82.trans (congrArg some (by kernel_rfl))
  f20 := Tryz.func83.trans (congrArg some (by kernel_rfl))
  f30 := ⟨Tryz.f91.name, by decide, Tryz.func91.trans (congrArg some (by kernel_rfl))⟩
  f31 := Tryz.func92.trans (congrArg some (by kernel_rfl))
  f32 := Tryz.func93.trans (congrArg some (by kernel_rfl))
  f33 := ⟨Tryz.f94.name, by decide, Tryz.func94.trans (congrArg some (by kernel_rfl))⟩
  f34 := ⟨Tryz.f95.name, by decide, Tryz.func95.trans (congrArg some (by kernel_rfl))⟩
  f35 := ⟨Tryz.f96.name, by decide, Tryz.func96.trans (congrArg some (by kernel_rfl))⟩
  f40 := ⟨Tryz.f101.name, by decide, Tryz.func101.trans (congrArg some (by kernel_rfl))⟩
  t0 := Tryz.underlying0
  a0 := Tryz.isAgg0
  z0 := Tryz.sizeOf0
  v0 := Tryz.zeroValue0
  t3 := Tryz.underlying3
  a3 := Tryz.isAgg3
  z3 := Tryz.sizeOf3
  v3 := Tryz.zeroValue3
  t4 := Tryz.underlying4
  a4 := Tryz.isAgg4
  z4 := Tryz.sizeOf4
  v4 := Tryz.zeroValue4
  t5 := Tryz.underlying5
  a5 := Tryz.isAgg5
  z5 := Tryz.sizeOf5
  v5 := Tryz.zeroValue5
  t9 := Tryz.underlying9
  a9 := Tryz.isAgg9
  z9 := Tryz.sizeOf9
  v9 := Tryz.zeroValue9
  t22 := Tryz.underlying63
  a22 := Tryz.isAgg63
  z22 := Tryz.sizeOf63
  v22 := Tryz.zeroValue63
  t23 := Tryz.underlying63
  a23 := Tryz.isAgg63
  z23 := Tryz.sizeOf63
  v23 := Tryz.zeroValue63
  t25 := Tryz.underlying3
  a25 := Tryz.isAgg3
  z25 := Tryz.sizeOf3
  v25 := Tryz.zeroValue3
  t32 := Tryz.underlying89
  a32 := Tryz.isAgg89
  z32 := Tryz.sizeOf89
  v32 := Tryz.zeroValue89
  t35 := Tryz.underlying107
  a35 := Tryz.isAgg107
  z35 := Tryz.sizeOf107
  v35 := Tryz.zeroValue107
  t36 := Tryz.underlying108
  a36 := Tryz.isAgg108
  z36 := Tryz.sizeOf108
  v36 := Tryz.zeroValue108
  t41 := Tryz.underlying52
  a41 := Tryz.isAgg52
  z41 := Tryz.sizeOf52
  v41 := Tryz.zeroValue52
  t44 := Tryz.underlying114
  a44 := Tryz.isAgg114
  z44 := Tryz.sizeOf114
  v44 := Tryz.zeroValue114
  t46 := Tryz.underlying116
  a46 := Tryz.isAgg116
  z46 := Tryz.sizeOf116
  v46 := Tryz.zeroValue116
  t53 := Tryz.underlying123
  a53 := Tryz.isAgg123
  z53 := Tryz.sizeOf123
  v53 := Tryz.zeroValue123
  t57 := Tryz.underlying127
  a57 := Tryz.isAgg127
  z57 := Tryz.sizeOf127
  v57 := Tryz.zeroValue127
  t63 := Tryz.underlying131
  a63 := Tryz.isAgg131
  z63 := Tryz.sizeOf131
  v63 := Tryz.zeroValue131
  t64 := Tryz.underlying132
  a64 := Tryz.isAgg132
  z64 := Tryz.sizeOf132
  v64 := Tryz.zeroValue132 }
end Go.Proofs
namespace Go.Gk
open Go IntKind Go.Proofs
variable (N:Nat){E w:World}{i0 i1 i2:Nat}{p1 p2 p3 res:Int}{v0 v1 v2:Value}{V:List HP}
theorem gX{p0:aQ}(o:Holds E w V)(j:eg N p0 p1=some res):c_ 97 [str p0,(.int .u8 p1)] w<|aA E V res:=by
 unfold eg at j;refine enter Tryz.func97 zr zr<|g_<|aG 0<|l_<|mv (str p0)<|mv (.int .u8 p1)<|AX (vi<|Lib.indexByte p0.bF (Int.toNat p1).toUInt8) zr [str p0,(.int .u8 p1)] zr (sY p0 p1 w)<|aG (Lib.indexByte p0.bF (Int.toNat p1).toUInt8)<|h_ ?_;exact s_<|oi j▸aX ⟨rfl,o.drop 0⟩
theorem iY{p0:aQ}(o:Holds E w V)(j:dV N p0 p1=some res):c_ 84 [str p0,(.int .u8 p1)] w<|aA E V res:=by
 unfold dV at j;exact enter Tryz.func84 zr zr<|g_<|aG 0<|l_<|mv (str p0)<|mv (.int .u8 p1)<|q_ j λaa ab j=>k_ w7 (gX N (p0:=p0) (p1:=p1) o ab) λw o=>aG aa<|h_<|s_<|oi j▸aX ⟨rfl,o.drop 0⟩
theorem iv{p0:aQ}{res:Bool}(hw:Holds E w V)(o:eQ N p0=some res):c_ 63 [str p0] w<|aT E V res:=by
 unfold eQ at o;refine enter Tryz.func63 zr zr<|g_<|bK false<|p_<|g_<|mv (str p0)<|Ah p0 om<|bB 0<|h_<|z3 E V (λ(ag:Unit)=>[]) (λ_=>[(0,str p0)]) (λad _=>[(6,vi p0.bF.length),(7,vi ad)]) (λr=>g7 bC 49 Tryz.f63 (aT E V r) .ret) o ?_ ?_ ?_ ?_;exact hw.sp 0 [];rintro hm ad ag fl _ w hk⟨O,rfl,hw⟩o;refine o_<|y_<|bB (ad:Int)<|aG (ad:Int)<|l_<|mv (str p0)<|bB (ad:Int)<|q_ o λj ak o=>AI p0 (ad:Int) j zr zr zr om ak<|ju (.int .u8 (j.toNat:Int))<|p_ ?_;refine q_ o λaf hj o=>zX (λ(af:Bool)=>SH E V [(0,str p0),(6,vi p0.bF.length),(7,vi ad),(39,vb af)] []) af ?_ ?_;refine u_<|mv (.int .u8 (j.toNat:Int))<|ic ((j.toNat:Int)) 65<|iF (decide<|(j.toNat:Int)<65)<|zV (.int .u8 (j.toNat:Int)) zr zr p5<|zV (vb<|decide<|(j.toNat:Int)>90) zr zr (rv .gtr)<|Aa (b:=decide<|(j.toNat:Int)<65) (v:=vb<|decide ((j.toNat:Int)<65)||decide ((j.toNat:Int)>90)) zt zr zr (nG true)<|iF (decide ((j.toNat:Int)<65)||decide ((j.toNat:Int)>90))<|zV (.int .u8 (j.toNat:Int)) zr zr p5 ?_;refine zV (vb<|decide<|(j.toNat:Int)<97) zr zr (rv .lss)<|zV (vb<|decide<|(j.toNat:Int)<97) zr zr p5<|Ai (.int .u8 (j.toNat:Int)) zr zr p5<|Ai (vb<|decide<|(j.toNat:Int)>122) zr zr (rv .gtr)<|zV (vb<|decide ((j.toNat:Int)<97)||decide ((j.toNat:Int)>122)) zr zr xI<|Aa (b:=decide ((j.toNat:Int)<65)||decide ((j.toNat:Int)>90)) (v:=vb<|(decide ((j.toNat:Int)<65)||decide ((j.toNat:Int)>90))&&(decide ((j.toNat:Int)<97)||decide ((j.toNat:Int)>122))) zt zr zr (kW true)<|iF ((decide ((j.toNat:Int)<65)||decide ((j.toNat:Int)>90))&&(decide ((j.toNat:Int)<97)||decide ((j.toNat:Int)>122)))<|zV (.int .u8 (j.toNat:Int)) zr zr p5<|zV (vb<|decide<|(j.toNat:Int)<48) zr zr (rv .lss) ?_;refine zV (vb<|decide<|(j.toNat:Int)<48) zr zr p5<|Ai (.int .u8 (j.toNat:Int)) zr zr p5<|Ai (vb<|decide<|(j.toNat:Int)>57) zr zr (rv .gtr)<|zV (vb<|decide ((j.toNat:Int)<48)||decide ((j.toNat:Int)>57)) zr zr xI<|Aa (b:=(decide ((j.toNat:Int)<65)||decide ((j.toNat:Int)>90))&&(decide ((j.toNat:Int)<97)||decide ((j.toNat:Int)>122))) (v:=vb<|((decide ((j.toNat:Int)<65)||decide ((j.toNat:Int)>90))&&(decide ((j.toNat:Int)<97)||decide ((j.toNat:Int)>122)))&&(decide ((j.toNat:Int)<48)||decide ((j.toNat:Int)>57))) zt zr zr (kW true)<|iF (((decide ((j.toNat:Int)<65)||decide ((j.toNat:Int)>90))&&(decide ((j.toNat:Int)<97)||decide ((j.toNat:Int)>122)))&&(decide ((j.toNat:Int)<48)||decide ((j.toNat:Int)>57)))<|hY hj (λab hj=>?_) λab hj=>?_;refine w_ (.int .u8 (j.toNat:Int)) (cg ab)<|q_ hj λah al hj=>k_ (hg:=cg ab) w8 (iY N (p0:=⟨[95,43,45,35]⟩) (p1:=(j.toNat:Int)) hw al) λw hw=>Ag ah 0 (cg ab)<|hZ ab (vb<|decide<|ah<0)<|i_ ?_;exact oi hj▸⟨rfl,hw.sp 0 []⟩;exact bL ab<|bL ab<|bL ab<|hZ ab (vb false)<|i_<|oi hj▸⟨rfl,hw.sp 0 []⟩;rintro _ w⟨O,rfl,hw⟩;refine aD<|dZ o (λo=>?_) λo=>?_;exact g_<|bK false<|h_<|zI<|aH<|oi o▸⟨rfl,aX ⟨rfl,hw.drop 0⟩⟩;exact zS<|bI<|aD<|u_<|zP hk hm<|bB ((ad+1:Nat):Int)<|i_<|oi o▸⟨rfl,hw.sp 0 []⟩;intro r U w o hK;exact aH<|oi o▸hK;rintro ag _ w o⟨O,rfl,hw⟩;refine aD<|g_<|mv (str p0)<|Ah p0 om<|ic ((p0.bF.length:Int)) 1<|iF (decide<|(p0.bF.length:Int)>=1)<|zV (str p0) rfl rfl p5<|Ab true (decide<|(p0.bF.length:Int)>=1) (vi p0.bF.length) rfl rfl rfl (vC (s:=p0) rfl (by exact z_ (str p0)) om)<|zV (vb<|decide<|(p0.bF.length:Int)<=40) rfl rfl (rv .leq) ?_;exact Aa (b:=decide<|(p0.bF.length:Int)>=1) (v:=vb<|decide ((p0.bF.length:Int)>=1)&&decide ((p0.bF.length:Int)<=40)) zt zr zr (kW true)<|bK (decide ((p0.bF.length:Int)>=1)&&decide ((p0.bF.length:Int)<=40))<|h_<|s_<|oi o▸aX ⟨rfl,hw.drop 0⟩
theorem kD{p0 p1:aP}{res:Bool}(j:Holds E w V)(h0:V[i0]? =some (rd v0 p0))(h1:V[i1]? =some (pt v1 p1))(hb:cW N p0 p1=some res):c_ 86 [v0,v1] w<|aT E V res:=by
 unfold cW at hb;refine enter Tryz.func86 zr zr ?_;have j:=(j.dup (i0+0) h0).j7 (i:=i1+1) h1;refine g_<|zK 1 v0 j zr λaf w j=>?_;refine bK false<|p_<|q_ hb λae hj hb=>zX (λ(ae:Bool)=>SH E V [(3,vb ae)] []) ae ?_ ?_;refine u_<|zO 1 j zr ir cQ λag j=>zZ p1.aN 0 zt j mf<|ic p1.aN 0<|iF (decide<|p1.aN>0)<|hY hj (λo hj=>?_) λo hj=>?_;refine j_ (hg:=cg o) zr ir<|t_ (hg:=cg o) 1 j zr cQ mf<|zO (hg:=cg o) 2 j zr ir cQ λah j=>zZ p1.aN 0 (cg o) j mf<|Ag p0.aN p1.aN (cg o)<|hZ o (vb<|p0.aN==p1.aN)<|iF (p0.aN==p1.aN)<|hY hj (λaa hj=>?_) λaa hj=>?_;refine j_ (hg:=cg aa) zr nk<|t_ (hg:=cg aa) 2 j zr f9 mf<|zO (hg:=cg aa) 3 j zr nk f9 λai j=>zZ p1.Kind 0 (cg aa) j mf<|Ag p0.Kind p1.Kind (cg aa)<|hZ aa (vb<|p0.Kind != p1.Kind)<|bK (p0.Kind != p1.Kind)<|i_ ?_;exact oi hj▸⟨rfl,j.sp 6 []⟩;exact bL aa<|bL aa<|bL aa<|bL aa<|bL aa<|hZ aa (vb false)<|bK false<|i_<|oi hj▸⟨rfl,j.sp 5 []⟩;refine bL o<|bL o<|bL o<|bL o<|bL o<|hZ o (vb false)<|iF false<|vw<|vw<|vw<|vw<|vw<|Aa (b:=false) (v:=vb false) zt zr zr zr<|bK false<|i_ ?_;exact oi hj▸⟨rfl,j.sp 4 []⟩;rintro _ w⟨O,rfl,j⟩;exact aD<|s_<|oi hb▸aX ⟨rfl,j.drop 0⟩
theorem gz{p0:List aP}{p1:aP->Option Bool}(o:Holds E w V)(h0:V[i0]? =some (rd v0 p0))(h1:uD bC E V v1 p1 (λ(r:Bool)=>Value.bool r))(j:dH N p0 p1=some res):c_ 36 [v0,v1] w<|aA E V res:=by
 unfold dH at j;refine enter Tryz.func36 zr zr ?_;have o:=o.dup (i0+0) h0;refine g_<|aG 0<|p_<|g_<|mv v0<|x_ 0 p0 o oo<|bB 0<|h_<|z3 E V (λ(ab:Unit)=>[rd v0 p0]) (λ_=>[]) (λaa _=>[(0,v0),(1,v1),(7,vi p0.length),(8,vi aa)]) (λr=>g7 bC 19 Tryz.f36 (aA E V r) .ret) j ?_ ?_ ?_ ?_;exact o.sp 1 [0];rintro hm aa ab fl _ w hk⟨O,rfl,o⟩j;refine o_<|y_<|bB (aa:Int)<|aG (aa:Int)<|l_<|mv v1<|mv v0<|bB (aa:Int)<|q_ j λaf ag j=>r_ 0 o lf ag λak o=>m_ 0 af o me λal o=>?_;refine q_ j λan ah j=>Az 0 o h1 3 ah λw o=>h_<|dZ j (λj=>?_) λj=>?_;exact g_<|bB (aa:Int)<|aG (aa:Int)<|h_<|zI<|aH<|oi j▸⟨rfl,aX ⟨rfl,o.drop 3⟩⟩;exact zS<|bI<|aD<|u_<|zP hk hm<|bB ((aa+1:Nat):Int)<|i_<|oi j▸⟨rfl,o.sp 3 [2]⟩;intro r U w j hK;exact aH<|oi j▸hK;rintro ab _ w j⟨O,rfl,o⟩;exact aD<|g_<|aG (-1)<|h_<|s_<|oi j▸aX ⟨rfl,o.drop 1⟩
theorem iJ{p0:List aP}{p1:aP->Option Bool}{res:Bool}(j:Holds E w V)(h0:V[i0]? =some (rd v0 p0))(h1:uD bC E V v1 p1 (λ(r:Bool)=>Value.bool r))(o:dS N p0 p1=some res):c_ 85 [v0,v1] w<|aT E V res:=by
 unfold dS at o;refine enter Tryz.func85 zr zr ?_;have j:=j.dup (i0+0) h0;refine g_<|bK false<|l_<|mv v0<|mv v1<|q_ o λaa ab o=>k_ w9 (gz N (i0:=0) j zr (h1.lift 1 zr) ab) λw j=>ic aa 0<|bK (decide<|aa>=0)<|h_<|s_ ?_;exact oi o▸aX ⟨rfl,j.drop 1⟩
def ji(E:World)(V:List HP)(r:Int)(U:Nat->Value)(w:World):Prop:=g7 bC 71 Tryz.f64 (aA E V r) .ret U w
theorem ml{p0:List aP}(j:Holds E w V)(h0:V[i0]? =some (rd v0 p0))(o:fy N p0=some res):c_ 64 [v0] w<|aA E V res:=by
 unfold fy at o;refine enter Tryz.func64 zr zr ?_;have j:=j.dup (i0+0) h0;refine g_<|aG 0<|p_<|g_<|mv v0<|x_ 0 p0 j oo<|ic ((p0.length:Int)) 0<|h_<|dZ o (λo=>?_) λo=>?_;exact g_<|aG 9<|h_<|zN<|oi o▸aX ⟨rfl,j.drop 1⟩;refine z4<|g_<|mv v0<|x_ 0 p0 j oo<|ic ((p0.length:Int)) 200<|h_<|dZ o (λo=>?_) λo=>?_;exact g_<|aG 2<|h_<|zN<|oi o▸aX ⟨rfl,j.drop 1⟩;refine z4<|g_<|mv v0<|x_ 0 p0 j oo<|bB 0<|h_<|z3 E V (λ(an:Unit)=>[rd v0 p0]) (λ_=>[(0,v0)]) (λad _=>[(13,v0),(14,vi p0.length),(15,vi ad)]) (ji E V) o ?_ ?_ ?_ ?_;exact j.sp 1 [0];rintro hm ad an fl _ w hk⟨O,rfl,j⟩o;refine o_<|y_<|bB (ad:Int)<|q_ o λaa av o=>r_ 0 j lf av λa2 j=>m_ 0 aa j me λa3 j=>zQ j r6.z λaf w j=>?_;refine aG (ad:Int)<|zR 0 j 1 zr me λw j=>?_;refine h_<|y_<|j_ zr lg<|t_ 0 j zr eH eF<|q_ o λao aw o=>k_ wz (iv N (p0:=aa.Name) j aw) λw j=>z7 ao<|bK (!ao)<|h_<|dZ o (λo=>?_) λo=>?_;exact g_<|aG 5<|h_<|zI<|bZ<|aH<|oi o▸⟨rfl,aX ⟨rfl,j.drop 4⟩⟩;refine g_<|j_ rfl nk<|t_ 0 j rfl f9 mf<|ic aa.Kind 1<|iF (decide<|aa.Kind<1)<|Ab true (decide<|aa.Kind<1) (vp af 1) rfl rfl rfl (iM nk)<|Ab true (decide<|aa.Kind<1) (vi aa.Kind) rfl rfl rfl (eJ 0 rfl j (by exact z_ (vp af 1)) rfl f9 mf)<|zV (vb<|decide<|aa.Kind>7) rfl rfl (rv .gtr)<|Aa (b:=decide<|aa.Kind<1) (v:=vb<|decide (aa.Kind<1)||decide (aa.Kind>7)) trivial rfl rfl (nG true) ?_;refine bK (decide (aa.Kind<1)||decide (aa.Kind>7))<|h_<|dZ o (λo=>?_) λo=>?_;exact g_<|aG 4<|h_<|zI<|bZ<|aH<|oi o▸⟨rfl,aX ⟨rfl,j.drop 4⟩⟩;refine g_<|j_ rfl ir<|t_ 0 j rfl cQ mf<|ic aa.aN 0<|iF (decide<|aa.aN<0)<|Ab true (decide<|aa.aN<0) (vp af 2) rfl rfl rfl (iM ir)<|Ab true (decide<|aa.aN<0) (vi aa.aN) rfl rfl rfl (eJ 0 rfl j (by exact z_ (vp af 2)) rfl cQ mf)<|zV (vb<|decide<|aa.aN>200) rfl rfl (rv .gtr)<|Aa (b:=decide<|aa.aN<0) (v:=vb<|decide (aa.aN<0)||decide (aa.aN>200)) trivial rfl rfl (nG true) ?_;refine bK (decide (aa.aN<0)||decide (aa.aN>200))<|h_<|dZ o (λo=>?_) λo=>?_;exact g_<|aG 1<|h_<|zI<|bZ<|aH<|oi o▸⟨rfl,aX ⟨rfl,j.drop 4⟩⟩;refine o_<|q_ o λak hj o=>zX (λ(ak:Bool)=>SH E V [(0,v0),(13,v0),(14,vi p0.length),(15,vi ad),(43,vb ak)] [rd v0 p0]) ak ?_ ?_;refine Af mixed ?_;have j:=j.drew;refine Ae<|bB (ad:Int)<|d5<|ic ((ad:Int)) 0<|d5<|iF (decide<|(ad:Int)>0)<|hY hj (λab hj=>?_) λab hj=>?_;refine d5<|j_ (hg:=cg ab) zr lg<|d5<|t_ (hg:=cg ab) 0 j zr eH eF<|d5<|w_ v0 (cg ab)<|d5<|w_ (vi ad) (cg ab)<|d5<|zY (hg:=cg ab) (ad:Int) 1<|d5 ?_;refine q_ hj λag ax hj=>r_ (hg:=cg ab) 3 j lf ax λa4 j=>d5<|zO (hg:=cg ab) 0 j zr lg eH λa5 j=>d5<|zZ ag.Name 0 (cg ab) j eF<|d5<|z9 aa.Name ag.Name (cg ab)<|d5<|hZ ab (vb<|aa.Name.iC ag.Name||aa.Name.fe ag.Name)<|d5<|bK (aa.Name.iC ag.Name||aa.Name.fe ag.Name)<|z5 ?_;exact oi hj▸⟨rfl,j.sp 6 [5]⟩;refine d5<|bL ab<|d5<|bL ab<|d5<|bL ab<|d5<|bL ab<|d5<|bL ab<|d5<|bL ab<|d5<|bL ab<|d5<|bL ab<|d5<|bL ab ?_;exact d5<|hZ ab (vb false)<|d5<|bK false<|z5<|oi hj▸⟨rfl,j.sp 4 [3]⟩;rintro _ w⟨O,rfl,j⟩;refine aD<|dZ o (λo=>?_) λo=>?_;exact g_<|aG 8<|h_<|zI<|bZ<|aH<|oi o▸⟨rfl,aX ⟨rfl,j.drop 1⟩⟩;exact zS<|bI<|bI<|aD<|u_<|zP hk hm<|bB ((ad+1:Nat):Int)<|i_<|oi o▸⟨rfl,j.sp 1 [0]⟩;intro r U w o hK;exact aH<|oi o▸hK;rintro an _ w o⟨O,rfl,j⟩;refine aD<|o_<|g_<|mv v0<|x_ 0 p0 j oo<|bB 0<|h_<|z3 E V (λ(aq:Unit)=>[rd v0 p0]) (λ_=>[]) (λah _=>[(0,v0),(58,v0),(59,vi p0.length),(60,vi ah)]) (ji E V) o ?_ ?_ ?_ ?_;exact j.sp 1 [0];rintro hm ah aq fl _ w hk⟨O,rfl,j⟩o;refine o_<|y_<|bB (ah:Int)<|q_ o λay az o=>r_ 0 j lf az λa6 j=>m_ 0 ay j me λa7 j=>zQ j r6.z λar w j=>?_;refine aG (ah:Int)<|zR 0 j 1 zr me λw j=>?_;refine l_<|mv v0<|bB (ah:Int)<|q_ o λa8 a0 o=>AJ 3 zr j zr zr lf (.inr ⟨rfl,zr⟩) a0 λa9 j=>?_;have j:=j.eM (i:=1) rfl;refine As [vp ar 0] ?_;refine q_ o λba a1 o=>k_ (gj Tryz.func85) (iJ N (i0:=0) j rfl ⟨86,[vp ar 0],rfl,(gj Tryz.func86),λw Γl v y0 r i j hi hr=>by exact cG (kD N (i0:=i) (i1:=Γl.length+1) j hi j6 hr) λ_ _ h=>h⟩ a1) λw j=>h_<|dZ o (λo=>?_) λo=>?_;exact g_<|aG 12<|h_<|zI<|aH<|oi o▸⟨rfl,aX ⟨rfl,j.drop 5⟩⟩;exact zS<|bI<|aD<|u_<|zP hk hm<|bB ((ah+1:Nat):Int)<|i_<|oi o▸⟨rfl,j.sp 5 [4]⟩;intro r U w o hK;exact aH<|oi o▸hK;rintro aq _ w o⟨O,rfl,j⟩;exact aD<|g_<|aG 0<|h_<|s_<|oi o▸aX ⟨rfl,j.drop 1⟩
theorem lS{p0:List aC}(j:Holds E w V)(h0:V[i0]? =some (rd v0 p0))(o:eR N p0=some res):c_ 45 [v0] w<|aA E V res:=by
 unfold eR at o;refine enter Tryz.func45 zr zr ?_;have j:=j.dup (i0+0) h0;refine g_<|aG 0<|p_<|g_<|mv v0<|x_ 0 p0 j tZ<|ic ((p0.length:Int)) 200<|h_<|dZ o (λo=>?_) λo=>?_;exact g_<|aG 2<|h_<|zN<|oi o▸aX ⟨rfl,j.drop 1⟩;refine z4<|g_<|mv v0<|x_ 0 p0 j tZ<|bB 0<|h_<|z3 E V (λ(ai:Unit)=>[rd v0 p0]) (λ_=>[]) (λab _=>[(0,v0),(9,v0),(10,vi p0.length),(11,vi ab)]) (λr=>g7 bC 40 Tryz.f45 (aA E V r) .ret) o ?_ ?_ ?_ ?_;exact j.sp 1 [0];rintro hm ab ai fl _ w hk⟨O,rfl,j⟩o;refine o_<|y_<|bB (ab:Int)<|q_ o λae al o=>r_ 0 j nS al λaw j=>m_ 0 ae j jN λax j=>zQ j tc.z λay w j=>?_;refine aG (ab:Int)<|zR 0 j 1 zr jN λw j=>?_;refine p_<|g_<|j_ zr md<|t_ 0 j zr eK eF<|q_ o λan ao o=>k_ wz (iv N (p0:=ae.Name) j ao) λw j=>z7 an<|h_<|dZ o (λo=>?_) λo=>?_;exact g_<|aG 5<|h_<|zN<|bZ<|aH<|oi o▸⟨rfl,aX ⟨rfl,j.drop 4⟩⟩;refine z4<|g_<|j_ zr g8<|zL 0 j zr cF nj λaz j=>?_;refine q_ o λaf aq o=>k_ (gj Tryz.func64) (ml N (i0:=0) j zr aq) λw j=>aG af<|l_<|bB af<|ic af 0<|h_<|dZ o (λo=>?_) λo=>?_;exact g_<|bB af<|aG af<|h_<|zN<|bZ<|aH<|oi o▸⟨rfl,aX ⟨rfl,j.drop 5⟩⟩;refine z4<|q_ o λah hj o=>zX (λ(ah:Bool)=>SH E V [(0,v0),(9,v0),(10,vi p0.length),(11,vi ab),(38,vb ah)] [rd v0 p0]) ah ?_ ?_;refine Af mixed ?_;have j:=j.drew;refine Ae<|bB (ab:Int)<|d5<|ic ((ab:Int)) 0<|d5<|iF (decide<|(ab:Int)>0)<|hY hj (λaa hj=>?_) λaa hj=>?_;refine d5<|j_ (hg:=cg aa) zr md<|d5<|t_ (hg:=cg aa) 1 j zr eK eF<|d5<|w_ v0 (cg aa)<|d5<|w_ (vi ab) (cg aa)<|d5<|zY (hg:=cg aa) (ab:Int) 1<|d5 ?_;refine q_ hj λag ar hj=>r_ (hg:=cg aa) 4 j nS ar λa0 j=>d5<|zO (hg:=cg aa) 0 j zr md eK λa1 j=>d5<|zZ ag.Name 0 (cg aa) j eF<|d5<|z9 ae.Name ag.Name (cg aa)<|d5<|hZ aa (vb<|ae.Name.iC ag.Name||ae.Name.fe ag.Name)<|z5 ?_;exact oi hj▸⟨rfl,j.sp 7 [6]⟩;refine d5<|bL aa<|d5<|bL aa<|d5<|bL aa<|d5<|bL aa<|d5<|bL aa<|d5<|bL aa<|d5<|bL aa<|d5<|bL aa<|d5<|bL aa ?_;exact d5<|hZ aa (vb false)<|z5<|oi hj▸⟨rfl,j.sp 5 [4]⟩;rintro _ w⟨O,rfl,j⟩;refine aD<|dZ o (λo=>?_) λo=>?_;exact g_<|aG 8<|h_<|zI<|aH<|oi o▸⟨rfl,aX ⟨rfl,j.drop 1⟩⟩;exact zS<|bI<|aD<|u_<|zP hk hm<|bB ((ab+1:Nat):Int)<|i_<|oi o▸⟨rfl,j.sp 1 [0]⟩;intro r U w o hK;exact aH<|oi o▸hK;rintro ai _ w o⟨O,rfl,j⟩;exact aD<|g_<|aG 0<|h_<|s_<|oi o▸aX ⟨rfl,j.drop 1⟩
theorem gh{p0:List aC}{p1:aQ}{p2:aC->aQ->Option Int}{res:Int×Bool}(o:Holds E w V)(h0:V[i0]? =some (rd v0 p0))(h2:vF bC E V v2 p2 (λ(r:Int)=>Value.int .i64 r))(hb:cA N p0 p1 p2=some res):c_ 33 [v0,str p1,v2] w<|bW E V res:=by
 unfold cA at hb;refine enter Tryz.func33 zr zr ?_;have o:=o.dup (i0+0) h0;refine g_<|aG 0<|bK false<|l_<|mv v0<|x_ 0 p0 o tZ<|aG (p0.length:Int)<|l_<|bB (p0.length:Int)<|aG 0<|aG (p0.length:Int)<|p_<|AF E V (λ(j:Int×Int)=>[rd v0 p0]) (λj=>[(0,v0),(1,str p1),(2,v2),(8,vi p0.length),(9,vi j.1)]) (λj=>[(10,vi j.2)]) hb ?_ ?_ ?_;exact o.sp 1 [0];rintro j fl _ w⟨O,rfl,o⟩hb;refine o_<|g_<|bB j.1<|bB j.2<|ic j.1 j.2<|h_<|dZ hb (λhb=>?_) λhb=>?_;refine Aj<|y_<|bB j.1<|bB j.2<|zY j.1 j.2<|Ap (wrap .i64<|j.1+j.2) ⟨_,tB⟩ r7<|AH (.int .u64<|wrap .u64<|wrap .i64<|j.1+j.2) (.int .u64 1) (.int .u64<|Int.fdiv (wrap .u64<|wrap .i64<|j.1+j.2) 2) zr zr zr<|Ap (Int.fdiv (wrap .u64<|wrap .i64<|j.1+j.2) 2) ⟨_,r7⟩ tB<|aG (wrap .i64<|Int.fdiv (wrap .u64<|wrap .i64<|j.1+j.2) 2) ?_;refine l_<|mv v2<|mv v0<|bB (wrap .i64<|Int.fdiv (wrap .u64<|wrap .i64<|j.1+j.2) 2)<|q_ hb λah ai hb=>r_ 0 o nS ai λar o=>m_ 0 ah o jN λau o=>mv (str p1) ?_;have o:=o.sc aQ p1;refine q_ hb λaj ak hb=>Am 1 0 zt o h2 4 ak λw o=>ic aj 0<|h_<|q_ hb λae hj hb=>zX (λ(ae:Int×Int)=>SH E V [(0,v0),(1,str p1),(2,v2),(8,vi p0.length),(9,vi ae.1),(10,vi ae.2)] [rd v0 p0]) ae ?_ ?_;refine dZ hj (λhj=>?_) λhj=>?_;refine u_<|bB (wrap .i64<|Int.fdiv (wrap .u64<|wrap .i64<|j.1+j.2) 2)<|zY (wrap .i64<|Int.fdiv (wrap .u64<|wrap .i64<|j.1+j.2) 2) 1<|aG (wrap .i64<|wrap .i64 (Int.fdiv (wrap .u64<|wrap .i64<|j.1+j.2) 2)+1)<|i_ ?_;exact oi hj▸⟨rfl,o.sp 4 [3]⟩;refine u_<|bB (wrap .i64<|Int.fdiv (wrap .u64<|wrap .i64<|j.1+j.2) 2)<|aG (wrap .i64<|Int.fdiv (wrap .u64<|wrap .i64<|j.1+j.2) 2)<|i_ ?_;exact oi hj▸⟨rfl,o.sp 4 [3]⟩;rintro _ w⟨O,rfl,o⟩;exact bI<|oi hb▸⟨rfl,o.sp 1 [0]⟩;exact Ak<|oi hb▸⟨rfl,o.sp 1 [0]⟩;rintro j _ w hb⟨O,rfl,o⟩;refine aD<|o_<|q_ hb λaf hj hb=>zX (λ(af:Bool)=>SH E V [(6,vi j.1),(7,vb af)] []) af ?_ ?_;refine u_<|bB j.1<|bB j.1<|bB (p0.length:Int)<|ic j.1 ((p0.length:Int))<|iF (decide<|j.1<(p0.length:Int))<|hY hj (λaa hj=>?_) λaa hj=>?_;refine w_ v2 (cg aa)<|w_ v0 (cg aa)<|w_ (vi j.1) (cg aa)<|q_ hj λal an hj=>r_ (hg:=cg aa) 0 o nS an λav o=>m_ (hg:=cg aa) 0 al o jN λaw o=>w_ (str p1) (cg aa) ?_;have o:=o.sc aQ p1;refine q_ hj λag ao hj=>Am 1 0 (cg aa) o h2 4 ao λw o=>Ag ag 0 (cg aa)<|hZ aa (vb<|ag==0)<|aG j.1<|bK (ag==0)<|i_ ?_;exact oi hj▸⟨rfl,o.sp 4 []⟩;refine bL aa<|bL aa<|bL aa<|bL aa<|bL aa<|bL aa<|bL aa<|bL aa<|hZ aa (vb false)<|aG j.1<|bK false<|i_ ?_;exact oi hj▸⟨rfl,o.sp 1 []⟩;rintro _ w⟨O,rfl,o⟩;exact aD<|s_<|oi hb▸tN ⟨rfl,o.drop 0⟩
theorem kd{p0 p1:aQ}(o:Holds E w V)(j:gu N p0 p1=some res):c_ 51 [str p0,str p1] w<|aA E V res:=by
 unfold gu at j;refine enter Tryz.func51 zr zr<|g_<|aG 0<|l_<|mv (str p0)<|mv (str p1)<|AX (vi<|Lib.compareBytes p0.bF p1.bF) zr [str p0,str p1] zr (pZ p0 p1 w)<|aG (Lib.compareBytes p0.bF p1.bF)<|h_ ?_;exact s_<|oi j▸aX ⟨rfl,o.drop 0⟩
theorem ek{p0 p1:aQ}(o:Holds E w V)(j:ec N p0 p1=some res):c_ 30 [str p0,str p1] w<|aA E V res:=by
 unfold ec at j;exact enter Tryz.func30 zr zr<|g_<|aG 0<|l_<|mv (str p0)<|mv (str p1)<|q_ j λaa ab j=>k_ (gj Tryz.func51) (kd N (p0:=p0) (p1:=p1) o ab) λw o=>aG aa<|h_<|s_<|oi j▸aX ⟨rfl,o.drop 0⟩
theorem mn{p0:aC}{p1:aQ}(j:Holds E w V)(h0:V[i0]? =some (rd v0 p0))(o:ey N p0 p1=some res):c_ 34 [v0,str p1] w<|aA E V res:=by
 unfold ey at o;refine enter Tryz.func34 zr zr ?_;have j:=j.dup (i0+0) h0;refine g_<|zK 0 v0 j zr λad w j=>?_;exact aG 0<|l_<|j_ zr md<|t_ 0 j zr eK eF<|mv (str p1)<|q_ o λaa ab o=>k_ t3 (ek N (p0:=p0.Name) (p1:=p1) j ab) λw j=>aG aa<|h_<|s_<|oi o▸aX ⟨rfl,j.drop 2⟩
theorem fE{p0:List aC}{p1:aQ}(hw:Holds E w V)(h0:V[i0]? =some (rd v0 p0))(hb:dI N p0 p1=some res):c_ 18 [v0,str p1] w<|aA E V res:=by
 unfold dI at hb;refine enter Tryz.func18 zr zr ?_;have hw:=hw.dup (i0+0) h0;refine g_<|aG 0<|l_<|mv v0<|mv (str p1) ?_;refine q_ hb λo ad hb=>k_ (gj Tryz.func33) (gh N (p1:=p1) (i0:=0) hw rfl ⟨34,[],rfl,(gj Tryz.func34),λw Γl v v' y0 y1 r i j hw hi hj hr=>by obtain rfl:=hw.kp (γ:=aQ) hj;exact cG (mn N (p1:=y1) (i0:=i) hw hi hr) λ_ _ h=>h⟩ ad) λw hw=>mv (.tuple #[vi o.1,vb o.2])<|z8 (vi o.1)<|z8 (vb o.2)<|aG o.1<|bK o.2<|p_<|g_<|iF o.2 ?_;refine z7 o.2<|h_<|dZ hb (λhb=>?_) λhb=>?_;exact g_<|aG (-1)<|h_<|zN<|oi hb▸aX ⟨rfl,hw.drop 1⟩;exact Ac<|bB o.1<|aG o.1<|h_<|s_<|oi hb▸aX ⟨rfl,hw.drop 1⟩
theorem lT{p0:List aC}{p1:List Part}{p2:aQ->Option Bool}(j:Holds E w V)(h0:V[i0]? =some (rd v0 p0))(h1:V[i1]? =some (rd v1 p1))(h2:uD bC E V v2 p2 (λ(r:Bool)=>Value.bool r))(o:eT N p0 p1 p2=some res):c_ 46 [v0,v1,v2] w<|aA E V res:=by
 unfold eT at o;refine enter Tryz.func46 zr zr ?_;have j:=(j.dup (i0+0) h0).dup (i1+1) h1;refine g_<|aG 0<|p_<|g_<|mv v1<|x_ 0 p1 j td<|ic ((p1.length:Int)) 1000<|h_<|dZ o (λo=>?_) λo=>?_;exact g_<|aG 2<|h_<|zN<|oi o▸aX ⟨rfl,j.drop 2⟩;refine z4<|g_<|mv v1<|x_ 0 p1 j td<|bB 0<|h_<|z3 E V (λ(ah:Unit)=>[rd v0 p0,rd v1 p1]) (λ_=>[]) (λab _=>[(0,v0),(1,v1),(2,v2),(12,v1),(13,vi p1.length),(14,vi ab)]) (λr=>g7 bC 46 Tryz.f46 (aA E V r) .ret) o ?_ ?_ ?_ ?_;exact j.sp 2 [1,0];rintro hm ab ah fl _ w hk⟨O,rfl,j⟩o;refine o_<|y_<|bB (ab:Int)<|q_ o λad an o=>r_ 1 j lR an λaw j=>m_ 0 ad j pq λax j=>zQ j u6.z λay w j=>?_;refine aG (ab:Int)<|zR 0 j 1 zr pq λw j=>?_;refine h_<|y_<|mv v2<|j_ zr lh<|t_ 0 j zr gP eF ?_;have j:=j.sc aQ ad.Name;refine q_ o λai ao o=>Az 0 j h2 6 ao λw j=>z7 ai<|bK (!ai)<|h_<|dZ o (λo=>?_) λo=>?_;exact g_<|aG 5<|h_<|zI<|bZ<|aH<|oi o▸⟨rfl,aX ⟨rfl,j.drop 6⟩⟩;refine g_<|mv v0<|j_ zr je<|t_ 1 j zr fk eF<|q_ o λaj aq o=>k_ u7 (fE N (p1:=ad.bR) (i0:=4) j zr aq) λw j=>ic aj 0<|bK (decide<|aj<0)<|h_<|dZ o (λo=>?_) λo=>?_;exact g_<|aG 9<|h_<|zI<|bZ<|aH<|oi o▸⟨rfl,aX ⟨rfl,j.drop 6⟩⟩;refine o_<|q_ o λag hj o=>zX (λ(ag:Bool)=>SH E V [(0,v0),(1,v1),(2,v2),(12,v1),(13,vi p1.length),(14,vi ab),(31,vb ag)] [rd v0 p0,rd v1 p1]) ag ?_ ?_;refine Af mixed ?_;have j:=j.drew;refine Ae<|bB (ab:Int)<|d5<|ic ((ab:Int)) 0<|d5<|iF (decide<|(ab:Int)>0)<|hY hj (λaa hj=>?_) λaa hj=>?_;refine d5<|j_ (hg:=cg aa) zr lh<|d5<|t_ (hg:=cg aa) 1 j zr gP eF<|d5<|w_ v1 (cg aa)<|d5<|w_ (vi ab) (cg aa)<|d5<|zY (hg:=cg aa) (ab:Int) 1<|d5 ?_;refine q_ hj λaf ar hj=>r_ (hg:=cg aa) 5 j lR ar λaz j=>d5<|zO (hg:=cg aa) 0 j zr lh gP λa0 j=>d5<|zZ af.Name 0 (cg aa) j eF<|d5<|z9 ad.Name af.Name (cg aa)<|d5<|hZ aa (vb<|ad.Name.iC af.Name||ad.Name.fe af.Name)<|d5<|bK (ad.Name.iC af.Name||ad.Name.fe af.Name)<|z5 ?_;exact oi hj▸⟨rfl,j.sp 8 [6,7]⟩;refine d5<|bL aa<|d5<|bL aa<|d5<|bL aa<|d5<|bL aa<|d5<|bL aa<|d5<|bL aa<|d5<|bL aa<|d5<|bL aa<|d5<|bL aa ?_;exact d5<|hZ aa (vb false)<|d5<|bK false<|z5<|oi hj▸⟨rfl,j.sp 6 [4,5]⟩;rintro _ w⟨O,rfl,j⟩;refine aD<|dZ o (λo=>?_) λo=>?_;exact g_<|aG 8<|h_<|zI<|bZ<|aH<|oi o▸⟨rfl,aX ⟨rfl,j.drop 2⟩⟩;exact zS<|bI<|bI<|aD<|u_<|zP hk hm<|bB ((ab+1:Nat):Int)<|i_<|oi o▸⟨rfl,j.sp 2 [0,1]⟩;intro r U w o hK;exact aH<|oi o▸hK;rintro ah _ w o⟨O,rfl,j⟩;exact aD<|g_<|aG 0<|h_<|s_<|oi o▸aX ⟨rfl,j.drop 2⟩
theorem mq{p0 p1:aQ}(o:Holds E w V)(j:fz N p0 p1=some res):c_ 106 [str p0,str p1] w<|aA E V res:=by
 unfold fz at j;refine enter Tryz.func106 zr zr<|g_<|aG 0<|l_<|mv (str p1)<|Ah p1 om<|aG (p1.bF.length:Int)<|p_<|y_<|bB (p1.bF.length:Int)<|ic ((p1.bF.length:Int)) 0<|iF ((p1.bF.length:Int)==0)<|zV (str p1) zr zr p5<|zV (str p0) zr zr p5<|zV (vb<|p1.fe p0) zr zr (xT .eql)<|Aa (b:=(p1.bF.length:Int)==0) (v:=vb<|((p1.bF.length:Int)==0)||p1.fe p0) zt zr zr (nG true)<|bK (((p1.bF.length:Int)==0)||p1.fe p0)<|h_ ?_;refine dZ j (λj=>?_) λj=>?_;exact g_<|aG 0<|h_<|zI<|aH<|oi j▸aX ⟨rfl,o.drop 0⟩;refine g_<|bB (p1.bF.length:Int)<|ic ((p1.bF.length:Int)) 1<|bK ((p1.bF.length:Int)==1)<|h_<|dZ j (λj=>?_) λj=>?_;exact g_<|mv (str p0)<|mv (str p1)<|q_ j λaa ab j=>AI p1 0 aa zr zr zr om ab<|q_ j λad ae j=>k_ w7 (gX N (p0:=p0) (p1:=(aa.toNat:Int)) o ae) λw o=>aG ad<|h_<|zI<|aH<|oi j▸aX ⟨rfl,o.drop 0⟩;refine g_<|bB (p1.bF.length:Int)<|mv (str p0)<|Ah p0 om<|ic ((p1.bF.length:Int)) ((p0.bF.length:Int))<|bK (decide<|(p1.bF.length:Int)>=(p0.bF.length:Int))<|h_<|dZ j (λj=>?_) λj=>?_;exact g_<|aG (-1)<|h_<|zI<|aH<|oi j▸aX ⟨rfl,o.drop 0⟩;cases j
theorem kE{p0 p1:aQ}(o:Holds E w V)(j:gm N p0 p1=some res):c_ 100 [str p0,str p1] w<|aA E V res:=by
 unfold gm at j;exact enter Tryz.func100 zr zr<|g_<|aG 0<|l_<|mv (str p0)<|mv (str p1)<|q_ j λaa ab j=>k_ (gj Tryz.func106) (mq N (p0:=p0) (p1:=p1) o ab) λw o=>aG aa<|h_<|s_<|oi j▸aX ⟨rfl,o.drop 0⟩
theorem ow{p0 p1:aQ}(hw:Holds E w V)(j:gU N p0 p1=some res):c_ 99 [str p0,str p1] w<|aA E V res:=by
 unfold gU at j;refine enter Tryz.func99 zr zr<|g_<|aG 0<|p_<|g_<|mv (str p1)<|Ah p1 om<|ic ((p1.bF.length:Int)) 0<|h_<|dZ j (λj=>?_) λj=>?_;cases j;refine z4<|g_<|mv (str p1)<|Ah p1 om<|ic ((p1.bF.length:Int)) 1<|h_<|dZ j (λj=>?_) λj=>?_;exact g_<|mv (str p0)<|mv (str p1)<|q_ j λab ae j=>AI p1 0 ab zr zr zr om ae<|AX (vi ((Lib.countByte p0.bF (Int.toNat (ab.toNat:Int)).toUInt8:Nat):Int)) zr [str p0,(.int .u8 (ab.toNat:Int))] zr (x5 p0 (ab.toNat:Int) w)<|aG ((Lib.countByte p0.bF (Int.toNat (ab.toNat:Int)).toUInt8:Nat):Int)<|h_<|zN<|oi j▸aX ⟨rfl,hw.drop 0⟩;refine Ac<|aG 0<|h_<|A2 E V (λ(o:aQ×Int)=>[]) (λ_=>[(4,vi 0)]) (λo=>[(0,str o.1),(1,str p1),(5,vi o.2)]) (λr=>g7 bC 34 Tryz.f99 (aA E V r) .ret) j ?_ ?_ ?_ ?_;exact hw.sp 0 [];rintro o fl _ w⟨O,rfl,hw⟩j;refine y_<|mv (str o.1)<|mv (str p1)<|q_ j λad af j=>k_ wg (kE N (p0:=o.1) (p1:=p1) hw af) λw hw=>aG ad<|p_<|g_<|bB ad<|ic ad ((-1))<|h_<|dZ j (λj=>?_) λj=>?_;exact g_<|bB o.2<|aG o.2<|h_<|zN<|bZ<|oi j▸⟨rfl,aX ⟨rfl,hw.drop 0⟩⟩;refine Ac<|bB o.2<|zY o.2 1<|aG (wrap .i64<|o.2+1)<|h_<|u_<|mv (str o.1)<|bB ad<|mv (str p1) ?_;refine Ah p1 om<|zY ad (p1.bF.length:Int)<|q_ j λag ah j=>AY o.1 zr zr om (.inl zr) (.inr ⟨rfl,zr⟩) ah<|ju (str ag)<|i_<|bI ?_;exact oi j▸⟨rfl,hw.sp 0 []⟩;intro r U w j hK;exact oi j▸hK;rintro o _ w j⟨O,rfl,hw⟩;obtain rfl:=oi j;exact wP<|aX ⟨rfl,hw.drop 0⟩
theorem mR{p0 p1:aQ}{res:List aQ}(o:Holds E w V)(j:gN N p0 p1 p2 p3=some res):c_ 88 [str p0,str p1,vi p2,vi p3] w<|jC E V res:=by
 unfold gN at j;refine enter Tryz.func88 zr zr<|g_<|ju n_<|p_<|g_<|bB p3<|ic p3 0<|h_<|dZ j (λj=>?_) λj=>?_;refine g_<|ju n_<|h_<|zN ?_;obtain rfl:=oi j;have o:=o.kY aQ 9;exact aX<|o.pk 1 [0];refine z4<|g_<|mv (str p1)<|z9 p1 ⟨[]⟩ zt<|h_<|dZ j (λj=>?_) λj=>?_;cases j;refine z4<|g_<|bB p3<|ic p3 0<|h_<|q_ j λaa hj j=>zX (λ(aa:Int)=>SH E V [(0,str p0),(1,str p1),(2,vi p2),(3,vi aa)] []) aa ?_ ?_;refine dZ hj (λhj=>?_) λhj=>?_;refine u_<|mv (str p0)<|mv (str p1)<|q_ hj λag aj hj=>k_ (gj Tryz.func99) (ow N (p0:=p0) (p1:=p1) o aj) λw o=>zY ag 1<|aG (wrap .i64<|ag+1)<|i_ ?_;exact oi hj▸⟨rfl,o.sp 0 []⟩;exact zS<|oi hj▸⟨rfl,o.sp 0 []⟩;rintro _ w⟨O,rfl,o⟩;refine aD<|g_<|bB aa<|mv (str p0)<|Ah p0 om<|zY (p0.bF.length:Int) 1<|Bx (a:=aa) (b:=wrap .i64<|(p0.bF.length:Int)+1) zt zr zr zr<|aG (if wrap .i64 ((p0.bF.length:Int)+1)<aa then wrap .i64 ((p0.bF.length:Int)+1)else aa)<|l_ ?_;refine bB (if wrap .i64 ((p0.bF.length:Int)+1)<aa then wrap .i64 ((p0.bF.length:Int)+1)else aa)<|q_ j λaw ak j=>Bu (k:=(if wrap .i64 ((p0.bF.length:Int)+1)<aa then wrap .i64 ((p0.bF.length:Int)+1)else aa)) zt zr o zr zr x8 zA ak λaf w o=>?_;refine ju af<|l_<|bB (if wrap .i64 ((p0.bF.length:Int)+1)<aa then wrap .i64 ((p0.bF.length:Int)+1)else aa)<|zY (if wrap .i64 ((p0.bF.length:Int)+1)<aa then wrap .i64 ((p0.bF.length:Int)+1)else aa) 1<|aG (wrap .i64<|(if wrap .i64 ((p0.bF.length:Int)+1)<aa then wrap .i64 ((p0.bF.length:Int)+1)else aa) - 1)<|l_<|aG 0<|p_<|AF E V (λ(ab:aQ×List aQ×Int)=>[own 9 af ab.2.1]) (λab=>[(0,str ab.1),(9,af),(10,vi ab.2.2)]) (λ_=>[(1,str p1),(2,vi p2),(3,vi<|wrap .i64<|(if wrap .i64 ((p0.bF.length:Int)+1)<aa then wrap .i64 ((p0.bF.length:Int)+1)else aa) - 1)]) j ?_ ?_ ?_;exact o.sp 1 [0];rintro ab fl _ w⟨O,rfl,o⟩j;refine o_<|g_<|bB ab.2.2<|bB (wrap .i64<|(if wrap .i64 ((p0.bF.length:Int)+1)<aa then wrap .i64 ((p0.bF.length:Int)+1)else aa) - 1)<|ic ab.2.2 (wrap .i64<|(if wrap .i64 ((p0.bF.length:Int)+1)<aa then wrap .i64 ((p0.bF.length:Int)+1)else aa) - 1)<|h_<|dZ j (λj=>?_) λj=>?_;refine Aj<|y_<|mv (str ab.1)<|mv (str p1)<|q_ j λae al j=>k_ wg (kE N (p0:=ab.1) (p1:=p1) o al) λw o=>aG ae<|p_<|g_<|bB ae<|ic ae 0<|h_<|dZ j (λj=>?_) λj=>?_;refine Ak<|wj (by decide) ?_;exact oi j▸⟨rfl,o.sp 1 [0]⟩;refine Ac<|mv af<|bB ab.2.2<|mv (str ab.1)<|bB ae<|bB p2<|zY ae p2<|q_ j λan ao j=>AY ab.1 zr zr om (.inr ⟨rfl,zr⟩) (.inl zr) ao<|q_ j λay ah j=>AD 0 zr o zr zr zr u9 ah ?_;have o:=o.sc aQ an;refine Bg 1 0 o ah eF λw o=>?_;refine l_<|mv (str ab.1)<|bB ae<|mv (str p1)<|Ah p1 om<|zY ae (p1.bF.length:Int)<|q_ j λaq ar j=>AY ab.1 zr zr om (.inl zr) (.inr ⟨rfl,zr⟩) ar<|ju (str aq)<|h_<|u_<|bB ab.2.2<|zY ab.2.2 1<|aG (wrap .i64<|ab.2.2+1)<|i_<|bI ?_;exact oi j▸⟨rfl,o.sp 2 [1]⟩;exact Ak<|oi j▸⟨rfl,o.sp 1 [0]⟩;rintro ab _ w j⟨O,rfl,o⟩;refine aD<|g_<|mv af<|bB ab.2.2<|mv (str ab.1)<|q_ j λaz ai j=>AD 0 zr o zr zr zr u9 ai ?_;have o:=o.sc aQ ab.1;refine Bg 1 0 o ai eF λw o=>?_;refine l_<|mv af<|bB ab.2.2<|zY ab.2.2 1<|q_ j λa0 au j=>Bt (i:=1) zt zr o zr zr u9 (.inr ⟨rfl,zr⟩) (.inl zr) au λav o=>ju av<|h_<|s_ ?_;obtain rfl:=oi j;exact aX<|o.pk 2 [1]
theorem kF{p0 p1:aQ}{res:List aQ}(o:Holds E w V)(j:gp N p0 p1=some res):c_ 66 [str p0,str p1] w<|jC E V res:=by
 unfold gp at j;refine enter Tryz.func66 zr zr<|g_<|ju n_<|l_<|mv (str p0)<|mv (str p1)<|q_ j λad aa j=>Al (gj Tryz.func88) (mR N (p0:=p0) (p1:=p1) (p2:=0) (p3:=(-1)) o aa) λab w o=>ju ab<|h_<|s_ ?_;obtain rfl:=oi j;exact aX<|o.pk 1 [0]
theorem jE{p0:List aQ}{p1:aQ->Option Bool}(j:Holds E w V)(h0:V[i0]? =some (rd v0 p0))(h1:uD bC E V v1 p1 (λ(r:Bool)=>Value.bool r))(o:fO N p0 p1=some res):c_ 87 [v0,v1] w<|aA E V res:=by
 unfold fO at o;refine enter Tryz.func87 zr zr ?_;have j:=j.dup (i0+0) h0;refine g_<|aG 0<|p_<|g_<|mv v0<|x_ 0 p0 j vR<|bB 0<|h_<|z3 E V (λ(ab:Unit)=>[rd v0 p0]) (λ_=>[]) (λaa _=>[(0,v0),(1,v1),(7,vi p0.length),(8,vi aa)]) (λr=>g7 bC 19 Tryz.f87 (aA E V r) .ret) o ?_ ?_ ?_ ?_;exact j.sp 1 [0];rintro hm aa ab fl _ w hk⟨O,rfl,j⟩o;refine o_<|y_<|bB (aa:Int)<|aG (aa:Int)<|l_<|mv v1<|mv v0<|bB (aa:Int)<|q_ o λad ag o=>r_ 0 j u9 ag λak j=>zZ ad 0 zt j eF ?_;have j:=j.sc aQ ad;refine q_ o λal ah o=>Az 0 j h1 3 ah λw j=>h_<|dZ o (λo=>?_) λo=>?_;exact g_<|bB (aa:Int)<|aG (aa:Int)<|h_<|zI<|aH<|oi o▸⟨rfl,aX ⟨rfl,j.drop 3⟩⟩;exact zS<|bI<|aD<|u_<|zP hk hm<|bB ((aa+1:Nat):Int)<|i_<|oi o▸⟨rfl,j.sp 3 [2]⟩;intro r U w o hK;exact aH<|oi o▸hK;rintro ab _ w o⟨O,rfl,j⟩;exact aD<|g_<|aG (-1)<|h_<|s_<|oi o▸aX ⟨rfl,j.drop 1⟩
theorem iZ{p0:List aQ}{p1:aQ->Option Bool}{res:Bool}(j:Holds E w V)(h0:V[i0]? =some (rd v0 p0))(h1:uD bC E V v1 p1 (λ(r:Bool)=>Value.bool r))(o:dW N p0 p1=some res):c_ 65 [v0,v1] w<|aT E V res:=by
 unfold dW at o;refine enter Tryz.func65 zr zr ?_;have j:=j.dup (i0+0) h0;refine g_<|bK false<|l_<|mv v0<|mv v1<|q_ o λaa ab o=>k_ (gj Tryz.func87) (jE N (i0:=0) j zr (h1.lift 1 zr) ab) λw j=>ic aa 0<|bK (decide<|aa>=0)<|h_<|s_ ?_;exact oi o▸aX ⟨rfl,j.drop 1⟩
theorem mu{p0:aQ}{res:Bool}(o:Holds E w V)(j:dX N p0=some res):c_ 67 [str p0] w<|aT E V res:=by
 unfold dX at j;exact enter Tryz.func67 zr zr<|g_<|bK false<|l_<|mv (str p0)<|q_ j λaa ab j=>k_ wz (iv N (p0:=p0) o ab) λw o=>z7 aa<|bK (!aa)<|h_<|s_<|oi j▸aX ⟨rfl,o.drop 0⟩
theorem jX{p0:aQ}{res:Bool}(j:Holds E w V)(hb:eU N p0=some res):c_ 47 [str p0] w<|aT E V res:=by
 unfold eU at hb;refine enter Tryz.func47 zr zr<|g_<|bK false<|p_<|q_ hb λad hj hb=>zX (λ(ad:Bool)=>SH E V [(2,vb ad)] []) ad ?_ ?_;refine u_<|mv (str p0)<|Ah p0 om<|ic ((p0.bF.length:Int)) 200<|iF (decide<|(p0.bF.length:Int)<=200)<|hY hj (λo hj=>?_) λo hj=>?_;refine w_ (str p0) (cg o)<|q_ hj λah af hj=>Al (hg:=cg o) xb (kF N (p0:=p0) (p1:=⟨[47]⟩) j af) λai w j=>?_;have j:=j.freeze 0;refine q_ hj λae ag hj=>k_ (hg:=cg o) (gj Tryz.func65) (iZ N (i0:=0) j rfl ⟨67,[],rfl,(gj Tryz.func67),λw Γl v y0 r i j hi hr=>by obtain rfl:=j.kp (γ:=aQ) hi;exact cG (mu N (p0:=y0) j hr) λ_ _ h=>h⟩ ag) λw j=>z7 (hg:=cg o) ae<|hZ o (vb<|!ae)<|bK (!ae)<|i_ ?_;exact oi hj▸⟨rfl,j.sp 1 []⟩;exact bL o<|bL o<|bL o<|bL o<|hZ o (vb false)<|bK false<|i_<|oi hj▸⟨rfl,j.sp 0 []⟩;rintro _ w⟨O,rfl,j⟩;exact aD<|s_<|oi hb▸aX ⟨rfl,j.drop 0⟩
theorem gG{p0:List Part}{p1:aQ}{p2:Part->aQ->Option Int}{res:Int×Bool}(o:Holds E w V)(h0:V[i0]? =some (rd v0 p0))(h2:vF bC E V v2 p2 (λ(r:Int)=>Value.int .i64 r))(hb:cJ N p0 p1 p2=some res):c_ 28 [v0,str p1,v2] w<|bW E V res:=by
 unfold cJ at hb;refine enter Tryz.func28 zr zr ?_;have o:=o.dup (i0+0) h0;refine g_<|aG 0<|bK false<|l_<|mv v0<|x_ 0 p0 o td<|aG (p0.length:Int)<|l_<|bB (p0.length:Int)<|aG 0<|aG (p0.length:Int)<|p_<|AF E V (λ(j:Int×Int)=>[rd v0 p0]) (λj=>[(0,v0),(1,str p1),(2,v2),(8,vi p0.length),(9,vi j.1)]) (λj=>[(10,vi j.2)]) hb ?_ ?_ ?_;exact o.sp 1 [0];rintro j fl _ w⟨O,rfl,o⟩hb;refine o_<|g_<|bB j.1<|bB j.2<|ic j.1 j.2<|h_<|dZ hb (λhb=>?_) λhb=>?_;refine Aj<|y_<|bB j.1<|bB j.2<|zY j.1 j.2<|Ap (wrap .i64<|j.1+j.2) ⟨_,tB⟩ r7<|AH (.int .u64<|wrap .u64<|wrap .i64<|j.1+j.2) (.int .u64 1) (.int .u64<|Int.fdiv (wrap .u64<|wrap .i64<|j.1+j.2) 2) zr zr zr<|Ap (Int.fdiv (wrap .u64<|wrap .i64<|j.1+j.2) 2) ⟨_,r7⟩ tB<|aG (wrap .i64<|Int.fdiv (wrap .u64<|wrap .i64<|j.1+j.2) 2) ?_;refine l_<|mv v2<|mv v0<|bB (wrap .i64<|Int.fdiv (wrap .u64<|wrap .i64<|j.1+j.2) 2)<|q_ hb λah ai hb=>r_ 0 o lR ai λar o=>m_ 0 ah o pq λau o=>mv (str p1) ?_;have o:=o.sc aQ p1;refine q_ hb λaj ak hb=>Am 1 0 zt o h2 4 ak λw o=>ic aj 0<|h_<|q_ hb λae hj hb=>zX (λ(ae:Int×Int)=>SH E V [(0,v0),(1,str p1),(2,v2),(8,vi p0.length),(9,vi ae.1),(10,vi ae.2)] [rd v0 p0]) ae ?_ ?_;refine dZ hj (λhj=>?_) λhj=>?_;refine u_<|bB (wrap .i64<|Int.fdiv (wrap .u64<|wrap .i64<|j.1+j.2) 2)<|zY (wrap .i64<|Int.fdiv (wrap .u64<|wrap .i64<|j.1+j.2) 2) 1<|aG (wrap .i64<|wrap .i64 (Int.fdiv (wrap .u64<|wrap .i64<|j.1+j.2) 2)+1)<|i_ ?_;exact oi hj▸⟨rfl,o.sp 4 [3]⟩;refine u_<|bB (wrap .i64<|Int.fdiv (wrap .u64<|wrap .i64<|j.1+j.2) 2)<|aG (wrap .i64<|Int.fdiv (wrap .u64<|wrap .i64<|j.1+j.2) 2)<|i_ ?_;exact oi hj▸⟨rfl,o.sp 4 [3]⟩;rintro _ w⟨O,rfl,o⟩;exact bI<|oi hb▸⟨rfl,o.sp 1 [0]⟩;exact Ak<|oi hb▸⟨rfl,o.sp 1 [0]⟩;rintro j _ w hb⟨O,rfl,o⟩;refine aD<|o_<|q_ hb λaf hj hb=>zX (λ(af:Bool)=>SH E V [(6,vi j.1),(7,vb af)] []) af ?_ ?_;refine u_<|bB j.1<|bB j.1<|bB (p0.length:Int)<|ic j.1 ((p0.length:Int))<|iF (decide<|j.1<(p0.length:Int))<|hY hj (λaa hj=>?_) λaa hj=>?_;refine w_ v2 (cg aa)<|w_ v0 (cg aa)<|w_ (vi j.1) (cg aa)<|q_ hj λal an hj=>r_ (hg:=cg aa) 0 o lR an λav o=>m_ (hg:=cg aa) 0 al o pq λaw o=>w_ (str p1) (cg aa) ?_;have o:=o.sc aQ p1;refine q_ hj λag ao hj=>Am 1 0 (cg aa) o h2 4 ao λw o=>Ag ag 0 (cg aa)<|hZ aa (vb<|ag==0)<|aG j.1<|bK (ag==0)<|i_ ?_;exact oi hj▸⟨rfl,o.sp 4 []⟩;refine bL aa<|bL aa<|bL aa<|bL aa<|bL aa<|bL aa<|bL aa<|bL aa<|hZ aa (vb false)<|aG j.1<|bK false<|i_ ?_;exact oi hj▸⟨rfl,o.sp 1 []⟩;rintro _ w⟨O,rfl,o⟩;exact aD<|s_<|oi hb▸tN ⟨rfl,o.drop 0⟩
theorem mw{p0:Part}{p1:aQ}(j:Holds E w V)(h0:V[i0]? =some (rd v0 p0))(o:ez N p0 p1=some res):c_ 29 [v0,str p1] w<|aA E V res:=by
 unfold ez at o;refine enter Tryz.func29 zr zr ?_;have j:=j.dup (i0+0) h0;refine g_<|zK 0 v0 j zr λad w j=>?_;exact aG 0<|l_<|j_ zr lh<|t_ 0 j zr gP eF<|mv (str p1)<|q_ o λaa ab o=>k_ t3 (ek N (p0:=p0.Name) (p1:=p1) j ab) λw j=>aG aa<|h_<|s_<|oi o▸aX ⟨rfl,j.drop 2⟩
theorem gA{p0:List Part}{p1:aQ}(hw:Holds E w V)(h0:V[i0]? =some (rd v0 p0))(hb:dY N p0 p1=some res):c_ 10 [v0,str p1] w<|aA E V res:=by
 unfold dY at hb;refine enter Tryz.func10 zr zr ?_;have hw:=hw.dup (i0+0) h0;refine g_<|aG 0<|l_<|mv v0<|mv (str p1) ?_;refine q_ hb λo ad hb=>k_ (gj Tryz.func28) (gG N (p1:=p1) (i0:=0) hw rfl ⟨29,[],rfl,(gj Tryz.func29),λw Γl v v' y0 y1 r i j hw hi hj hr=>by obtain rfl:=hw.kp (γ:=aQ) hj;exact cG (mw N (p1:=y1) (i0:=i) hw hi hr) λ_ _ h=>h⟩ ad) λw hw=>mv (.tuple #[vi o.1,vb o.2])<|z8 (vi o.1)<|z8 (vb o.2)<|aG o.1<|bK o.2<|p_<|g_<|iF o.2 ?_;refine z7 o.2<|h_<|dZ hb (λhb=>?_) λhb=>?_;exact g_<|aG (-1)<|h_<|zN<|oi hb▸aX ⟨rfl,hw.drop 1⟩;exact Ac<|bB o.1<|aG o.1<|h_<|s_<|oi hb▸aX ⟨rfl,hw.drop 1⟩
theorem gl{p0:List aP}{p1:aQ}{p2:aP->aQ->Option Int}{res:Int×Bool}(o:Holds E w V)(h0:V[i0]? =some (rd v0 p0))(h2:vF bC E V v2 p2 (λ(r:Int)=>Value.int .i64 r))(hb:cC N p0 p1 p2=some res):c_ 52 [v0,str p1,v2] w<|bW E V res:=by
 unfold cC at hb;refine enter Tryz.func52 zr zr ?_;have o:=o.dup (i0+0) h0;refine g_<|aG 0<|bK false<|l_<|mv v0<|x_ 0 p0 o oo<|aG (p0.length:Int)<|l_<|bB (p0.length:Int)<|aG 0<|aG (p0.length:Int)<|p_<|AF E V (λ(j:Int×Int)=>[rd v0 p0]) (λj=>[(0,v0),(1,str p1),(2,v2),(8,vi p0.length),(9,vi j.1)]) (λj=>[(10,vi j.2)]) hb ?_ ?_ ?_;exact o.sp 1 [0];rintro j fl _ w⟨O,rfl,o⟩hb;refine o_<|g_<|bB j.1<|bB j.2<|ic j.1 j.2<|h_<|dZ hb (λhb=>?_) λhb=>?_;refine Aj<|y_<|bB j.1<|bB j.2<|zY j.1 j.2<|Ap (wrap .i64<|j.1+j.2) ⟨_,tB⟩ r7<|AH (.int .u64<|wrap .u64<|wrap .i64<|j.1+j.2) (.int .u64 1) (.int .u64<|Int.fdiv (wrap .u64<|wrap .i64<|j.1+j.2) 2) zr zr zr<|Ap (Int.fdiv (wrap .u64<|wrap .i64<|j.1+j.2) 2) ⟨_,r7⟩ tB<|aG (wrap .i64<|Int.fdiv (wrap .u64<|wrap .i64<|j.1+j.2) 2) ?_;refine l_<|mv v2<|mv v0<|bB (wrap .i64<|Int.fdiv (wrap .u64<|wrap .i64<|j.1+j.2) 2)<|q_ hb λah ai hb=>r_ 0 o lf ai λar o=>m_ 0 ah o me λau o=>mv (str p1) ?_;have o:=o.sc aQ p1;refine q_ hb λaj ak hb=>Am 1 0 zt o h2 4 ak λw o=>ic aj 0<|h_<|q_ hb λae hj hb=>zX (λ(ae:Int×Int)=>SH E V [(0,v0),(1,str p1),(2,v2),(8,vi p0.length),(9,vi ae.1),(10,vi ae.2)] [rd v0 p0]) ae ?_ ?_;refine dZ hj (λhj=>?_) λhj=>?_;refine u_<|bB (wrap .i64<|Int.fdiv (wrap .u64<|wrap .i64<|j.1+j.2) 2)<|zY (wrap .i64<|Int.fdiv (wrap .u64<|wrap .i64<|j.1+j.2) 2) 1<|aG (wrap .i64<|wrap .i64 (Int.fdiv (wrap .u64<|wrap .i64<|j.1+j.2) 2)+1)<|i_ ?_;exact oi hj▸⟨rfl,o.sp 4 [3]⟩;refine u_<|bB (wrap .i64<|Int.fdiv (wrap .u64<|wrap .i64<|j.1+j.2) 2)<|aG (wrap .i64<|Int.fdiv (wrap .u64<|wrap .i64<|j.1+j.2) 2)<|i_ ?_;exact oi hj▸⟨rfl,o.sp 4 [3]⟩;rintro _ w⟨O,rfl,o⟩;exact bI<|oi hb▸⟨rfl,o.sp 1 [0]⟩;exact Ak<|oi hb▸⟨rfl,o.sp 1 [0]⟩;rintro j _ w hb⟨O,rfl,o⟩;refine aD<|o_<|q_ hb λaf hj hb=>zX (λ(af:Bool)=>SH E V [(6,vi j.1),(7,vb af)] []) af ?_ ?_;refine u_<|bB j.1<|bB j.1<|bB (p0.length:Int)<|ic j.1 ((p0.length:Int))<|iF (decide<|j.1<(p0.length:Int))<|hY hj (λaa hj=>?_) λaa hj=>?_;refine w_ v2 (cg aa)<|w_ v0 (cg aa)<|w_ (vi j.1) (cg aa)<|q_ hj λal an hj=>r_ (hg:=cg aa) 0 o lf an λav o=>m_ (hg:=cg aa) 0 al o me λaw o=>w_ (str p1) (cg aa) ?_;have o:=o.sc aQ p1;refine q_ hj λag ao hj=>Am 1 0 (cg aa) o h2 4 ao λw o=>Ag ag 0 (cg aa)<|hZ aa (vb<|ag==0)<|aG j.1<|bK (ag==0)<|i_ ?_;exact oi hj▸⟨rfl,o.sp 4 []⟩;refine bL aa<|bL aa<|bL aa<|bL aa<|bL aa<|bL aa<|bL aa<|bL aa<|hZ aa (vb false)<|aG j.1<|bK false<|i_ ?_;exact oi hj▸⟨rfl,o.sp 1 []⟩;rintro _ w⟨O,rfl,o⟩;exact aD<|s_<|oi hb▸tN ⟨rfl,o.drop 0⟩
theorem mS{p0:aP}{p1:aQ}(j:Holds E w V)(h0:V[i0]? =some (rd v0 p0))(o:eN N p0 p1=some res):c_ 53 [v0,str p1] w<|aA E V res:=by
 unfold eN at o;refine enter Tryz.func53 zr zr ?_;have j:=j.dup (i0+0) h0;refine g_<|zK 0 v0 j zr λad w j=>?_;exact aG 0<|l_<|j_ zr lg<|t_ 0 j zr eH eF<|mv (str p1)<|q_ o λaa ab o=>k_ t3 (ek N (p0:=p0.Name) (p1:=p1) j ab) λw j=>aG aa<|h_<|s_<|oi o▸aX ⟨rfl,j.drop 2⟩
theorem kG{p0:aC}{p1:aQ}(o:Holds E w V)(h0:V[i0]? =some (rd v0 p0))(hb:gq N p0 p1=some res):c_ 35 [v0,str p1] w<|aA E V res:=by
 unfold gq at hb;refine enter Tryz.func35 zr zr ?_;have o:=o.dup (i0+0) h0;refine g_<|zK 0 v0 o zr λaf w o=>?_;refine aG 0<|l_<|j_ zr g8<|zL 0 o zr cF nj λag o=>mv (str p1) ?_;refine q_ hb λaa ad hb=>k_ (gj Tryz.func52) (gl N (p1:=p1) (i0:=0) o rfl ⟨53,[],rfl,(gj Tryz.func53),λw Γl v v' y0 y1 r i j o hi hj hr=>by obtain rfl:=o.kp (γ:=aQ) hj;exact cG (mS N (p1:=y1) (i0:=i) o hi hr) λ_ _ h=>h⟩ ad) λw o=>mv (.tuple #[vi aa.1,vb aa.2])<|z8 (vi aa.1)<|z8 (vb aa.2)<|aG aa.1<|bK aa.2<|p_<|g_<|iF aa.2 ?_;refine z7 aa.2<|h_<|dZ hb (λhb=>?_) λhb=>?_;exact g_<|aG (-1)<|h_<|zN<|oi hb▸aX ⟨rfl,o.drop 3⟩;exact Ac<|bB aa.1<|aG aa.1<|h_<|s_<|oi hb▸aX ⟨rfl,o.drop 3⟩
theorem n2{p0:List aC}{p1:List Part}{p2:bP}{res:Bool}(j:Holds E w V)(h0:V[i0]? =some (rd v0 p0))(h1:V[i1]? =some (rd v1 p1))(h2:V[i2]? =some (rd v2 p2))(hb:ij N p0 p1 p2=some res):c_ 50 [v0,v1,v2] w<|aT E V res:=by
 unfold ij at hb;refine enter Tryz.func50 zr zr ?_;have j:=((j.dup (i0+0) h0).dup (i1+1) h1).dup (i2+2) h2;refine g_<|zK 0 v2 j zr λag w j=>?_;refine bK false<|l_<|mv v1<|j_ zr iG<|t_ 0 j zr fR eF<|q_ hb λad ai hb=>k_ vS (gA N (p1:=p2.Part) (i0:=2) j zr ai) λw j=>aG ad<|p_<|q_ hb λae hj hb=>zX (λ(ae:Bool)=>SH E V [(6,vb ae)] []) ae ?_ ?_;have j:=j.drew;refine Aw (λw=>Holds E w<|[bx 51 ag p2]++V) mixed zr [0,0,0,1,0,0,0,0,0,0,2,0,0,1,1,2,0,0,0] [0,1,2,3,4,5,6,7,8,9,13,14,10,11,12,15,16,17,18] (j.pk 4 [0])<|zM zr zr<|bB ad<|eB zr<|ic ad 0<|eB zr<|iF (decide<|ad>=0)<|zT<|hY hj (λo hj=>?_) λo hj=>?_;refine z1 v0 zr (λw=>w_ v0 (cg o) zW)<|zM zr zr<|w_ v0 (cg o)<|eB zr<|w_ v1 (cg o)<|eB zr<|w_ (vi ad) (cg o)<|eB zr<|q_ hj λah aj hj=>r_ (hg:=cg o) 2 j lR aj λaq j=>eB zr<|zO (hg:=cg o) 0 j zr je fk λar j=>eB zr<|zZ ah.bR 0 (cg o) j eF<|zT<|z1 (vp ag 1) zr (λw=>j_ (hg:=cg o) zr lj zW)<|Av (str p2.bP) zr (λw j=>t_ (hg:=cg o) 0 j zr iq eF zW)<|z6 zr zr ?_;refine q_ hj λau ak hj=>k_ (hg:=cg o) u7 (fE N (p1:=ah.bR) (i0:=5) j zr ak) λw j=>z2 (j.pk 6 [2])<|zM zr zr<|q_ hj λal an hj=>r_ (hg:=cg o) 5 j nS an λav j=>eB zr<|m_ (hg:=cg o) 0 al j jN λaw j=>u4 zr<|q_ hj λaf ao hj=>k_ (hg:=cg o) xd (kG N (p1:=p2.bP) (i0:=0) j zr ao) λw j=>z2 (j.pk 8 [4])<|zM zr zr<|Ag af 0 (cg o)<|eB zr<|hZ o (vb<|decide<|af>=0)<|eB zr<|bK (decide<|af>=0)<|zT ?_;exact Ad<|oi hj▸⟨rfl,j.sp 8 []⟩;refine z1 undef zr (λw=>bL o zW)<|zM zr zr<|bL o<|eB zr<|bL o<|eB zr<|bL o<|eB zr<|bL o<|eB zr<|bL o<|eB zr<|bL o<|zT<|z1 undef zr (λw=>bL o zW)<|z1 undef zr (λw=>bL o zW)<|z6 zr zr<|bL o ?_;refine z2 (j.pk 4 [0])<|zM zr zr<|bL o<|eB zr<|bL o<|u4 zr<|bL o<|z2 (j.pk 4 [0])<|zM zr zr<|bL o<|eB zr<|hZ o (vb false)<|eB zr<|bK false<|zT<|Ad ?_;exact oi hj▸⟨rfl,j.sp 4 []⟩;rintro _ w⟨O,rfl,j⟩;exact aD<|s_<|oi hb▸aX ⟨rfl,j.drop 0⟩
theorem kH{p0:bP}{p1:List aC}{p2:aF}{res:Bool}(j:Holds E w V)(h0:V[i0]? =some (rd v0 p0))(h1:V[i1]? =some (pt v1 p1))(h2:V[i2]? =some (pt v2 p2))(o:fA N p0 p1 p2=some res):c_ 49 [v0,v1,v2] w<|aT E V res:=by
 unfold fA at o;refine enter Tryz.func49 zr zr ?_;have j:=((j.dup (i0+0) h0).j7 (i:=i1+1) h1).j7 (i:=i2+2) h2;refine g_<|zK 2 v0 j zr λad w j=>?_;refine bK false<|l_<|m_ 2 p1 j r5 λae j=>zO 2 j zr fG bN λaf j=>m_ 0 p2.aU j j9 λag j=>zU 3 j zr gQ λah j=>?_;exact q_ o λaa ab o=>k_ (gj Tryz.func50) (n2 N (i0:=3) (i1:=1) (i2:=0) j zr zr zr ab) λw j=>bK aa<|h_<|s_<|oi o▸aX ⟨rfl,j.drop 8⟩
theorem lp{p0 p1:bP}(j:Holds E w V)(h0:V[i0]? =some (rd v0 p0))(h1:V[i1]? =some (rd v1 p1))(o:fL N p0 p1=some res):c_ 68 [v0,v1] w<|aA E V res:=by
 unfold fL at o;refine enter Tryz.func68 zr zr ?_;have j:=(j.dup (i0+0) h0).dup (i1+1) h1;refine g_<|zK 1 v0 j zr λaf w j=>?_;refine zK 1 v1 j zr λag w j=>?_;refine aG 0<|p_<|g_<|j_ zr iG<|t_ 1 j zr fR eF<|j_ zr iG<|t_ 0 j zr fR eF<|q_ o λaa ab o=>k_ t3 (ek N (p0:=p0.Part) (p1:=p1.Part) j ab) λw j=>aG aa<|l_<|bB aa<|ic aa 0<|h_<|dZ o (λo=>?_) λo=>?_;exact g_<|bB aa<|aG aa<|h_<|zN<|oi o▸aX ⟨rfl,j.drop 4⟩;exact Ac<|j_ zr lj<|t_ 1 j zr iq eF<|j_ zr lj<|t_ 0 j zr iq eF<|q_ o λad ae o=>k_ t3 (ek N (p0:=p0.bP) (p1:=p1.bP) j ae) λw j=>aG ad<|h_<|s_<|oi o▸aX ⟨rfl,j.drop 4⟩
def iw(E:World)(V:List HP)(v2:Value)(res:Int×List (bP×Bool))(v:Value)(w:World):Prop:=v= vi res.1/\Holds E w ([mp v2 res.2]++V)
theorem kI{p0:List bP}{p1:bP->Option Bool}{p2:List (bP×Bool)}{res:Int×List (bP×Bool)}(j:Holds E w (mp v2 p2::V))(h0:V[i0]? =some (rd v0 p0))(h1:uD bC E V v1 p1 (λ(r:Bool)=>Value.bool r))(o:er N p0 p1 p2=some res):c_ 48 [v0,v1,v2] w<|iw E V v2 res:=by
 unfold er at o;refine enter Tryz.func48 zr zr ?_;have j:=j.dup (i0+1) h0;refine g_<|aG 0<|p_<|g_<|mv v0<|x_ 0 p0 j nW<|ic ((p0.length:Int)) 500<|h_<|dZ o (λo=>?_) λo=>?_;exact g_<|aG 2<|h_<|zN<|oi o▸aX ⟨rfl,j.pk 2 [1]⟩;refine z4<|g_<|mv v0<|x_ 0 p0 j nW<|bB 0<|h_<|z3 E V (λ(aj:Unit)=>[rd v0 p0,mp v2 p2]) (λ_=>[(0,v0),(2,v2)]) (λab _=>[(1,v1),(14,v0),(15,vi p0.length),(16,vi ab)]) (λr=>g7 bC 53 Tryz.f48 (iw E V v2 r) .ret) o ?_ ?_ ?_ ?_;exact j.sp 2 [0,1];rintro hm ab aj fl _ w hk⟨O,rfl,j⟩o;refine o_<|y_<|bB (ab:Int)<|q_ o λpZ ao o=>r_ 0 j nX ao λaz j=>m_ 0 pZ j gQ λa0 j=>zQ j qb.z λak w j=>?_;refine aG (ab:Int)<|zR 0 j 1 zr gQ λw j=>?_;refine h_<|y_<|mv v1<|zU 0 j zr gQ λa1 j=>?_;refine q_ o λal aq o=>Az 0 j h1 6 aq λw j=>z7 al<|bK (!al)<|h_<|dZ o (λo=>?_) λo=>?_;exact g_<|aG 9<|h_<|zI<|bZ<|aH<|oi o▸⟨rfl,aX ⟨rfl,j.pk 6 [5]⟩⟩;refine o_<|q_ o λag hj o=>zX (λ(ag:Bool)=>SH E V [(0,v0),(1,v1),(2,v2),(8,vp ak 0),(14,v0),(15,vi p0.length),(16,vi ab),(26,vb ag)] [rd v0 p0,mp v2 p2,bx 51 ak pZ]) ag ?_ ?_;refine Aq mixed [0,0,0,0,0,0,0,0,0,2,0,0,0] [0,1,2,3,4,5,6,7,8,9,10,11,12] ?_;have j:=j.drew;refine zM zr zr<|bB (ab:Int)<|eB zr<|ic ((ab:Int)) 0<|eB zr<|iF (decide<|(ab:Int)>0)<|zT<|hY hj (λaa hj=>?_) λaa hj=>?_;refine zM zr zr<|zU (hg:=cg aa) 1 j zr gQ λa2 j=>eB zr<|w_ v0 (cg aa)<|eB zr<|w_ (vi ab) (cg aa)<|eB zr<|zY (hg:=cg aa) (ab:Int) 1<|eB zr<|q_ hj λar au hj=>r_ (hg:=cg aa) 5 j nX au λa3 j=>eB zr<|m_ (hg:=cg aa) 0 ar j gQ λa4 j=>u4 zr ?_;refine q_ hj λsY av hj=>k_ (hg:=cg aa) (gj Tryz.func68) (lp N (i0:=2) (i1:=0) j zr zr av) λw j=>w3 zr zr<|Ag sY 0 (cg aa)<|eB zr<|hZ aa (vb<|decide<|sY<=0)<|eB zr<|bK (decide<|sY<=0)<|zT<|Ad ?_;exact oi hj▸⟨rfl,j.sp 9 [7,8,4]⟩;refine zM zr zr<|bL aa<|eB zr<|bL aa<|eB zr<|bL aa<|eB zr<|bL aa<|eB zr<|bL aa<|eB zr<|bL aa<|u4 zr<|bL aa<|w3 zr zr<|bL aa<|eB zr<|hZ aa (vb false) ?_;exact eB zr<|bK false<|zT<|Ad<|oi hj▸⟨rfl,j.sp 6 [4,5,1]⟩;rintro _ w⟨O,rfl,j⟩;refine aD<|dZ o (λo=>?_) λo=>?_;exact g_<|aG 8<|h_<|zI<|bZ<|aH<|oi o▸⟨rfl,aX ⟨rfl,j.pk 3 [1]⟩⟩;refine g_<|mv v2<|zU 2 j zr gQ λa5 j=>AK 2 pZ zt zr j zr (k8 0 j zr) zr xe<|bK (bM p2 pZ (false:Bool))<|h_<|dZ o (λo=>?_) λo=>?_;exact g_<|aG 7<|h_<|zI<|bZ<|aH<|oi o▸⟨rfl,aX ⟨rfl,j.pk 4 [2]⟩⟩;exact zS<|bI<|bI<|aD<|u_<|zP hk hm<|bB ((ab+1:Nat):Int)<|i_<|oi o▸⟨rfl,j.sp 4 [1,2]⟩;intro r U w o hK;exact aH<|oi o▸hK;rintro aj _ w o⟨O,rfl,j⟩;refine aD<|o_<|g_<|mv v0<|x_ 0 p0 j nW<|bB 0<|h_<|AB E V (λ(ah:List (bP×Bool))=>[mp v2 ah,rd v0 p0]) (λ_=>[(2,v2)]) (λai _=>[(44,v0),(45,vi p0.length),(46,vi ai)]) o ?_ ?_ ?_;exact j.sp 2 [1,0];rintro hm ai ah s' _ w hk⟨O,rfl,j⟩o;refine o_<|y_<|q_ o λan ax o=>r_ 1 j nX ax λa6 j=>m_ 0 an j gQ λa7 j=>zQ j qb.z λa8 w j=>?_;refine zR 0 j 1 zr gQ λw j=>?_;refine h_<|u_<|mv v2<|zU 0 j zr gQ λa9 j=>?_;have j:=j.sc Bool true;exact AE 5 0 an j zr (k8 1 j zr) zr zr zr xe λw j=>i_<|bI<|aD<|u_<|zP hk hm<|bB ((ai+1:Nat):Int)<|i_<|oi o▸⟨rfl,j.sp 7 [5,6]⟩;rintro ah _ w o⟨O,rfl,j⟩;exact aD<|g_<|aG 0<|h_<|s_<|oi o▸aX ⟨rfl,j.pk 2 [0]⟩
end Go.Gk
