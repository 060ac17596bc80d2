/-
  Printed texts: Go functions as plain functions, and that they are. No statement of the seed is proved here.
-/
import Derived.Test.YtammmhakmgielaaGreatDoorProg
import Derived.Test.YtammmhakmgielaaGreatDoorE1
import Derived.Test.YtammmhakmgielaaGreatDoorA1
import Derived.Test.YtammmhakmgielaaGreatDoorA2
import Derived.Test.YtammmhakmgielaaGreatDoorRows
import Derived.Shelf.SlGeneric
import Derived.Ground.SlsfProg
import Derived.Ground.SlgmProg
set_option linter.unusedVariables false
set_option linter.unusedSimpArgs false
set_option linter.unusedSectionVars false
set_option maxRecDepth 100000
set_option maxHeartbeats 40000000
namespace Go.Gk
open Go IntKind Go.Proofs
noncomputable abbrev bC:=Tryz.prog
abbrev c_(f:Nat)(l:List Value)(w:World)(R:Value->World->Prop):Prop:=Calls bC f l.toArray w (fP R)
def iM(x:aV):=(x.Name,x.Kind,x.dI)
instance instGTPinType:GT aV:=GT.via iM
instance instKVPinType:KV aV:=instKVvia (λ(x:aV)=>(x.Name,x.Kind,x.dI))
theorem iW:Fd 0 (λx:aV=>x.Name):= .v iM<|.fst .self
theorem tv:Fs 0 aL (λ(x:aV)y=>{x with Name:=y}):= .v iM<|.fst .self
theorem j8:Fd 1 (λx:aV=>x.Kind):= .v iM<|.snd<|.fst .self
theorem tw:Fs 1 Int (λ(x:aV)y=>{x with Kind:=y}):= .v iM<|.snd<|.fst .self
theorem iX:Fd 2 (λx:aV=>x.dI):= .v iM<|.snd<|.snd<|.self
def iY(x:aD):=(x.Name,x.bA)
instance instGTPartType:GT aD:=GT.via iY
theorem jy:Fd 0 (λx:aD=>x.Name):= .v iY<|.fst .self
theorem r4:Fs 0 aL (λ(x:aD)y=>{x with Name:=y}):= .v iY<|.fst .self
theorem lf:Fd 1 (λx:aD=>x.bA):= .v iY<|.snd<|.self
theorem r5:Fs 1 (List aV) (λ(x:aD)y=>{x with bA:=y}):= .v iY<|.snd<|.self
def mZ(x:Part):=(x.Name,x.eC)
instance instGTPart:GT Part:=GT.via mZ
instance instKVPart:KV Part:=instKVvia (λ(x:Part)=>(x.Name,x.eC))
theorem ig:Fd 0 (λx:Part=>x.Name):= .v mZ<|.fst .self
theorem sK:Fs 0 aL (λ(x:Part)y=>{x with Name:=y}):= .v mZ<|.fst .self
theorem nO:Fd 1 (λx:Part=>x.eC):= .v mZ<|.snd<|.self
theorem sL:Fs 1 aL (λ(x:Part)y=>{x with eC:=y}):= .v mZ<|.snd<|.self
def tx(x:iU):=(x.Name,x.aF)
instance instGTUse:GT iU:=GT.via tx
instance instKVUse:KV iU:=instKVvia (λ(x:iU)=>(x.Name,x.aF))
theorem kp:Fd 0 (λx:iU=>x.Name):= .v tx<|.fst .self
theorem m0:Fd 1 (λx:iU=>x.aF):= .v tx<|.snd<|.self
def nP(x:aT):=(x.Part,x.aT)
instance instGTPin:GT aT:=GT.via nP
instance instKVPin:KV aT:=instKVvia (λ(x:aT)=>(x.Part,x.aT))
theorem lD:Fd 0 (λx:aT=>x.Part):= .v nP<|.fst .self
theorem oZ:Fs 0 aL (λ(x:aT)y=>{x with Part:=y}):= .v nP<|.fst .self
theorem m4:Fd 1 (λx:aT=>x.aT):= .v nP<|.snd<|.self
theorem o4:Fs 1 aL (λ(x:aT)y=>{x with aT:=y}):= .v nP<|.snd<|.self
def nQ(x:Net):=(x.Name,x.bA,x.aX)
instance instGTNet:GT Net:=GT.via nQ
theorem g9:Fd 0 (λx:Net=>x.Name):= .v nQ<|.fst .self
theorem yj:Fs 0 aL (λ(x:Net)y=>{x with Name:=y}):= .v nQ<|.fst .self
theorem m5:Fd 1 (λx:Net=>x.bA):= .v nQ<|.snd<|.fst .self
theorem yk:Fs 1 (List aT) (λ(x:Net)y=>{x with bA:=y}):= .v nQ<|.snd<|.fst .self
theorem lE:Fd 2 (λx:Net=>x.aX):= .v nQ<|.snd<|.snd<|.self
def kf(x:aF):=(x.Name,x.aX,x.bB,x.Uses,x.aO)
instance instGTSheet:GT aF:=GT.via kf
theorem mb:Fd 0 (λx:aF=>x.Name):= .v kf<|.fst .self
theorem oB:Fd 1 (λx:aF=>x.aX):= .v kf<|.snd<|.fst .self
theorem kq:Fd 2 (λx:aF=>x.bB):= .v kf<|.snd<|.snd<|.fst .self
theorem gF:Fd 3 (λx:aF=>x.Uses):= .v kf<|.snd<|.snd<|.snd<|.fst .self
theorem ku:Fd 4 (λx:aF=>x.aO):= .v kf<|.snd<|.snd<|.snd<|.snd<|.self
def kT(x:aW):=(x.bB,x.aO)
instance instGTNetlist:GT aW:=GT.via kT
theorem j9:Fd 0 (λx:aW=>x.bB):= .v kT<|.fst .self
theorem tz:Fs 0 (List Part) (λ(x:aW)y=>{x with bB:=y}):= .v kT<|.fst .self
theorem ij:Fd 1 (λx:aW=>x.aO):= .v kT<|.snd<|.self
def iZ(x:aS):=(x.e0,x.e1)
instance instGTArr2_Int:GT aS:=GT.via iZ
instance instKVArr2_Int:KV aS:=instKVvia (λ(x:aS)=>(x.e0,x.e1))
theorem lg:Fd 0 (λx:aS=>x.e0):= .v iZ<|.fst .self
theorem oo:Fs 0 Int (λ(x:aS)y=>{x with e0:=y}):= .v iZ<|.fst .self
theorem lh:Fd 1 (λx:aS=>x.e1):= .v iZ<|.snd<|.self
theorem oq:Fs 1 Int (λ(x:aS)y=>{x with e1:=y}):= .v iZ<|.snd<|.self
def fJ(x:aA):=(x.path,x.words)
instance instGTnetlist_netKey:GT aA:=GT.via fJ
instance instKVnetlist_netKey:KV aA:=instKVvia (λ(x:aA)=>(x.path,x.words))
theorem gm:Fd 0 (λx:aA=>x.path):= .v fJ<|.fst .self
theorem n0:Fs 0 aL (λ(x:aA)y=>{x with path:=y}):= .v fJ<|.fst .self
theorem jU:Fd 1 (λx:aA=>x.words):= .v fJ<|.snd<|.self
theorem n4:Fs 1 Int (λ(x:aA)y=>{x with words:=y}):= .v fJ<|.snd<|.self
theorem w8(M:bX):GT.ok M (#[n_,n_]:Array Value).toList (⟨[],[]⟩:aW):=⟨[n_],[n_],rfl,(show GT.ok M [n_] ([]:List Part)from⟨_,rfl,none,0,0,rfl,rfl,bP _,by simp[maxLen],λ_ _ h=>by simp at h⟩),(show GT.ok M [n_] ([]:List Net)from⟨_,rfl,none,0,0,rfl,rfl,bP _,by simp[maxLen],λ_ _ h=>by simp at h⟩)⟩
theorem rh(M:bX):GT.ok M (#[(.int .i64 0),(.int .i64 0)]:Array Value).toList (⟨0,0⟩:aS):=⟨[(.int .i64 0)],[(.int .i64 0)],rfl,(show GT.ok M [(.int .i64 0)] (0:Int)from rfl),(show GT.ok M [(.int .i64 0)] (0:Int)from rfl)⟩
theorem w9(M:bX):GT.ok M (#[(.string ⟨#[]⟩),(.int .i64 0),(.int .i64 0)]:Array Value).toList (⟨⟨[]⟩,0,0⟩:aV):=⟨[(.string ⟨#[]⟩)],[(.int .i64 0),(.int .i64 0)],rfl,(show GT.ok M [(.string ⟨#[]⟩)] (⟨[]⟩:aL)from rfl),⟨[(.int .i64 0)],[(.int .i64 0)],rfl,(show GT.ok M [(.int .i64 0)] (0:Int)from rfl),(show GT.ok M [(.int .i64 0)] (0:Int)from rfl)⟩⟩
theorem vH(M:bX):GT.ok M (#[(.string ⟨#[]⟩),n_]:Array Value).toList (⟨⟨[]⟩,[]⟩:aD):=⟨[(.string ⟨#[]⟩)],[n_],rfl,(show GT.ok M [(.string ⟨#[]⟩)] (⟨[]⟩:aL)from rfl),(show GT.ok M [n_] ([]:List aV)from⟨_,rfl,none,0,0,rfl,rfl,bP _,by simp[maxLen],λ_ _ h=>by simp at h⟩)⟩
theorem yl(M:bX):GT.ok M (#[(.string ⟨#[]⟩),(.string ⟨#[]⟩)]:Array Value).toList (⟨⟨[]⟩,⟨[]⟩⟩:Part):=⟨[(.string ⟨#[]⟩)],[(.string ⟨#[]⟩)],rfl,(show GT.ok M [(.string ⟨#[]⟩)] (⟨[]⟩:aL)from rfl),(show GT.ok M [(.string ⟨#[]⟩)] (⟨[]⟩:aL)from rfl)⟩
theorem wF(M:bX):GT.ok M (#[(.string ⟨#[]⟩),(.string ⟨#[]⟩)]:Array Value).toList (⟨⟨[]⟩,⟨[]⟩⟩:aT):=⟨[(.string ⟨#[]⟩)],[(.string ⟨#[]⟩)],rfl,(show GT.ok M [(.string ⟨#[]⟩)] (⟨[]⟩:aL)from rfl),(show GT.ok M [(.string ⟨#[]⟩)] (⟨[]⟩:aL)from rfl)⟩
theorem Bs(M:bX):GT.ok M (#[(.string ⟨#[]⟩),n_,n_]:Array Value).toList (⟨⟨[]⟩,[],[]⟩:Net):=⟨[(.string ⟨#[]⟩)],[n_,n_],rfl,(show GT.ok M [(.string ⟨#[]⟩)] (⟨[]⟩:aL)from rfl),⟨[n_],[n_],rfl,(show GT.ok M [n_] ([]:List aT)from⟨_,rfl,none,0,0,rfl,rfl,bP _,by simp[maxLen],λ_ _ h=>by simp at h⟩),(show GT.ok M [n_] ([]:List aL)from⟨_,rfl,none,0,0,rfl,rfl,bP _,by simp[maxLen],λ_ _ h=>by simp at h⟩)⟩⟩
theorem lF(M:bX):GT.ok M (#[(.string ⟨#[]⟩),(.int .i64 0)]:Array Value).toList (⟨⟨[]⟩,0⟩:aA):=⟨[(.string ⟨#[]⟩)],[(.int .i64 0)],rfl,(show GT.ok M [(.string ⟨#[]⟩)] (⟨[]⟩:aL)from rfl),(show GT.ok M [(.int .i64 0)] (0:Int)from rfl)⟩
theorem zC:wu bC 27 2:=xL<|.agg #[n_,n_]
theorem AA:Tryz.prog.underlying 22=some (.slice 53):=by kernel_rfl
theorem vI:te bC 22 53 2:=yi
theorem ym:je bC 53 true 2:=re
theorem Bt:wu bC 53 2:=xL<|.agg #[(.string ⟨#[]⟩),n_]
theorem tA:nM bC 53 0 0:=pj
theorem gA:je bC 9 false 1:=re
theorem qp:Tryz.prog.underlying 9=some (.string):=by kernel_rfl
theorem Cs(a:aL)(b:Int)(w:World):(callFunc 105 [str a,(.int .u8 b)].toArray).run bC w = .ok (.value<|vi<|Lib.indexByte a.aU (Int.toNat b).toUInt8) w:=qR Extern.BytealgIndexByte.indexByte Tryz.func105<|Lib.run_indexByteString _ _ w
theorem Bu:gI bC 71:=hZ Tryz.func71
theorem uL:gI bC 19:=hZ Tryz.func19
theorem vJ:nM bC 53 1 1:=pj
theorem AB:je bC 51 false 1:=re
theorem vK:Tryz.prog.underlying 51=some (.slice 50):=by kernel_rfl
theorem tB:te bC 51 50 3:=yi
theorem tC:je bC 50 true 3:=re
theorem zD:wu bC 50 3:=xL<|.agg #[(.string ⟨#[]⟩),(.int .i64 0),(.int .i64 0)]
theorem ri:nM bC 50 0 0:=pj
theorem tD:nM bC 50 1 1:=pj
theorem oL:je bC 3 false 1:=re
theorem rj:nM bC 50 2 2:=pj
theorem mixed:Tryz.prog.follows .mixedOrders=true:=by kernel_rfl
theorem Bw:gI bC 13:=hZ Tryz.func13
theorem yn:Tryz.prog.underlying 23=some (.slice 73):=by kernel_rfl
theorem tE:te bC 23 73 5:=yi
theorem vL:je bC 73 true 5:=re
theorem Bx:wu bC 73 5:=xL<|.agg #[(.string ⟨#[]⟩),n_,n_,n_,n_]
theorem tF:nM bC 73 0 0:=pj
theorem vM:nM bC 73 1 1:=pj
theorem tG:je bC 65 false 1:=re
theorem tH:Tryz.prog.underlying 65=some (.slice 9):=by kernel_rfl
theorem rk:te bC 65 9 1:=yi
theorem rl:nM bC 73 2 2:=pj
theorem o5:je bC 24 false 1:=re
theorem uM:Tryz.prog.underlying 24=some (.slice 58):=by kernel_rfl
theorem r6:te bC 24 58 2:=yi
theorem qq:je bC 58 true 2:=re
theorem yo:wu bC 58 2:=xL<|.agg #[(.string ⟨#[]⟩),(.string ⟨#[]⟩)]
theorem mc:nM bC 58 0 0:=pj
theorem tI:nM bC 58 1 1:=pj
theorem zF:Tryz.prog.underlying 3=some (.int .i64):=by kernel_rfl
theorem sM:Tryz.prog.underlying 118=some (.int .u64):=by kernel_rfl
theorem z8(a b:aL)(w:World):(callFunc 84 [str a,str b].toArray).run bC w = .ok (.value<|vi<|Lib.compareBytes a.aU b.aU) w:=qR Extern.BytealgCompare.compare Tryz.func84<|Lib.run_compareString _ _ w
theorem uN:gI bC 31:=hZ Tryz.func31
theorem AD:gI bC 40:=hZ Tryz.func40
theorem Bz:gI bC 14:=hZ Tryz.func14
theorem me:nM bC 73 3 3:=pj
theorem tJ:je bC 71 false 1:=re
theorem xa:Tryz.prog.underlying 71=some (.slice 82):=by kernel_rfl
theorem vN:te bC 71 82 2:=yi
theorem tK:je bC 82 true 2:=re
theorem zG:wu bC 82 2:=xL<|.agg #[(.string ⟨#[]⟩),(.string ⟨#[]⟩)]
theorem oC:nM bC 82 0 0:=pj
theorem BA:gI bC 44:=hZ Tryz.func44
theorem rm:nM bC 82 1 1:=pj
theorem A2:gI bC 8:=hZ Tryz.func8
theorem rn:nM bC 73 4 4:=pj
theorem o6:je bC 25 false 1:=re
theorem tL:Tryz.prog.underlying 25=some (.slice 67):=by kernel_rfl
theorem pD:nM bC 60 0 0:=pj
theorem BB:gI bC 26:=hZ Tryz.func26
theorem yp:je bC 23 false 1:=re
theorem rp:nM bC 60 1 1:=pj
theorem BC:gI bC 48:=hZ Tryz.func48
theorem zH:je bC 22 false 1:=re
theorem ka:je bC 60 true 2:=re
theorem BD:gI bC 18:=hZ Tryz.func18
theorem uO:te bC 25 67 3:=yi
theorem qs:je bC 67 true 3:=re
theorem xb:wu bC 67 3:=xL<|.agg #[(.string ⟨#[]⟩),n_,n_]
theorem kx:nM bC 67 0 0:=pj
theorem rq:nM bC 67 1 1:=pj
theorem xc:je bC 54 false 1:=re
theorem r7:Tryz.prog.underlying 54=some (.slice 60):=by kernel_rfl
theorem r8:te bC 54 60 2:=yi
theorem uP:wu bC 60 2:=xL<|.agg #[(.string ⟨#[]⟩),(.string ⟨#[]⟩)]
theorem BE:gI bC 35:=hZ Tryz.func35
theorem Ab:B8 bC 60 aT:=⟨λM cs ds a b w ha hb=>by
  obtain⟨_,_,rfl,rfl,rfl⟩:=ha
  obtain⟨_,_,rfl,rfl,rfl⟩:=hb
  refine(py (d:=9999) Tryz.underlying60 (by kernel_rfl)<|Ap.cons (by decide) (jl gA rfl _) (jl gA rfl _) (ox qp _ _ w)<|Ap.cons (by decide) (jl gA rfl _) (jl gA rfl _) (ox qp _ _ w) Ap.nil).trans ?_
  congr 1
  cases a;cases b;unfold nP
  rw[Bool.eq_iff_iff]
  simp,by kernel_rfl⟩
theorem Ac:nY bC 60 aT:=nY.struct Tryz.underlying60 rfl Ab (λk=>(z6.cons (by decide) (jl gA rfl) (λb w=>MapKept.run_checkKey qp (k:=Gk.str k.Part) trivial b 9998) (z6.cons (by decide) (jl gA rfl) (λb w=>MapKept.run_checkKey qp (k:=Gk.str k.aT) trivial b 9998) z6.nil))) (λk x hx=>by
  have hx:x∈[Sc.toV k.Part,Sc.toV k.aT]:=hx
  simp only[gC,List.not_mem_nil,or_false]at hx
  rcases hx with rfl|rfl
  · exact MapKept.sameBits_self (d:= .string) (k:=Gk.str k.Part) trivial _
  · exact MapKept.sameBits_self (d:= .string) (k:=Gk.str k.aT) trivial _)
theorem BF:oS bC 64 60 4 aT Bool (false:Bool):=⟨by kernel_rfl,Ac,l4 (.bool false)<|λM=>⟨_,rfl,rfl⟩⟩
theorem BG:gI bC 16:=hZ Tryz.func16
theorem pE:nM bC 67 2 2:=pj
theorem Ad:oS bC 111 9 4 aL Bool (false:Bool):=⟨by kernel_rfl,nY.str qp,l4 (.bool false)<|λM=>⟨_,rfl,rfl⟩⟩
theorem BH:tg bC 42 3 1 8:=tg.of<|.int .i64 0
theorem D8:Ar bC 3 (0:Int):=Ar.of (.int .i64 0)<|λM=>rfl
theorem pF:te bC 42 3 1:=yi
theorem BI:gI bC 23:=hZ Tryz.func23
theorem xd:sf bC 27 [(0,1),(1,1)] #[n_,n_]:=sf.of (.agg #[n_,n_]) Tryz.underlying27
theorem ky:je bC 27 true 2:=re
theorem yq:wu bC 36 2:=xL<|.agg #[(.int .i64 0),(.int .i64 0)]
theorem BJ:oS bC 38 3 36 Int aS (⟨0,0⟩:aS):=⟨by kernel_rfl,nY.int zF,l4 (.agg #[(.int .i64 0),(.int .i64 0)])<|λM=>⟨_,rfl,rh M⟩⟩
theorem ru:je bC 36 true 2:=re
theorem AE:B9 bC 36 2 3 1:=⟨by kernel_rfl,λ_=>by kernel_rfl⟩
theorem BK:Bf bC 36 1 ((.agg #[(.int .i64 0),(.int .i64 0)]):Value).cells:=Bf.of AE
theorem DS:gI bC 9:=hZ Tryz.func9
theorem tM:Be bC 36 0 0:=AE.at (k:=⟨0,by decide⟩) rfl
theorem tN:Be bC 36 1 1:=AE.at (k:=⟨1,by decide⟩) rfl
theorem CO:sf bC 44 [(0,1),(1,1),(2,1),(3,1),(4,1)] #[n_,n_,n_,n_,n_]:=sf.of (.agg #[n_,n_,n_,n_,n_]) Tryz.underlying44
theorem vO:nM bC 44 0 0:=pj
theorem vP:nM bC 44 1 1:=pj
theorem BL:sf bC 58 [(0,1),(1,1)] #[(.string ⟨#[]⟩),(.string ⟨#[]⟩)]:=sf.of (.agg #[(.string ⟨#[]⟩),(.string ⟨#[]⟩)]) Tryz.underlying58
theorem CP:tg bC 24 58 2 32:=tg.of<|.agg #[(.string ⟨#[]⟩),(.string ⟨#[]⟩)]
theorem tO:nM bC 44 2 2:=pj
theorem zI:je bC 40 false 1:=re
theorem BM:Tryz.prog.underlying 40=some (.slice 85):=by kernel_rfl
theorem BN:oS bC 45 9 3 aL Int (0:Int):=⟨by kernel_rfl,nY.str qp,l4 (.int .i64 0)<|λM=>⟨_,rfl,rfl⟩⟩
theorem CQ:sf bC 85 [(0,1),(1,1)] #[(.string ⟨#[]⟩),(.int .i64 0)]:=sf.of (.agg #[(.string ⟨#[]⟩),(.int .i64 0)]) Tryz.underlying85
theorem BO:te bC 40 85 2:=yi
theorem AF:wu bC 85 2:=xL<|.agg #[(.string ⟨#[]⟩),(.int .i64 0)]
theorem CR:tg bC 40 85 2 24:=tg.of<|.agg #[(.string ⟨#[]⟩),(.int .i64 0)]
theorem m6:nM bC 44 4 4:=pj
theorem uQ:je bC 42 false 1:=re
theorem DT:wu bC 3 1:=xL<|.int .i64 0
theorem zJ:oS bC 83 60 3 aT Int (0:Int):=⟨by kernel_rfl,Ac,l4 (.int .i64 0)<|λM=>⟨_,rfl,rfl⟩⟩
theorem zK:sf bC 60 [(0,1),(1,1)] #[(.string ⟨#[]⟩),(.string ⟨#[]⟩)]:=sf.of (.agg #[(.string ⟨#[]⟩),(.string ⟨#[]⟩)]) Tryz.underlying60
theorem zL:tg bC 54 60 2 32:=tg.of<|.agg #[(.string ⟨#[]⟩),(.string ⟨#[]⟩)]
theorem vQ:nM bC 44 3 3:=pj
theorem AG:je bC 41 false 1:=re
theorem BP:te bC 41 54 1:=yi
theorem CS:wu bC 54 1:=xL<|.slice none 0 0
theorem CT:tg bC 41 54 1 24:=tg.of<|.slice none 0 0
theorem BQ:gI bC 10:=hZ Tryz.func10
theorem AH:gI bC 27:=hZ Tryz.func27
theorem xe:je bC 85 true 2:=re
theorem zM:oS bC 89 3 85 Int aA (⟨⟨[]⟩,0⟩:aA):=⟨by kernel_rfl,nY.int zF,l4 (.agg #[(.string ⟨#[]⟩),(.int .i64 0)])<|λM=>⟨_,rfl,lF M⟩⟩
theorem yr:nM bC 85 1 1:=pj
theorem yt:nM bC 85 0 0:=pj
theorem BR:gI bC 73:=hZ Tryz.func73
theorem CV:Tryz.prog.underlying 42=some (.slice 3):=by kernel_rfl
theorem Ae:oS bC 90 3 54 Int RV xK:=⟨by kernel_rfl,nY.int zF,l4 n_<|λM=>qL.2 rfl⟩
theorem CY:DN bC 27 [n_,n_]:=⟨(.agg #[n_,n_]),λ_=>by kernel_rfl,rfl⟩
theorem pG:nM bC 27 0 0:=pj
theorem C4:Tryz.prog.underlying 90=some (.map 3 54):=by kernel_rfl
theorem mf:nM bC 27 1 1:=pj
theorem yu:Cg bC 85 0 9 0:=⟨λ_ _=>by kernel_rfl⟩
theorem C6:sf bC 67 [(0,1),(1,1),(2,1)] #[(.string ⟨#[]⟩),n_,n_]:=sf.of (.agg #[(.string ⟨#[]⟩),n_,n_]) Tryz.underlying67
theorem C7:tg bC 25 67 3 64:=tg.of<|.agg #[(.string ⟨#[]⟩),n_,n_]
theorem Db:sf bC 50 [(0,1),(1,1),(2,1)] #[(.string ⟨#[]⟩),(.int .i64 0),(.int .i64 0)]:=sf.of (.agg #[(.string ⟨#[]⟩),(.int .i64 0),(.int .i64 0)]) Tryz.underlying50
theorem Dc:sf bC 53 [(0,1),(1,1)] #[(.string ⟨#[]⟩),n_]:=sf.of (.agg #[(.string ⟨#[]⟩),n_]) Tryz.underlying53
theorem wX(a:aL)(b:Int)(w:World):(callFunc 119 [str a,(.int .u8 b)].toArray).run bC w = .ok (.value<|vi ((Lib.countByte a.aU (Int.toNat b).toUInt8:Nat):Int)) w:=qR Extern.BytealgCount.count Tryz.func119<|Lib.run_countString _ _ w
theorem Af:gI bC 104:=hZ Tryz.func104
theorem Dd:tg bC 65 9 1 16:=tg.of<|.string ⟨#[]⟩
theorem Eb:Ar bC 9 (⟨[]⟩:aL):=Ar.of (.string ⟨#[]⟩)<|λM=>rfl
theorem BU:gI bC 15:=hZ Tryz.func15
theorem DU:gI bC 6:=hZ Tryz.func6
theorem DV:gI bC 5:=hZ Tryz.func5
def aC(E:World)(V:List HP)(res:Int)(v:Value)(w:World):Prop:=v= vi res/\Holds E w V
def bH(E:World)(V:List HP)(res:Bool)(v:Value)(w:World):Prop:=v= vb res/\Holds E w V
def cK(E:World)(V:List HP)(res:Int×Bool)(v:Value)(w:World):Prop:=v = .tuple #[vi res.1,vb res.2]/\Holds E w V
def kz(E:World)(V:List HP)(res:List aL)(v:Value)(w:World):Prop:=Holds E w<|[own 9 v res]++V
def lG(E:World)(V:List HP)(res:List aT)(v:Value)(w:World):Prop:=Holds E w<|[own 60 v res]++V
def qe(H:Type)(d:DataW H):Nat:=YtammmhakmgielaaGreatDoor.Rows.uptoBulk d
def BV(H:Type)(d:List (DataW H)):Nat:=YtammmhakmgielaaGreatDoor.Rows.uptoBulkAll d
theorem eD:UB qe BV where
  str:=λH b=>by simp[qe,YtammmhakmgielaaGreatDoor.Rows.uptoBulk]
  pos:=λH d=>by
    unfold qe
    cases d with
    |lit l=>cases l <;> simp[YtammmhakmgielaaGreatDoor.Rows.uptoBulk]
    |nil=>simp[YtammmhakmgielaaGreatDoor.Rows.uptoBulk]
    |ptr d=>simp[YtammmhakmgielaaGreatDoor.Rows.uptoBulk]
    |slice elems spare=>simp[YtammmhakmgielaaGreatDoor.Rows.uptoBulk]
    |agg parts=>simp[YtammmhakmgielaaGreatDoor.Rows.uptoBulk]
    |iface t d=>simp[YtammmhakmgielaaGreatDoor.Rows.uptoBulk]
    |map entries=>simp[YtammmhakmgielaaGreatDoor.Rows.uptoBulk]
    |held h=>simp[YtammmhakmgielaaGreatDoor.Rows.uptoBulk]
  sl:=λH e s=>by simp[qe,BV,YtammmhakmgielaaGreatDoor.Rows.uptoBulk]
  ag:=λH l=>by simp[qe,BV,YtammmhakmgielaaGreatDoor.Rows.uptoBulk]
  nil:=λH=>by simp[BV,YtammmhakmgielaaGreatDoor.Rows.uptoBulkAll]
  cons:=λH x l=>by simp[qe,BV,YtammmhakmgielaaGreatDoor.Rows.uptoBulkAll]
theorem xN:fA qe Tryz.prog 9 aL:=xj eD (by kernel_rfl)
theorem DW:fA qe Tryz.prog 3 Int:=xi eD (by kernel_rfl)
theorem Dq:fA qe Tryz.prog 50 aV:=gG eD (λ(x:aV)=>(x.Name,x.Kind,x.dI)) (λb=>⟨b.1,b.2.1,b.2.2⟩) (λb=>rfl) Tryz.underlying50 (eR eD xN<|eR eD DW<|jq eD DW) (λb=>by simp only[rB];omega)
theorem Dr:fA qe Tryz.prog 51 (List aV):=hG (e:=50) eD Dq
theorem Ds:fA qe Tryz.prog 53 aD:=gG eD (λ(x:aD)=>(x.Name,x.bA)) (λb=>⟨b.1,b.2⟩) (λb=>rfl) Tryz.underlying53 (eR eD xN<|jq eD Dr) (λb=>by simp only[m8];omega)
theorem Dt:fA qe Tryz.prog 22 (List aD):=hG (e:=53) eD Ds
theorem BW:fA qe Tryz.prog 65 (List aL):=hG (e:=9) eD xN
theorem Du:fA qe Tryz.prog 58 Part:=gG eD (λ(x:Part)=>(x.Name,x.eC)) (λb=>⟨b.1,b.2⟩) (λb=>rfl) Tryz.underlying58 (eR eD xN<|jq eD xN) (λb=>by simp only[wJ];omega)
theorem Dv:fA qe Tryz.prog 24 (List Part):=hG (e:=58) eD Du
theorem Dw:fA qe Tryz.prog 82 iU:=gG eD (λ(x:iU)=>(x.Name,x.aF)) (λb=>⟨b.1,b.2⟩) (λb=>rfl) Tryz.underlying82 (eR eD xN<|jq eD xN) (λb=>by simp only[yE];omega)
theorem Dx:fA qe Tryz.prog 71 (List iU):=hG (e:=82) eD Dw
theorem Dy:fA qe Tryz.prog 60 aT:=gG eD (λ(x:aT)=>(x.Part,x.aT)) (λb=>⟨b.1,b.2⟩) (λb=>rfl) Tryz.underlying60 (eR eD xN<|jq eD xN) (λb=>by simp only[yF];omega)
theorem Dz:fA qe Tryz.prog 54 (List aT):=hG (e:=60) eD Dy
theorem DA:fA qe Tryz.prog 67 Net:=gG eD (λ(x:Net)=>(x.Name,x.bA,x.aX)) (λb=>⟨b.1,b.2.1,b.2.2⟩) (λb=>rfl) Tryz.underlying67 (eR eD xN<|eR eD Dz<|jq eD BW) (λb=>by simp only[vS];omega)
theorem DB:fA qe Tryz.prog 25 (List Net):=hG (e:=67) eD DA
theorem DC:fA qe Tryz.prog 73 aF:=gG eD (λ(x:aF)=>(x.Name,x.aX,x.bB,x.Uses,x.aO)) (λb=>⟨b.1,b.2.1,b.2.2.1,b.2.2.2.1,b.2.2.2.2⟩) (λb=>rfl) Tryz.underlying73 (eR eD xN<|eR eD BW<|eR eD Dv<|eR eD Dx<|jq eD DB) (λb=>by simp only[m9];omega)
theorem DD:fA qe Tryz.prog 23 (List aF):=hG (e:=73) eD DC
end Go.Gk
namespace Go.Proofs
open Go.Shelf Go.RowKit Go.Lib Go.Sort
def Tryz.lay29_ren : Go.Shelf.Ren := ⟨fun | 6 => 29 | 15 => 54 | 14 => 53 | 28 => 82 | 29 => 83 | 20 => 74 | 21 => 75 | 22 => 76 | 23 => 77 | 24 => 78 | 25 => 79 | 26 => 80 | 27 => 81 | 46 => 106 | 47 => 107 | 48 => 108 | 49 => 109 | 50 => 110 | 57 => 121 | n => n, fun | 22 => 24 | 24 => 58 | 25 => 95 | 3 => 3 | 39 => 118 | 0 => 0 | 53 => 143 | 55 => 145 | 4 => 4 | 46 => 137 | 45 => 136 | 50 => 87 | 5 => 5 | 9 => 9 | 66 => 158 | 70 => 162 | 76 => 171 | 77 => 172 | n => n, fun | n => n⟩
theorem Tryz.lay29 : Go.Proofs.SlLaysF0.n6 Tryz.prog Tryz.lay29_ren := {
  mixed := by kernel_rfl
  f6 := ⟨Tryz.f29.name, by decide, Tryz.func29.trans (congrArg some (by kernel_rfl))⟩
  f14 := ⟨Tryz.f53.name, by decide, Tryz.func53.trans (congrArg some (by kernel_rfl))⟩
  f15 := Tryz.func54.trans (congrArg some (by kernel_rfl))
  f20 := ⟨Tryz.f74.name, by decide, Tryz.func74.trans (congrArg some (by kernel_rfl))⟩
  f21 := ⟨Tryz.f75.name, by decide, Tryz.func75.trans (congrArg some (by kernel_rfl))⟩
  f22 := ⟨Tryz.f76.name, by decide, Tryz.func76.trans (congrArg some (by kernel_rfl))⟩
  f23 := ⟨Tryz.f77.name, by decide, Tryz.func77.trans (congrArg some (by kernel_rfl))⟩
  f24 := ⟨Tryz.f78.name, by decide, Tryz.func78.trans (congrArg some (by kernel_rfl))⟩
  f25 := ⟨Tryz.f79.name, by decide, Tryz.func79.trans (congrArg some (by kernel_rfl))⟩
  f26 := ⟨Tryz.f80.name, by decide, Tryz.func80.trans (congrArg some (by kernel_rfl))⟩
  f27 := ⟨Tryz.f81.name, by decide, Tryz.func81.trans (congrArg some (by kernel_rfl))⟩
  f28 := Tryz.func82.trans (congrArg some (by kernel_rfl))
  f29 := Tryz.func83.trans (congrArg some (by kernel_rfl))
  f46 := ⟨Tryz.f106.name, by decide, Tryz.func106.trans (congrArg some (by kernel_rfl))⟩
  f47 := Tryz.func107.trans (congrArg some (by kernel_rfl))
  f48 := Tryz.func108.trans (congrArg some (by kernel_rfl))
  f49 := ⟨Tryz.f109.name, by decide, Tryz.func109.trans (congrArg some (by kernel_rfl))⟩
  f50 := ⟨Tryz.f110.name, by decide, Tryz.func110.trans (congrArg some (by kernel_rfl))⟩
  f57 := ⟨Tryz.f121.name, by decide, Tryz.func121.trans (congrArg some (by kernel_rfl))⟩
  t0 := Tryz.underlying0
  a0 := Tryz.isAgg0
  z0 := Tryz.sizeOf0
  v0 := Tryz.zeroValue0
  t3 := Tryz.underlying3
  a3 := Tryz.isAgg3
  z3 := Tryz.sizeOf3
  v3 := Tryz.zeroValue3
  t4 := Tryz.underlying4
  a4 := Tryz.isAgg4
  z4 := Tryz.sizeOf4
  v4 := Tryz.zeroValue4
  t5 := Tryz.underlying5
  a5 := Tryz.isAgg5
  z5 := Tryz.sizeOf5
  v5 := Tryz.zeroValue5
  t9 := Tryz.underlying9
  a9 := Tryz.isAgg9
  z9 := Tryz.sizeOf9
  v9 := Tryz.zeroValue9
  t22 := Tryz.underlying24
  a22 := Tryz.isAgg24
  z22 := Tryz.sizeOf24
  v22 := Tryz.zeroValue24
  t25 := Tryz.underlying95
  a25 := Tryz.isAgg95
  z25 := Tryz.sizeOf95
  v25 := Tryz.zeroValue95
  t39 := Tryz.underlying118
  a39 := Tryz.isAgg118
  z39 := Tryz.sizeOf118
  v39 := Tryz.zeroValue118
  t45 := Tryz.underlying136
  a45 := Tryz.isAgg136
  z45 := Tryz.sizeOf136
  v45 := Tryz.zeroValue136
  t46 := Tryz.underlying137
  a46 := Tryz.isAgg137
  z46 := Tryz.sizeOf137
  v46 := Tryz.zeroValue137
  t50 := Tryz.underlying87
  a50 := Tryz.isAgg87
  z50 := Tryz.sizeOf87
  v50 := Tryz.zeroValue87
  t53 := Tryz.underlying143
  a53 := Tryz.isAgg143
  z53 := Tryz.sizeOf143
  v53 := Tryz.zeroValue143
  t55 := Tryz.underlying145
  a55 := Tryz.isAgg145
  z55 := Tryz.sizeOf145
  v55 := Tryz.zeroValue145
  t66 := Tryz.underlying158
  a66 := Tryz.isAgg158
  z66 := Tryz.sizeOf158
  v66 := Tryz.zeroValue158
  t70 := Tryz.underlying162
  a70 := Tryz.isAgg162
  z70 := Tryz.sizeOf162
  v70 := Tryz.zeroValue162
  t76 := Tryz.underlying171
  a76 := Tryz.isAgg171
  z76 := Tryz.sizeOf171
  v76 := Tryz.zeroValue171
  t77 := Tryz.underlying172
  a77 := Tryz.isAgg172
  z77 := Tryz.sizeOf172
  v77 := Tryz.zeroValue172 }
def Tryz.lay34_ren : Go.Shelf.Ren := ⟨fun | 6 => 34 | 15 => 54 | 14 => 57 | 28 => 82 | 29 => 83 | 20 => 85 | 21 => 86 | 22 => 87 | 23 => 88 | 24 => 89 | 25 => 90 | 26 => 91 | 27 => 92 | 46 => 111 | 47 => 107 | 48 => 108 | 49 => 112 | 50 => 113 | 57 => 122 | n => n, fun | 22 => 54 | 24 => 60 | 25 => 99 | 3 => 3 | 39 => 118 | 0 => 0 | 53 => 143 | 55 => 145 | 4 => 4 | 46 => 137 | 45 => 136 | 50 => 87 | 5 => 5 | 9 => 9 | 66 => 158 | 70 => 162 | 76 => 171 | 77 => 172 | n => n, fun | n => n⟩
theorem Tryz.lay34 : Go.Proofs.SlLaysF0.n6 Tryz.prog Tryz.lay34_ren := {
  mixed := by kernel_rfl
  f6 := ⟨Tryz.f34.name, by decide, Tryz.func34.trans (congrArg some (by kernel_rfl))⟩
  f14 := ⟨Tryz.f57.name, by decide, Tryz.func57.trans (congrArg some (by kernel_rfl))⟩
  f15 := Tryz.func54.trans (congrArg some (by kernel_rfl))
  f20 := ⟨Tryz.f85.name, by decide, Tryz.func85.trans (congrArg some (by kernel_rfl))⟩
  f21 := ⟨Tryz.f86.name, by decide, Tryz.func86.trans (congrArg some (by kernel_rfl))⟩
  f22 := ⟨Tryz.f87.name, by decide, Tryz.func87.trans (congrArg some (by kernel_rfl))⟩
  f23 := ⟨Tryz.f88.name, by decide, Tryz.func88.trans (congrArg some (by kernel_rfl))⟩
  f24 := ⟨Tryz.f89.name, by decide, Tryz.func89.trans (congrArg some (by kernel_rfl))⟩
  f25 := ⟨Tryz.f90.name, by decide, Tryz.func90.trans (congrArg some (by kernel_rfl))⟩
  f26 := ⟨Tryz.f91.name, by decide, Tryz.func91.trans (congrArg some (by kernel_rfl))⟩
  f27 := ⟨Tryz.f92.name, by decide, Tryz.func92.trans (congrArg some (by kernel_rfl))⟩
  f28 := Tryz.func82.trans (congrArg some (by kernel_rfl))
  f29 := Tryz.func83.trans (congrArg some (by kernel_rfl))
  f46 := ⟨Tryz.f111.name, by decide, Tryz.func111.trans (congrArg some (by kernel_rfl))⟩
  f47 := Tryz.func107.trans (congrArg some (by kernel_rfl))
  f48 := Tryz.func108.trans (congrArg some (by kernel_rfl))
  f49 := ⟨Tryz.f112.name, by decide, Tryz.func112.trans (congrArg some (by kernel_rfl))⟩
  f50 := ⟨Tryz.f113.name, by decide, Tryz.func113.trans (congrArg some (by kernel_rfl))⟩
  f57 := ⟨Tryz.f122.name, by decide, Tryz.func122.trans (congrArg some (by kernel_rfl))⟩
  t0 := Tryz.underlying0
  a0 := Tryz.isAgg0
  z0 := Tryz.sizeOf0
  v0 := Tryz.zeroValue0
  t3 := Tryz.underlying3
  a3 := Tryz.isAgg3
  z3 := Tryz.sizeOf3
  v3 := Tryz.zeroValue3
  t4 := Tryz.underlying4
  a4 := Tryz.isAgg4
  z4 := Tryz.sizeOf4
  v4 := Tryz.zeroValue4
  t5 := Tryz.underlying5
  a5 := Tryz.isAgg5
  z5 := Tryz.sizeOf5
  v5 := Tryz.zeroValue5
  t9 := Tryz.underlying9
  a9 := Tryz.isAgg9
  z9 := Tryz.sizeOf9
  v9 := Tryz.zeroValue9
  t22 := Tryz.underlying54
  a22 := Tryz.isAgg54
  z22 := Tryz.sizeOf54
  v22 := Tryz.zeroValue54
  t25 := Tryz.underlying99
  a25 := Tryz.isAgg99
  z25 := Tryz.sizeOf99
  v25 := Tryz.zeroValue99
  t39 := Tryz.underlying118
  a39 := Tryz.isAgg118
  z39 := Tryz.sizeOf118
  v39 := Tryz.zeroValue118
  t45 := Tryz.underlying136
  a45 := Tryz.isAgg136
  z45 := Tryz.sizeOf136
  v45 := Tryz.zeroValue136
  t46 := Tryz.underlying137
  a46 := Tryz.isAgg137
  z46 := Tryz.sizeOf137
  v46 := Tryz.zeroValue137
  t50 := Tryz.underlying87
  a50 := Tryz.isAgg87
  z50 := Tryz.sizeOf87
  v50 := Tryz.zeroValue87
  t53 := Tryz.underlying143
  a53 := Tryz.isAgg143
  z53 := Tryz.sizeOf143
  v53 := Tryz.zeroValue143
  t55 := Tryz.underlying145
  a55 := Tryz.isAgg145
  z55 := Tryz.sizeOf145
  v55 := Tryz.zeroValue145
  t66 := Tryz.underlying158
  a66 := Tryz.isAgg158
  z66 := Tryz.sizeOf158
  v66 := Tryz.zeroValue158
  t70 := Tryz.underlying162
  a70 := Tryz.isAgg162
  z70 := Tryz.sizeOf162
  v70 := Tryz.zeroValue162
  t76 := Tryz.underlying171
  a76 := Tryz.isAgg171
  z76 := Tryz.sizeOf171
  v76 := Tryz.zeroValue171
  t77 := Tryz.underlying172
  a77 := Tryz.isAgg172
  z77 := Tryz.sizeOf172
  v77 := Tryz.zeroValue172 }
def Tryz.lay36_ren : Go.Shelf.Ren := ⟨fun | 6 => 36 | 15 => 54 | 14 => 58 | 28 => 82 | 29 => 83 | 20 => 93 | 21 => 94 | 22 => 95 | 23 => 96 | 24 => 97 | 25 => 98 | 26 => 99 | 27 => 100 | 46 => 114 | 47 => 107 | 48 => 108 | 49 => 115 | 50 => 116 | 57 => 123 | n => n, fun | 22 => 25 | 24 => 67 | 25 => 101 | 3 => 3 | 39 => 118 | 0 => 0 | 53 => 143 | 55 => 145 | 4 => 4 | 46 => 137 | 45 => 136 | 50 => 87 | 5 => 5 | 9 => 9 | 66 => 158 | 70 => 162 | 76 => 171 | 77 => 172 | n => n, fun | n => n⟩
theorem Tryz.lay36 : Go.Proofs.SlLaysF0.n6 Tryz.prog Tryz.lay36_ren := {
  mixed := by kernel_rfl
  f6 := ⟨Tryz.f36.name, by decide, Tryz.func36.trans (congrArg some (by kernel_rfl))⟩
  f14 := ⟨Tryz.f58.name, by decide, Tryz.func58.trans (congrArg some (by kernel_rfl))⟩
  f15 := Tryz.func54.trans (congrArg some (by kernel_rfl))
  f20 := ⟨Tryz.f93.name, by decide, Tryz.func93.trans (congrArg some (by kernel_rfl))⟩
  f21 := ⟨Tryz.f94.name, by decide, Tryz.func94.trans (congrArg some (by kernel_rfl))⟩
  f22 := ⟨Tryz.f95.name, by decide, Tryz.func95.trans (congrArg some (by kernel_rfl))⟩
  f23 := ⟨Tryz.f96.name, by decide, Tryz.func96.trans (congrArg some (by kernel_rfl))⟩
  f24 := ⟨Tryz.f97.name, by decide, Tryz.func97.trans (congrArg some (by kernel_rfl))⟩
  f25 := ⟨Tryz.f98.name, by decide, Tryz.func98.trans (congrArg some (by kernel_rfl))⟩
  f26 := ⟨Tryz.f99.name, by decide, Tryz.func99.trans (congrArg some (by kernel_rfl))⟩
  f27 := ⟨Tryz.f100.name, by decide, Tryz.func100.trans (congrArg some (by kernel_rfl))⟩
  f28 := Tryz.func82.trans (congrArg some (by kernel_rfl))
  f29 := Tryz.func83.trans (congrArg some (by kernel_rfl))
  f46 := ⟨Tryz.f114.name, by decide, Tryz.func114.trans (congrArg some (by kernel_rfl))⟩
  f47 := Tryz.func107.trans (congrArg some (by kernel_rfl))
  f48 := Tryz.func108.trans (congrArg some (by kernel_rfl))
  f49 := ⟨Tryz.f115.name, by decide, Tryz.func115.trans (congrArg some (by kernel_rfl))⟩
  f50 := ⟨Tryz.f116.name, by decide, Tryz.func116.trans (congrArg some (by kernel_rfl))⟩
  f57 := ⟨Tryz.f123.name, by decide, Tryz.func123.trans (congrArg some (by kernel_rfl))⟩
  t0 := Tryz.underlying0
  a0 := Tryz.isAgg0
  z0 := Tryz.sizeOf0
  v0 := Tryz.zeroValue0
  t3 := Tryz.underlying3
  a3 := Tryz.isAgg3
  z3 := Tryz.sizeOf3
  v3 := Tryz.zeroValue3
  t4 := Tryz.underlying4
  a4 := Tryz.isAgg4
  z4 := Tryz.sizeOf4
  v4 := Tryz.zeroValue4
  t5 := Tryz.underlying5
  a5 := Tryz.isAgg5
  z5 := Tryz.sizeOf5
  v5 := Tryz.zeroValue5
  t9 := Tryz.underlying9
  a9 := Tryz.isAgg9
  z9 := Tryz.sizeOf9
  v9 := Tryz.zeroValue9
  t22 := Tryz.underlying25
  a22 := Tryz.isAgg25
  z22 := Tryz.sizeOf25
  v22 := Tryz.zeroValue25
  t25 := Tryz.underlying101
  a25 := Tryz.isAgg101
  z25 := Tryz.sizeOf101
  v25 := Tryz.zeroValue101
  t39 := Tryz.underlying118
  a39 := Tryz.isAgg118
  z39 := Tryz.sizeOf118
  v39 := Tryz.zeroValue118
  t45 := Tryz.underlying136
  a45 := Tryz.isAgg136
  z45 := Tryz.sizeOf136
  v45 := Tryz.zeroValue136
  t46 := Tryz.underlying137
  a46 := Tryz.isAgg137
  z46 := Tryz.sizeOf137
  v46 := Tryz.zeroValue137
  t50 := Tryz.underlying87
  a50 := Tryz.isAgg87
  z50 := Tryz.sizeOf87
  v50 := Tryz.zeroValue87
  t53 := Tryz.underlying143
  a53 := Tryz.isAgg143
  z53 := Tryz.sizeOf143
  v53 := Tryz.zeroValue143
  t55 := Tryz.underlying145
  a55 := Tryz.isAgg145
  z55 := Tryz.sizeOf145
  v55 := Tryz.zeroValue145
  t66 := Tryz.underlying158
  a66 := Tryz.isAgg158
  z66 := Tryz.sizeOf158
  v66 := Tryz.zeroValue158
  t70 := Tryz.underlying162
  a70 := Tryz.isAgg162
  z70 := Tryz.sizeOf162
  v70 := Tryz.zeroValue162
  t76 := Tryz.underlying171
  a76 := Tryz.isAgg171
  z76 := Tryz.sizeOf171
  v76 := Tryz.zeroValue171
  t77 := Tryz.underlying172
  a77 := Tryz.isAgg172
  z77 := Tryz.sizeOf172
  v77 := Tryz.zeroValue172 }
end Go.Proofs
namespace Go.Gk
open Go IntKind Go.Proofs
variable (N:Nat){E w:World}{i0 i1 i2 i3:Nat}{p1 p3 res:Int}{v0 v1 v2 v3:Value}{V:List HP}
theorem iE{p0:aL}(o:Holds E w V)(j:dZ N p0 p1=some res):c_ 71 [str p0,(.int .u8 p1)] w<|aC E V res:=by
 unfold dZ at j;refine enter Tryz.func71 zr zr<|r_<|aJ 0<|v_<|mv (str p0)<|mv (.int .u8 p1)<|FJ (vi<|Lib.indexByte p0.aU (Int.toNat p1).toUInt8) zr [str p0,(.int .u8 p1)] zr (Cs p0 p1 w)<|aJ (Lib.indexByte p0.aU (Int.toNat p1).toUInt8)<|s_ ?_;exact AS<|oi j▸bF ⟨rfl,o.drop 0⟩
theorem na{p0:aL}(o:Holds E w V)(j:eK N p0 p1=some res):c_ 46 [str p0,(.int .u8 p1)] w<|aC E V res:=by
 unfold eK at j;exact enter Tryz.func46 zr zr<|r_<|aJ 0<|v_<|mv (str p0)<|mv (.int .u8 p1)<|q_ j λaa ab j=>y_ Bu (iE N (p0:=p0) (p1:=p1) o ab) λw o=>aJ aa<|s_<|AS<|oi j▸bF ⟨rfl,o.drop 0⟩
theorem dE{p0:aL}{res:Bool}(hw:Holds E w V)(o:bN N p0=some res):c_ 19 [str p0] w<|bH E V res:=by
 unfold bN at o;refine enter Tryz.func19 zr zr<|r_<|bT false<|x_<|r_<|mv (str p0)<|ER p0 qp<|bI 0<|s_<|EB E V (λ(ag:Unit)=>[]) (λ_=>[(0,str p0)]) (λad _=>[(6,vi p0.aU.length),(7,vi ad)]) (λr=>jA bC 49 Tryz.f19 (bH E V r) .ret) o ?_ ?_ ?_ ?_;exact hw.sp 0 [];rintro hm ad ag fl _ w hk⟨O,rfl,hw⟩o;refine A_<|Eh<|bI (ad:Int)<|aJ (ad:Int)<|v_<|mv (str p0)<|bI (ad:Int)<|q_ o λj ak o=>FE p0 (ad:Int) j zr zr zr qp ak<|ke (.int .u8 (j.toNat:Int))<|x_ ?_;refine q_ o λaf hj o=>En (λ(af:Bool)=>SH E V [(0,str p0),(6,vi p0.aU.length),(7,vi ad),(39,vb af)] []) af ?_ ?_;refine AI<|mv (.int .u8 (j.toNat:Int))<|ic ((j.toNat:Int)) 65<|jT (decide<|(j.toNat:Int)<65)<|EI (.int .u8 (j.toNat:Int)) zr zr y9<|EI (vb<|decide<|(j.toNat:Int)>90) zr zr (Aa .gtr)<|EL (b:=decide<|(j.toNat:Int)<65) (v:=vb<|decide ((j.toNat:Int)<65)||decide ((j.toNat:Int)>90)) zt zr zr (ue true zr)<|jT (decide ((j.toNat:Int)<65)||decide ((j.toNat:Int)>90))<|EI (.int .u8 (j.toNat:Int)) zr zr y9 ?_;refine EI (vb<|decide<|(j.toNat:Int)<97) zr zr (Aa .lss)<|EI (vb<|decide<|(j.toNat:Int)<97) zr zr y9<|FB (.int .u8 (j.toNat:Int)) zr zr y9<|FB (vb<|decide<|(j.toNat:Int)>122) zr zr (Aa .gtr)<|EI (vb<|decide ((j.toNat:Int)<97)||decide ((j.toNat:Int)>122)) zr zr DR<|EL (b:=decide ((j.toNat:Int)<65)||decide ((j.toNat:Int)>90)) (v:=vb<|(decide ((j.toNat:Int)<65)||decide ((j.toNat:Int)>90))&&(decide ((j.toNat:Int)<97)||decide ((j.toNat:Int)>122))) zt zr zr (vx true zr)<|jT ((decide ((j.toNat:Int)<65)||decide ((j.toNat:Int)>90))&&(decide ((j.toNat:Int)<97)||decide ((j.toNat:Int)>122)))<|EI (.int .u8 (j.toNat:Int)) zr zr y9<|EI (vb<|decide<|(j.toNat:Int)<48) zr zr (Aa .lss) ?_;refine EI (vb<|decide<|(j.toNat:Int)<48) zr zr y9<|FB (.int .u8 (j.toNat:Int)) zr zr y9<|FB (vb<|decide<|(j.toNat:Int)>57) zr zr (Aa .gtr)<|EI (vb<|decide ((j.toNat:Int)<48)||decide ((j.toNat:Int)>57)) zr zr DR<|EL (b:=(decide ((j.toNat:Int)<65)||decide ((j.toNat:Int)>90))&&(decide ((j.toNat:Int)<97)||decide ((j.toNat:Int)>122))) (v:=vb<|((decide ((j.toNat:Int)<65)||decide ((j.toNat:Int)>90))&&(decide ((j.toNat:Int)<97)||decide ((j.toNat:Int)>122)))&&(decide ((j.toNat:Int)<48)||decide ((j.toNat:Int)>57))) zt zr zr (vx true zr)<|jT (((decide ((j.toNat:Int)<65)||decide ((j.toNat:Int)>90))&&(decide ((j.toNat:Int)<97)||decide ((j.toNat:Int)>122)))&&(decide ((j.toNat:Int)<48)||decide ((j.toNat:Int)>57)))<|jd hj (λab hj=>?_) λab hj=>?_;refine D_ (.int .u8 (j.toNat:Int)) (cg ab)<|q_ hj λah al hj=>y_ (hg:=cg ab) (hZ Tryz.func46) (na N (p0:=⟨[95,43,45,35]⟩) (p1:=(j.toNat:Int)) hw al) λw hw=>EJ ah 0 (cg ab)<|jx ab (vb<|decide<|ah<0)<|w_ ?_;exact oi hj▸⟨rfl,hw.sp 0 []⟩;exact cB ab<|cB ab<|cB ab<|jx ab (vb false)<|w_<|oi hj▸⟨rfl,hw.sp 0 []⟩;rintro _ w⟨O,rfl,hw⟩;refine aI<|eT o (λo=>?_) λo=>?_;exact r_<|bT false<|s_<|Ek<|aR<|oi o▸⟨rfl,bF ⟨rfl,hw.drop 0⟩⟩;exact Et<|bU<|aI<|AI<|Ej hk hm<|bI ((ad+1:Nat):Int)<|w_<|oi o▸⟨rfl,hw.sp 0 []⟩;intro r U w o hK;exact aR<|oi o▸hK;rintro ag _ w o⟨O,rfl,hw⟩;refine aI<|r_<|mv (str p0)<|ER p0 qp<|ic ((p0.aU.length:Int)) 1<|jT (decide<|(p0.aU.length:Int)>=1)<|EI (str p0) rfl rfl y9<|E7 true (decide<|(p0.aU.length:Int)>=1) (vi p0.aU.length) rfl rfl rfl (zg (s:=p0) rfl (by exact z_ (str p0)) qp)<|EI (vb<|decide<|(p0.aU.length:Int)<=40) rfl rfl (Aa .leq) ?_;exact EL (b:=decide<|(p0.aU.length:Int)>=1) (v:=vb<|decide ((p0.aU.length:Int)>=1)&&decide ((p0.aU.length:Int)<=40)) zt zr zr (vx true zr)<|bT (decide ((p0.aU.length:Int)>=1)&&decide ((p0.aU.length:Int)<=40))<|s_<|AS<|oi o▸bF ⟨rfl,hw.drop 0⟩
theorem lJ{p0 p1:aV}{res:Bool}(j:Holds E w V)(h0:V[i0]? =some (rd v0 p0))(h1:V[i1]? =some (pt v1 p1))(hb:cU N p0 p1=some res):c_ 62 [v0,v1] w<|bH E V res:=by
 unfold cU at hb;refine enter Tryz.func62 zr zr ?_;have j:=(j.dup (i0+0) h0).mO (i:=i1+1) h1;refine r_<|Ep 1 v0 j zr λaf w j=>?_;refine bT false<|x_<|q_ hb λae hj hb=>En (λ(ae:Bool)=>SH E V [(3,vb ae)] []) ae ?_ ?_;refine AI<|Eo 1 j zr rj iX λag j=>Ey p1.dI 0 zt j oL<|ic p1.dI 0<|jT (decide<|p1.dI>0)<|jd hj (λo hj=>?_) λo hj=>?_;refine u_ (hg:=cg o) zr rj<|AT (hg:=cg o) 1 j zr iX oL<|Eo (hg:=cg o) 2 j zr rj iX λah j=>Ey p1.dI 0 (cg o) j oL<|EJ p0.dI p1.dI (cg o)<|jx o (vb<|p0.dI==p1.dI)<|jT (p0.dI==p1.dI)<|jd hj (λaa hj=>?_) λaa hj=>?_;refine u_ (hg:=cg aa) zr tD<|AT (hg:=cg aa) 2 j zr j8 oL<|Eo (hg:=cg aa) 3 j zr tD j8 λai j=>Ey p1.Kind 0 (cg aa) j oL<|EJ p0.Kind p1.Kind (cg aa)<|jx aa (vb<|p0.Kind != p1.Kind)<|bT (p0.Kind != p1.Kind)<|w_ ?_;exact oi hj▸⟨rfl,j.sp 6 []⟩;exact cB aa<|cB aa<|cB aa<|cB aa<|cB aa<|jx aa (vb false)<|bT false<|w_<|oi hj▸⟨rfl,j.sp 5 []⟩;refine cB o<|cB o<|cB o<|cB o<|cB o<|jx o (vb false)<|jT false<|wE<|wE<|wE<|wE<|wE<|EL (b:=false) (v:=vb false) zt zr zr zr<|bT false<|w_ ?_;exact oi hj▸⟨rfl,j.sp 4 []⟩;rintro _ w⟨O,rfl,j⟩;exact aI<|AS<|oi hb▸bF ⟨rfl,j.drop 0⟩
theorem kb{p0:List aV}{p1:aV->Option Bool}(o:Holds E w V)(h0:V[i0]? =some (rd v0 p0))(h1:vB bC E V v1 p1 (λ(r:Bool)=>Value.bool r))(j:ga N p0 p1=some res):c_ 101 [v0,v1] w<|aC E V res:=by
 unfold ga at j;refine enter Tryz.func101 zr zr ?_;have o:=o.dup (i0+0) h0;refine r_<|aJ 0<|x_<|r_<|mv v0<|C_ 0 p0 o vK<|bI 0<|s_<|EB E V (λ(ab:Unit)=>[rd v0 p0]) (λ_=>[]) (λaa _=>[(0,v0),(1,v1),(7,vi p0.length),(8,vi aa)]) (λr=>jA bC 19 Tryz.f101 (aC E V r) .ret) j ?_ ?_ ?_ ?_;exact o.sp 1 [0];rintro hm aa ab fl _ w hk⟨O,rfl,o⟩j;refine A_<|Eh<|bI (aa:Int)<|aJ (aa:Int)<|v_<|mv v1<|mv v0<|bI (aa:Int)<|q_ j λaf ag j=>BY 0 o tB ag λak o=>By 0 af o tC λal o=>?_;refine q_ j λan ah j=>E2 0 o h1 3 ah λw o=>s_<|eT j (λj=>?_) λj=>?_;exact r_<|bI (aa:Int)<|aJ (aa:Int)<|s_<|Ek<|aR<|oi j▸⟨rfl,bF ⟨rfl,o.drop 3⟩⟩;exact Et<|bU<|aI<|AI<|Ej hk hm<|bI ((aa+1:Nat):Int)<|w_<|oi j▸⟨rfl,o.sp 3 [2]⟩;intro r U w j hK;exact aR<|oi j▸hK;rintro ab _ w j⟨O,rfl,o⟩;exact aI<|r_<|aJ (-1)<|s_<|AS<|oi j▸bF ⟨rfl,o.drop 1⟩
theorem jr{p0:List aV}{p1:aV->Option Bool}{res:Bool}(j:Holds E w V)(h0:V[i0]? =some (rd v0 p0))(h1:vB bC E V v1 p1 (λ(r:Bool)=>Value.bool r))(o:dP N p0 p1=some res):c_ 61 [v0,v1] w<|bH E V res:=by
 unfold dP at o;refine enter Tryz.func61 zr zr ?_;have j:=j.dup (i0+0) h0;refine r_<|bT false<|v_<|mv v0<|mv v1<|q_ o λaa ab o=>y_ (hZ Tryz.func101) (kb N (i0:=0) j zr (h1.lift 1 zr) ab) λw j=>ic aa 0<|bT (decide<|aa>=0)<|s_<|AS ?_;exact oi o▸bF ⟨rfl,j.drop 1⟩
def jV(E:World)(V:List HP)(r:Int)(U:Nat->Value)(w:World):Prop:=jA bC 71 Tryz.f39 (aC E V r) .ret U w
theorem nb{p0:List aV}(j:Holds E w V)(h0:V[i0]? =some (rd v0 p0))(o:fX N p0=some res):c_ 39 [v0] w<|aC E V res:=by
 unfold fX at o;refine enter Tryz.func39 zr zr ?_;have j:=j.dup (i0+0) h0;refine r_<|aJ 0<|x_<|r_<|mv v0<|C_ 0 p0 j vK<|ic ((p0.length:Int)) 0<|s_<|eT o (λo=>?_) λo=>?_;exact r_<|aJ 9<|s_<|Eg<|oi o▸bF ⟨rfl,j.drop 1⟩;refine El<|r_<|mv v0<|C_ 0 p0 j vK<|ic ((p0.length:Int)) 200<|s_<|eT o (λo=>?_) λo=>?_;exact r_<|aJ 2<|s_<|Eg<|oi o▸bF ⟨rfl,j.drop 1⟩;refine El<|r_<|mv v0<|C_ 0 p0 j vK<|bI 0<|s_<|EB E V (λ(an:Unit)=>[rd v0 p0]) (λ_=>[(0,v0)]) (λad _=>[(13,v0),(14,vi p0.length),(15,vi ad)]) (jV E V) o ?_ ?_ ?_ ?_;exact j.sp 1 [0];rintro hm ad an fl _ w hk⟨O,rfl,j⟩o;refine A_<|Eh<|bI (ad:Int)<|q_ o λaa av o=>BY 0 j tB av λa2 j=>By 0 aa j tC λa3 j=>Em j zD.z λaf w j=>?_;refine aJ (ad:Int)<|Ei 0 j 1 zr tC λw j=>?_;refine s_<|Eh<|u_ zr ri<|AT 0 j zr iW gA<|q_ o λao aw o=>y_ uL (dE N (p0:=aa.Name) j aw) λw j=>ED ao<|bT (!ao)<|s_<|eT o (λo=>?_) λo=>?_;exact r_<|aJ 5<|s_<|Ek<|cR<|aR<|oi o▸⟨rfl,bF ⟨rfl,j.drop 4⟩⟩;refine r_<|u_ rfl tD<|AT 0 j rfl j8 oL<|ic aa.Kind 1<|jT (decide<|aa.Kind<1)<|E7 true (decide<|aa.Kind<1) (vp af 1) rfl rfl rfl (wt rfl tD)<|E7 true (decide<|aa.Kind<1) (vi aa.Kind) rfl rfl rfl (p8 0 rfl j (by exact z_ (vp af 1)) rfl j8 oL)<|EI (vb<|decide<|aa.Kind>7) rfl rfl (Aa .gtr)<|EL (b:=decide<|aa.Kind<1) (v:=vb<|decide (aa.Kind<1)||decide (aa.Kind>7)) trivial rfl rfl (ue true rfl) ?_;refine bT (decide (aa.Kind<1)||decide (aa.Kind>7))<|s_<|eT o (λo=>?_) λo=>?_;exact r_<|aJ 4<|s_<|Ek<|cR<|aR<|oi o▸⟨rfl,bF ⟨rfl,j.drop 4⟩⟩;refine r_<|u_ rfl rj<|AT 0 j rfl iX oL<|ic aa.dI 0<|jT (decide<|aa.dI<0)<|E7 true (decide<|aa.dI<0) (vp af 2) rfl rfl rfl (wt rfl rj)<|E7 true (decide<|aa.dI<0) (vi aa.dI) rfl rfl rfl (p8 0 rfl j (by exact z_ (vp af 2)) rfl iX oL)<|EI (vb<|decide<|aa.dI>200) rfl rfl (Aa .gtr)<|EL (b:=decide<|aa.dI<0) (v:=vb<|decide (aa.dI<0)||decide (aa.dI>200)) trivial rfl rfl (ue true rfl) ?_;refine bT (decide (aa.dI<0)||decide (aa.dI>200))<|s_<|eT o (λo=>?_) λo=>?_;exact r_<|aJ 1<|s_<|Ek<|cR<|aR<|oi o▸⟨rfl,bF ⟨rfl,j.drop 4⟩⟩;refine A_<|q_ o λak hj o=>En (λ(ak:Bool)=>SH E V [(0,v0),(13,v0),(14,vi p0.length),(15,vi ad),(43,vb ak)] [rd v0 p0]) ak ?_ ?_;refine E9 mixed ?_;have j:=j.drew;refine E8<|bI (ad:Int)<|t_<|ic ((ad:Int)) 0<|t_<|jT (decide<|(ad:Int)>0)<|jd hj (λab hj=>?_) λab hj=>?_;refine t_<|u_ (hg:=cg ab) zr ri<|t_<|AT (hg:=cg ab) 0 j zr iW gA<|t_<|D_ v0 (cg ab)<|t_<|D_ (vi ad) (cg ab)<|t_<|Er (hg:=cg ab) (ad:Int) 1<|t_ ?_;refine q_ hj λag ax hj=>BY (hg:=cg ab) 3 j tB ax λa4 j=>t_<|Eo (hg:=cg ab) 0 j zr ri iW λa5 j=>t_<|Ey ag.Name 0 (cg ab) j gA<|t_<|EO aa.Name ag.Name (cg ab)<|t_<|jx ab (vb<|aa.Name.mx ag.Name||aa.Name.iw ag.Name)<|t_<|bT (aa.Name.mx ag.Name||aa.Name.iw ag.Name)<|EN ?_;exact oi hj▸⟨rfl,j.sp 6 [5]⟩;refine t_<|cB ab<|t_<|cB ab<|t_<|cB ab<|t_<|cB ab<|t_<|cB ab<|t_<|cB ab<|t_<|cB ab<|t_<|cB ab<|t_<|cB ab ?_;exact t_<|jx ab (vb false)<|t_<|bT false<|EN<|oi hj▸⟨rfl,j.sp 4 [3]⟩;rintro _ w⟨O,rfl,j⟩;refine aI<|eT o (λo=>?_) λo=>?_;exact r_<|aJ 8<|s_<|Ek<|cR<|aR<|oi o▸⟨rfl,bF ⟨rfl,j.drop 1⟩⟩;exact Et<|bU<|bU<|aI<|AI<|Ej hk hm<|bI ((ad+1:Nat):Int)<|w_<|oi o▸⟨rfl,j.sp 1 [0]⟩;intro r U w o hK;exact aR<|oi o▸hK;rintro an _ w o⟨O,rfl,j⟩;refine aI<|A_<|r_<|mv v0<|C_ 0 p0 j vK<|bI 0<|s_<|EB E V (λ(aq:Unit)=>[rd v0 p0]) (λ_=>[]) (λah _=>[(0,v0),(58,v0),(59,vi p0.length),(60,vi ah)]) (jV E V) o ?_ ?_ ?_ ?_;exact j.sp 1 [0];rintro hm ah aq fl _ w hk⟨O,rfl,j⟩o;refine A_<|Eh<|bI (ah:Int)<|q_ o λay az o=>BY 0 j tB az λa6 j=>By 0 ay j tC λa7 j=>Em j zD.z λar w j=>?_;refine aJ (ah:Int)<|Ei 0 j 1 zr tC λw j=>?_;refine v_<|mv v0<|bI (ah:Int)<|q_ o λa8 a0 o=>Gd (i:=3) zt zr j zr zr tB (.inr ⟨rfl,zr⟩) (.inl zr) a0 λa9 j=>?_;have j:=j.ib (i:=1) rfl;refine Fp zr [vp ar 0] zr ?_;refine q_ o λba a1 o=>y_ (hZ Tryz.func61) (jr N (i0:=0) j rfl ⟨62,[vp ar 0],rfl,(hZ Tryz.func62),λw Γl v y0 r i j hi hr=>by exact dU (lJ N (i0:=i) (i1:=Γl.length+1) j hi mM hr) λ_ _ h=>h⟩ a1) λw j=>s_<|eT o (λo=>?_) λo=>?_;exact r_<|aJ 12<|s_<|Ek<|aR<|oi o▸⟨rfl,bF ⟨rfl,j.drop 5⟩⟩;exact Et<|bU<|aI<|AI<|Ej hk hm<|bI ((ah+1:Nat):Int)<|w_<|oi o▸⟨rfl,j.sp 5 [4]⟩;intro r U w o hK;exact aR<|oi o▸hK;rintro aq _ w o⟨O,rfl,j⟩;exact aI<|r_<|aJ 0<|s_<|AS<|oi o▸bF ⟨rfl,j.drop 1⟩
theorem jg{p0:List aD}(j:Holds E w V)(h0:V[i0]? =some (rd v0 p0))(o:eA N p0=some res):c_ 13 [v0] w<|aC E V res:=by
 unfold eA at o;refine enter Tryz.func13 zr zr ?_;have j:=j.dup (i0+0) h0;refine r_<|aJ 0<|x_<|r_<|mv v0<|C_ 0 p0 j AA<|ic ((p0.length:Int)) 200<|s_<|eT o (λo=>?_) λo=>?_;exact r_<|aJ 2<|s_<|Eg<|oi o▸bF ⟨rfl,j.drop 1⟩;refine El<|r_<|mv v0<|C_ 0 p0 j AA<|bI 0<|s_<|EB E V (λ(ai:Unit)=>[rd v0 p0]) (λ_=>[]) (λab _=>[(0,v0),(9,v0),(10,vi p0.length),(11,vi ab)]) (λr=>jA bC 40 Tryz.f13 (aC E V r) .ret) o ?_ ?_ ?_ ?_;exact j.sp 1 [0];rintro hm ab ai fl _ w hk⟨O,rfl,j⟩o;refine A_<|Eh<|bI (ab:Int)<|q_ o λae al o=>BY 0 j vI al λaw j=>By 0 ae j ym λax j=>Em j Bt.z λay w j=>?_;refine aJ (ab:Int)<|Ei 0 j 1 zr ym λw j=>?_;refine x_<|r_<|u_ zr tA<|AT 0 j zr jy gA<|q_ o λan ao o=>y_ uL (dE N (p0:=ae.Name) j ao) λw j=>ED an<|s_<|eT o (λo=>?_) λo=>?_;exact r_<|aJ 5<|s_<|Eg<|cR<|aR<|oi o▸⟨rfl,bF ⟨rfl,j.drop 4⟩⟩;refine El<|r_<|u_ zr vJ<|Es 0 j zr lf AB λaz j=>?_;refine q_ o λaf aq o=>y_ (hZ Tryz.func39) (nb N (i0:=0) j zr aq) λw j=>aJ af<|v_<|bI af<|ic af 0<|s_<|eT o (λo=>?_) λo=>?_;exact r_<|bI af<|aJ af<|s_<|Eg<|cR<|aR<|oi o▸⟨rfl,bF ⟨rfl,j.drop 5⟩⟩;refine El<|q_ o λah hj o=>En (λ(ah:Bool)=>SH E V [(0,v0),(9,v0),(10,vi p0.length),(11,vi ab),(38,vb ah)] [rd v0 p0]) ah ?_ ?_;refine E9 mixed ?_;have j:=j.drew;refine E8<|bI (ab:Int)<|t_<|ic ((ab:Int)) 0<|t_<|jT (decide<|(ab:Int)>0)<|jd hj (λaa hj=>?_) λaa hj=>?_;refine t_<|u_ (hg:=cg aa) zr tA<|t_<|AT (hg:=cg aa) 1 j zr jy gA<|t_<|D_ v0 (cg aa)<|t_<|D_ (vi ab) (cg aa)<|t_<|Er (hg:=cg aa) (ab:Int) 1<|t_ ?_;refine q_ hj λag ar hj=>BY (hg:=cg aa) 4 j vI ar λa0 j=>t_<|Eo (hg:=cg aa) 0 j zr tA jy λa1 j=>t_<|Ey ag.Name 0 (cg aa) j gA<|t_<|EO ae.Name ag.Name (cg aa)<|t_<|jx aa (vb<|ae.Name.mx ag.Name||ae.Name.iw ag.Name)<|EN ?_;exact oi hj▸⟨rfl,j.sp 7 [6]⟩;refine t_<|cB aa<|t_<|cB aa<|t_<|cB aa<|t_<|cB aa<|t_<|cB aa<|t_<|cB aa<|t_<|cB aa<|t_<|cB aa<|t_<|cB aa ?_;exact t_<|jx aa (vb false)<|EN<|oi hj▸⟨rfl,j.sp 5 [4]⟩;rintro _ w⟨O,rfl,j⟩;refine aI<|eT o (λo=>?_) λo=>?_;exact r_<|aJ 8<|s_<|Ek<|aR<|oi o▸⟨rfl,bF ⟨rfl,j.drop 1⟩⟩;exact Et<|bU<|aI<|AI<|Ej hk hm<|bI ((ab+1:Nat):Int)<|w_<|oi o▸⟨rfl,j.sp 1 [0]⟩;intro r U w o hK;exact aR<|oi o▸hK;rintro ai _ w o⟨O,rfl,j⟩;exact aI<|r_<|aJ 0<|s_<|AS<|oi o▸bF ⟨rfl,j.drop 1⟩
theorem mg{p0:List aL}{p2:aL->Option Bool}(o:Holds E w V)(h0:V[i0]? =some (rd v0 p0))(h2:vB bC E V v2 p2 (λ(r:Bool)=>Value.bool r))(j:dV N p0 p1 p2 p3=some res):c_ 20 [v0,vi p1,v2,vi p3] w<|aC E V res:=by
 unfold dV at j;refine enter Tryz.func20 zr zr ?_;have o:=o.dup (i0+0) h0;refine r_<|aJ 0<|x_<|r_<|mv v0<|C_ 0 p0 o tH<|bI p1<|ic ((p0.length:Int)) p1<|s_<|eT j (λj=>?_) λj=>?_;exact r_<|aJ 2<|s_<|Eg<|oi j▸bF ⟨rfl,o.drop 1⟩;refine El<|r_<|mv v0<|C_ 0 p0 o tH<|bI 0<|s_<|EB E V (λ(ah:Unit)=>[rd v0 p0]) (λ_=>[]) (λab _=>[(0,v0),(2,v2),(3,vi p3),(15,v0),(16,vi p0.length),(17,vi ab)]) (λr=>jA bC 39 Tryz.f20 (aC E V r) .ret) j ?_ ?_ ?_ ?_;exact o.sp 1 [0];rintro hm ab ah fl _ w hk⟨O,rfl,o⟩j;refine A_<|Eh<|bI (ab:Int)<|q_ j λad ak j=>BY 0 o rk ak λau o=>Ey ad 0 zt o gA<|aJ (ab:Int)<|ke (str ad)<|x_<|r_<|mv v2<|mv (str ad) ?_;have o:=o.sc aL ad;refine q_ j λal an j=>E2 0 o h2 3 an λw o=>ED al<|s_<|eT j (λj=>?_) λj=>?_;exact r_<|bI p3<|aJ p3<|s_<|Eg<|cR<|aR<|oi j▸⟨rfl,bF ⟨rfl,o.drop 3⟩⟩;refine El<|q_ j λag hj j=>En (λ(ag:Bool)=>SH E V [(0,v0),(2,v2),(3,vi p3),(15,v0),(16,vi p0.length),(17,vi ab),(37,vb ag)] [rd v0 p0]) ag ?_ ?_;refine AI<|bI (ab:Int)<|ic ((ab:Int)) 0<|jT (decide<|(ab:Int)>0)<|jd hj (λaa hj=>?_) λaa hj=>?_;refine D_ (str ad) (cg aa)<|D_ v0 (cg aa)<|D_ (vi ab) (cg aa)<|Er (hg:=cg aa) (ab:Int) 1<|q_ hj λaf ao hj=>BY (hg:=cg aa) 2 o rk ao λav o=>Ey af 0 (cg aa) o gA<|EO ad af (cg aa)<|jx aa (vb<|ad.mx af||ad.iw af)<|w_ ?_;exact oi hj▸⟨rfl,o.sp 4 [3]⟩;exact cB aa<|cB aa<|cB aa<|cB aa<|cB aa<|cB aa<|cB aa<|jx aa (vb false)<|w_<|oi hj▸⟨rfl,o.sp 3 [2]⟩;rintro _ w⟨O,rfl,o⟩;refine aI<|eT j (λj=>?_) λj=>?_;exact r_<|aJ 8<|s_<|Ek<|aR<|oi j▸⟨rfl,bF ⟨rfl,o.drop 1⟩⟩;exact Et<|bU<|aI<|AI<|Ej hk hm<|bI ((ab+1:Nat):Int)<|w_<|oi j▸⟨rfl,o.sp 1 [0]⟩;intro r U w j hK;exact aR<|oi j▸hK;rintro ah _ w j⟨O,rfl,o⟩;exact aI<|r_<|aJ 0<|s_<|AS<|oi j▸bF ⟨rfl,o.drop 1⟩
theorem gH{p0:List aD}{p1:aL}{p2:aD->aL->Option Int}{res:Int×Bool}(o:Holds E w V)(h0:V[i0]? =some (rd v0 p0))(h2:Ao bC E V v2 p2 (λ(r:Int)=>Value.int .i64 r))(hb:bW N p0 p1 p2=some res):c_ 63 [v0,str p1,v2] w<|cK E V res:=by
 unfold bW at hb;refine enter Tryz.func63 zr zr ?_;have o:=o.dup (i0+0) h0;refine r_<|aJ 0<|bT false<|v_<|mv v0<|C_ 0 p0 o AA<|aJ (p0.length:Int)<|v_<|bI (p0.length:Int)<|aJ 0<|aJ (p0.length:Int)<|x_<|Fv E V (λ(j:Int×Int)=>[rd v0 p0]) (λj=>[(0,v0),(1,str p1),(2,v2),(8,vi p0.length),(9,vi j.1)]) (λj=>[(10,vi j.2)]) hb ?_ ?_ ?_;exact o.sp 1 [0];rintro j fl _ w⟨O,rfl,o⟩hb;refine A_<|r_<|bI j.1<|bI j.2<|ic j.1 j.2<|s_<|eT hb (λhb=>?_) λhb=>?_;refine EY<|Eh<|bI j.1<|bI j.2<|Er j.1 j.2<|Fb (wrap .i64<|j.1+j.2) ⟨_,zF⟩ sM<|Fw (v:=(.int .u64<|wrap .u64<|wrap .i64<|j.1+j.2)) (v':=(.int .u64 1)) (u:=(.int .u64<|Int.fdiv (wrap .u64<|wrap .i64<|j.1+j.2) 2)) zt zr zr zr<|Fb (Int.fdiv (wrap .u64<|wrap .i64<|j.1+j.2) 2) ⟨_,sM⟩ zF<|aJ (wrap .i64<|Int.fdiv (wrap .u64<|wrap .i64<|j.1+j.2) 2) ?_;refine v_<|mv v2<|mv v0<|bI (wrap .i64<|Int.fdiv (wrap .u64<|wrap .i64<|j.1+j.2) 2)<|q_ hb λah ai hb=>BY 0 o vI ai λar o=>By 0 ah o ym λau o=>mv (str p1) ?_;have o:=o.sc aL p1;refine q_ hb λaj ak hb=>Fc 1 0 zt o h2 4 ak λw o=>ic aj 0<|s_<|q_ hb λae hj hb=>En (λ(ae:Int×Int)=>SH E V [(0,v0),(1,str p1),(2,v2),(8,vi p0.length),(9,vi ae.1),(10,vi ae.2)] [rd v0 p0]) ae ?_ ?_;refine eT hj (λhj=>?_) λhj=>?_;refine AI<|bI (wrap .i64<|Int.fdiv (wrap .u64<|wrap .i64<|j.1+j.2) 2)<|Er (wrap .i64<|Int.fdiv (wrap .u64<|wrap .i64<|j.1+j.2) 2) 1<|aJ (wrap .i64<|wrap .i64 (Int.fdiv (wrap .u64<|wrap .i64<|j.1+j.2) 2)+1)<|w_ ?_;exact oi hj▸⟨rfl,o.sp 4 [3]⟩;refine AI<|bI (wrap .i64<|Int.fdiv (wrap .u64<|wrap .i64<|j.1+j.2) 2)<|aJ (wrap .i64<|Int.fdiv (wrap .u64<|wrap .i64<|j.1+j.2) 2)<|w_ ?_;exact oi hj▸⟨rfl,o.sp 4 [3]⟩;rintro _ w⟨O,rfl,o⟩;exact bU<|oi hb▸⟨rfl,o.sp 1 [0]⟩;exact ET<|oi hb▸⟨rfl,o.sp 1 [0]⟩;rintro j _ w hb⟨O,rfl,o⟩;refine aI<|A_<|q_ hb λaf hj hb=>En (λ(af:Bool)=>SH E V [(6,vi j.1),(7,vb af)] []) af ?_ ?_;refine AI<|bI j.1<|bI j.1<|bI (p0.length:Int)<|ic j.1 ((p0.length:Int))<|jT (decide<|j.1<(p0.length:Int))<|jd hj (λaa hj=>?_) λaa hj=>?_;refine D_ v2 (cg aa)<|D_ v0 (cg aa)<|D_ (vi j.1) (cg aa)<|q_ hj λal an hj=>BY (hg:=cg aa) 0 o vI an λav o=>By (hg:=cg aa) 0 al o ym λaw o=>D_ (str p1) (cg aa) ?_;have o:=o.sc aL p1;refine q_ hj λag ao hj=>Fc 1 0 (cg aa) o h2 4 ao λw o=>EJ ag 0 (cg aa)<|jx aa (vb<|ag==0)<|aJ j.1<|bT (ag==0)<|w_ ?_;exact oi hj▸⟨rfl,o.sp 4 []⟩;refine cB aa<|cB aa<|cB aa<|cB aa<|cB aa<|cB aa<|cB aa<|cB aa<|jx aa (vb false)<|aJ j.1<|bT false<|w_ ?_;exact oi hj▸⟨rfl,o.sp 1 []⟩;rintro _ w⟨O,rfl,o⟩;exact aI<|AS<|oi hb▸xP zr zr zr ⟨rfl,o.drop 0⟩
theorem ll{p0 p1:aL}(o:Holds E w V)(j:gR N p0 p1=some res):c_ 55 [str p0,str p1] w<|aC E V res:=by
 unfold gR at j;refine enter Tryz.func55 zr zr<|r_<|aJ 0<|v_<|mv (str p0)<|mv (str p1)<|FJ (vi<|Lib.compareBytes p0.aU p1.aU) zr [str p0,str p1] zr (z8 p0 p1 w)<|aJ (Lib.compareBytes p0.aU p1.aU)<|s_ ?_;exact AS<|oi j▸bF ⟨rfl,o.drop 0⟩
theorem cX{p0 p1:aL}(o:Holds E w V)(j:cI N p0 p1=some res):c_ 31 [str p0,str p1] w<|aC E V res:=by
 unfold cI at j;exact enter Tryz.func31 zr zr<|r_<|aJ 0<|v_<|mv (str p0)<|mv (str p1)<|q_ j λaa ab j=>y_ (hZ Tryz.func55) (ll N (p0:=p0) (p1:=p1) o ab) λw o=>aJ aa<|s_<|AS<|oi j▸bF ⟨rfl,o.drop 0⟩
theorem ng{p0:aD}{p1:aL}(j:Holds E w V)(h0:V[i0]? =some (rd v0 p0))(o:eL N p0 p1=some res):c_ 64 [v0,str p1] w<|aC E V res:=by
 unfold eL at o;refine enter Tryz.func64 zr zr ?_;have j:=j.dup (i0+0) h0;refine r_<|Ep 0 v0 j zr λad w j=>?_;exact aJ 0<|v_<|u_ zr tA<|AT 0 j zr jy gA<|mv (str p1)<|q_ o λaa ab o=>y_ uN (cX N (p0:=p0.Name) (p1:=p1) j ab) λw j=>aJ aa<|s_<|AS<|oi o▸bF ⟨rfl,j.drop 2⟩
theorem i4{p0:List aD}{p1:aL}(hw:Holds E w V)(h0:V[i0]? =some (rd v0 p0))(hb:fF N p0 p1=some res):c_ 40 [v0,str p1] w<|aC E V res:=by
 unfold fF at hb;refine enter Tryz.func40 zr zr ?_;have hw:=hw.dup (i0+0) h0;refine r_<|aJ 0<|v_<|mv v0<|mv (str p1) ?_;refine q_ hb λo ad hb=>y_ (hZ Tryz.func63) (gH N (p1:=p1) (i0:=0) hw rfl ⟨64,[],rfl,(hZ Tryz.func64),λw Γl v v' y0 y1 r i j hw hi hj hr=>by obtain rfl:=hw.oO (γ:=aL) hj;exact dU (ng N (p1:=y1) (i0:=i) hw hi hr) λ_ _ h=>h⟩ ad) λw hw=>mv (.tuple #[vi o.1,vb o.2])<|Ex (vi o.1)<|Ex (vb o.2)<|aJ o.1<|bT o.2<|x_<|r_<|jT o.2 ?_;refine ED o.2<|s_<|eT hb (λhb=>?_) λhb=>?_;exact r_<|aJ (-1)<|s_<|Eg<|oi hb▸bF ⟨rfl,hw.drop 1⟩;exact EE<|bI o.1<|aJ o.1<|s_<|AS<|oi hb▸bF ⟨rfl,hw.drop 1⟩
theorem jh{p0:List aD}{p1:List Part}{p2:aL->Option Bool}(j:Holds E w V)(h0:V[i0]? =some (rd v0 p0))(h1:V[i1]? =some (rd v1 p1))(h2:vB bC E V v2 p2 (λ(r:Bool)=>Value.bool r))(o:cF N p0 p1 p2=some res):c_ 14 [v0,v1,v2] w<|aC E V res:=by
 unfold cF at o;refine enter Tryz.func14 zr zr ?_;have j:=(j.dup (i0+0) h0).dup (i1+1) h1;refine r_<|aJ 0<|x_<|r_<|mv v1<|C_ 0 p1 j uM<|ic ((p1.length:Int)) 1000<|s_<|eT o (λo=>?_) λo=>?_;exact r_<|aJ 2<|s_<|Eg<|oi o▸bF ⟨rfl,j.drop 2⟩;refine El<|r_<|mv v1<|C_ 0 p1 j uM<|bI 0<|s_<|EB E V (λ(ah:Unit)=>[rd v0 p0,rd v1 p1]) (λ_=>[]) (λab _=>[(0,v0),(1,v1),(2,v2),(12,v1),(13,vi p1.length),(14,vi ab)]) (λr=>jA bC 46 Tryz.f14 (aC E V r) .ret) o ?_ ?_ ?_ ?_;exact j.sp 2 [1,0];rintro hm ab ah fl _ w hk⟨O,rfl,j⟩o;refine A_<|Eh<|bI (ab:Int)<|q_ o λad an o=>BY 1 j r6 an λaw j=>By 0 ad j qq λax j=>Em j yo.z λay w j=>?_;refine aJ (ab:Int)<|Ei 0 j 1 zr qq λw j=>?_;refine s_<|Eh<|mv v2<|u_ zr mc<|AT 0 j zr ig gA ?_;have j:=j.sc aL ad.Name;refine q_ o λai ao o=>E2 0 j h2 6 ao λw j=>ED ai<|bT (!ai)<|s_<|eT o (λo=>?_) λo=>?_;exact r_<|aJ 5<|s_<|Ek<|cR<|aR<|oi o▸⟨rfl,bF ⟨rfl,j.drop 6⟩⟩;refine r_<|mv v0<|u_ zr tI<|AT 1 j zr nO gA<|q_ o λaj aq o=>y_ AD (i4 N (p1:=ad.eC) (i0:=4) j zr aq) λw j=>ic aj 0<|bT (decide<|aj<0)<|s_<|eT o (λo=>?_) λo=>?_;exact r_<|aJ 9<|s_<|Ek<|cR<|aR<|oi o▸⟨rfl,bF ⟨rfl,j.drop 6⟩⟩;refine A_<|q_ o λag hj o=>En (λ(ag:Bool)=>SH E V [(0,v0),(1,v1),(2,v2),(12,v1),(13,vi p1.length),(14,vi ab),(31,vb ag)] [rd v0 p0,rd v1 p1]) ag ?_ ?_;refine E9 mixed ?_;have j:=j.drew;refine E8<|bI (ab:Int)<|t_<|ic ((ab:Int)) 0<|t_<|jT (decide<|(ab:Int)>0)<|jd hj (λaa hj=>?_) λaa hj=>?_;refine t_<|u_ (hg:=cg aa) zr mc<|t_<|AT (hg:=cg aa) 1 j zr ig gA<|t_<|D_ v1 (cg aa)<|t_<|D_ (vi ab) (cg aa)<|t_<|Er (hg:=cg aa) (ab:Int) 1<|t_ ?_;refine q_ hj λaf ar hj=>BY (hg:=cg aa) 5 j r6 ar λaz j=>t_<|Eo (hg:=cg aa) 0 j zr mc ig λa0 j=>t_<|Ey af.Name 0 (cg aa) j gA<|t_<|EO ad.Name af.Name (cg aa)<|t_<|jx aa (vb<|ad.Name.mx af.Name||ad.Name.iw af.Name)<|t_<|bT (ad.Name.mx af.Name||ad.Name.iw af.Name)<|EN ?_;exact oi hj▸⟨rfl,j.sp 8 [6,7]⟩;refine t_<|cB aa<|t_<|cB aa<|t_<|cB aa<|t_<|cB aa<|t_<|cB aa<|t_<|cB aa<|t_<|cB aa<|t_<|cB aa<|t_<|cB aa ?_;exact t_<|jx aa (vb false)<|t_<|bT false<|EN<|oi hj▸⟨rfl,j.sp 6 [4,5]⟩;rintro _ w⟨O,rfl,j⟩;refine aI<|eT o (λo=>?_) λo=>?_;exact r_<|aJ 8<|s_<|Ek<|cR<|aR<|oi o▸⟨rfl,bF ⟨rfl,j.drop 2⟩⟩;exact Et<|bU<|bU<|aI<|AI<|Ej hk hm<|bI ((ab+1:Nat):Int)<|w_<|oi o▸⟨rfl,j.sp 2 [0,1]⟩;intro r U w o hK;exact aR<|oi o▸hK;rintro ah _ w o⟨O,rfl,j⟩;exact aI<|r_<|aJ 0<|s_<|AS<|oi o▸bF ⟨rfl,j.drop 2⟩
theorem hL{p0:List Part}{p1:aL}{p2:Part->aL->Option Int}{res:Int×Bool}(o:Holds E w V)(h0:V[i0]? =some (rd v0 p0))(h2:Ao bC E V v2 p2 (λ(r:Int)=>Value.int .i64 r))(hb:cE N p0 p1 p2=some res):c_ 67 [v0,str p1,v2] w<|cK E V res:=by
 unfold cE at hb;refine enter Tryz.func67 zr zr ?_;have o:=o.dup (i0+0) h0;refine r_<|aJ 0<|bT false<|v_<|mv v0<|C_ 0 p0 o uM<|aJ (p0.length:Int)<|v_<|bI (p0.length:Int)<|aJ 0<|aJ (p0.length:Int)<|x_<|Fv E V (λ(j:Int×Int)=>[rd v0 p0]) (λj=>[(0,v0),(1,str p1),(2,v2),(8,vi p0.length),(9,vi j.1)]) (λj=>[(10,vi j.2)]) hb ?_ ?_ ?_;exact o.sp 1 [0];rintro j fl _ w⟨O,rfl,o⟩hb;refine A_<|r_<|bI j.1<|bI j.2<|ic j.1 j.2<|s_<|eT hb (λhb=>?_) λhb=>?_;refine EY<|Eh<|bI j.1<|bI j.2<|Er j.1 j.2<|Fb (wrap .i64<|j.1+j.2) ⟨_,zF⟩ sM<|Fw (v:=(.int .u64<|wrap .u64<|wrap .i64<|j.1+j.2)) (v':=(.int .u64 1)) (u:=(.int .u64<|Int.fdiv (wrap .u64<|wrap .i64<|j.1+j.2) 2)) zt zr zr zr<|Fb (Int.fdiv (wrap .u64<|wrap .i64<|j.1+j.2) 2) ⟨_,sM⟩ zF<|aJ (wrap .i64<|Int.fdiv (wrap .u64<|wrap .i64<|j.1+j.2) 2) ?_;refine v_<|mv v2<|mv v0<|bI (wrap .i64<|Int.fdiv (wrap .u64<|wrap .i64<|j.1+j.2) 2)<|q_ hb λah ai hb=>BY 0 o r6 ai λar o=>By 0 ah o qq λau o=>mv (str p1) ?_;have o:=o.sc aL p1;refine q_ hb λaj ak hb=>Fc 1 0 zt o h2 4 ak λw o=>ic aj 0<|s_<|q_ hb λae hj hb=>En (λ(ae:Int×Int)=>SH E V [(0,v0),(1,str p1),(2,v2),(8,vi p0.length),(9,vi ae.1),(10,vi ae.2)] [rd v0 p0]) ae ?_ ?_;refine eT hj (λhj=>?_) λhj=>?_;refine AI<|bI (wrap .i64<|Int.fdiv (wrap .u64<|wrap .i64<|j.1+j.2) 2)<|Er (wrap .i64<|Int.fdiv (wrap .u64<|wrap .i64<|j.1+j.2) 2) 1<|aJ (wrap .i64<|wrap .i64 (Int.fdiv (wrap .u64<|wrap .i64<|j.1+j.2) 2)+1)<|w_ ?_;exact oi hj▸⟨rfl,o.sp 4 [3]⟩;refine AI<|bI (wrap .i64<|Int.fdiv (wrap .u64<|wrap .i64<|j.1+j.2) 2)<|aJ (wrap .i64<|Int.fdiv (wrap .u64<|wrap .i64<|j.1+j.2) 2)<|w_ ?_;exact oi hj▸⟨rfl,o.sp 4 [3]⟩;rintro _ w⟨O,rfl,o⟩;exact bU<|oi hb▸⟨rfl,o.sp 1 [0]⟩;exact ET<|oi hb▸⟨rfl,o.sp 1 [0]⟩;rintro j _ w hb⟨O,rfl,o⟩;refine aI<|A_<|q_ hb λaf hj hb=>En (λ(af:Bool)=>SH E V [(6,vi j.1),(7,vb af)] []) af ?_ ?_;refine AI<|bI j.1<|bI j.1<|bI (p0.length:Int)<|ic j.1 ((p0.length:Int))<|jT (decide<|j.1<(p0.length:Int))<|jd hj (λaa hj=>?_) λaa hj=>?_;refine D_ v2 (cg aa)<|D_ v0 (cg aa)<|D_ (vi j.1) (cg aa)<|q_ hj λal an hj=>BY (hg:=cg aa) 0 o r6 an λav o=>By (hg:=cg aa) 0 al o qq λaw o=>D_ (str p1) (cg aa) ?_;have o:=o.sc aL p1;refine q_ hj λag ao hj=>Fc 1 0 (cg aa) o h2 4 ao λw o=>EJ ag 0 (cg aa)<|jx aa (vb<|ag==0)<|aJ j.1<|bT (ag==0)<|w_ ?_;exact oi hj▸⟨rfl,o.sp 4 []⟩;refine cB aa<|cB aa<|cB aa<|cB aa<|cB aa<|cB aa<|cB aa<|cB aa<|jx aa (vb false)<|aJ j.1<|bT false<|w_ ?_;exact oi hj▸⟨rfl,o.sp 1 []⟩;rintro _ w⟨O,rfl,o⟩;exact aI<|AS<|oi hb▸xP zr zr zr ⟨rfl,o.drop 0⟩
theorem nj{p0:Part}{p1:aL}(j:Holds E w V)(h0:V[i0]? =some (rd v0 p0))(o:eM N p0 p1=some res):c_ 68 [v0,str p1] w<|aC E V res:=by
 unfold eM at o;refine enter Tryz.func68 zr zr ?_;have j:=j.dup (i0+0) h0;refine r_<|Ep 0 v0 j zr λad w j=>?_;exact aJ 0<|v_<|u_ zr mc<|AT 0 j zr ig gA<|mv (str p1)<|q_ o λaa ab o=>y_ uN (cX N (p0:=p0.Name) (p1:=p1) j ab) λw j=>aJ aa<|s_<|AS<|oi o▸bF ⟨rfl,j.drop 2⟩
theorem kU{p0:List Part}{p1:aL}(hw:Holds E w V)(h0:V[i0]? =some (rd v0 p0))(hb:gq N p0 p1=some res):c_ 44 [v0,str p1] w<|aC E V res:=by
 unfold gq at hb;refine enter Tryz.func44 zr zr ?_;have hw:=hw.dup (i0+0) h0;refine r_<|aJ 0<|v_<|mv v0<|mv (str p1) ?_;refine q_ hb λo ad hb=>y_ (hZ Tryz.func67) (hL N (p1:=p1) (i0:=0) hw rfl ⟨68,[],rfl,(hZ Tryz.func68),λw Γl v v' y0 y1 r i j hw hi hj hr=>by obtain rfl:=hw.oO (γ:=aL) hj;exact dU (nj N (p1:=y1) (i0:=i) hw hi hr) λ_ _ h=>h⟩ ad) λw hw=>mv (.tuple #[vi o.1,vb o.2])<|Ex (vi o.1)<|Ex (vb o.2)<|aJ o.1<|bT o.2<|x_<|r_<|jT o.2 ?_;refine ED o.2<|s_<|eT hb (λhb=>?_) λhb=>?_;exact r_<|aJ (-1)<|s_<|Eg<|oi hb▸bF ⟨rfl,hw.drop 1⟩;exact EE<|bI o.1<|aJ o.1<|s_<|AS<|oi hb▸bF ⟨rfl,hw.drop 1⟩
theorem mE{p0:aF}{p1:aL}{res:Bool}(j:Holds E w V)(h0:V[i0]? =some (rd v0 p0))(h1:V[i1]? =some (pt v1 p1))(o:fG N p0 p1=some res):c_ 25 [v0,v1] w<|bH E V res:=by
 unfold fG at o;refine enter Tryz.func25 zr zr ?_;have j:=(j.dup (i0+0) h0).mO (i:=i1+1) h1;refine r_<|Ep 1 v0 j zr λaa w j=>?_;exact bT false<|v_<|u_ zr tF<|AT 0 j zr mb gA<|Ey p1 1 zt j gA<|EO p0.Name p1 zt<|bT (p0.Name.iw p1)<|s_<|AS<|oi o▸bF ⟨rfl,j.drop 3⟩
theorem kN{p0:List aF}{p1:aF->Option Bool}(o:Holds E w V)(h0:V[i0]? =some (rd v0 p0))(h1:vB bC E V v1 p1 (λ(r:Bool)=>Value.bool r))(j:gE N p0 p1=some res):c_ 24 [v0,v1] w<|aC E V res:=by
 unfold gE at j;refine enter Tryz.func24 zr zr ?_;have o:=o.dup (i0+0) h0;refine r_<|aJ 0<|x_<|r_<|mv v0<|C_ 0 p0 o yn<|bI 0<|s_<|EB E V (λ(ab:Unit)=>[rd v0 p0]) (λ_=>[]) (λaa _=>[(0,v0),(1,v1),(7,vi p0.length),(8,vi aa)]) (λr=>jA bC 19 Tryz.f24 (aC E V r) .ret) j ?_ ?_ ?_ ?_;exact o.sp 1 [0];rintro hm aa ab fl _ w hk⟨O,rfl,o⟩j;refine A_<|Eh<|bI (aa:Int)<|aJ (aa:Int)<|v_<|mv v1<|mv v0<|bI (aa:Int)<|q_ j λaf ag j=>BY 0 o tE ag λak o=>By 0 af o vL λal o=>?_;refine q_ j λan ah j=>E2 0 o h1 3 ah λw o=>s_<|eT j (λj=>?_) λj=>?_;exact r_<|bI (aa:Int)<|aJ (aa:Int)<|s_<|Ek<|aR<|oi j▸⟨rfl,bF ⟨rfl,o.drop 3⟩⟩;exact Et<|bU<|aI<|AI<|Ej hk hm<|bI ((aa+1:Nat):Int)<|w_<|oi j▸⟨rfl,o.sp 3 [2]⟩;intro r U w j hK;exact aR<|oi j▸hK;rintro ab _ w j⟨O,rfl,o⟩;exact aI<|r_<|aJ (-1)<|s_<|AS<|oi j▸bF ⟨rfl,o.drop 1⟩
theorem eB{p0:List aF}{p1:aL}(j:Holds E w V)(h0:V[i0]? =some (rd v0 p0))(o:cJ N p0 p1=some res):c_ 8 [v0,str p1] w<|aC E V res:=by
 unfold cJ at o;refine enter Tryz.func8 zr zr ?_;have j:=j.dup (i0+0) h0;refine r_ ?_;have j:=j.sc aL p1;refine Ep 0 (str p1) j zr λaa w j=>?_;have j:=j.ib (i:=0) rfl;refine aJ 0<|v_<|mv v0<|Fp zr [vp aa 0] zr ?_;refine q_ o λab ad o=>y_ (hZ Tryz.func24) (kN N (i0:=2) j rfl ⟨25,[vp aa 0],rfl,(hZ Tryz.func25),λw Γl v y0 r i j hi hr=>by exact dU (mE N (i0:=i) (i1:=Γl.length+0) j hi mM hr) λ_ _ h=>h⟩ ad) λw j=>aJ ab<|s_<|AS ?_;exact oi o▸bF ⟨rfl,j.drop 3⟩
theorem nr{p0:List aF}{p1:aF}(j:Holds E w V)(h0:V[i0]? =some (rd v0 p0))(h1:V[i1]? =some (rd v1 p1))(o:eN N p0 p1=some res):c_ 21 [v0,v1] w<|aC E V res:=by
 unfold eN at o;refine enter Tryz.func21 zr zr ?_;have j:=(j.dup (i0+0) h0).dup (i1+1) h1;refine r_<|Ep 0 v1 j zr λag w j=>?_;refine aJ 0<|x_<|r_<|u_ zr me<|Es 0 j zr gF tJ λaz j=>C_ 0 p1.Uses j xa<|ic ((p1.Uses.length:Int)) 100<|s_<|eT o (λo=>?_) λo=>?_;exact r_<|aJ 2<|s_<|Eg<|oi o▸bF ⟨rfl,j.drop 4⟩;refine El<|r_<|u_ zr me<|Es 1 j zr gF tJ λah j=>C_ 0 p1.Uses j xa<|bI 0<|s_<|EB E V (λ(aj:Unit)=>[rd v0 p0,bx 73 ag p1,rd ah p1.Uses]) (λ_=>[]) (λab _=>[(0,v0),(3,vp ag 0),(12,ah),(13,vi p1.Uses.length),(14,vi ab)]) (λr=>jA bC 53 Tryz.f21 (aC E V r) .ret) o ?_ ?_ ?_ ?_;exact j.sp 5 [4,2,0];rintro hm ab aj fl _ w hk⟨O,rfl,j⟩o;refine A_<|Eh<|bI (ab:Int)<|q_ o λad ar o=>BY 2 j vN ar λa1 j=>By 0 ad j tK λa2 j=>Em j zG.z λa3 w j=>?_;refine aJ (ab:Int)<|Ei 0 j 1 zr tK λw j=>?_;refine s_<|Eh<|u_ zr oC<|AT 0 j zr kp gA<|q_ o λak au o=>y_ uL (dE N (p0:=ad.Name) j au) λw j=>ED ak<|bT (!ak)<|s_<|eT o (λo=>?_) λo=>?_;exact r_<|aJ 5<|s_<|Ek<|cR<|aR<|oi o▸⟨rfl,bF ⟨rfl,j.drop 6⟩⟩;refine r_<|u_ zr rl<|Es 4 j zr kq o5 λa4 j=>u_ zr oC<|AT 1 j zr kp gA<|q_ o λal av o=>y_ BA (kU N (p1:=ad.Name) (i0:=0) j zr av) λw j=>ic al 0<|bT (decide<|al>=0)<|s_<|eT o (λo=>?_) λo=>?_;exact r_<|aJ 7<|s_<|Ek<|cR<|aR<|oi o▸⟨rfl,bF ⟨rfl,j.drop 7⟩⟩;refine r_<|mv v0<|u_ zr rm<|AT 1 j zr m0 gA<|q_ o λan aw o=>y_ A2 (eB N (p1:=ad.aF) (i0:=4) j zr aw) λw j=>ic an 0<|bT (decide<|an<0)<|s_<|eT o (λo=>?_) λo=>?_;exact r_<|aJ 9<|s_<|Ek<|cR<|aR<|oi o▸⟨rfl,bF ⟨rfl,j.drop 7⟩⟩;refine A_<|q_ o λai hj o=>En (λ(ai:Bool)=>SH E V [(0,v0),(3,vp ag 0),(12,ah),(13,vi p1.Uses.length),(14,vi ab),(37,vb ai)] [rd v0 p0,bx 73 ag p1,rd ah p1.Uses]) ai ?_ ?_;refine E9 mixed ?_;have j:=j.drew;refine E8<|bI (ab:Int)<|t_<|ic ((ab:Int)) 0<|t_<|jT (decide<|(ab:Int)>0)<|jd hj (λaa hj=>?_) λaa hj=>?_;refine t_<|u_ (hg:=cg aa) zr oC<|t_<|AT (hg:=cg aa) 1 j zr kp gA<|t_<|u_ (hg:=cg aa) zr me<|t_<|Es (hg:=cg aa) 5 j zr gF tJ λa5 j=>t_<|D_ (vi ab) (cg aa)<|t_<|Er (hg:=cg aa) (ab:Int) 1<|t_ ?_;refine q_ hj λaf ax hj=>BY (hg:=cg aa) 0 j vN ax λa6 j=>t_<|Eo (hg:=cg aa) 0 j zr oC kp λa7 j=>t_<|Ey af.Name 0 (cg aa) j gA<|t_<|EO ad.Name af.Name (cg aa)<|t_<|jx aa (vb<|ad.Name.mx af.Name||ad.Name.iw af.Name)<|t_<|bT (ad.Name.mx af.Name||ad.Name.iw af.Name)<|EN ?_;exact oi hj▸⟨rfl,j.sp 10 [7,8,9]⟩;refine t_<|cB aa<|t_<|cB aa<|t_<|cB aa<|t_<|cB aa<|t_<|cB aa<|t_<|cB aa<|t_<|cB aa<|t_<|cB aa<|t_<|cB aa ?_;exact t_<|cB aa<|t_<|jx aa (vb false)<|t_<|bT false<|EN<|oi hj▸⟨rfl,j.sp 7 [4,5,6]⟩;rintro _ w⟨O,rfl,j⟩;refine aI<|eT o (λo=>?_) λo=>?_;exact r_<|aJ 8<|s_<|Ek<|cR<|aR<|oi o▸⟨rfl,bF ⟨rfl,j.drop 3⟩⟩;exact Et<|bU<|bU<|aI<|AI<|Ej hk hm<|bI ((ab+1:Nat):Int)<|w_<|oi o▸⟨rfl,j.sp 3 [0,1,2]⟩;intro r U w o hK;exact aR<|oi o▸hK;rintro aj _ w o⟨O,rfl,j⟩;exact aI<|r_<|aJ 0<|s_<|AS<|oi o▸bF ⟨rfl,j.drop 3⟩
theorem n7{p0:iU}{p1:aL}{res:Bool}(j:Holds E w V)(h0:V[i0]? =some (rd v0 p0))(h1:V[i1]? =some (pt v1 p1))(o:gr N p0 p1=some res):c_ 50 [v0,v1] w<|bH E V res:=by
 unfold gr at o;refine enter Tryz.func50 zr zr ?_;have j:=(j.dup (i0+0) h0).mO (i:=i1+1) h1;refine r_<|Ep 1 v0 j zr λaa w j=>?_;exact bT false<|v_<|u_ zr oC<|AT 0 j zr kp gA<|Ey p1 1 zt j gA<|EO p0.Name p1 zt<|bT (p0.Name.iw p1)<|s_<|AS<|oi o▸bF ⟨rfl,j.drop 3⟩
theorem lK{p0:List iU}{p1:iU->Option Bool}(o:Holds E w V)(h0:V[i0]? =some (rd v0 p0))(h1:vB bC E V v1 p1 (λ(r:Bool)=>Value.bool r))(j:gZ N p0 p1=some res):c_ 49 [v0,v1] w<|aC E V res:=by
 unfold gZ at j;refine enter Tryz.func49 zr zr ?_;have o:=o.dup (i0+0) h0;refine r_<|aJ 0<|x_<|r_<|mv v0<|C_ 0 p0 o xa<|bI 0<|s_<|EB E V (λ(ab:Unit)=>[rd v0 p0]) (λ_=>[]) (λaa _=>[(0,v0),(1,v1),(7,vi p0.length),(8,vi aa)]) (λr=>jA bC 19 Tryz.f49 (aC E V r) .ret) j ?_ ?_ ?_ ?_;exact o.sp 1 [0];rintro hm aa ab fl _ w hk⟨O,rfl,o⟩j;refine A_<|Eh<|bI (aa:Int)<|aJ (aa:Int)<|v_<|mv v1<|mv v0<|bI (aa:Int)<|q_ j λaf ag j=>BY 0 o vN ag λak o=>By 0 af o tK λal o=>?_;refine q_ j λan ah j=>E2 0 o h1 3 ah λw o=>s_<|eT j (λj=>?_) λj=>?_;exact r_<|bI (aa:Int)<|aJ (aa:Int)<|s_<|Ek<|aR<|oi j▸⟨rfl,bF ⟨rfl,o.drop 3⟩⟩;exact Et<|bU<|aI<|AI<|Ej hk hm<|bI ((aa+1:Nat):Int)<|w_<|oi j▸⟨rfl,o.sp 3 [2]⟩;intro r U w j hK;exact aR<|oi j▸hK;rintro ab _ w j⟨O,rfl,o⟩;exact aI<|r_<|aJ (-1)<|s_<|AS<|oi j▸bF ⟨rfl,o.drop 1⟩
theorem lL{p0:List iU}{p1:aL}(j:Holds E w V)(h0:V[i0]? =some (rd v0 p0))(o:eY N p0 p1=some res):c_ 26 [v0,str p1] w<|aC E V res:=by
 unfold eY at o;refine enter Tryz.func26 zr zr ?_;have j:=j.dup (i0+0) h0;refine r_ ?_;have j:=j.sc aL p1;refine Ep 0 (str p1) j zr λaa w j=>?_;have j:=j.ib (i:=0) rfl;refine aJ 0<|v_<|mv v0<|Fp zr [vp aa 0] zr ?_;refine q_ o λab ad o=>y_ (hZ Tryz.func49) (lK N (i0:=2) j rfl ⟨50,[vp aa 0],rfl,(hZ Tryz.func50),λw Γl v y0 r i j hi hr=>by exact dU (n7 N (i0:=i) (i1:=Γl.length+0) j hi mM hr) λ_ _ h=>h⟩ ad) λw j=>aJ ab<|s_<|AS ?_;exact oi o▸bF ⟨rfl,j.drop 3⟩
theorem mi{p0:List aL}{p1:aL}(o:Holds E w V)(h0:V[i0]? =some (rd v0 p0))(j:iy N p0 p1=some res):c_ 72 [v0,str p1] w<|aC E V res:=by
 unfold iy at j;refine enter Tryz.func72 zr zr ?_;have o:=o.dup (i0+0) h0;refine r_<|aJ 0<|x_<|r_<|mv v0<|C_ 0 p0 o tH<|bI 0<|s_<|EB E V (λ(ab:Unit)=>[rd v0 p0]) (λ_=>[]) (λaa _=>[(0,v0),(1,str p1),(7,vi p0.length),(8,vi aa)]) (λr=>jA bC 19 Tryz.f72 (aC E V r) .ret) j ?_ ?_ ?_ ?_;exact o.sp 1 [0];rintro hm aa ab fl _ w hk⟨O,rfl,o⟩j;refine A_<|Eh<|bI (aa:Int)<|aJ (aa:Int)<|v_<|mv (str p1)<|mv v0<|bI (aa:Int)<|q_ j λad ag j=>BY 0 o rk ag λaj o=>Ey ad 0 zt o gA<|EO p1 ad zt<|s_<|eT j (λj=>?_) λj=>?_;exact r_<|bI (aa:Int)<|aJ (aa:Int)<|s_<|Ek<|aR<|oi j▸⟨rfl,bF ⟨rfl,o.drop 2⟩⟩;exact Et<|bU<|aI<|AI<|Ej hk hm<|bI ((aa+1:Nat):Int)<|w_<|oi j▸⟨rfl,o.sp 2 [1]⟩;intro r U w j hK;exact aR<|oi j▸hK;rintro ab _ w j⟨O,rfl,o⟩;exact aI<|r_<|aJ (-1)<|s_<|AS<|oi j▸bF ⟨rfl,o.drop 1⟩
theorem iu{p0:List aL}{p1:aL}{res:Bool}(j:Holds E w V)(h0:V[i0]? =some (rd v0 p0))(o:cY N p0 p1=some res):c_ 48 [v0,str p1] w<|bH E V res:=by
 unfold cY at o;refine enter Tryz.func48 zr zr ?_;have j:=j.dup (i0+0) h0;refine r_<|bT false<|v_<|mv v0<|mv (str p1)<|q_ o λaa ab o=>y_ (hZ Tryz.func72) (mi N (p1:=p1) (i0:=0) j zr ab) λw j=>ic aa 0<|bT (decide<|aa>=0)<|s_<|AS ?_;exact oi o▸bF ⟨rfl,j.drop 1⟩
theorem gN{p0:List aV}{p1:aL}{p2:aV->aL->Option Int}{res:Int×Bool}(o:Holds E w V)(h0:V[i0]? =some (rd v0 p0))(h2:Ao bC E V v2 p2 (λ(r:Int)=>Value.int .i64 r))(hb:cA N p0 p1 p2=some res):c_ 69 [v0,str p1,v2] w<|cK E V res:=by
 unfold cA at hb;refine enter Tryz.func69 zr zr ?_;have o:=o.dup (i0+0) h0;refine r_<|aJ 0<|bT false<|v_<|mv v0<|C_ 0 p0 o vK<|aJ (p0.length:Int)<|v_<|bI (p0.length:Int)<|aJ 0<|aJ (p0.length:Int)<|x_<|Fv E V (λ(j:Int×Int)=>[rd v0 p0]) (λj=>[(0,v0),(1,str p1),(2,v2),(8,vi p0.length),(9,vi j.1)]) (λj=>[(10,vi j.2)]) hb ?_ ?_ ?_;exact o.sp 1 [0];rintro j fl _ w⟨O,rfl,o⟩hb;refine A_<|r_<|bI j.1<|bI j.2<|ic j.1 j.2<|s_<|eT hb (λhb=>?_) λhb=>?_;refine EY<|Eh<|bI j.1<|bI j.2<|Er j.1 j.2<|Fb (wrap .i64<|j.1+j.2) ⟨_,zF⟩ sM<|Fw (v:=(.int .u64<|wrap .u64<|wrap .i64<|j.1+j.2)) (v':=(.int .u64 1)) (u:=(.int .u64<|Int.fdiv (wrap .u64<|wrap .i64<|j.1+j.2) 2)) zt zr zr zr<|Fb (Int.fdiv (wrap .u64<|wrap .i64<|j.1+j.2) 2) ⟨_,sM⟩ zF<|aJ (wrap .i64<|Int.fdiv (wrap .u64<|wrap .i64<|j.1+j.2) 2) ?_;refine v_<|mv v2<|mv v0<|bI (wrap .i64<|Int.fdiv (wrap .u64<|wrap .i64<|j.1+j.2) 2)<|q_ hb λah ai hb=>BY 0 o tB ai λar o=>By 0 ah o tC λau o=>mv (str p1) ?_;have o:=o.sc aL p1;refine q_ hb λaj ak hb=>Fc 1 0 zt o h2 4 ak λw o=>ic aj 0<|s_<|q_ hb λae hj hb=>En (λ(ae:Int×Int)=>SH E V [(0,v0),(1,str p1),(2,v2),(8,vi p0.length),(9,vi ae.1),(10,vi ae.2)] [rd v0 p0]) ae ?_ ?_;refine eT hj (λhj=>?_) λhj=>?_;refine AI<|bI (wrap .i64<|Int.fdiv (wrap .u64<|wrap .i64<|j.1+j.2) 2)<|Er (wrap .i64<|Int.fdiv (wrap .u64<|wrap .i64<|j.1+j.2) 2) 1<|aJ (wrap .i64<|wrap .i64 (Int.fdiv (wrap .u64<|wrap .i64<|j.1+j.2) 2)+1)<|w_ ?_;exact oi hj▸⟨rfl,o.sp 4 [3]⟩;refine AI<|bI (wrap .i64<|Int.fdiv (wrap .u64<|wrap .i64<|j.1+j.2) 2)<|aJ (wrap .i64<|Int.fdiv (wrap .u64<|wrap .i64<|j.1+j.2) 2)<|w_ ?_;exact oi hj▸⟨rfl,o.sp 4 [3]⟩;rintro _ w⟨O,rfl,o⟩;exact bU<|oi hb▸⟨rfl,o.sp 1 [0]⟩;exact ET<|oi hb▸⟨rfl,o.sp 1 [0]⟩;rintro j _ w hb⟨O,rfl,o⟩;refine aI<|A_<|q_ hb λaf hj hb=>En (λ(af:Bool)=>SH E V [(6,vi j.1),(7,vb af)] []) af ?_ ?_;refine AI<|bI j.1<|bI j.1<|bI (p0.length:Int)<|ic j.1 ((p0.length:Int))<|jT (decide<|j.1<(p0.length:Int))<|jd hj (λaa hj=>?_) λaa hj=>?_;refine D_ v2 (cg aa)<|D_ v0 (cg aa)<|D_ (vi j.1) (cg aa)<|q_ hj λal an hj=>BY (hg:=cg aa) 0 o tB an λav o=>By (hg:=cg aa) 0 al o tC λaw o=>D_ (str p1) (cg aa) ?_;have o:=o.sc aL p1;refine q_ hj λag ao hj=>Fc 1 0 (cg aa) o h2 4 ao λw o=>EJ ag 0 (cg aa)<|jx aa (vb<|ag==0)<|aJ j.1<|bT (ag==0)<|w_ ?_;exact oi hj▸⟨rfl,o.sp 4 []⟩;refine cB aa<|cB aa<|cB aa<|cB aa<|cB aa<|cB aa<|cB aa<|cB aa<|jx aa (vb false)<|aJ j.1<|bT false<|w_ ?_;exact oi hj▸⟨rfl,o.sp 1 []⟩;rintro _ w⟨O,rfl,o⟩;exact aI<|AS<|oi hb▸xP zr zr zr ⟨rfl,o.drop 0⟩
theorem n8{p0:aV}{p1:aL}(j:Holds E w V)(h0:V[i0]? =some (rd v0 p0))(o:fC N p0 p1=some res):c_ 70 [v0,str p1] w<|aC E V res:=by
 unfold fC at o;refine enter Tryz.func70 zr zr ?_;have j:=j.dup (i0+0) h0;refine r_<|Ep 0 v0 j zr λad w j=>?_;exact aJ 0<|v_<|u_ zr ri<|AT 0 j zr iW gA<|mv (str p1)<|q_ o λaa ab o=>y_ uN (cX N (p0:=p0.Name) (p1:=p1) j ab) λw j=>aJ aa<|s_<|AS<|oi o▸bF ⟨rfl,j.drop 2⟩
theorem pJ{p0:aD}{p1:aL}(o:Holds E w V)(h0:V[i0]? =some (rd v0 p0))(hb:iA N p0 p1=some res):c_ 45 [v0,str p1] w<|aC E V res:=by
 unfold iA at hb;refine enter Tryz.func45 zr zr ?_;have o:=o.dup (i0+0) h0;refine r_<|Ep 0 v0 o zr λaf w o=>?_;refine aJ 0<|v_<|u_ zr vJ<|Es 0 o zr lf AB λag o=>mv (str p1) ?_;refine q_ hb λaa ad hb=>y_ (hZ Tryz.func69) (gN N (p1:=p1) (i0:=0) o rfl ⟨70,[],rfl,(hZ Tryz.func70),λw Γl v v' y0 y1 r i j o hi hj hr=>by obtain rfl:=o.oO (γ:=aL) hj;exact dU (n8 N (p1:=y1) (i0:=i) o hi hr) λ_ _ h=>h⟩ ad) λw o=>mv (.tuple #[vi aa.1,vb aa.2])<|Ex (vi aa.1)<|Ex (vb aa.2)<|aJ aa.1<|bT aa.2<|x_<|r_<|jT aa.2 ?_;refine ED aa.2<|s_<|eT hb (λhb=>?_) λhb=>?_;exact r_<|aJ (-1)<|s_<|Eg<|oi hb▸bF ⟨rfl,o.drop 3⟩;exact EE<|bI aa.1<|aJ aa.1<|s_<|AS<|oi hb▸bF ⟨rfl,o.drop 3⟩
theorem kV{p0:List aD}{p1:List Part}{p2:aT}{res:Bool}(j:Holds E w V)(h0:V[i0]? =some (rd v0 p0))(h1:V[i1]? =some (rd v1 p1))(h2:V[i2]? =some (rd v2 p2))(hb:g0 N p0 p1 p2=some res):c_ 18 [v0,v1,v2] w<|bH E V res:=by
 unfold g0 at hb;refine enter Tryz.func18 zr zr ?_;have j:=((j.dup (i0+0) h0).dup (i1+1) h1).dup (i2+2) h2;refine r_<|Ep 0 v2 j zr λag w j=>?_;refine bT false<|v_<|mv v1<|u_ zr pD<|AT 0 j zr lD gA<|q_ hb λad ai hb=>y_ BA (kU N (p1:=p2.Part) (i0:=2) j zr ai) λw j=>aJ ad<|x_<|q_ hb λae hj hb=>En (λ(ae:Bool)=>SH E V [(6,vb ae)] []) ae ?_ ?_;have j:=j.drew;refine Ff (λw=>Holds E w<|[bx 60 ag p2]++V) mixed zr [0,0,0,1,0,0,0,0,0,0,2,0,0,1,1,2,0,0,0] [0,1,2,3,4,5,6,7,8,9,13,14,10,11,12,15,16,17,18] (j.pk 4 [0])<|Eu zr zr<|bI ad<|fO zr<|ic ad 0<|fO zr<|jT (decide<|ad>=0)<|EF<|jd hj (λo hj=>?_) λo hj=>?_;refine EC v0 zr (λw=>D_ v0 (cg o) Ev)<|Eu zr zr<|D_ v0 (cg o)<|fO zr<|D_ v1 (cg o)<|fO zr<|D_ (vi ad) (cg o)<|fO zr<|q_ hj λah aj hj=>BY (hg:=cg o) 2 j r6 aj λaq j=>fO zr<|Eo (hg:=cg o) 0 j zr tI nO λar j=>fO zr<|Ey ah.eC 0 (cg o) j gA<|EF<|EC (vp ag 1) zr (λw=>u_ (hg:=cg o) zr rp Ev)<|E_ (str p2.aT) zr (λw j=>AT (hg:=cg o) 0 j zr m4 gA Ev)<|EU zr zr ?_;refine q_ hj λau ak hj=>y_ (hg:=cg o) AD (i4 N (p1:=ah.eC) (i0:=5) j zr ak) λw j=>EA (j.pk 6 [2])<|Eu zr zr<|q_ hj λal an hj=>BY (hg:=cg o) 5 j vI an λav j=>fO zr<|By (hg:=cg o) 0 al j ym λaw j=>yg zr<|q_ hj λaf ao hj=>y_ (hg:=cg o) (hZ Tryz.func45) (pJ N (p1:=p2.aT) (i0:=0) j zr ao) λw j=>EA (j.pk 8 [4])<|Eu zr zr<|EJ af 0 (cg o)<|fO zr<|jx o (vb<|decide<|af>=0)<|fO zr<|bT (decide<|af>=0)<|EF ?_;exact EV<|oi hj▸⟨rfl,j.sp 8 []⟩;refine EC undef zr (λw=>cB o Ev)<|Eu zr zr<|cB o<|fO zr<|cB o<|fO zr<|cB o<|fO zr<|cB o<|fO zr<|cB o<|fO zr<|cB o<|EF<|EC undef zr (λw=>cB o Ev)<|EC undef zr (λw=>cB o Ev)<|EU zr zr<|cB o ?_;refine EA (j.pk 4 [0])<|Eu zr zr<|cB o<|fO zr<|cB o<|yg zr<|cB o<|EA (j.pk 4 [0])<|Eu zr zr<|cB o<|fO zr<|jx o (vb false)<|fO zr<|bT false<|EF<|EV ?_;exact oi hj▸⟨rfl,j.sp 4 []⟩;rintro _ w⟨O,rfl,j⟩;exact aI<|AS<|oi hb▸bF ⟨rfl,j.drop 0⟩
theorem lM{p0:aT}{p1:aF}{p2:List aF}{p3:List aD}{res:Bool}(j:Holds E w V)(h0:V[i0]? =some (rd v0 p0))(h1:V[i1]? =some (pt v1 p1))(h2:V[i2]? =some (pt v2 p2))(h3:V[i3]? =some (pt v3 p3))(o:eG N p0 p1 p2 p3=some res):c_ 47 [v0,v1,v2,v3] w<|bH E V res:=by
 unfold eG at o;refine enter Tryz.func47 zr zr ?_;have j:=(((j.dup (i0+0) h0).mO (i:=i1+1) h1).mO (i:=i2+2) h2).mO (i:=i3+3) h3;refine r_<|Ep 3 v0 j zr λan w j=>?_;have j:=j.ib (i:=0) rfl;refine bT false<|x_<|r_<|Eo 3 j zr me gF λao j=>By 0 p1.Uses j tJ λaq j=>Eo 2 j zr pD lD λar j=>Ey p0.Part 0 zt j gA<|q_ o λaa ad o=>y_ BB (lL N (p1:=p0.Part) (i0:=1) j zr ad) λw j=>aJ aa<|v_<|bI aa<|ic aa 0<|s_<|eT o (λo=>?_) λo=>?_;refine A_<|Ft mixed zr [1,0,0,0,0,0,0,0,2,0,0,0,1,1,2,0] [0,1,2,3,4,5,6,7,12,13,8,9,10,11,14,15] ?_;have j:=j.drew;refine F3 (x:=p2) 5 zr zr zt zr j zr zr yp λay a55 az j=>Eu zr zr<|By 7 p2 j yp λa0 j=>fO zr<|Eo 9 j zr me gF λa1 j=>fO zr<|By 0 p1.Uses j tJ λa2 j=>fO zr<|bI aa<|fO zr<|q_ o λab ag o=>BY 0 j vN ag λa3 j=>fO zr<|Eo 0 j zr rm m0 λa4 j=>fO zr<|Ey ab.aF 0 zt j gA<|EF<|GD 10 zr zr zt zr j zr zr rp m4 λa5 j=>GF (y:=p0.aT) 0 zr zr zt zr j zr zr gA λa64 a6 j=>EU zr zr ?_;refine q_ o λa7 ah o=>y_ A2 (eB N (p1:=ab.aF) (i0:=6) j zr ah) λw j=>EA (⟨⟨zt,j.yh 7 zr⟩,j.yh 0 zr⟩)<|Eu zr zr<|q_ o λai aj o=>BY 8 j tE aj λa8 j=>fO zr<|Eo 0 j zr vM oB λa9 j=>fO zr<|By 0 ai.aX j tG λba j=>yg zr<|q_ o λak al o=>y_ BC (iu N (p1:=p0.aT) (i0:=0) j zr al) λw j=>EA (⟨⟨zt,j.yh 10 zr⟩,j.yh 3 zr⟩)<|Eu zr zr<|bT ak<|EF ?_;have j:=j.pl 20 [0,1,2,4,5,6,7,8,9,11,12,13,14,15,16,17,18,19] rfl;exact EV<|aI<|Eg<|oi o▸bF ⟨rfl,j.drop 18⟩;refine EE<|By 4 p3 j zH λau j=>Eo 7 j zr rl kq λav j=>By 0 p1.bB j o5 λaw j=>By 6 p0 j ka λax j=>?_;exact q_ o λae af o=>y_ BD (kV N (i0:=3) (i1:=1) (i2:=0) j zr zr zr af) λw j=>bT ae<|s_<|AS<|oi o▸bF ⟨rfl,j.drop 12⟩
theorem i5{p0 p1:aT}(j:Holds E w V)(h0:V[i0]? =some (rd v0 p0))(h1:V[i1]? =some (rd v1 p1))(o:cN N p0 p1=some res):c_ 35 [v0,v1] w<|aC E V res:=by
 unfold cN at o;refine enter Tryz.func35 zr zr ?_;have j:=(j.dup (i0+0) h0).dup (i1+1) h1;refine r_<|Ep 1 v0 j zr λaf w j=>?_;refine Ep 1 v1 j zr λag w j=>?_;refine aJ 0<|x_<|r_<|u_ zr pD<|AT 1 j zr lD gA<|u_ zr pD<|AT 0 j zr lD gA<|q_ o λaa ab o=>y_ uN (cX N (p0:=p0.Part) (p1:=p1.Part) j ab) λw j=>aJ aa<|v_<|bI aa<|ic aa 0<|s_<|eT o (λo=>?_) λo=>?_;exact r_<|bI aa<|aJ aa<|s_<|Eg<|oi o▸bF ⟨rfl,j.drop 4⟩;exact EE<|u_ zr rp<|AT 1 j zr m4 gA<|u_ zr rp<|AT 0 j zr m4 gA<|q_ o λad ae o=>y_ uN (cX N (p0:=p0.aT) (p1:=p1.aT) j ae) λw j=>aJ ad<|s_<|AS<|oi o▸bF ⟨rfl,j.drop 4⟩
end Go.Gk
