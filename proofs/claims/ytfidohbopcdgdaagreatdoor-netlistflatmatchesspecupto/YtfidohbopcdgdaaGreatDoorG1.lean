/-
  Printed texts: Go functions as plain functions, and that they are. No statement of the seed is proved here.
-/
import Derived.Test.YtfidohbopcdgdaaGreatDoorProg
import Derived.Test.YtfidohbopcdgdaaGreatDoorE1
import Derived.Test.YtfidohbopcdgdaaGreatDoorA1
import Derived.Test.YtfidohbopcdgdaaGreatDoorA2
import Derived.Test.YtfidohbopcdgdaaGreatDoorRows
import Derived.Shelf.SlGeneric
import Derived.Ground.SlsfProg
import Derived.Ground.SlgmProg
set_option linter.unusedVariables false
set_option linter.unusedSimpArgs false
set_option linter.unusedSectionVars false
set_option maxRecDepth 100000
set_option maxHeartbeats 40000000
namespace Go.Gk
open Go IntKind Go.Proofs
noncomputable abbrev bE:=Tryz.prog
abbrev c_(f:Nat)(l:List Value)(w:World)(R:Value->World->Prop):Prop:=Calls bE f l.toArray w (fD R)
def lO(x:bP):=(x.Name,x.Kind,x.bT)
instance instGTPinType:GT bP:=GT.via lO
instance instKVPinType:KV bP:=instKVvia (λ(x:bP)=>(x.Name,x.Kind,x.bT))
theorem iJ:Fd 0 (λx:bP=>x.Name):= .v lO<|.fst .self
theorem yy:Fs 0 aN (λ(x:bP)y=>{x with Name:=y}):= .v lO<|.fst .self
theorem j7:Fd 1 (λx:bP=>x.Kind):= .v lO<|.snd<|.fst .self
theorem yz:Fs 1 Int (λ(x:bP)y=>{x with Kind:=y}):= .v lO<|.snd<|.fst .self
theorem iK:Fd 2 (λx:bP=>x.bT):= .v lO<|.snd<|.snd<|.self
def l9(x:aG):=(x.Name,x.aU)
instance instGTPartType:GT aG:=GT.via l9
theorem iN:Fd 0 (λx:aG=>x.Name):= .v l9<|.fst .self
theorem xp:Fs 0 aN (λ(x:aG)y=>{x with Name:=y}):= .v l9<|.fst .self
theorem gJ:Fd 1 (λx:aG=>x.aU):= .v l9<|.snd<|.self
theorem xq:Fs 1 (List bP) (λ(x:aG)y=>{x with aU:=y}):= .v l9<|.snd<|.self
def qi(x:Part):=(x.Name,x.eD)
instance instGTPart:GT Part:=GT.via qi
instance instKVPart:KV Part:=instKVvia (λ(x:Part)=>(x.Name,x.eD))
theorem gD:Fd 0 (λx:Part=>x.Name):= .v qi<|.fst .self
theorem u6:Fs 0 aN (λ(x:Part)y=>{x with Name:=y}):= .v qi<|.fst .self
theorem mJ:Fd 1 (λx:Part=>x.eD):= .v qi<|.snd<|.self
theorem u7:Fs 1 aN (λ(x:Part)y=>{x with eD:=y}):= .v qi<|.snd<|.self
def yA(x:ln):=(x.Name,x.aF)
instance instGTUse:GT ln:=GT.via yA
instance instKVUse:KV ln:=instKVvia (λ(x:ln)=>(x.Name,x.aF))
theorem jq:Fd 0 (λx:ln=>x.Name):= .v yA<|.fst .self
theorem kT:Fd 1 (λx:ln=>x.aF):= .v yA<|.snd<|.self
def sY(x:Pin):=(x.Part,x.Pin)
instance instGTPin:GT Pin:=GT.via sY
instance instKVPin:KV Pin:=instKVvia (λ(x:Pin)=>(x.Part,x.Pin))
theorem jr:Fd 0 (λx:Pin=>x.Part):= .v sY<|.fst .self
theorem qj:Fs 0 aN (λ(x:Pin)y=>{x with Part:=y}):= .v sY<|.fst .self
theorem lx:Fd 1 (λx:Pin=>x.Pin):= .v sY<|.snd<|.self
theorem ql:Fs 1 aN (λ(x:Pin)y=>{x with Pin:=y}):= .v sY<|.snd<|.self
def sZ(x:Net):=(x.Name,x.aU,x.aO)
instance instGTNet:GT Net:=GT.via sZ
theorem gE:Fd 0 (λx:Net=>x.Name):= .v sZ<|.fst .self
theorem Dp:Fs 0 aN (λ(x:Net)y=>{x with Name:=y}):= .v sZ<|.fst .self
theorem jt:Fd 1 (λx:Net=>x.aU):= .v sZ<|.snd<|.fst .self
theorem Dq:Fs 1 (List Pin) (λ(x:Net)y=>{x with aU:=y}):= .v sZ<|.snd<|.fst .self
theorem jO:Fd 2 (λx:Net=>x.aO):= .v sZ<|.snd<|.snd<|.self
def om(x:aF):=(x.Name,x.aO,x.bB,x.Uses,x.aM)
instance instGTSheet:GT aF:=GT.via om
theorem kU:Fd 0 (λx:aF=>x.Name):= .v om<|.fst .self
theorem jy:Fd 1 (λx:aF=>x.aO):= .v om<|.snd<|.fst .self
theorem iZ:Fd 2 (λx:aF=>x.bB):= .v om<|.snd<|.snd<|.fst .self
theorem fG:Fd 3 (λx:aF=>x.Uses):= .v om<|.snd<|.snd<|.snd<|.fst .self
theorem iz:Fd 4 (λx:aF=>x.aM):= .v om<|.snd<|.snd<|.snd<|.snd<|.self
def po(x:bG):=(x.bB,x.aM)
instance instGTNetlist:GT bG:=GT.via po
theorem j8:Fd 0 (λx:bG=>x.bB):= .v po<|.fst .self
theorem yB:Fs 0 (List Part) (λ(x:bG)y=>{x with bB:=y}):= .v po<|.fst .self
theorem eT:Fd 1 (λx:bG=>x.aM):= .v po<|.snd<|.self
def ma(x:bI):=(x.e0,x.e1)
instance instGTArr2_Int:GT bI:=GT.via ma
instance instKVArr2_Int:KV bI:=instKVvia (λ(x:bI)=>(x.e0,x.e1))
theorem pS:Fd 0 (λx:bI=>x.e0):= .v ma<|.fst .self
theorem tz:Fs 0 Int (λ(x:bI)y=>{x with e0:=y}):= .v ma<|.fst .self
theorem pT:Fd 1 (λx:bI=>x.e1):= .v ma<|.snd<|.self
theorem tA:Fs 1 Int (λ(x:bI)y=>{x with e1:=y}):= .v ma<|.snd<|.self
def i6(x:aC):=(x.path,x.words)
instance instGTnetlist_netKey:GT aC:=GT.via i6
instance instKVnetlist_netKey:KV aC:=instKVvia (λ(x:aC)=>(x.path,x.words))
theorem jH:Fd 0 (λx:aC=>x.path):= .v i6<|.fst .self
theorem tg:Fs 0 aN (λ(x:aC)y=>{x with path:=y}):= .v i6<|.fst .self
theorem nU:Fd 1 (λx:aC=>x.words):= .v i6<|.snd<|.self
theorem th:Fs 1 Int (λ(x:aC)y=>{x with words:=y}):= .v i6<|.snd<|.self
theorem BW(M:cL):GT.ok M (#[n_,n_]:Array Value).toList (⟨[],[]⟩:bG):=⟨[n_],[n_],rfl,(show GT.ok M [n_] ([]:List Part)from⟨_,rfl,none,0,0,rfl,rfl,bV _,by simp[maxLen],λ_ _ h=>by simp at h⟩),(show GT.ok M [n_] ([]:List Net)from⟨_,rfl,none,0,0,rfl,rfl,bV _,by simp[maxLen],λ_ _ h=>by simp at h⟩)⟩
theorem wI(M:cL):GT.ok M (#[(.int .i64 0),(.int .i64 0)]:Array Value).toList (⟨0,0⟩:bI):=⟨[(.int .i64 0)],[(.int .i64 0)],rfl,(show GT.ok M [(.int .i64 0)] (0:Int)from rfl),(show GT.ok M [(.int .i64 0)] (0:Int)from rfl)⟩
theorem Ay(M:cL):GT.ok M (#[(.string ⟨#[]⟩),n_]:Array Value).toList (⟨⟨[]⟩,[]⟩:aG):=⟨[(.string ⟨#[]⟩)],[n_],rfl,(show GT.ok M [(.string ⟨#[]⟩)] (⟨[]⟩:aN)from rfl),(show GT.ok M [n_] ([]:List bP)from⟨_,rfl,none,0,0,rfl,rfl,bV _,by simp[maxLen],λ_ _ h=>by simp at h⟩)⟩
theorem yC(M:cL):GT.ok M (#[(.string ⟨#[]⟩),(.string ⟨#[]⟩)]:Array Value).toList (⟨⟨[]⟩,⟨[]⟩⟩:Part):=⟨[(.string ⟨#[]⟩)],[(.string ⟨#[]⟩)],rfl,(show GT.ok M [(.string ⟨#[]⟩)] (⟨[]⟩:aN)from rfl),(show GT.ok M [(.string ⟨#[]⟩)] (⟨[]⟩:aN)from rfl)⟩
theorem Fw(M:cL):GT.ok M (#[(.string ⟨#[]⟩),n_,n_]:Array Value).toList (⟨⟨[]⟩,[],[]⟩:Net):=⟨[(.string ⟨#[]⟩)],[n_,n_],rfl,(show GT.ok M [(.string ⟨#[]⟩)] (⟨[]⟩:aN)from rfl),⟨[n_],[n_],rfl,(show GT.ok M [n_] ([]:List Pin)from⟨_,rfl,none,0,0,rfl,rfl,bV _,by simp[maxLen],λ_ _ h=>by simp at h⟩),(show GT.ok M [n_] ([]:List aN)from⟨_,rfl,none,0,0,rfl,rfl,bV _,by simp[maxLen],λ_ _ h=>by simp at h⟩)⟩⟩
theorem wJ(M:cL):GT.ok M (#[(.string ⟨#[]⟩),(.string ⟨#[]⟩)]:Array Value).toList (⟨⟨[]⟩,⟨[]⟩⟩:Pin):=⟨[(.string ⟨#[]⟩)],[(.string ⟨#[]⟩)],rfl,(show GT.ok M [(.string ⟨#[]⟩)] (⟨[]⟩:aN)from rfl),(show GT.ok M [(.string ⟨#[]⟩)] (⟨[]⟩:aN)from rfl)⟩
theorem BX(M:cL):GT.ok M (#[(.string ⟨#[]⟩),(.int .i64 0),(.int .i64 0)]:Array Value).toList (⟨⟨[]⟩,0,0⟩:bP):=⟨[(.string ⟨#[]⟩)],[(.int .i64 0),(.int .i64 0)],rfl,(show GT.ok M [(.string ⟨#[]⟩)] (⟨[]⟩:aN)from rfl),⟨[(.int .i64 0)],[(.int .i64 0)],rfl,(show GT.ok M [(.int .i64 0)] (0:Int)from rfl),(show GT.ok M [(.int .i64 0)] (0:Int)from rfl)⟩⟩
theorem qm(M:cL):GT.ok M (#[(.string ⟨#[]⟩),(.int .i64 0)]:Array Value).toList (⟨⟨[]⟩,0⟩:aC):=⟨[(.string ⟨#[]⟩)],[(.int .i64 0)],rfl,(show GT.ok M [(.string ⟨#[]⟩)] (⟨[]⟩:aN)from rfl),(show GT.ok M [(.int .i64 0)] (0:Int)from rfl)⟩
theorem zI:Al bE 27 2:=BU<|.agg #[n_,n_]
theorem BZ:Tryz.prog.underlying 22=some (.slice 63):=by kernel_rfl
theorem wK:tF bE 22 63 2:=CO
theorem wL:lV bE 63 true 2:=we
theorem EV:Al bE 63 2:=BU<|.agg #[(.string ⟨#[]⟩),n_]
theorem sf:qb bE 63 0 0:=tf
theorem dP:lV bE 9 false 1:=we
theorem tB:Tryz.prog.underlying 9=some (.string):=by kernel_rfl
theorem H4(a:aN)(b:Int)(w:World):(callFunc 144 [str a,(.int .u8 b)].toArray).run bE w = .ok (.value<|vi<|Lib.indexByte a.bL (Int.toNat b).toUInt8) w:=qc Extern.BytealgIndexByte.indexByte Tryz.func144 (by kernel_rfl) (by kernel_rfl) (by kernel_rfl) (by kernel_rfl)<|Lib.run_indexByteString _ _ w
theorem GP:gT bE 96:=hL Tryz.func96
theorem GQ:gT bE 63:=hL Tryz.func63
theorem zJ:gT bE 21:=hL Tryz.func21
theorem pV:qb bE 63 1 1:=tf
theorem xr:lV bE 61 false 1:=we
theorem u9:Tryz.prog.underlying 61=some (.slice 86):=by kernel_rfl
theorem tO:tF bE 61 86 3:=CO
theorem sg:lV bE 86 true 3:=we
theorem zK:Al bE 86 3:=BU<|.agg #[(.string ⟨#[]⟩),(.int .i64 0),(.int .i64 0)]
theorem qU:qb bE 86 0 0:=tf
theorem tP:qb bE 86 1 1:=tf
theorem oZ:lV bE 3 false 1:=we
theorem qV:qb bE 86 2 2:=tf
theorem mixed:Tryz.prog.follows .mixedOrders=true:=by kernel_rfl
theorem H9:gT bE 6:=hL Tryz.func6
theorem xt:Tryz.prog.underlying 23=some (.slice 57):=by kernel_rfl
theorem rJ:tF bE 23 57 5:=CO
theorem rK:lV bE 57 true 5:=we
theorem B0:Al bE 57 5:=BU<|.agg #[(.string ⟨#[]⟩),n_,n_,n_,n_]
theorem sj:qb bE 57 0 0:=tf
theorem pW:qb bE 57 1 1:=tf
theorem lH:lV bE 52 false 1:=we
theorem n0:Tryz.prog.underlying 52=some (.slice 9):=by kernel_rfl
theorem m6:tF bE 52 9 1:=CO
theorem oA:qb bE 57 2 2:=tf
theorem m7:lV bE 24 false 1:=we
theorem rL:Tryz.prog.underlying 24=some (.slice 77):=by kernel_rfl
theorem oB:tF bE 24 77 2:=CO
theorem nC:lV bE 77 true 2:=we
theorem vT:Al bE 77 2:=BU<|.agg #[(.string ⟨#[]⟩),(.string ⟨#[]⟩)]
theorem kV:qb bE 77 0 0:=tf
theorem tQ:qb bE 77 1 1:=tf
theorem EW:Tryz.prog.underlying 3=some (.int .i64):=by kernel_rfl
theorem xU:Tryz.prog.underlying 146=some (.int .u64):=by kernel_rfl
theorem BR(a b:aN)(w:World):(callFunc 119 [str a,str b].toArray).run bE w = .ok (.value<|vi<|Lib.compareBytes a.bL b.bL) w:=qc Extern.BytealgCompare.compare Tryz.func119 (by kernel_rfl) (by kernel_rfl) (by kernel_rfl) (by kernel_rfl)<|Lib.run_compareString _ _ w
theorem zL:gT bE 46:=hL Tryz.func46
theorem FV:gT bE 67:=hL Tryz.func67
theorem GR:gT bE 25:=hL Tryz.func25
theorem lj:qb bE 57 3 3:=tf
theorem ti:lV bE 55 false 1:=we
theorem vU:Tryz.prog.underlying 55=some (.slice 93):=by kernel_rfl
theorem va:tF bE 55 93 2:=CO
theorem qW:lV bE 93 true 2:=we
theorem yD:Al bE 93 2:=BU<|.agg #[(.string ⟨#[]⟩),(.string ⟨#[]⟩)]
theorem mb:qb bE 93 0 0:=tf
theorem GV:gT bE 68:=hL Tryz.func68
theorem oC:qb bE 93 1 1:=tf
theorem B1:gT bE 12:=hL Tryz.func12
theorem nD:qb bE 57 4 4:=tf
theorem ly:lV bE 25 false 1:=we
theorem qn:Tryz.prog.underlying 25=some (.slice 80):=by kernel_rfl
theorem mc:qb bE 83 0 0:=tf
theorem GW:gT bE 41:=hL Tryz.func41
theorem yE:lV bE 23 false 1:=we
theorem pX:qb bE 83 1 1:=tf
theorem GX:gT bE 53:=hL Tryz.func53
theorem Dr:gT bE 70:=hL Tryz.func70
theorem EX:lV bE 22 false 1:=we
theorem jz:lV bE 83 true 2:=we
theorem G1:gT bE 71:=hL Tryz.func71
theorem n4:tF bE 25 80 3:=CO
theorem mx:lV bE 80 true 3:=we
theorem tT:Al bE 80 3:=BU<|.agg #[(.string ⟨#[]⟩),n_,n_]
theorem jP:qb bE 80 0 0:=tf
theorem md:qb bE 80 1 1:=tf
theorem o4:lV bE 78 false 1:=we
theorem pY:Tryz.prog.underlying 78=some (.slice 83):=by kernel_rfl
theorem pZ:tF bE 78 83 2:=CO
theorem vc:Al bE 83 2:=BU<|.agg #[(.string ⟨#[]⟩),(.string ⟨#[]⟩)]
theorem G2:gT bE 50:=hL Tryz.func50
theorem Bp:Gn bE 83 Pin:=⟨λM cs ds a b w ha hb=>by
  obtain⟨_,_,rfl,rfl,rfl⟩:=ha
  obtain⟨_,_,rfl,rfl,rfl⟩:=hb
  refine(qd 9999 Tryz.underlying83<|Eo.cons (by decide) (jI dP rfl _) (jI dP rfl _) (ov tB _ _ w)<|Eo.cons (by decide) (jI dP rfl _) (jI dP rfl _) (ov tB _ _ w) Eo.nil).trans ?_
  congr 1
  cases a;cases b;unfold sY
  rw[lY]
  simp,by kernel_rfl⟩
theorem Fx:td bE 83 Pin:=td.struct Tryz.underlying83 rfl Bp (λk=>(Fq.cons (by decide) (jI dP rfl) (λb w=>MapKept.run_checkKey tB (k:=Gk.str k.Part) trivial b 9998) (Fq.cons (by decide) (jI dP rfl) (λb w=>MapKept.run_checkKey tB (k:=Gk.str k.Pin) trivial b 9998) Fq.nil))) (λk x hx=>by
  have hx:x∈[Sc.toV k.Part,Sc.toV k.Pin]:=hx
  simp only[jX,List.not_mem_nil,or_false]at hx
  rcases hx with rfl|rfl
  · exact MapKept.sameBits_self (d:= .string) (k:=Gk.str k.Part) trivial _
  · exact MapKept.sameBits_self (d:= .string) (k:=Gk.str k.Pin) trivial _)
theorem Fy:uk bE 130 83 4 Pin Bool (false:Bool):=⟨by kernel_rfl,Fx,qM (.bool false)<|λM=>⟨_,rfl,rfl⟩⟩
theorem G3:gT bE 72:=hL Tryz.func72
theorem mK:qb bE 80 2 2:=tf
theorem Fz:uk bE 131 9 4 aN Bool (false:Bool):=⟨by kernel_rfl,td.str tB,qM (.bool false)<|λM=>⟨_,rfl,rfl⟩⟩
theorem B2:uR bE 43 3 1 8:=uR.of<|.int .i64 0
theorem JK:wt bE 3 (0:Int):=wt.of (.int .i64 0)<|λM=>rfl
theorem m8:tF bE 43 3 1:=CO
theorem G4:gT bE 28:=hL Tryz.func28
theorem JL:gT bE 8:=hL Tryz.func8
theorem wM:xk bE 27 [(0,1),(1,1)] #[n_,n_]:=xk.of (.agg #[n_,n_]) Tryz.underlying27
theorem jF:lV bE 27 true 2:=we
theorem Ds:Al bE 37 2:=BU<|.agg #[(.int .i64 0),(.int .i64 0)]
theorem G5:uk bE 39 3 37 Int bI (⟨0,0⟩:bI):=⟨by kernel_rfl,td.int EW,qM (.agg #[(.int .i64 0),(.int .i64 0)])<|λM=>⟨_,rfl,wI M⟩⟩
theorem wN:lV bE 37 true 2:=we
theorem FW:HK bE 37 2 3 1:=⟨by kernel_rfl,λ_=>by kernel_rfl⟩
theorem G6:GG bE 37 1 ((.agg #[(.int .i64 0),(.int .i64 0)]):Value).cells:=GG.of FW
theorem G7:gT bE 13:=hL Tryz.func13
theorem yF:GF bE 37 0 0:=FW.at (k:=⟨0,by decide⟩) rfl
theorem yG:GF bE 37 1 1:=FW.at (k:=⟨1,by decide⟩) rfl
theorem Io:xk bE 45 [(0,1),(1,1),(2,1),(3,1),(4,1)] #[n_,n_,n_,n_,n_]:=xk.of (.agg #[n_,n_,n_,n_,n_]) Tryz.underlying45
theorem Az:qb bE 45 0 0:=tf
theorem AA:qb bE 45 1 1:=tf
theorem FX:xk bE 77 [(0,1),(1,1)] #[(.string ⟨#[]⟩),(.string ⟨#[]⟩)]:=xk.of (.agg #[(.string ⟨#[]⟩),(.string ⟨#[]⟩)]) Tryz.underlying77
theorem FY:uR bE 24 77 2 32:=uR.of<|.agg #[(.string ⟨#[]⟩),(.string ⟨#[]⟩)]
theorem yH:qb bE 45 2 2:=tf
theorem EY:lV bE 41 false 1:=we
theorem G8:Tryz.prog.underlying 41=some (.slice 96):=by kernel_rfl
theorem G9:uk bE 46 9 3 aN Int (0:Int):=⟨by kernel_rfl,td.str tB,qM (.int .i64 0)<|λM=>⟨_,rfl,rfl⟩⟩
theorem Ip:xk bE 96 [(0,1),(1,1)] #[(.string ⟨#[]⟩),(.int .i64 0)]:=xk.of (.agg #[(.string ⟨#[]⟩),(.int .i64 0)]) Tryz.underlying96
theorem Ha:tF bE 41 96 2:=CO
theorem FZ:Al bE 96 2:=BU<|.agg #[(.string ⟨#[]⟩),(.int .i64 0)]
theorem Iq:uR bE 41 96 2 24:=uR.of<|.agg #[(.string ⟨#[]⟩),(.int .i64 0)]
theorem sm:qb bE 45 4 4:=tf
theorem tU:lV bE 43 false 1:=we
theorem Gq:Al bE 3 1:=BU<|.int .i64 0
theorem EZ:uk bE 94 83 3 Pin Int (0:Int):=⟨by kernel_rfl,Fx,qM (.int .i64 0)<|λM=>⟨_,rfl,rfl⟩⟩
theorem B3:xk bE 83 [(0,1),(1,1)] #[(.string ⟨#[]⟩),(.string ⟨#[]⟩)]:=xk.of (.agg #[(.string ⟨#[]⟩),(.string ⟨#[]⟩)]) Tryz.underlying83
theorem AB:uR bE 78 83 2 32:=uR.of<|.agg #[(.string ⟨#[]⟩),(.string ⟨#[]⟩)]
theorem AD:qb bE 45 3 3:=tf
theorem zM:lV bE 42 false 1:=we
theorem xu:tF bE 42 78 1:=CO
theorem Hb:Al bE 78 1:=BU<|.slice none 0 0
theorem F0:uR bE 42 78 1 24:=uR.of<|.slice none 0 0
theorem Hc:gT bE 14:=hL Tryz.func14
theorem F1:gT bE 42:=hL Tryz.func42
theorem B4:lV bE 96 true 2:=we
theorem Bq:uk bE 100 3 96 Int aC (⟨⟨[]⟩,0⟩:aC):=⟨by kernel_rfl,td.int EW,qM (.agg #[(.string ⟨#[]⟩),(.int .i64 0)])<|λM=>⟨_,rfl,qm M⟩⟩
theorem Dt:qb bE 96 1 1:=tf
theorem Du:qb bE 96 0 0:=tf
theorem FA:gT bE 108:=hL Tryz.func108
theorem F3:Tryz.prog.underlying 43=some (.slice 3):=by kernel_rfl
theorem Dv:uk bE 101 3 78 Int RV ue:=⟨by kernel_rfl,td.int EW,qM n_<|λM=>wm.2 rfl⟩
theorem Hd:JD bE 27 [n_,n_]:=⟨(.agg #[n_,n_]),λ_=>by kernel_rfl,rfl⟩
theorem qX:qb bE 27 0 0:=tf
theorem He:Tryz.prog.underlying 101=some (.map 3 78):=by kernel_rfl
theorem jQ:qb bE 27 1 1:=tf
theorem Dw:HT bE 96 0 9 0:=⟨λ_ _=>by kernel_rfl⟩
theorem Hf:xk bE 80 [(0,1),(1,1),(2,1)] #[(.string ⟨#[]⟩),n_,n_]:=xk.of (.agg #[(.string ⟨#[]⟩),n_,n_]) Tryz.underlying80
theorem Hg:uR bE 25 80 3 64:=uR.of<|.agg #[(.string ⟨#[]⟩),n_,n_]
theorem F4:gT bE 66:=hL Tryz.func66
theorem AE:gT bE 29:=hL Tryz.func29
theorem JM:gT bE 7:=hL Tryz.func7
theorem Hh:gT bE 73:=hL Tryz.func73
theorem F5:gT bE 55:=hL Tryz.func55
theorem AF:gT bE 16:=hL Tryz.func16
theorem Hj:gT bE 75:=hL Tryz.func75
theorem Hk:gT bE 56:=hL Tryz.func56
theorem Hl:uR bE 137 4 1 1:=uR.of<|.bool false
theorem J1:wt bE 4 (false:Bool):=wt.of (.bool false)<|λM=>rfl
theorem FB:tF bE 137 4 1:=CO
theorem JN:lV bE 4 false 1:=we
theorem JO:gT bE 9:=hL Tryz.func9
theorem Hm:gT bE 17:=hL Tryz.func17
theorem IP:xk bE 54 [(0,1),(1,1),(2,1),(3,1),(4,1),(5,1)] #[n_,n_,n_,n_,n_,n_]:=xk.of (.agg #[n_,n_,n_,n_,n_,n_]) Tryz.underlying54
theorem yI:qb bE 54 1 1:=tf
theorem AG:qb bE 54 2 2:=tf
theorem so:qb bE 54 3 3:=tf
theorem JP:Al bE 9 1:=BU<|.string ⟨#[]⟩
theorem F6:uR bE 52 9 1 16:=uR.of<|.string ⟨#[]⟩
theorem wO:qb bE 54 4 4:=tf
theorem tV:qb bE 54 5 5:=tf
theorem F7:gT bE 58:=hL Tryz.func58
theorem Hn:gT bE 18:=hL Tryz.func18
theorem Ho:wt bE 78 ue:=wt.of n_<|λM=>rfl
theorem lh(a:aN)(b:Int)(w:World):(callFunc 137 [str a,(.int .u8 b)].toArray).run bE w = .ok (.value<|vi ((Lib.countByte a.bL (Int.toNat b).toUInt8:Nat):Int)) w:=qc Extern.BytealgCount.count Tryz.func137 (by kernel_rfl) (by kernel_rfl) (by kernel_rfl) (by kernel_rfl)<|Lib.run_countString _ _ w
theorem FC:gT bE 138:=hL Tryz.func138
theorem F8:gT bE 91:=hL Tryz.func91
theorem IW:wt bE 77 (⟨⟨[]⟩,⟨[]⟩⟩:Part):=wt.of (.agg #[(.string ⟨#[]⟩),(.string ⟨#[]⟩)])<|λM=>yC M
theorem Dx{α:Type}[GT α]{z0:α}{bytes:Nat}(sl:tF bE 24 77 (GT.sz α))(el:uR bE 24 77 (GT.sz α) bytes)(zd:wt bE 77 z0){E w:World}{V:List HP}{v0 v2:Value}{p0 p2 l1:List α}{p1:Int}
    (hw:Holds E w (own 77 v0 p0::own 77 v2 p2::V)) (hb:vQ bytes p0 p1 p2=some l1):c_ 92 [v0,vi p1,v2] w<|λv w=>Holds E w<|own 77 v l1::V:=by
 have un:=sl.tG
 have ui:Tryz.prog.underlying 3=some (.int .i64):=by kernel_rfl
 unfold vQ at hb
 split at hb
 case isFalse=>cases hb
 rename_i hc
 obtain⟨c1,c2,c3,c4⟩:=hc
 have hb:=oi hb
 have hle:p0.length+p2.length<=140737488355328:=iG (Nat.le_mul_of_pos_right _ el.pos) c4
 obtain⟨xb,xo,xc,rfl,hv1,hv2⟩:=sX 1 hw rfl (by omega)
 obtain⟨a,cap,rfl,hcap⟩:=uo 0 hw rfl
 refine enter Tryz.func92 rfl rfl ?_
 refine u_ ?_
 refine iT n_ ?_
 refine AI ?_
 refine mv (.slice a p0.length cap) ?_
 refine mv (vi p1) ?_
 refine LL rfl rfl sl rfl c1 c2 hcap λu=>?_
 refine AI ?_
 refine mv (.slice (some ⟨xb,xo,none⟩) p2.length xc) ?_
 refine KM 1 p2 hw un ?_
 refine iT (vi ((p2.length:Nat):Int)) ?_
 refine AS ?_
 refine u_ ?_
 refine mv (vi ((p2.length:Nat):Int)) ?_
 refine ic ((p2.length:Nat):Int) 0 ?_
 refine v_ ?_
 refine KT (b:=((p2.length:Nat):Int)==0) rfl (λhc=>?_)<|λhc=>?_
 ·exfalso
  rw[c3]at hc
  exact absurd hc (by decide)
 refine Kv ?_
 refine mv (.slice a p0.length cap) ?_
 refine KM 0 p0 hw un ?_
 refine iT (vi ((p0.length:Nat):Int)) ?_
 refine AS ?_
 refine u_ ?_
 refine mv (vi p1) ?_
 refine mv (vi ((p0.length:Nat):Int)) ?_
 refine ic p1 ((p0.length:Nat):Int) ?_
 refine v_ ?_
 refine KT (b:=p1==((p0.length:Nat):Int)) rfl (λhc=>?_)<|λhc=>?_
 ·have e:p1=((p0.length:Nat):Int):=by simpa using hc
  have hq:p0++p2=l1:=by rw[<-hb,e,dA,gG,List.drop_length,iH]
  have hw:=hw.freeze 1
  refine u_ ?_
  refine mv (.slice a p0.length cap) ?_
  refine mv (.slice (some ⟨xb,xo,none⟩) p2.length xc) ?_
  refine KE (l':=l1) 0 1 trivial rfl hw rfl rfl rfl rfl el (by unfold app;rw[aH c4,hq]) λv w hw=>?_
  refine iT v ?_
  refine v_ ?_
  refine G_ ?_
  exact aX<|hw.pick 2 [0] (new:=[own 77 v l1]) rfl rfl (by decide) (by decide)
 have hlt:p1<((p0.length:Nat):Int):=by
  have:¬p1=((p0.length:Nat):Int):=by simpa using hc
  omega
 obtain⟨b,o,cap',hv,_,hcm⟩:=sX 0 hw rfl (by omega)
 injection hv with q1 q2 q3
 subst q1;subst q3
 have e1:wrap .i64 (((p0.length:Nat):Int)+((p2.length:Nat):Int))=((p0.length+1:Nat):Int):=by
  rw[c3,hG (by omega) (by omega)];omega
 refine Kb ?_
 refine u_ ?_
 refine mv (vi ((p0.length:Nat):Int)) ?_
 refine mv (vi ((p2.length:Nat):Int)) ?_
 refine J9 ((p0.length:Nat):Int) ((p2.length:Nat):Int) ?_
 refine mv (.slice (some ⟨b,o,none⟩) p0.length cap) ?_
 refine LM rfl rfl un ?_
 refine ic (wrap .i64<|((p0.length:Nat):Int)+((p2.length:Nat):Int)) ((cap:Nat):Int) ?_
 refine v_ ?_
 refine KT (b:=decide<|wrap .i64 (((p0.length:Nat):Int)+((p2.length:Nat):Int))>((cap:Nat):Int)) rfl (λhc=>?_)<|λhc=>?_
 ·have hg:cap<p0.length+1:=by
   have:=of_decide_eq_true hc
   rw[e1]at this;omega
  have e2:wrap .i64 (wrap .i64 (((p0.length:Nat):Int)+((p2.length:Nat):Int)) - p1)=((p0.length+1 - Int.toNat p1:Nat):Int):=by
   rw[e1,hG (by omega) (by omega)];omega
  have e3:wrap .i64 (p1+((p2.length:Nat):Int))=((Int.toNat p1+1:Nat):Int):=by
   rw[c3,hG (by omega) (by omega)];omega
  have hs:Int.toNat p1+(p0.length+1 - Int.toNat p1)=p0.length+1:=by omega
  refine u_ ?_
  refine mv (.slice (some ⟨b,o,none⟩) p0.length cap) ?_
  refine mv (vi p1) ?_
  refine Lq trivial rfl rfl sl rfl c1 (by omega) ?_
  refine mv (vi ((p0.length:Nat):Int)) ?_
  refine mv (vi ((p2.length:Nat):Int)) ?_
  refine J9 ((p0.length:Nat):Int) ((p2.length:Nat):Int) ?_
  refine mv (vi p1) ?_
  refine J9 (wrap .i64<|((p0.length:Nat):Int)+((p2.length:Nat):Int)) p1 ?_
  refine LN (Int.toNat p1) 0 p0 (p0.length+1 - Int.toNat p1) trivial rfl hw rfl (congrArg (Value.int .i64) e2) rfl el ui zd (by omega) (by omega) (by omega) (by rw[hs];rw[c3]at c4;exact c4) λb2 c2' w hc2 hw=>?_
  rw[hs]at hw hc2 ⊢
  have hl2:(p0.take (Int.toNat p1)++List.replicate (p0.length+1 - Int.toNat p1) z0).length=p0.length+1:=by rw[bY,cC,lW];omega
  refine iT (.slice (some ⟨b2,0,none⟩) (p0.length+1) c2') ?_
  refine AI ?_
  refine mv (.slice (some ⟨b2,0,none⟩) (p0.length+1) c2') ?_
  refine mv (vi p1) ?_
  refine KG _ trivial rfl rfl sl rfl c1 (by omega) (by omega) (by omega) ?_
  refine mv (.slice (some ⟨xb,xo,none⟩) p2.length xc) ?_
  refine KW 0 (Int.toNat p1) p2 (p0.take (Int.toNat p1)++List.replicate (p0.length+1 - Int.toNat p1) z0) trivial rfl hw rfl rfl (by rw[hl2];rfl) el (by rw[c3];simp only[Nat.min_def];split <;> omega) (by rw[hl2];omega) (by rw[c3];omega) (λM hs gd=>qf 2 gd) λw hw=>?_
  have hmx:Max.max (p0.take (Int.toNat p1)++List.replicate (p0.length+1 - Int.toNat p1) z0).length (Int.toNat p1+p2.length)=p0.length+1:=by rw[hl2,c3];omega
  rw[hmx]at hw
  have hl3:((p0.take (Int.toNat p1)++List.replicate (p0.length+1 - Int.toNat p1) z0).take (Int.toNat p1)++p2++(p0.take (Int.toNat p1)++List.replicate (p0.length+1 - Int.toNat p1) z0).drop (Int.toNat p1+p2.length)).length=p0.length+1:=by simp only[bY,cC,fJ,hl2,c3];omega
  have hdl:(p0.drop<|Int.toNat p1).length=p0.length - Int.toNat p1:=fJ
  refine v_ ?_
  refine A_<|K9 mixed rfl (λ(D:Nat->Bool)(U:Nat->Value)(w:World)=>cH D U [(0,46,(.slice (some ⟨b2,0,none⟩) (p0.length+1) c2')),(1,47,vi p1),(2,48,vi ((p2.length:Nat):Int)),(3,49,vi<|wrap .i64<|p1+((p2.length:Nat):Int)),(4,50, .slice (some ⟨b2,0+(Int.toNat p1+1)*GT.sz α,none⟩) (p0.length+1 -(Int.toNat p1+1))<|c2' -(Int.toNat p1+1)),(5,51,(.slice (some ⟨b,o,none⟩) p0.length cap)),(6,52,vi p1),(7,53, .slice (some ⟨b,o+ Int.toNat p1*GT.sz α,none⟩) (p0.length - Int.toNat p1)<|cap - Int.toNat p1)]/\agree U [(0,(.slice (some ⟨b,o,none⟩) p0.length cap)),(1,vi p1),(7,vi ((p2.length:Nat):Int)),(9,(.slice (some ⟨b2,0,none⟩) (p0.length+1) c2'))]/\Holds E w (own 77 (.slice (some ⟨b2,0,none⟩) (p0.length+1) c2') (bif D 8 then((p0.take (Int.toNat p1)++List.replicate (p0.length+1 - Int.toNat p1) z0).take (Int.toNat p1)++p2++(p0.take (Int.toNat p1)++List.replicate (p0.length+1 - Int.toNat p1) z0).drop (Int.toNat p1+p2.length)).take (Int.toNat p1+1)++p0.drop (Int.toNat p1)++((p0.take (Int.toNat p1)++List.replicate (p0.length+1 - Int.toNat p1) z0).take (Int.toNat p1)++p2++(p0.take (Int.toNat p1)++List.replicate (p0.length+1 - Int.toNat p1) z0).drop (Int.toNat p1+p2.length)).drop (Int.toNat p1+1+(p0.drop<|Int.toNat p1).length)else(p0.take (Int.toNat p1)++List.replicate (p0.length+1 - Int.toNat p1) z0).take (Int.toNat p1)++p2++(p0.take (Int.toNat p1)++List.replicate (p0.length+1 - Int.toNat p1) z0).drop (Int.toNat p1+p2.length))::own 77 (.slice (some ⟨b,o,none⟩) p0.length cap) p0::own 77 (.slice (some ⟨xb,xo,none⟩) p2.length xc) p2::V)) ?_ ⟨?_,?_,?_,?_,?_,?_,?_,?_,?_,trivial⟩ ?_
  ·exact⟨cH.none,⟨rfl,rfl,rfl,rfl,trivial⟩,hw.drew⟩
  ·rintro D U w hD hdep hcl⟨hv,ha,hw⟩
   refine mv (hx:=ha.at 3 rfl) (.slice (some ⟨b2,0,none⟩) (p0.length+1) c2') ?_
   refine x_ ?_
   exact⟨rfl,hv.put 0 rfl rfl,ha.up rfl,hw⟩
  ·rintro D U w hD hdep hcl⟨hv,ha,hw⟩
   refine mv (hx:=ha.at 1 rfl) (vi p1) ?_
   refine x_ ?_
   exact⟨rfl,hv.put 1 rfl rfl,ha.up rfl,hw⟩
  ·rintro D U w hD hdep hcl⟨hv,ha,hw⟩
   refine mv (hx:=ha.at 2 rfl) (vi ((p2.length:Nat):Int)) ?_
   refine x_ ?_
   exact⟨rfl,hv.put 2 rfl rfl,ha.up rfl,hw⟩
  ·rintro D U w hD hdep hcl⟨hv,ha,hw⟩
   refine J9 (hx:=hv.at 1 rfl<|hdep.1 rfl) (hy:=hv.at 2 rfl<|hdep.2.1 rfl) p1 ((p2.length:Nat):Int) ?_
   refine x_ ?_
   exact⟨rfl,hv.put 3 rfl rfl,ha.up rfl,hw⟩
  ·rintro D U w hD hdep hcl⟨hv,ha,hw⟩
   refine KG ((Int.toNat p1+1:Nat):Int) trivial rfl (hv.at 0 rfl<|hdep.1 rfl) sl (congrArg some<|(hv.at 3 rfl<|hdep.2.1 rfl).trans<|congrArg (Value.int .i64) e3) (by omega) (by omega) (by omega) (by omega) ?_
   rw[dA]
   refine x_ ?_
   exact⟨rfl,hv.put 4 rfl rfl,ha.up rfl,hw⟩
  ·rintro D U w hD hdep hcl⟨hv,ha,hw⟩
   refine mv (hx:=ha.at 0 rfl) (.slice (some ⟨b,o,none⟩) p0.length cap) ?_
   refine x_ ?_
   exact⟨rfl,hv.put 5 rfl rfl,ha.up rfl,hw⟩
  ·rintro D U w hD hdep hcl⟨hv,ha,hw⟩
   refine mv (hx:=ha.at 1 rfl) (vi p1) ?_
   refine x_ ?_
   exact⟨rfl,hv.put 6 rfl rfl,ha.up rfl,hw⟩
  ·rintro D U w hD hdep hcl⟨hv,ha,hw⟩
   refine KG _ trivial rfl (hv.at 5 rfl<|hdep.1 rfl) sl (congrArg some<|hv.at 6 rfl<|hdep.2.1 rfl) c1 (by omega) (by omega) (by omega) ?_
   refine x_ ?_
   exact⟨rfl,hv.put 7 rfl rfl,ha.up rfl,hw⟩
  ·rintro D U w hD hdep hcl⟨hv,ha,hw⟩
   rw[hD,aW]at hw
   refine KW 0 (Int.toNat p1+1) (p0.drop<|Int.toNat p1) ((p0.take (Int.toNat p1)++List.replicate (p0.length+1 - Int.toNat p1) z0).take (Int.toNat p1)++p2++(p0.take (Int.toNat p1)++List.replicate (p0.length+1 - Int.toNat p1) z0).drop (Int.toNat p1+p2.length)) trivial rfl hw (hv.at 4 rfl<|hdep.1 rfl) (hv.at 7 rfl<|hdep.2.1 rfl) (by rw[hl3];rfl) el (by rw[hdl];simp only[Nat.min_def];split <;> omega) (by rw[hl3];omega) (by rw[hdl];omega) (λM hs gd=>qP 1 gd rfl (by omega)) λw hw=>?_
   have hmx:Max.max ((p0.take (Int.toNat p1)++List.replicate (p0.length+1 - Int.toNat p1) z0).take (Int.toNat p1)++p2++(p0.take (Int.toNat p1)++List.replicate (p0.length+1 - Int.toNat p1) z0).drop (Int.toNat p1+p2.length)).length (Int.toNat p1+1+(p0.drop<|Int.toNat p1).length)=p0.length+1:=by rw[hl3,hdl];omega
   rw[hmx]at hw
   refine x_ ?_
   exact⟨rfl,hv.up rfl,ha.up rfl,hw⟩
  intro D U w hall ⟨hv,ha,hw⟩
  rw[hall 8 (by decide),bK]at hw
  obtain⟨O,rfl⟩:=ha.sV
  refine aD ?_
  refine u_ ?_
  refine mv (.slice (some ⟨b2,0,none⟩) (p0.length+1) c2') ?_
  refine iT (.slice (some ⟨b2,0,none⟩) (p0.length+1) c2') ?_
  refine v_ ?_
  refine G_ ?_
  refine aX ?_
  have hq:(((p0.take (Int.toNat p1)++List.replicate (p0.length+1 - Int.toNat p1) z0).take (Int.toNat p1)++p2++(p0.take (Int.toNat p1)++List.replicate (p0.length+1 - Int.toNat p1) z0).drop (Int.toNat p1+p2.length)).take (Int.toNat p1+1)++p0.drop (Int.toNat p1)++((p0.take (Int.toNat p1)++List.replicate (p0.length+1 - Int.toNat p1) z0).take (Int.toNat p1)++p2++(p0.take (Int.toNat p1)++List.replicate (p0.length+1 - Int.toNat p1) z0).drop (Int.toNat p1+p2.length)).drop (Int.toNat p1+1+(p0.drop<|Int.toNat p1).length))=l1:=by
   rw[<-hb]
   exact uY p0 p2 _ (Int.toNat p1) z0 c3 (by omega)<|bV _
  rw[hq]at hw
  exact hw.pick 3 [0] (new:=[own 77 (.slice (some ⟨b2,0,none⟩) (p0.length+1) c2') l1]) rfl rfl (by decide) (by decide)
 have hg:p0.length+1<=cap:=by
  have:=of_decide_eq_false hc
  rw[e1]at this;omega
 have e3:wrap .i64 (p1+((p2.length:Nat):Int))=((Int.toNat p1+1:Nat):Int):=by
  rw[c3,hG (by omega) (by omega)];omega
 refine Kv ?_
 refine mv (.slice (some ⟨b,o,none⟩) p0.length cap) ?_
 refine mv (vi ((p0.length:Nat):Int)) ?_
 refine mv (vi ((p2.length:Nat):Int)) ?_
 refine J9 ((p0.length:Nat):Int) ((p2.length:Nat):Int) ?_
 refine Lq (hi:=((p0.length+1:Nat):Int)) trivial rfl rfl sl (congrArg (λx=>some<|Value.int .i64 x) e1) (by omega) (by omega) ?_
 rw[dA]
 refine iT (.slice (some ⟨b,o,none⟩) (p0.length+1) cap) ?_
 refine AS ?_
 refine u_ ?_
 refine mv (.slice (some ⟨xb,xo,none⟩) p2.length xc) ?_
 refine mv (.slice (some ⟨b,o,none⟩) (p0.length+1) cap) ?_
 refine mv (vi p1) ?_
 refine mv (vi ((p2.length:Nat):Int)) ?_
 refine J9 p1 ((p2.length:Nat):Int) ?_
 refine KG ((Int.toNat p1+1:Nat):Int) trivial rfl rfl sl (congrArg (λx=>some<|Value.int .i64 x) e3) (by omega) (by omega) (by omega) (by omega) ?_
 rw[dA]
 refine Lo (Value.bool false) trivial rfl [(.slice (some ⟨xb,xo,none⟩) p2.length xc), .slice (some ⟨b,o+(Int.toNat p1+1)*GT.sz α,none⟩) (p0.length+1 -(Int.toNat p1+1))<|cap -(Int.toNat p1+1)] rfl (qc (Extern.SlicesOverlaps.overlaps #[24,24] #[4]) Tryz.func139 (by kernel_rfl) (by kernel_rfl) (by kernel_rfl) (by kernel_rfl)<|uX 1 0 sl hw rfl rfl (by decide) (by omega) (by omega)) ?_
 refine Ko false ?_
 refine v_ ?_
 refine K0 rfl ?_
 have hdl:(p0.drop<|Int.toNat p1).length=p0.length - Int.toNat p1:=fJ
 refine A_<|K9 mixed rfl (λ(D:Nat->Bool)(U:Nat->Value)(w:World)=>cH D U [(0,69,(.slice (some ⟨b,o,none⟩) (p0.length+1) cap)),(1,70,vi p1),(2,71,vi ((p2.length:Nat):Int)),(3,72,vi<|wrap .i64<|p1+((p2.length:Nat):Int)),(4,73, .slice (some ⟨b,o+(Int.toNat p1+1)*GT.sz α,none⟩) (p0.length+1 -(Int.toNat p1+1))<|cap -(Int.toNat p1+1)),(5,74,(.slice (some ⟨b,o,none⟩) (p0.length+1) cap)),(6,75,vi p1),(7,76, .slice (some ⟨b,o+ Int.toNat p1*GT.sz α,none⟩) (p0.length+1 - Int.toNat p1)<|cap - Int.toNat p1)]/\agree U [(0,(.slice (some ⟨b,o,none⟩) (p0.length+1) cap)),(1,vi p1),(2,(.slice (some ⟨xb,xo,none⟩) p2.length xc)),(7,vi ((p2.length:Nat):Int))]/\Holds E w ((bif D 8 then own 77 (.slice (some ⟨b,o,none⟩) (p0.length+1) cap) (p0.take (Int.toNat p1+1)++p0.drop (Int.toNat p1)++p0.drop (Int.toNat p1+1+(p0.drop<|Int.toNat p1).length))else own 77 (.slice (some ⟨b,o,none⟩) p0.length cap) p0)::own 77 (.slice (some ⟨xb,xo,none⟩) p2.length xc) p2::V)) ?_ ⟨?_,?_,?_,?_,?_,?_,?_,?_,?_,trivial⟩ ?_
 ·exact⟨cH.none,⟨rfl,rfl,rfl,rfl,trivial⟩,hw.drew⟩
 ·rintro D U w hD hdep hcl⟨hv,ha,hw⟩
  refine mv (hx:=ha.at 0 rfl) (.slice (some ⟨b,o,none⟩) (p0.length+1) cap) ?_
  refine x_ ?_
  exact⟨rfl,hv.put 0 rfl rfl,ha.up rfl,hw⟩
 ·rintro D U w hD hdep hcl⟨hv,ha,hw⟩
  refine mv (hx:=ha.at 1 rfl) (vi p1) ?_
  refine x_ ?_
  exact⟨rfl,hv.put 1 rfl rfl,ha.up rfl,hw⟩
 ·rintro D U w hD hdep hcl⟨hv,ha,hw⟩
  refine mv (hx:=ha.at 3 rfl) (vi ((p2.length:Nat):Int)) ?_
  refine x_ ?_
  exact⟨rfl,hv.put 2 rfl rfl,ha.up rfl,hw⟩
 ·rintro D U w hD hdep hcl⟨hv,ha,hw⟩
  refine J9 (hx:=hv.at 1 rfl<|hdep.1 rfl) (hy:=hv.at 2 rfl<|hdep.2.1 rfl) p1 ((p2.length:Nat):Int) ?_
  refine x_ ?_
  exact⟨rfl,hv.put 3 rfl rfl,ha.up rfl,hw⟩
 ·rintro D U w hD hdep hcl⟨hv,ha,hw⟩
  refine KG ((Int.toNat p1+1:Nat):Int) trivial rfl (hv.at 0 rfl<|hdep.1 rfl) sl (congrArg some<|(hv.at 3 rfl<|hdep.2.1 rfl).trans<|congrArg (Value.int .i64) e3) (by omega) (by omega) (by omega) (by omega) ?_
  rw[dA]
  refine x_ ?_
  exact⟨rfl,hv.put 4 rfl rfl,ha.up rfl,hw⟩
 ·rintro D U w hD hdep hcl⟨hv,ha,hw⟩
  refine mv (hx:=ha.at 0 rfl) (.slice (some ⟨b,o,none⟩) (p0.length+1) cap) ?_
  refine x_ ?_
  exact⟨rfl,hv.put 5 rfl rfl,ha.up rfl,hw⟩
 ·rintro D U w hD hdep hcl⟨hv,ha,hw⟩
  refine mv (hx:=ha.at 1 rfl) (vi p1) ?_
  refine x_ ?_
  exact⟨rfl,hv.put 6 rfl rfl,ha.up rfl,hw⟩
 ·rintro D U w hD hdep hcl⟨hv,ha,hw⟩
  refine KG _ trivial rfl (hv.at 5 rfl<|hdep.1 rfl) sl (congrArg some<|hv.at 6 rfl<|hdep.2.1 rfl) c1 (by omega) (by omega) (by omega) ?_
  refine x_ ?_
  exact⟨rfl,hv.put 7 rfl rfl,ha.up rfl,hw⟩
 ·rintro D U w hD hdep hcl⟨hv,ha,hw⟩
  rw[hD,aW]at hw
  refine KW 0 (Int.toNat p1+1) (p0.drop<|Int.toNat p1) p0 trivial rfl hw (hv.at 4 rfl<|hdep.1 rfl) (hv.at 7 rfl<|hdep.2.1 rfl) rfl el (by rw[hdl];simp only[Nat.min_def];split <;> omega) (by omega) (by rw[hdl];omega) (λM hs gd=>qP 0 gd rfl (by omega)) λw hw=>?_
  have hmx:Max.max p0.length (Int.toNat p1+1+(p0.drop<|Int.toNat p1).length)=p0.length+1:=by rw[hdl];omega
  rw[hmx]at hw
  refine x_ ?_
  exact⟨rfl,hv.up rfl,ha.up rfl,hw⟩
 intro D U w hall ⟨hv,ha,hw⟩
 rw[hall 8 (by decide),bK]at hw
 have hl1:(p0.take (Int.toNat p1+1)++p0.drop (Int.toNat p1)++p0.drop (Int.toNat p1+1+(p0.drop<|Int.toNat p1).length)).length=p0.length+1:=by simp only[bY,cC,fJ];omega
 obtain⟨O,rfl⟩:=ha.sV
 refine aD ?_
 refine u_ ?_
 refine mv (.slice (some ⟨b,o,none⟩) (p0.length+1) cap) ?_
 refine mv (vi p1) ?_
 refine KG _ trivial rfl rfl sl rfl c1 (by omega) (by omega) (by omega) ?_
 refine mv (.slice (some ⟨xb,xo,none⟩) p2.length xc) ?_
 refine KW 0 (Int.toNat p1) p2 (p0.take (Int.toNat p1+1)++p0.drop (Int.toNat p1)++p0.drop (Int.toNat p1+1+(p0.drop<|Int.toNat p1).length)) trivial rfl hw rfl rfl (by rw[hl1];rfl) el (by rw[c3];simp only[Nat.min_def];split <;> omega) (by rw[hl1];omega) (by rw[c3];omega) (λM hs gd=>qf 1 gd) λw hw=>?_
 have hmx:Max.max (p0.take (Int.toNat p1+1)++p0.drop (Int.toNat p1)++p0.drop (Int.toNat p1+1+(p0.drop<|Int.toNat p1).length)).length (Int.toNat p1+p2.length)=p0.length+1:=by rw[hl1,c3];omega
 rw[hmx]at hw
 refine AI ?_
 refine mv (.slice (some ⟨b,o,none⟩) (p0.length+1) cap) ?_
 refine iT (.slice (some ⟨b,o,none⟩) (p0.length+1) cap) ?_
 refine v_ ?_
 refine G_ ?_
 refine aX ?_
 have hq:((p0.take (Int.toNat p1+1)++p0.drop (Int.toNat p1)++p0.drop (Int.toNat p1+1+(p0.drop<|Int.toNat p1).length)).take (Int.toNat p1)++p2++(p0.take (Int.toNat p1+1)++p0.drop (Int.toNat p1)++p0.drop (Int.toNat p1+1+(p0.drop<|Int.toNat p1).length)).drop (Int.toNat p1+p2.length))=l1:=by
  rw[<-hb]
  exact tK p0 p2 (Int.toNat p1) c3 (by omega)
 rw[hq]at hw
 exact hw.pick 2 [0] (new:=[own 77 (.slice (some ⟨b,o,none⟩) (p0.length+1) cap) l1]) rfl rfl (by decide) (by decide)
theorem IZ:wt bE 83 (⟨⟨[]⟩,⟨[]⟩⟩:Pin):=wt.of (.agg #[(.string ⟨#[]⟩),(.string ⟨#[]⟩)])<|λM=>wJ M
theorem Dy{α:Type}[GT α]{z0:α}{bytes:Nat}(sl:tF bE 78 83 (GT.sz α))(el:uR bE 78 83 (GT.sz α) bytes)(zd:wt bE 83 z0){E w:World}{V:List HP}{v0 v2:Value}{p0 p2 l1:List α}{p1:Int}
    (hw:Holds E w (own 83 v0 p0::own 83 v2 p2::V)) (hb:vQ bytes p0 p1 p2=some l1):c_ 93 [v0,vi p1,v2] w<|λv w=>Holds E w<|own 83 v l1::V:=by
 have un:=sl.tG
 have ui:Tryz.prog.underlying 3=some (.int .i64):=by kernel_rfl
 unfold vQ at hb
 split at hb
 case isFalse=>cases hb
 rename_i hc
 obtain⟨c1,c2,c3,c4⟩:=hc
 have hb:=oi hb
 have hle:p0.length+p2.length<=140737488355328:=iG (Nat.le_mul_of_pos_right _ el.pos) c4
 obtain⟨xb,xo,xc,rfl,hv1,hv2⟩:=sX 1 hw rfl (by omega)
 obtain⟨a,cap,rfl,hcap⟩:=uo 0 hw rfl
 refine enter Tryz.func93 rfl rfl ?_
 refine u_ ?_
 refine iT n_ ?_
 refine AI ?_
 refine mv (.slice a p0.length cap) ?_
 refine mv (vi p1) ?_
 refine LL rfl rfl sl rfl c1 c2 hcap λu=>?_
 refine AI ?_
 refine mv (.slice (some ⟨xb,xo,none⟩) p2.length xc) ?_
 refine KM 1 p2 hw un ?_
 refine iT (vi ((p2.length:Nat):Int)) ?_
 refine AS ?_
 refine u_ ?_
 refine mv (vi ((p2.length:Nat):Int)) ?_
 refine ic ((p2.length:Nat):Int) 0 ?_
 refine v_ ?_
 refine KT (b:=((p2.length:Nat):Int)==0) rfl (λhc=>?_)<|λhc=>?_
 ·exfalso
  rw[c3]at hc
  exact absurd hc (by decide)
 refine Kv ?_
 refine mv (.slice a p0.length cap) ?_
 refine KM 0 p0 hw un ?_
 refine iT (vi ((p0.length:Nat):Int)) ?_
 refine AS ?_
 refine u_ ?_
 refine mv (vi p1) ?_
 refine mv (vi ((p0.length:Nat):Int)) ?_
 refine ic p1 ((p0.length:Nat):Int) ?_
 refine v_ ?_
 refine KT (b:=p1==((p0.length:Nat):Int)) rfl (λhc=>?_)<|λhc=>?_
 ·have e:p1=((p0.length:Nat):Int):=by simpa using hc
  have hq:p0++p2=l1:=by rw[<-hb,e,dA,gG,List.drop_length,iH]
  have hw:=hw.freeze 1
  refine u_ ?_
  refine mv (.slice a p0.length cap) ?_
  refine mv (.slice (some ⟨xb,xo,none⟩) p2.length xc) ?_
  refine KE (l':=l1) 0 1 trivial rfl hw rfl rfl rfl rfl el (by unfold app;rw[aH c4,hq]) λv w hw=>?_
  refine iT v ?_
  refine v_ ?_
  refine G_ ?_
  exact aX<|hw.pick 2 [0] (new:=[own 83 v l1]) rfl rfl (by decide) (by decide)
 have hlt:p1<((p0.length:Nat):Int):=by
  have:¬p1=((p0.length:Nat):Int):=by simpa using hc
  omega
 obtain⟨b,o,cap',hv,_,hcm⟩:=sX 0 hw rfl (by omega)
 injection hv with q1 q2 q3
 subst q1;subst q3
 have e1:wrap .i64 (((p0.length:Nat):Int)+((p2.length:Nat):Int))=((p0.length+1:Nat):Int):=by
  rw[c3,hG (by omega) (by omega)];omega
 refine Kb ?_
 refine u_ ?_
 refine mv (vi ((p0.length:Nat):Int)) ?_
 refine mv (vi ((p2.length:Nat):Int)) ?_
 refine J9 ((p0.length:Nat):Int) ((p2.length:Nat):Int) ?_
 refine mv (.slice (some ⟨b,o,none⟩) p0.length cap) ?_
 refine LM rfl rfl un ?_
 refine ic (wrap .i64<|((p0.length:Nat):Int)+((p2.length:Nat):Int)) ((cap:Nat):Int) ?_
 refine v_ ?_
 refine KT (b:=decide<|wrap .i64 (((p0.length:Nat):Int)+((p2.length:Nat):Int))>((cap:Nat):Int)) rfl (λhc=>?_)<|λhc=>?_
 ·have hg:cap<p0.length+1:=by
   have:=of_decide_eq_true hc
   rw[e1]at this;omega
  have e2:wrap .i64 (wrap .i64 (((p0.length:Nat):Int)+((p2.length:Nat):Int)) - p1)=((p0.length+1 - Int.toNat p1:Nat):Int):=by
   rw[e1,hG (by omega) (by omega)];omega
  have e3:wrap .i64 (p1+((p2.length:Nat):Int))=((Int.toNat p1+1:Nat):Int):=by
   rw[c3,hG (by omega) (by omega)];omega
  have hs:Int.toNat p1+(p0.length+1 - Int.toNat p1)=p0.length+1:=by omega
  refine u_ ?_
  refine mv (.slice (some ⟨b,o,none⟩) p0.length cap) ?_
  refine mv (vi p1) ?_
  refine Lq trivial rfl rfl sl rfl c1 (by omega) ?_
  refine mv (vi ((p0.length:Nat):Int)) ?_
  refine mv (vi ((p2.length:Nat):Int)) ?_
  refine J9 ((p0.length:Nat):Int) ((p2.length:Nat):Int) ?_
  refine mv (vi p1) ?_
  refine J9 (wrap .i64<|((p0.length:Nat):Int)+((p2.length:Nat):Int)) p1 ?_
  refine LN (Int.toNat p1) 0 p0 (p0.length+1 - Int.toNat p1) trivial rfl hw rfl (congrArg (Value.int .i64) e2) rfl el ui zd (by omega) (by omega) (by omega) (by rw[hs];rw[c3]at c4;exact c4) λb2 c2' w hc2 hw=>?_
  rw[hs]at hw hc2 ⊢
  have hl2:(p0.take (Int.toNat p1)++List.replicate (p0.length+1 - Int.toNat p1) z0).length=p0.length+1:=by rw[bY,cC,lW];omega
  refine iT (.slice (some ⟨b2,0,none⟩) (p0.length+1) c2') ?_
  refine AI ?_
  refine mv (.slice (some ⟨b2,0,none⟩) (p0.length+1) c2') ?_
  refine mv (vi p1) ?_
  refine KG _ trivial rfl rfl sl rfl c1 (by omega) (by omega) (by omega) ?_
  refine mv (.slice (some ⟨xb,xo,none⟩) p2.length xc) ?_
  refine KW 0 (Int.toNat p1) p2 (p0.take (Int.toNat p1)++List.replicate (p0.length+1 - Int.toNat p1) z0) trivial rfl hw rfl rfl (by rw[hl2];rfl) el (by rw[c3];simp only[Nat.min_def];split <;> omega) (by rw[hl2];omega) (by rw[c3];omega) (λM hs gd=>qf 2 gd) λw hw=>?_
  have hmx:Max.max (p0.take (Int.toNat p1)++List.replicate (p0.length+1 - Int.toNat p1) z0).length (Int.toNat p1+p2.length)=p0.length+1:=by rw[hl2,c3];omega
  rw[hmx]at hw
  have hl3:((p0.take (Int.toNat p1)++List.replicate (p0.length+1 - Int.toNat p1) z0).take (Int.toNat p1)++p2++(p0.take (Int.toNat p1)++List.replicate (p0.length+1 - Int.toNat p1) z0).drop (Int.toNat p1+p2.length)).length=p0.length+1:=by simp only[bY,cC,fJ,hl2,c3];omega
  have hdl:(p0.drop<|Int.toNat p1).length=p0.length - Int.toNat p1:=fJ
  refine v_ ?_
  refine A_<|K9 mixed rfl (λ(D:Nat->Bool)(U:Nat->Value)(w:World)=>cH D U [(0,46,(.slice (some ⟨b2,0,none⟩) (p0.length+1) c2')),(1,47,vi p1),(2,48,vi ((p2.length:Nat):Int)),(3,49,vi<|wrap .i64<|p1+((p2.length:Nat):Int)),(4,50, .slice (some ⟨b2,0+(Int.toNat p1+1)*GT.sz α,none⟩) (p0.length+1 -(Int.toNat p1+1))<|c2' -(Int.toNat p1+1)),(5,51,(.slice (some ⟨b,o,none⟩) p0.length cap)),(6,52,vi p1),(7,53, .slice (some ⟨b,o+ Int.toNat p1*GT.sz α,none⟩) (p0.length - Int.toNat p1)<|cap - Int.toNat p1)]/\agree U [(0,(.slice (some ⟨b,o,none⟩) p0.length cap)),(1,vi p1),(7,vi ((p2.length:Nat):Int)),(9,(.slice (some ⟨b2,0,none⟩) (p0.length+1) c2'))]/\Holds E w (own 83 (.slice (some ⟨b2,0,none⟩) (p0.length+1) c2') (bif D 8 then((p0.take (Int.toNat p1)++List.replicate (p0.length+1 - Int.toNat p1) z0).take (Int.toNat p1)++p2++(p0.take (Int.toNat p1)++List.replicate (p0.length+1 - Int.toNat p1) z0).drop (Int.toNat p1+p2.length)).take (Int.toNat p1+1)++p0.drop (Int.toNat p1)++((p0.take (Int.toNat p1)++List.replicate (p0.length+1 - Int.toNat p1) z0).take (Int.toNat p1)++p2++(p0.take (Int.toNat p1)++List.replicate (p0.length+1 - Int.toNat p1) z0).drop (Int.toNat p1+p2.length)).drop (Int.toNat p1+1+(p0.drop<|Int.toNat p1).length)else(p0.take (Int.toNat p1)++List.replicate (p0.length+1 - Int.toNat p1) z0).take (Int.toNat p1)++p2++(p0.take (Int.toNat p1)++List.replicate (p0.length+1 - Int.toNat p1) z0).drop (Int.toNat p1+p2.length))::own 83 (.slice (some ⟨b,o,none⟩) p0.length cap) p0::own 83 (.slice (some ⟨xb,xo,none⟩) p2.length xc) p2::V)) ?_ ⟨?_,?_,?_,?_,?_,?_,?_,?_,?_,trivial⟩ ?_
  ·exact⟨cH.none,⟨rfl,rfl,rfl,rfl,trivial⟩,hw.drew⟩
  ·rintro D U w hD hdep hcl⟨hv,ha,hw⟩
   refine mv (hx:=ha.at 3 rfl) (.slice (some ⟨b2,0,none⟩) (p0.length+1) c2') ?_
   refine x_ ?_
   exact⟨rfl,hv.put 0 rfl rfl,ha.up rfl,hw⟩
  ·rintro D U w hD hdep hcl⟨hv,ha,hw⟩
   refine mv (hx:=ha.at 1 rfl) (vi p1) ?_
   refine x_ ?_
   exact⟨rfl,hv.put 1 rfl rfl,ha.up rfl,hw⟩
  ·rintro D U w hD hdep hcl⟨hv,ha,hw⟩
   refine mv (hx:=ha.at 2 rfl) (vi ((p2.length:Nat):Int)) ?_
   refine x_ ?_
   exact⟨rfl,hv.put 2 rfl rfl,ha.up rfl,hw⟩
  ·rintro D U w hD hdep hcl⟨hv,ha,hw⟩
   refine J9 (hx:=hv.at 1 rfl<|hdep.1 rfl) (hy:=hv.at 2 rfl<|hdep.2.1 rfl) p1 ((p2.length:Nat):Int) ?_
   refine x_ ?_
   exact⟨rfl,hv.put 3 rfl rfl,ha.up rfl,hw⟩
  ·rintro D U w hD hdep hcl⟨hv,ha,hw⟩
   refine KG ((Int.toNat p1+1:Nat):Int) trivial rfl (hv.at 0 rfl<|hdep.1 rfl) sl (congrArg some<|(hv.at 3 rfl<|hdep.2.1 rfl).trans<|congrArg (Value.int .i64) e3) (by omega) (by omega) (by omega) (by omega) ?_
   rw[dA]
   refine x_ ?_
   exact⟨rfl,hv.put 4 rfl rfl,ha.up rfl,hw⟩
  ·rintro D U w hD hdep hcl⟨hv,ha,hw⟩
   refine mv (hx:=ha.at 0 rfl) (.slice (some ⟨b,o,none⟩) p0.length cap) ?_
   refine x_ ?_
   exact⟨rfl,hv.put 5 rfl rfl,ha.up rfl,hw⟩
  ·rintro D U w hD hdep hcl⟨hv,ha,hw⟩
   refine mv (hx:=ha.at 1 rfl) (vi p1) ?_
   refine x_ ?_
   exact⟨rfl,hv.put 6 rfl rfl,ha.up rfl,hw⟩
  ·rintro D U w hD hdep hcl⟨hv,ha,hw⟩
   refine KG _ trivial rfl (hv.at 5 rfl<|hdep.1 rfl) sl (congrArg some<|hv.at 6 rfl<|hdep.2.1 rfl) c1 (by omega) (by omega) (by omega) ?_
   refine x_ ?_
   exact⟨rfl,hv.put 7 rfl rfl,ha.up rfl,hw⟩
  ·rintro D U w hD hdep hcl⟨hv,ha,hw⟩
   rw[hD,aW]at hw
   refine KW 0 (Int.toNat p1+1) (p0.drop<|Int.toNat p1) ((p0.take (Int.toNat p1)++List.replicate (p0.length+1 - Int.toNat p1) z0).take (Int.toNat p1)++p2++(p0.take (Int.toNat p1)++List.replicate (p0.length+1 - Int.toNat p1) z0).drop (Int.toNat p1+p2.length)) trivial rfl hw (hv.at 4 rfl<|hdep.1 rfl) (hv.at 7 rfl<|hdep.2.1 rfl) (by rw[hl3];rfl) el (by rw[hdl];simp only[Nat.min_def];split <;> omega) (by rw[hl3];omega) (by rw[hdl];omega) (λM hs gd=>qP 1 gd rfl (by omega)) λw hw=>?_
   have hmx:Max.max ((p0.take (Int.toNat p1)++List.replicate (p0.length+1 - Int.toNat p1) z0).take (Int.toNat p1)++p2++(p0.take (Int.toNat p1)++List.replicate (p0.length+1 - Int.toNat p1) z0).drop (Int.toNat p1+p2.length)).length (Int.toNat p1+1+(p0.drop<|Int.toNat p1).length)=p0.length+1:=by rw[hl3,hdl];omega
   rw[hmx]at hw
   refine x_ ?_
   exact⟨rfl,hv.up rfl,ha.up rfl,hw⟩
  intro D U w hall ⟨hv,ha,hw⟩
  rw[hall 8 (by decide),bK]at hw
  obtain⟨O,rfl⟩:=ha.sV
  refine aD ?_
  refine u_ ?_
  refine mv (.slice (some ⟨b2,0,none⟩) (p0.length+1) c2') ?_
  refine iT (.slice (some ⟨b2,0,none⟩) (p0.length+1) c2') ?_
  refine v_ ?_
  refine G_ ?_
  refine aX ?_
  have hq:(((p0.take (Int.toNat p1)++List.replicate (p0.length+1 - Int.toNat p1) z0).take (Int.toNat p1)++p2++(p0.take (Int.toNat p1)++List.replicate (p0.length+1 - Int.toNat p1) z0).drop (Int.toNat p1+p2.length)).take (Int.toNat p1+1)++p0.drop (Int.toNat p1)++((p0.take (Int.toNat p1)++List.replicate (p0.length+1 - Int.toNat p1) z0).take (Int.toNat p1)++p2++(p0.take (Int.toNat p1)++List.replicate (p0.length+1 - Int.toNat p1) z0).drop (Int.toNat p1+p2.length)).drop (Int.toNat p1+1+(p0.drop<|Int.toNat p1).length))=l1:=by
   rw[<-hb]
   exact uY p0 p2 _ (Int.toNat p1) z0 c3 (by omega)<|bV _
  rw[hq]at hw
  exact hw.pick 3 [0] (new:=[own 83 (.slice (some ⟨b2,0,none⟩) (p0.length+1) c2') l1]) rfl rfl (by decide) (by decide)
 have hg:p0.length+1<=cap:=by
  have:=of_decide_eq_false hc
  rw[e1]at this;omega
 have e3:wrap .i64 (p1+((p2.length:Nat):Int))=((Int.toNat p1+1:Nat):Int):=by
  rw[c3,hG (by omega) (by omega)];omega
 refine Kv ?_
 refine mv (.slice (some ⟨b,o,none⟩) p0.length cap) ?_
 refine mv (vi ((p0.length:Nat):Int)) ?_
 refine mv (vi ((p2.length:Nat):Int)) ?_
 refine J9 ((p0.length:Nat):Int) ((p2.length:Nat):Int) ?_
 refine Lq (hi:=((p0.length+1:Nat):Int)) trivial rfl rfl sl (congrArg (λx=>some<|Value.int .i64 x) e1) (by omega) (by omega) ?_
 rw[dA]
 refine iT (.slice (some ⟨b,o,none⟩) (p0.length+1) cap) ?_
 refine AS ?_
 refine u_ ?_
 refine mv (.slice (some ⟨xb,xo,none⟩) p2.length xc) ?_
 refine mv (.slice (some ⟨b,o,none⟩) (p0.length+1) cap) ?_
 refine mv (vi p1) ?_
 refine mv (vi ((p2.length:Nat):Int)) ?_
 refine J9 p1 ((p2.length:Nat):Int) ?_
 refine KG ((Int.toNat p1+1:Nat):Int) trivial rfl rfl sl (congrArg (λx=>some<|Value.int .i64 x) e3) (by omega) (by omega) (by omega) (by omega) ?_
 rw[dA]
 refine Lo (Value.bool false) trivial rfl [(.slice (some ⟨xb,xo,none⟩) p2.length xc), .slice (some ⟨b,o+(Int.toNat p1+1)*GT.sz α,none⟩) (p0.length+1 -(Int.toNat p1+1))<|cap -(Int.toNat p1+1)] rfl (qc (Extern.SlicesOverlaps.overlaps #[78,78] #[4]) Tryz.func141 (by kernel_rfl) (by kernel_rfl) (by kernel_rfl) (by kernel_rfl)<|uX 1 0 sl hw rfl rfl (by decide) (by omega) (by omega)) ?_
 refine Ko false ?_
 refine v_ ?_
 refine K0 rfl ?_
 have hdl:(p0.drop<|Int.toNat p1).length=p0.length - Int.toNat p1:=fJ
 refine A_<|K9 mixed rfl (λ(D:Nat->Bool)(U:Nat->Value)(w:World)=>cH D U [(0,69,(.slice (some ⟨b,o,none⟩) (p0.length+1) cap)),(1,70,vi p1),(2,71,vi ((p2.length:Nat):Int)),(3,72,vi<|wrap .i64<|p1+((p2.length:Nat):Int)),(4,73, .slice (some ⟨b,o+(Int.toNat p1+1)*GT.sz α,none⟩) (p0.length+1 -(Int.toNat p1+1))<|cap -(Int.toNat p1+1)),(5,74,(.slice (some ⟨b,o,none⟩) (p0.length+1) cap)),(6,75,vi p1),(7,76, .slice (some ⟨b,o+ Int.toNat p1*GT.sz α,none⟩) (p0.length+1 - Int.toNat p1)<|cap - Int.toNat p1)]/\agree U [(0,(.slice (some ⟨b,o,none⟩) (p0.length+1) cap)),(1,vi p1),(2,(.slice (some ⟨xb,xo,none⟩) p2.length xc)),(7,vi ((p2.length:Nat):Int))]/\Holds E w ((bif D 8 then own 83 (.slice (some ⟨b,o,none⟩) (p0.length+1) cap) (p0.take (Int.toNat p1+1)++p0.drop (Int.toNat p1)++p0.drop (Int.toNat p1+1+(p0.drop<|Int.toNat p1).length))else own 83 (.slice (some ⟨b,o,none⟩) p0.length cap) p0)::own 83 (.slice (some ⟨xb,xo,none⟩) p2.length xc) p2::V)) ?_ ⟨?_,?_,?_,?_,?_,?_,?_,?_,?_,trivial⟩ ?_
 ·exact⟨cH.none,⟨rfl,rfl,rfl,rfl,trivial⟩,hw.drew⟩
 ·rintro D U w hD hdep hcl⟨hv,ha,hw⟩
  refine mv (hx:=ha.at 0 rfl) (.slice (some ⟨b,o,none⟩) (p0.length+1) cap) ?_
  refine x_ ?_
  exact⟨rfl,hv.put 0 rfl rfl,ha.up rfl,hw⟩
 ·rintro D U w hD hdep hcl⟨hv,ha,hw⟩
  refine mv (hx:=ha.at 1 rfl) (vi p1) ?_
  refine x_ ?_
  exact⟨rfl,hv.put 1 rfl rfl,ha.up rfl,hw⟩
 ·rintro D U w hD hdep hcl⟨hv,ha,hw⟩
  refine mv (hx:=ha.at 3 rfl) (vi ((p2.length:Nat):Int)) ?_
  refine x_ ?_
  exact⟨rfl,hv.put 2 rfl rfl,ha.up rfl,hw⟩
 ·rintro D U w hD hdep hcl⟨hv,ha,hw⟩
  refine J9 (hx:=hv.at 1 rfl<|hdep.1 rfl) (hy:=hv.at 2 rfl<|hdep.2.1 rfl) p1 ((p2.length:Nat):Int) ?_
  refine x_ ?_
  exact⟨rfl,hv.put 3 rfl rfl,ha.up rfl,hw⟩
 ·rintro D U w hD hdep hcl⟨hv,ha,hw⟩
  refine KG ((Int.toNat p1+1:Nat):Int) trivial rfl (hv.at 0 rfl<|hdep.1 rfl) sl (congrArg some<|(hv.at 3 rfl<|hdep.2.1 rfl).trans<|congrArg (Value.int .i64) e3) (by omega) (by omega) (by omega) (by omega) ?_
  rw[dA]
  refine x_ ?_
  exact⟨rfl,hv.put 4 rfl rfl,ha.up rfl,hw⟩
 ·rintro D U w hD hdep hcl⟨hv,ha,hw⟩
  refine mv (hx:=ha.at 0 rfl) (.slice (some ⟨b,o,none⟩) (p0.length+1) cap) ?_
  refine x_ ?_
  exact⟨rfl,hv.put 5 rfl rfl,ha.up rfl,hw⟩
 ·rintro D U w hD hdep hcl⟨hv,ha,hw⟩
  refine mv (hx:=ha.at 1 rfl) (vi p1) ?_
  refine x_ ?_
  exact⟨rfl,hv.put 6 rfl rfl,ha.up rfl,hw⟩
 ·rintro D U w hD hdep hcl⟨hv,ha,hw⟩
  refine KG _ trivial rfl (hv.at 5 rfl<|hdep.1 rfl) sl (congrArg some<|hv.at 6 rfl<|hdep.2.1 rfl) c1 (by omega) (by omega) (by omega) ?_
  refine x_ ?_
  exact⟨rfl,hv.put 7 rfl rfl,ha.up rfl,hw⟩
 ·rintro D U w hD hdep hcl⟨hv,ha,hw⟩
  rw[hD,aW]at hw
  refine KW 0 (Int.toNat p1+1) (p0.drop<|Int.toNat p1) p0 trivial rfl hw (hv.at 4 rfl<|hdep.1 rfl) (hv.at 7 rfl<|hdep.2.1 rfl) rfl el (by rw[hdl];simp only[Nat.min_def];split <;> omega) (by omega) (by rw[hdl];omega) (λM hs gd=>qP 0 gd rfl (by omega)) λw hw=>?_
  have hmx:Max.max p0.length (Int.toNat p1+1+(p0.drop<|Int.toNat p1).length)=p0.length+1:=by rw[hdl];omega
  rw[hmx]at hw
  refine x_ ?_
  exact⟨rfl,hv.up rfl,ha.up rfl,hw⟩
 intro D U w hall ⟨hv,ha,hw⟩
 rw[hall 8 (by decide),bK]at hw
 have hl1:(p0.take (Int.toNat p1+1)++p0.drop (Int.toNat p1)++p0.drop (Int.toNat p1+1+(p0.drop<|Int.toNat p1).length)).length=p0.length+1:=by simp only[bY,cC,fJ];omega
 obtain⟨O,rfl⟩:=ha.sV
 refine aD ?_
 refine u_ ?_
 refine mv (.slice (some ⟨b,o,none⟩) (p0.length+1) cap) ?_
 refine mv (vi p1) ?_
 refine KG _ trivial rfl rfl sl rfl c1 (by omega) (by omega) (by omega) ?_
 refine mv (.slice (some ⟨xb,xo,none⟩) p2.length xc) ?_
 refine KW 0 (Int.toNat p1) p2 (p0.take (Int.toNat p1+1)++p0.drop (Int.toNat p1)++p0.drop (Int.toNat p1+1+(p0.drop<|Int.toNat p1).length)) trivial rfl hw rfl rfl (by rw[hl1];rfl) el (by rw[c3];simp only[Nat.min_def];split <;> omega) (by rw[hl1];omega) (by rw[c3];omega) (λM hs gd=>qf 1 gd) λw hw=>?_
 have hmx:Max.max (p0.take (Int.toNat p1+1)++p0.drop (Int.toNat p1)++p0.drop (Int.toNat p1+1+(p0.drop<|Int.toNat p1).length)).length (Int.toNat p1+p2.length)=p0.length+1:=by rw[hl1,c3];omega
 rw[hmx]at hw
 refine AI ?_
 refine mv (.slice (some ⟨b,o,none⟩) (p0.length+1) cap) ?_
 refine iT (.slice (some ⟨b,o,none⟩) (p0.length+1) cap) ?_
 refine v_ ?_
 refine G_ ?_
 refine aX ?_
 have hq:((p0.take (Int.toNat p1+1)++p0.drop (Int.toNat p1)++p0.drop (Int.toNat p1+1+(p0.drop<|Int.toNat p1).length)).take (Int.toNat p1)++p2++(p0.take (Int.toNat p1+1)++p0.drop (Int.toNat p1)++p0.drop (Int.toNat p1+1+(p0.drop<|Int.toNat p1).length)).drop (Int.toNat p1+p2.length))=l1:=by
  rw[<-hb]
  exact tK p0 p2 (Int.toNat p1) c3 (by omega)
 rw[hq]at hw
 exact hw.pick 2 [0] (new:=[own 83 (.slice (some ⟨b,o,none⟩) (p0.length+1) cap) l1]) rfl rfl (by decide) (by decide)
theorem I2:wt bE 80 (⟨⟨[]⟩,[],[]⟩:Net):=wt.of (.agg #[(.string ⟨#[]⟩),n_,n_])<|λM=>Fw M
theorem Dz{α:Type}[GT α]{z0:α}{bytes:Nat}(sl:tF bE 25 80 (GT.sz α))(el:uR bE 25 80 (GT.sz α) bytes)(zd:wt bE 80 z0){E w:World}{V:List HP}{v0 v2:Value}{p0 p2 l1:List α}{p1:Int}
    (hw:Holds E w (own 80 v0 p0::own 80 v2 p2::V)) (hb:vQ bytes p0 p1 p2=some l1):c_ 62 [v0,vi p1,v2] w<|λv w=>Holds E w<|own 80 v l1::V:=by
 have un:=sl.tG
 have ui:Tryz.prog.underlying 3=some (.int .i64):=by kernel_rfl
 unfold vQ at hb
 split at hb
 case isFalse=>cases hb
 rename_i hc
 obtain⟨c1,c2,c3,c4⟩:=hc
 have hb:=oi hb
 have hle:p0.length+p2.length<=140737488355328:=iG (Nat.le_mul_of_pos_right _ el.pos) c4
 obtain⟨xb,xo,xc,rfl,hv1,hv2⟩:=sX 1 hw rfl (by omega)
 obtain⟨a,cap,rfl,hcap⟩:=uo 0 hw rfl
 refine enter Tryz.func62 rfl rfl ?_
 refine u_ ?_
 refine iT n_ ?_
 refine AI ?_
 refine mv (.slice a p0.length cap) ?_
 refine mv (vi p1) ?_
 refine LL rfl rfl sl rfl c1 c2 hcap λu=>?_
 refine AI ?_
 refine mv (.slice (some ⟨xb,xo,none⟩) p2.length xc) ?_
 refine KM 1 p2 hw un ?_
 refine iT (vi ((p2.length:Nat):Int)) ?_
 refine AS ?_
 refine u_ ?_
 refine mv (vi ((p2.length:Nat):Int)) ?_
 refine ic ((p2.length:Nat):Int) 0 ?_
 refine v_ ?_
 refine KT (b:=((p2.length:Nat):Int)==0) rfl (λhc=>?_)<|λhc=>?_
 ·exfalso
  rw[c3]at hc
  exact absurd hc (by decide)
 refine Kv ?_
 refine mv (.slice a p0.length cap) ?_
 refine KM 0 p0 hw un ?_
 refine iT (vi ((p0.length:Nat):Int)) ?_
 refine AS ?_
 refine u_ ?_
 refine mv (vi p1) ?_
 refine mv (vi ((p0.length:Nat):Int)) ?_
 refine ic p1 ((p0.length:Nat):Int) ?_
 refine v_ ?_
 refine KT (b:=p1==((p0.length:Nat):Int)) rfl (λhc=>?_)<|λhc=>?_
 ·have e:p1=((p0.length:Nat):Int):=by simpa using hc
  have hq:p0++p2=l1:=by rw[<-hb,e,dA,gG,List.drop_length,iH]
  have hw:=hw.freeze 1
  refine u_ ?_
  refine mv (.slice a p0.length cap) ?_
  refine mv (.slice (some ⟨xb,xo,none⟩) p2.length xc) ?_
  refine KE (l':=l1) 0 1 trivial rfl hw rfl rfl rfl rfl el (by unfold app;rw[aH c4,hq]) λv w hw=>?_
  refine iT v ?_
  refine v_ ?_
  refine G_ ?_
  exact aX<|hw.pick 2 [0] (new:=[own 80 v l1]) rfl rfl (by decide) (by decide)
 have hlt:p1<((p0.length:Nat):Int):=by
  have:¬p1=((p0.length:Nat):Int):=by simpa using hc
  omega
 obtain⟨b,o,cap',hv,_,hcm⟩:=sX 0 hw rfl (by omega)
 injection hv with q1 q2 q3
 subst q1;subst q3
 have e1:wrap .i64 (((p0.length:Nat):Int)+((p2.length:Nat):Int))=((p0.length+1:Nat):Int):=by
  rw[c3,hG (by omega) (by omega)];omega
 refine Kb ?_
 refine u_ ?_
 refine mv (vi ((p0.length:Nat):Int)) ?_
 refine mv (vi ((p2.length:Nat):Int)) ?_
 refine J9 ((p0.length:Nat):Int) ((p2.length:Nat):Int) ?_
 refine mv (.slice (some ⟨b,o,none⟩) p0.length cap) ?_
 refine LM rfl rfl un ?_
 refine ic (wrap .i64<|((p0.length:Nat):Int)+((p2.length:Nat):Int)) ((cap:Nat):Int) ?_
 refine v_ ?_
 refine KT (b:=decide<|wrap .i64 (((p0.length:Nat):Int)+((p2.length:Nat):Int))>((cap:Nat):Int)) rfl (λhc=>?_)<|λhc=>?_
 ·have hg:cap<p0.length+1:=by
   have:=of_decide_eq_true hc
   rw[e1]at this;omega
  have e2:wrap .i64 (wrap .i64 (((p0.length:Nat):Int)+((p2.length:Nat):Int)) - p1)=((p0.length+1 - Int.toNat p1:Nat):Int):=by
   rw[e1,hG (by omega) (by omega)];omega
  have e3:wrap .i64 (p1+((p2.length:Nat):Int))=((Int.toNat p1+1:Nat):Int):=by
   rw[c3,hG (by omega) (by omega)];omega
  have hs:Int.toNat p1+(p0.length+1 - Int.toNat p1)=p0.length+1:=by omega
  refine u_ ?_
  refine mv (.slice (some ⟨b,o,none⟩) p0.length cap) ?_
  refine mv (vi p1) ?_
  refine Lq trivial rfl rfl sl rfl c1 (by omega) ?_
  refine mv (vi ((p0.length:Nat):Int)) ?_
  refine mv (vi ((p2.length:Nat):Int)) ?_
  refine J9 ((p0.length:Nat):Int) ((p2.length:Nat):Int) ?_
  refine mv (vi p1) ?_
  refine J9 (wrap .i64<|((p0.length:Nat):Int)+((p2.length:Nat):Int)) p1 ?_
  refine LN (Int.toNat p1) 0 p0 (p0.length+1 - Int.toNat p1) trivial rfl hw rfl (congrArg (Value.int .i64) e2) rfl el ui zd (by omega) (by omega) (by omega) (by rw[hs];rw[c3]at c4;exact c4) λb2 c2' w hc2 hw=>?_
  rw[hs]at hw hc2 ⊢
  have hl2:(p0.take (Int.toNat p1)++List.replicate (p0.length+1 - Int.toNat p1) z0).length=p0.length+1:=by rw[bY,cC,lW];omega
  refine iT (.slice (some ⟨b2,0,none⟩) (p0.length+1) c2') ?_
  refine AI ?_
  refine mv (.slice (some ⟨b2,0,none⟩) (p0.length+1) c2') ?_
  refine mv (vi p1) ?_
  refine KG _ trivial rfl rfl sl rfl c1 (by omega) (by omega) (by omega) ?_
  refine mv (.slice (some ⟨xb,xo,none⟩) p2.length xc) ?_
  refine KW 0 (Int.toNat p1) p2 (p0.take (Int.toNat p1)++List.replicate (p0.length+1 - Int.toNat p1) z0) trivial rfl hw rfl rfl (by rw[hl2];rfl) el (by rw[c3];simp only[Nat.min_def];split <;> omega) (by rw[hl2];omega) (by rw[c3];omega) (λM hs gd=>qf 2 gd) λw hw=>?_
  have hmx:Max.max (p0.take (Int.toNat p1)++List.replicate (p0.length+1 - Int.toNat p1) z0).length (Int.toNat p1+p2.length)=p0.length+1:=by rw[hl2,c3];omega
  rw[hmx]at hw
  have hl3:((p0.take (Int.toNat p1)++List.replicate (p0.length+1 - Int.toNat p1) z0).take (Int.toNat p1)++p2++(p0.take (Int.toNat p1)++List.replicate (p0.length+1 - Int.toNat p1) z0).drop (Int.toNat p1+p2.length)).length=p0.length+1:=by simp only[bY,cC,fJ,hl2,c3];omega
  have hdl:(p0.drop<|Int.toNat p1).length=p0.length - Int.toNat p1:=fJ
  refine v_ ?_
  refine A_<|K9 mixed rfl (λ(D:Nat->Bool)(U:Nat->Value)(w:World)=>cH D U [(0,46,(.slice (some ⟨b2,0,none⟩) (p0.length+1) c2')),(1,47,vi p1),(2,48,vi ((p2.length:Nat):Int)),(3,49,vi<|wrap .i64<|p1+((p2.length:Nat):Int)),(4,50, .slice (some ⟨b2,0+(Int.toNat p1+1)*GT.sz α,none⟩) (p0.length+1 -(Int.toNat p1+1))<|c2' -(Int.toNat p1+1)),(5,51,(.slice (some ⟨b,o,none⟩) p0.length cap)),(6,52,vi p1),(7,53, .slice (some ⟨b,o+ Int.toNat p1*GT.sz α,none⟩) (p0.length - Int.toNat p1)<|cap - Int.toNat p1)]/\agree U [(0,(.slice (some ⟨b,o,none⟩) p0.length cap)),(1,vi p1),(7,vi ((p2.length:Nat):Int)),(9,(.slice (some ⟨b2,0,none⟩) (p0.length+1) c2'))]/\Holds E w (own 80 (.slice (some ⟨b2,0,none⟩) (p0.length+1) c2') (bif D 8 then((p0.take (Int.toNat p1)++List.replicate (p0.length+1 - Int.toNat p1) z0).take (Int.toNat p1)++p2++(p0.take (Int.toNat p1)++List.replicate (p0.length+1 - Int.toNat p1) z0).drop (Int.toNat p1+p2.length)).take (Int.toNat p1+1)++p0.drop (Int.toNat p1)++((p0.take (Int.toNat p1)++List.replicate (p0.length+1 - Int.toNat p1) z0).take (Int.toNat p1)++p2++(p0.take (Int.toNat p1)++List.replicate (p0.length+1 - Int.toNat p1) z0).drop (Int.toNat p1+p2.length)).drop (Int.toNat p1+1+(p0.drop<|Int.toNat p1).length)else(p0.take (Int.toNat p1)++List.replicate (p0.length+1 - Int.toNat p1) z0).take (Int.toNat p1)++p2++(p0.take (Int.toNat p1)++List.replicate (p0.length+1 - Int.toNat p1) z0).drop (Int.toNat p1+p2.length))::own 80 (.slice (some ⟨b,o,none⟩) p0.length cap) p0::own 80 (.slice (some ⟨xb,xo,none⟩) p2.length xc) p2::V)) ?_ ⟨?_,?_,?_,?_,?_,?_,?_,?_,?_,trivial⟩ ?_
  ·exact⟨cH.none,⟨rfl,rfl,rfl,rfl,trivial⟩,hw.drew⟩
  ·rintro D U w hD hdep hcl⟨hv,ha,hw⟩
   refine mv (hx:=ha.at 3 rfl) (.slice (some ⟨b2,0,none⟩) (p0.length+1) c2') ?_
   refine x_ ?_
   exact⟨rfl,hv.put 0 rfl rfl,ha.up rfl,hw⟩
  ·rintro D U w hD hdep hcl⟨hv,ha,hw⟩
   refine mv (hx:=ha.at 1 rfl) (vi p1) ?_
   refine x_ ?_
   exact⟨rfl,hv.put 1 rfl rfl,ha.up rfl,hw⟩
  ·rintro D U w hD hdep hcl⟨hv,ha,hw⟩
   refine mv (hx:=ha.at 2 rfl) (vi ((p2.length:Nat):Int)) ?_
   refine x_ ?_
   exact⟨rfl,hv.put 2 rfl rfl,ha.up rfl,hw⟩
  ·rintro D U w hD hdep hcl⟨hv,ha,hw⟩
   refine J9 (hx:=hv.at 1 rfl<|hdep.1 rfl) (hy:=hv.at 2 rfl<|hdep.2.1 rfl) p1 ((p2.length:Nat):Int) ?_
   refine x_ ?_
   exact⟨rfl,hv.put 3 rfl rfl,ha.up rfl,hw⟩
  ·rintro D U w hD hdep hcl⟨hv,ha,hw⟩
   refine KG ((Int.toNat p1+1:Nat):Int) trivial rfl (hv.at 0 rfl<|hdep.1 rfl) sl (congrArg some<|(hv.at 3 rfl<|hdep.2.1 rfl).trans<|congrArg (Value.int .i64) e3) (by omega) (by omega) (by omega) (by omega) ?_
   rw[dA]
   refine x_ ?_
   exact⟨rfl,hv.put 4 rfl rfl,ha.up rfl,hw⟩
  ·rintro D U w hD hdep hcl⟨hv,ha,hw⟩
   refine mv (hx:=ha.at 0 rfl) (.slice (some ⟨b,o,none⟩) p0.length cap) ?_
   refine x_ ?_
   exact⟨rfl,hv.put 5 rfl rfl,ha.up rfl,hw⟩
  ·rintro D U w hD hdep hcl⟨hv,ha,hw⟩
   refine mv (hx:=ha.at 1 rfl) (vi p1) ?_
   refine x_ ?_
   exact⟨rfl,hv.put 6 rfl rfl,ha.up rfl,hw⟩
  ·rintro D U w hD hdep hcl⟨hv,ha,hw⟩
   refine KG _ trivial rfl (hv.at 5 rfl<|hdep.1 rfl) sl (congrArg some<|hv.at 6 rfl<|hdep.2.1 rfl) c1 (by omega) (by omega) (by omega) ?_
   refine x_ ?_
   exact⟨rfl,hv.put 7 rfl rfl,ha.up rfl,hw⟩
  ·rintro D U w hD hdep hcl⟨hv,ha,hw⟩
   rw[hD,aW]at hw
   refine KW 0 (Int.toNat p1+1) (p0.drop<|Int.toNat p1) ((p0.take (Int.toNat p1)++List.replicate (p0.length+1 - Int.toNat p1) z0).take (Int.toNat p1)++p2++(p0.take (Int.toNat p1)++List.replicate (p0.length+1 - Int.toNat p1) z0).drop (Int.toNat p1+p2.length)) trivial rfl hw (hv.at 4 rfl<|hdep.1 rfl) (hv.at 7 rfl<|hdep.2.1 rfl) (by rw[hl3];rfl) el (by rw[hdl];simp only[Nat.min_def];split <;> omega) (by rw[hl3];omega) (by rw[hdl];omega) (λM hs gd=>qP 1 gd rfl (by omega)) λw hw=>?_
   have hmx:Max.max ((p0.take (Int.toNat p1)++List.replicate (p0.length+1 - Int.toNat p1) z0).take (Int.toNat p1)++p2++(p0.take (Int.toNat p1)++List.replicate (p0.length+1 - Int.toNat p1) z0).drop (Int.toNat p1+p2.length)).length (Int.toNat p1+1+(p0.drop<|Int.toNat p1).length)=p0.length+1:=by rw[hl3,hdl];omega
   rw[hmx]at hw
   refine x_ ?_
   exact⟨rfl,hv.up rfl,ha.up rfl,hw⟩
  intro D U w hall ⟨hv,ha,hw⟩
  rw[hall 8 (by decide),bK]at hw
  obtain⟨O,rfl⟩:=ha.sV
  refine aD ?_
  refine u_ ?_
  refine mv (.slice (some ⟨b2,0,none⟩) (p0.length+1) c2') ?_
  refine iT (.slice (some ⟨b2,0,none⟩) (p0.length+1) c2') ?_
  refine v_ ?_
  refine G_ ?_
  refine aX ?_
  have hq:(((p0.take (Int.toNat p1)++List.replicate (p0.length+1 - Int.toNat p1) z0).take (Int.toNat p1)++p2++(p0.take (Int.toNat p1)++List.replicate (p0.length+1 - Int.toNat p1) z0).drop (Int.toNat p1+p2.length)).take (Int.toNat p1+1)++p0.drop (Int.toNat p1)++((p0.take (Int.toNat p1)++List.replicate (p0.length+1 - Int.toNat p1) z0).take (Int.toNat p1)++p2++(p0.take (Int.toNat p1)++List.replicate (p0.length+1 - Int.toNat p1) z0).drop (Int.toNat p1+p2.length)).drop (Int.toNat p1+1+(p0.drop<|Int.toNat p1).length))=l1:=by
   rw[<-hb]
   exact uY p0 p2 _ (Int.toNat p1) z0 c3 (by omega)<|bV _
  rw[hq]at hw
  exact hw.pick 3 [0] (new:=[own 80 (.slice (some ⟨b2,0,none⟩) (p0.length+1) c2') l1]) rfl rfl (by decide) (by decide)
 have hg:p0.length+1<=cap:=by
  have:=of_decide_eq_false hc
  rw[e1]at this;omega
 have e3:wrap .i64 (p1+((p2.length:Nat):Int))=((Int.toNat p1+1:Nat):Int):=by
  rw[c3,hG (by omega) (by omega)];omega
 refine Kv ?_
 refine mv (.slice (some ⟨b,o,none⟩) p0.length cap) ?_
 refine mv (vi ((p0.length:Nat):Int)) ?_
 refine mv (vi ((p2.length:Nat):Int)) ?_
 refine J9 ((p0.length:Nat):Int) ((p2.length:Nat):Int) ?_
 refine Lq (hi:=((p0.length+1:Nat):Int)) trivial rfl rfl sl (congrArg (λx=>some<|Value.int .i64 x) e1) (by omega) (by omega) ?_
 rw[dA]
 refine iT (.slice (some ⟨b,o,none⟩) (p0.length+1) cap) ?_
 refine AS ?_
 refine u_ ?_
 refine mv (.slice (some ⟨xb,xo,none⟩) p2.length xc) ?_
 refine mv (.slice (some ⟨b,o,none⟩) (p0.length+1) cap) ?_
 refine mv (vi p1) ?_
 refine mv (vi ((p2.length:Nat):Int)) ?_
 refine J9 p1 ((p2.length:Nat):Int) ?_
 refine KG ((Int.toNat p1+1:Nat):Int) trivial rfl rfl sl (congrArg (λx=>some<|Value.int .i64 x) e3) (by omega) (by omega) (by omega) (by omega) ?_
 rw[dA]
 refine Lo (Value.bool false) trivial rfl [(.slice (some ⟨xb,xo,none⟩) p2.length xc), .slice (some ⟨b,o+(Int.toNat p1+1)*GT.sz α,none⟩) (p0.length+1 -(Int.toNat p1+1))<|cap -(Int.toNat p1+1)] rfl (qc (Extern.SlicesOverlaps.overlaps #[25,25] #[4]) Tryz.func94 (by kernel_rfl) (by kernel_rfl) (by kernel_rfl) (by kernel_rfl)<|uX 1 0 sl hw rfl rfl (by decide) (by omega) (by omega)) ?_
 refine Ko false ?_
 refine v_ ?_
 refine K0 rfl ?_
 have hdl:(p0.drop<|Int.toNat p1).length=p0.length - Int.toNat p1:=fJ
 refine A_<|K9 mixed rfl (λ(D:Nat->Bool)(U:Nat->Value)(w:World)=>cH D U [(0,69,(.slice (some ⟨b,o,none⟩) (p0.length+1) cap)),(1,70,vi p1),(2,71,vi ((p2.length:Nat):Int)),(3,72,vi<|wrap .i64<|p1+((p2.length:Nat):Int)),(4,73, .slice (some ⟨b,o+(Int.toNat p1+1)*GT.sz α,none⟩) (p0.length+1 -(Int.toNat p1+1))<|cap -(Int.toNat p1+1)),(5,74,(.slice (some ⟨b,o,none⟩) (p0.length+1) cap)),(6,75,vi p1),(7,76, .slice (some ⟨b,o+ Int.toNat p1*GT.sz α,none⟩) (p0.length+1 - Int.toNat p1)<|cap - Int.toNat p1)]/\agree U [(0,(.slice (some ⟨b,o,none⟩) (p0.length+1) cap)),(1,vi p1),(2,(.slice (some ⟨xb,xo,none⟩) p2.length xc)),(7,vi ((p2.length:Nat):Int))]/\Holds E w ((bif D 8 then own 80 (.slice (some ⟨b,o,none⟩) (p0.length+1) cap) (p0.take (Int.toNat p1+1)++p0.drop (Int.toNat p1)++p0.drop (Int.toNat p1+1+(p0.drop<|Int.toNat p1).length))else own 80 (.slice (some ⟨b,o,none⟩) p0.length cap) p0)::own 80 (.slice (some ⟨xb,xo,none⟩) p2.length xc) p2::V)) ?_ ⟨?_,?_,?_,?_,?_,?_,?_,?_,?_,trivial⟩ ?_
 ·exact⟨cH.none,⟨rfl,rfl,rfl,rfl,trivial⟩,hw.drew⟩
 ·rintro D U w hD hdep hcl⟨hv,ha,hw⟩
  refine mv (hx:=ha.at 0 rfl) (.slice (some ⟨b,o,none⟩) (p0.length+1) cap) ?_
  refine x_ ?_
  exact⟨rfl,hv.put 0 rfl rfl,ha.up rfl,hw⟩
 ·rintro D U w hD hdep hcl⟨hv,ha,hw⟩
  refine mv (hx:=ha.at 1 rfl) (vi p1) ?_
  refine x_ ?_
  exact⟨rfl,hv.put 1 rfl rfl,ha.up rfl,hw⟩
 ·rintro D U w hD hdep hcl⟨hv,ha,hw⟩
  refine mv (hx:=ha.at 3 rfl) (vi ((p2.length:Nat):Int)) ?_
  refine x_ ?_
  exact⟨rfl,hv.put 2 rfl rfl,ha.up rfl,hw⟩
 ·rintro D U w hD hdep hcl⟨hv,ha,hw⟩
  refine J9 (hx:=hv.at 1 rfl<|hdep.1 rfl) (hy:=hv.at 2 rfl<|hdep.2.1 rfl) p1 ((p2.length:Nat):Int) ?_
  refine x_ ?_
  exact⟨rfl,hv.put 3 rfl rfl,ha.up rfl,hw⟩
 ·rintro D U w hD hdep hcl⟨hv,ha,hw⟩
  refine KG ((Int.toNat p1+1:Nat):Int) trivial rfl (hv.at 0 rfl<|hdep.1 rfl) sl (congrArg some<|(hv.at 3 rfl<|hdep.2.1 rfl).trans<|congrArg (Value.int .i64) e3) (by omega) (by omega) (by omega) (by omega) ?_
  rw[dA]
  refine x_ ?_
  exact⟨rfl,hv.put 4 rfl rfl,ha.up rfl,hw⟩
 ·rintro D U w hD hdep hcl⟨hv,ha,hw⟩
  refine mv (hx:=ha.at 0 rfl) (.slice (some ⟨b,o,none⟩) (p0.length+1) cap) ?_
  refine x_ ?_
  exact⟨rfl,hv.put 5 rfl rfl,ha.up rfl,hw⟩
 ·rintro D U w hD hdep hcl⟨hv,ha,hw⟩
  refine mv (hx:=ha.at 1 rfl) (vi p1) ?_
  refine x_ ?_
  exact⟨rfl,hv.put 6 rfl rfl,ha.up rfl,hw⟩
 ·rintro D U w hD hdep hcl⟨hv,ha,hw⟩
  refine KG _ trivial rfl (hv.at 5 rfl<|hdep.1 rfl) sl (congrArg some<|hv.at 6 rfl<|hdep.2.1 rfl) c1 (by omega) (by omega) (by omega) ?_
  refine x_ ?_
  exact⟨rfl,hv.put 7 rfl rfl,ha.up rfl,hw⟩
 ·rintro D U w hD hdep hcl⟨hv,ha,hw⟩
  rw[hD,aW]at hw
  refine KW 0 (Int.toNat p1+1) (p0.drop<|Int.toNat p1) p0 trivial rfl hw (hv.at 4 rfl<|hdep.1 rfl) (hv.at 7 rfl<|hdep.2.1 rfl) rfl el (by rw[hdl];simp only[Nat.min_def];split <;> omega) (by omega) (by rw[hdl];omega) (λM hs gd=>qP 0 gd rfl (by omega)) λw hw=>?_
  have hmx:Max.max p0.length (Int.toNat p1+1+(p0.drop<|Int.toNat p1).length)=p0.length+1:=by rw[hdl];omega
  rw[hmx]at hw
  refine x_ ?_
  exact⟨rfl,hv.up rfl,ha.up rfl,hw⟩
 intro D U w hall ⟨hv,ha,hw⟩
 rw[hall 8 (by decide),bK]at hw
 have hl1:(p0.take (Int.toNat p1+1)++p0.drop (Int.toNat p1)++p0.drop (Int.toNat p1+1+(p0.drop<|Int.toNat p1).length)).length=p0.length+1:=by simp only[bY,cC,fJ];omega
 obtain⟨O,rfl⟩:=ha.sV
 refine aD ?_
 refine u_ ?_
 refine mv (.slice (some ⟨b,o,none⟩) (p0.length+1) cap) ?_
 refine mv (vi p1) ?_
 refine KG _ trivial rfl rfl sl rfl c1 (by omega) (by omega) (by omega) ?_
 refine mv (.slice (some ⟨xb,xo,none⟩) p2.length xc) ?_
 refine KW 0 (Int.toNat p1) p2 (p0.take (Int.toNat p1+1)++p0.drop (Int.toNat p1)++p0.drop (Int.toNat p1+1+(p0.drop<|Int.toNat p1).length)) trivial rfl hw rfl rfl (by rw[hl1];rfl) el (by rw[c3];simp only[Nat.min_def];split <;> omega) (by rw[hl1];omega) (by rw[c3];omega) (λM hs gd=>qf 1 gd) λw hw=>?_
 have hmx:Max.max (p0.take (Int.toNat p1+1)++p0.drop (Int.toNat p1)++p0.drop (Int.toNat p1+1+(p0.drop<|Int.toNat p1).length)).length (Int.toNat p1+p2.length)=p0.length+1:=by rw[hl1,c3];omega
 rw[hmx]at hw
 refine AI ?_
 refine mv (.slice (some ⟨b,o,none⟩) (p0.length+1) cap) ?_
 refine iT (.slice (some ⟨b,o,none⟩) (p0.length+1) cap) ?_
 refine v_ ?_
 refine G_ ?_
 refine aX ?_
 have hq:((p0.take (Int.toNat p1+1)++p0.drop (Int.toNat p1)++p0.drop (Int.toNat p1+1+(p0.drop<|Int.toNat p1).length)).take (Int.toNat p1)++p2++(p0.take (Int.toNat p1+1)++p0.drop (Int.toNat p1)++p0.drop (Int.toNat p1+1+(p0.drop<|Int.toNat p1).length)).drop (Int.toNat p1+p2.length))=l1:=by
  rw[<-hb]
  exact tK p0 p2 (Int.toNat p1) c3 (by omega)
 rw[hq]at hw
 exact hw.pick 2 [0] (new:=[own 80 (.slice (some ⟨b,o,none⟩) (p0.length+1) cap) l1]) rfl rfl (by decide) (by decide)
theorem Hq:Gn bE 77 Part:=⟨λM cs ds a b w ha hb=>by
  obtain⟨_,_,rfl,rfl,rfl⟩:=ha
  obtain⟨_,_,rfl,rfl,rfl⟩:=hb
  refine(qd 9999 Tryz.underlying77<|Eo.cons (by decide) (jI dP rfl _) (jI dP rfl _) (ov tB _ _ w)<|Eo.cons (by decide) (jI dP rfl _) (jI dP rfl _) (ov tB _ _ w) Eo.nil).trans ?_
  congr 1
  cases a;cases b;unfold qi
  rw[lY]
  simp,by kernel_rfl⟩
theorem Ja:xk bE 86 [(0,1),(1,1),(2,1)] #[(.string ⟨#[]⟩),(.int .i64 0),(.int .i64 0)]:=xk.of (.agg #[(.string ⟨#[]⟩),(.int .i64 0),(.int .i64 0)]) Tryz.underlying86
theorem Jb:xk bE 63 [(0,1),(1,1)] #[(.string ⟨#[]⟩),n_]:=xk.of (.agg #[(.string ⟨#[]⟩),n_]) Tryz.underlying63
theorem J3:wt bE 9 (⟨[]⟩:aN):=wt.of (.string ⟨#[]⟩)<|λM=>rfl
theorem FD:gT bE 104:=hL Tryz.func104
def ku(E:World)(V:List HP)(res:List aN)(v:Value)(w:World):Prop:=Holds E w<|[own 9 v res]++V
def i7(E:World)(V:List HP)(res:List Pin)(v:Value)(w:World):Prop:=Holds E w<|[own 83 v res]++V
def aB(E:World)(V:List HP)(res:Int)(v:Value)(w:World):Prop:=v= vi res/\Holds E w V
def aQ(E:World)(V:List HP)(res:Bool)(v:Value)(w:World):Prop:=v= vb res/\Holds E w V
def dU(E:World)(V:List HP)(res:Int×Bool)(v:Value)(w:World):Prop:=v = .tuple #[vi res.1,vb res.2]/\Holds E w V
def sq(E:World)(V:List HP)(res:bG×Int)(v:Value)(w:World):Prop:=∃u0:Value,v = .tuple #[u0,vi res.2]/\Holds E w ([rd u0 res.1]++V)
def vH(H:Type)(d:DataW H):Nat:=YtfidohbopcdgdaaGreatDoor.Rows.uptoBulk d
def HB(H:Type)(d:List (DataW H)):Nat:=YtfidohbopcdgdaaGreatDoor.Rows.uptoBulkAll d
theorem g7:UB vH HB where
  str:=λH b=>by simp[vH,YtfidohbopcdgdaaGreatDoor.Rows.uptoBulk]
  pos:=λH d=>by
    unfold vH
    cases d with
    |lit l=>cases l <;> simp[YtfidohbopcdgdaaGreatDoor.Rows.uptoBulk]
    |nil=>simp[YtfidohbopcdgdaaGreatDoor.Rows.uptoBulk]
    |ptr d=>simp[YtfidohbopcdgdaaGreatDoor.Rows.uptoBulk]
    |slice elems spare=>simp[YtfidohbopcdgdaaGreatDoor.Rows.uptoBulk]
    |agg parts=>simp[YtfidohbopcdgdaaGreatDoor.Rows.uptoBulk]
    |iface t d=>simp[YtfidohbopcdgdaaGreatDoor.Rows.uptoBulk]
    |map entries=>simp[YtfidohbopcdgdaaGreatDoor.Rows.uptoBulk]
    |held h=>simp[YtfidohbopcdgdaaGreatDoor.Rows.uptoBulk]
  sl:=λH e s=>by simp[vH,HB,YtfidohbopcdgdaaGreatDoor.Rows.uptoBulk]
  ag:=λH l=>by simp[vH,HB,YtfidohbopcdgdaaGreatDoor.Rows.uptoBulk]
  nil:=λH=>by simp[HB,YtfidohbopcdgdaaGreatDoor.Rows.uptoBulkAll]
  cons:=λH x l=>by simp[vH,HB,YtfidohbopcdgdaaGreatDoor.Rows.uptoBulkAll]
theorem CP:iO vH Tryz.prog 9 aN:=Ca g7 (by kernel_rfl)
theorem JQ:iO vH Tryz.prog 3 Int:=B9 g7 (by kernel_rfl)
theorem Jh:iO vH Tryz.prog 86 bP:=j9 g7 (λ(x:bP)=>(x.Name,x.Kind,x.bT)) (λb=>⟨b.1,b.2.1,b.2.2⟩) (λb=>rfl) Tryz.underlying86 (iA g7 CP<|iA g7 JQ<|mO g7 JQ) (λb=>by simp only[tW];omega)
theorem Ji:iO vH Tryz.prog 61 (List bP):=kX (e:=86) g7 Jh
theorem Jj:iO vH Tryz.prog 63 aG:=j9 g7 (λ(x:aG)=>(x.Name,x.aU)) (λb=>⟨b.1,b.2⟩) (λb=>rfl) Tryz.underlying63 (iA g7 CP<|mO g7 Ji) (λb=>by simp only[m9];omega)
theorem Jk:iO vH Tryz.prog 22 (List aG):=kX (e:=63) g7 Jj
theorem HC:iO vH Tryz.prog 52 (List aN):=kX (e:=9) g7 CP
theorem Jl:iO vH Tryz.prog 77 Part:=j9 g7 (λ(x:Part)=>(x.Name,x.eD)) (λb=>⟨b.1,b.2⟩) (λb=>rfl) Tryz.underlying77 (iA g7 CP<|mO g7 CP) (λb=>by simp only[yM];omega)
theorem Jm:iO vH Tryz.prog 24 (List Part):=kX (e:=77) g7 Jl
theorem Jn:iO vH Tryz.prog 93 ln:=j9 g7 (λ(x:ln)=>(x.Name,x.aF)) (λb=>⟨b.1,b.2⟩) (λb=>rfl) Tryz.underlying93 (iA g7 CP<|mO g7 CP) (λb=>by simp only[AM];omega)
theorem Jo:iO vH Tryz.prog 55 (List ln):=kX (e:=93) g7 Jn
theorem Jp:iO vH Tryz.prog 83 Pin:=j9 g7 (λ(x:Pin)=>(x.Part,x.Pin)) (λb=>⟨b.1,b.2⟩) (λb=>rfl) Tryz.underlying83 (iA g7 CP<|mO g7 CP) (λb=>by simp only[DF];omega)
theorem Jq:iO vH Tryz.prog 78 (List Pin):=kX (e:=83) g7 Jp
theorem Jr:iO vH Tryz.prog 80 Net:=j9 g7 (λ(x:Net)=>(x.Name,x.aU,x.aO)) (λb=>⟨b.1,b.2.1,b.2.2⟩) (λb=>rfl) Tryz.underlying80 (iA g7 CP<|iA g7 Jq<|mO g7 HC) (λb=>by simp only[ve];omega)
theorem Js:iO vH Tryz.prog 25 (List Net):=kX (e:=80) g7 Jr
theorem Jt:iO vH Tryz.prog 57 aF:=j9 g7 (λ(x:aF)=>(x.Name,x.aO,x.bB,x.Uses,x.aM)) (λb=>⟨b.1,b.2.1,b.2.2.1,b.2.2.2.1,b.2.2.2.2⟩) (λb=>rfl) Tryz.underlying57 (iA g7 CP<|iA g7 HC<|iA g7 Jm<|iA g7 Jo<|mO g7 Js) (λb=>by simp only[na];omega)
theorem Ju:iO vH Tryz.prog 23 (List aF):=kX (e:=57) g7 Jt
end Go.Gk
namespace Go.Proofs
open Go.Shelf Go.RowKit Go.Lib Go.Sort
def Tryz.lay44_ren : Go.Shelf.Ren := ⟨fun | 6 => 44 | 15 => 85 | 14 => 84 | 28 => 117 | 29 => 118 | 20 => 109 | 21 => 110 | 22 => 111 | 23 => 112 | 24 => 113 | 25 => 114 | 26 => 115 | 27 => 116 | 46 => 150 | 47 => 151 | 48 => 152 | 49 => 153 | 50 => 154 | 57 => 167 | n => n, fun | 22 => 24 | 24 => 77 | 25 => 106 | 3 => 3 | 39 => 146 | 0 => 0 | 53 => 171 | 55 => 173 | 4 => 4 | 46 => 165 | 45 => 164 | 50 => 98 | 5 => 5 | 9 => 9 | 66 => 191 | 70 => 195 | 76 => 204 | 77 => 205 | n => n, fun | n => n⟩
theorem Tryz.lay44 : Go.Proofs.SlLaysF0.n6 Tryz.prog Tryz.lay44_ren := {
  mixed := by kernel_rfl
  f6 := ⟨Tryz.f44.name, by decide, Tryz.func44.trans (congrArg some (by kernel_rfl))⟩
  f14 := ⟨Tryz.f84.name, by decide, Tryz.func84.trans (congrArg some (by kernel_rfl))⟩
  f15 := Tryz.func85.trans (congrArg some (by kernel_rfl))
  f20 := ⟨Tryz.f109.name, by decide, Tryz.func109.trans (congrArg some (by kernel_rfl))⟩
  f21 := ⟨Tryz.f110.name, by decide, Tryz.func110.trans (congrArg some (by kernel_rfl))⟩
  f22 := ⟨Tryz.f111.name, by decide, Tryz.func111.trans (congrArg some (by kernel_rfl))⟩
  f23 := ⟨Tryz.f112.name, by decide, Tryz.func112.trans (congrArg some (by kernel_rfl))⟩
  f24 := ⟨Tryz.f113.name, by decide, Tryz.func113.trans (congrArg some (by kernel_rfl))⟩
  f25 := ⟨Tryz.f114.name, by decide, Tryz.func114.trans (congrArg some (by kernel_rfl))⟩
  f26 := ⟨Tryz.f115.name, by decide, Tryz.func115.trans (congrArg some (by kernel_rfl))⟩
  f27 := ⟨Tryz.f116.name, by decide, Tryz.func116.trans (congrArg some (by kernel_rfl))⟩
  f28 := Tryz.func117.trans (congrArg some (by kernel_rfl))
  f29 := Tryz.func118.trans (congrArg some (by kernel_rfl))
  f46 := ⟨Tryz.f150.name, by decide, Tryz.func150.trans (congrArg some (by kernel_rfl))⟩
  f47 := Tryz.func151.trans (congrArg some (by kernel_rfl))
  f48 := Tryz.func152.trans (congrArg some (by kernel_rfl))
  f49 := ⟨Tryz.f153.name, by decide, Tryz.func153.trans (congrArg some (by kernel_rfl))⟩
  f50 := ⟨Tryz.f154.name, by decide, Tryz.func154.trans (congrArg some (by kernel_rfl))⟩
  f57 := ⟨Tryz.f167.name, by decide, Tryz.func167.trans (congrArg some (by kernel_rfl))⟩
  t0 := Tryz.underlying0
  a0 := Tryz.isAgg0
  z0 := Tryz.sizeOf0
  v0 := Tryz.zeroValue0
  t3 := Tryz.underlying3
  a3 := Tryz.isAgg3
  z3 := Tryz.sizeOf3
  v3 := Tryz.zeroValue3
  t4 := Tryz.underlying4
  a4 := Tryz.isAgg4
  z4 := Tryz.sizeOf4
  v4 := Tryz.zeroValue4
  t5 := Tryz.underlying5
  a5 := Tryz.isAgg5
  z5 := Tryz.sizeOf5
  v5 := Tryz.zeroValue5
  t9 := Tryz.underlying9
  a9 := Tryz.isAgg9
  z9 := Tryz.sizeOf9
  v9 := Tryz.zeroValue9
  t22 := Tryz.underlying24
  a22 := Tryz.isAgg24
  z22 := Tryz.sizeOf24
  v22 := Tryz.zeroValue24
  t25 := Tryz.underlying106
  a25 := Tryz.isAgg106
  z25 := Tryz.sizeOf106
  v25 := Tryz.zeroValue106
  t39 := Tryz.underlying146
  a39 := Tryz.isAgg146
  z39 := Tryz.sizeOf146
  v39 := Tryz.zeroValue146
  t45 := Tryz.underlying164
  a45 := Tryz.isAgg164
  z45 := Tryz.sizeOf164
  v45 := Tryz.zeroValue164
  t46 := Tryz.underlying165
  a46 := Tryz.isAgg165
  z46 := Tryz.sizeOf165
  v46 := Tryz.zeroValue165
  t50 := Tryz.underlying98
  a50 := Tryz.isAgg98
  z50 := Tryz.sizeOf98
  v50 := Tryz.zeroValue98
  t53 := Tryz.underlying171
  a53 := Tryz.isAgg171
  z53 := Tryz.sizeOf171
  v53 := Tryz.zeroValue171
  t55 := Tryz.underlying173
  a55 := Tryz.isAgg173
  z55 := Tryz.sizeOf173
  v55 := Tryz.zeroValue173
  t66 := Tryz.underlying191
  a66 := Tryz.isAgg191
  z66 := Tryz.sizeOf191
  v66 := Tryz.zeroValue191
  t70 := Tryz.underlying195
  a70 := Tryz.isAgg195
  z70 := Tryz.sizeOf195
  v70 := Tryz.zeroValue195
  t76 := Tryz.underlying204
  a76 := Tryz.isAgg204
  z76 := Tryz.sizeOf204
  v76 := Tryz.zeroValue204
  t77 := Tryz.underlying205
  a77 := Tryz.isAgg205
  z77 := Tryz.sizeOf205
  v77 := Tryz.zeroValue205 }
def Tryz.lay49_ren : Go.Shelf.Ren := ⟨fun | 6 => 49 | 15 => 85 | 14 => 88 | 28 => 117 | 29 => 118 | 20 => 120 | 21 => 121 | 22 => 122 | 23 => 123 | 24 => 124 | 25 => 125 | 26 => 126 | 27 => 127 | 46 => 155 | 47 => 151 | 48 => 152 | 49 => 156 | 50 => 157 | 57 => 168 | n => n, fun | 22 => 78 | 24 => 83 | 25 => 110 | 3 => 3 | 39 => 146 | 0 => 0 | 53 => 171 | 55 => 173 | 4 => 4 | 46 => 165 | 45 => 164 | 50 => 98 | 5 => 5 | 9 => 9 | 66 => 191 | 70 => 195 | 76 => 204 | 77 => 205 | n => n, fun | n => n⟩
theorem Tryz.lay49 : Go.Proofs.SlLaysF0.n6 Tryz.prog Tryz.lay49_ren := {
  mixed := by kernel_rfl
  f6 := ⟨Tryz.f49.name, by decide, Tryz.func49.trans (congrArg some (by kernel_rfl))⟩
  f14 := ⟨Tryz.f88.name, by decide, Tryz.func88.trans (congrArg some (by kernel_rfl))⟩
  f15 := Tryz.func85.trans (congrArg some (by kernel_rfl))
  f20 := ⟨Tryz.f120.name, by decide, Tryz.func120.trans (congrArg some (by kernel_rfl))⟩
  f21 := ⟨Tryz.f121.name, by decide, Tryz.func121.trans (congrArg some (by kernel_rfl))⟩
  f22 := ⟨Tryz.f122.name, by decide, Tryz.func122.trans (congrArg some (by kernel_rfl))⟩
  f23 := ⟨Tryz.f123.name, by decide, Tryz.func123.trans (congrArg some (by kernel_rfl))⟩
  f24 := ⟨Tryz.f124.name, by decide, Tryz.func124.trans (congrArg some (by kernel_rfl))⟩
  f25 := ⟨Tryz.f125.name, by decide, Tryz.func125.trans (congrArg some (by kernel_rfl))⟩
  f26 := ⟨Tryz.f126.name, by decide, Tryz.func126.trans (congrArg some (by kernel_rfl))⟩
  f27 := ⟨Tryz.f127.name, by decide, Tryz.func127.trans (congrArg some (by kernel_rfl))⟩
  f28 := Tryz.func117.trans (congrArg some (by kernel_rfl))
  f29 := Tryz.func118.trans (congrArg some (by kernel_rfl))
  f46 := ⟨Tryz.f155.name, by decide, Tryz.func155.trans (congrArg some (by kernel_rfl))⟩
  f47 := Tryz.func151.trans (congrArg some (by kernel_rfl))
  f48 := Tryz.func152.trans (congrArg some (by kernel_rfl))
  f49 := ⟨Tryz.f156.name, by decide, Tryz.func156.trans (congrArg some (by kernel_rfl))⟩
  f50 := ⟨Tryz.f157.name, by decide, Tryz.func157.trans (congrArg some (by kernel_rfl))⟩
  f57 := ⟨Tryz.f168.name, by decide, Tryz.func168.trans (congrArg some (by kernel_rfl))⟩
  t0 := Tryz.underlying0
  a0 := Tryz.isAgg0
  z0 := Tryz.sizeOf0
  v0 := Tryz.zeroValue0
  t3 := Tryz.underlying3
  a3 := Tryz.isAgg3
  z3 := Tryz.sizeOf3
  v3 := Tryz.zeroValue3
  t4 := Tryz.underlying4
  a4 := Tryz.isAgg4
  z4 := Tryz.sizeOf4
  v4 := Tryz.zeroValue4
  t5 := Tryz.underlying5
  a5 := Tryz.isAgg5
  z5 := Tryz.sizeOf5
  v5 := Tryz.zeroValue5
  t9 := Tryz.underlying9
  a9 := Tryz.isAgg9
  z9 := Tryz.sizeOf9
  v9 := Tryz.zeroValue9
  t22 := Tryz.underlying78
  a22 := Tryz.isAgg78
  z22 := Tryz.sizeOf78
  v22 := Tryz.zeroValue78
  t25 := Tryz.underlying110
  a25 := Tryz.isAgg110
  z25 := Tryz.sizeOf110
  v25 := Tryz.zeroValue110
  t39 := Tryz.underlying146
  a39 := Tryz.isAgg146
  z39 := Tryz.sizeOf146
  v39 := Tryz.zeroValue146
  t45 := Tryz.underlying164
  a45 := Tryz.isAgg164
  z45 := Tryz.sizeOf164
  v45 := Tryz.zeroValue164
  t46 := Tryz.underlying165
  a46 := Tryz.isAgg165
  z46 := Tryz.sizeOf165
  v46 := Tryz.zeroValue165
  t50 := Tryz.underlying98
  a50 := Tryz.isAgg98
  z50 := Tryz.sizeOf98
  v50 := Tryz.zeroValue98
  t53 := Tryz.underlying171
  a53 := Tryz.isAgg171
  z53 := Tryz.sizeOf171
  v53 := Tryz.zeroValue171
  t55 := Tryz.underlying173
  a55 := Tryz.isAgg173
  z55 := Tryz.sizeOf173
  v55 := Tryz.zeroValue173
  t66 := Tryz.underlying191
  a66 := Tryz.isAgg191
  z66 := Tryz.sizeOf191
  v66 := Tryz.zeroValue191
  t70 := Tryz.underlying195
  a70 := Tryz.isAgg195
  z70 := Tryz.sizeOf195
  v70 := Tryz.zeroValue195
  t76 := Tryz.underlying204
  a76 := Tryz.isAgg204
  z76 := Tryz.sizeOf204
  v76 := Tryz.zeroValue204
  t77 := Tryz.underlying205
  a77 := Tryz.isAgg205
  z77 := Tryz.sizeOf205
  v77 := Tryz.zeroValue205 }
def Tryz.lay51_ren : Go.Shelf.Ren := ⟨fun | 6 => 51 | 15 => 85 | 14 => 89 | 28 => 117 | 29 => 118 | 20 => 128 | 21 => 129 | 22 => 130 | 23 => 131 | 24 => 132 | 25 => 133 | 26 => 134 | 27 => 135 | 46 => 158 | 47 => 151 | 48 => 152 | 49 => 159 | 50 => 160 | 57 => 169 | n => n, fun | 22 => 25 | 24 => 80 | 25 => 112 | 3 => 3 | 39 => 146 | 0 => 0 | 53 => 171 | 55 => 173 | 4 => 4 | 46 => 165 | 45 => 164 | 50 => 98 | 5 => 5 | 9 => 9 | 66 => 191 | 70 => 195 | 76 => 204 | 77 => 205 | n => n, fun | n => n⟩
theorem Tryz.lay51 : Go.Proofs.SlLaysF0.n6 Tryz.prog Tryz.lay51_ren := {
  mixed := by kernel_rfl
  f6 := ⟨Tryz.f51.name, by decide, Tryz.func51.trans (congrArg some (by kernel_rfl))⟩
  f14 := ⟨Tryz.f89.name, by decide, Tryz.func89.trans (congrArg some (by kernel_rfl))⟩
  f15 := Tryz.func85.trans (congrArg some (by kernel_rfl))
  f20 := ⟨Tryz.f128.name, by decide, Tryz.func128.trans (congrArg some (by kernel_rfl))⟩
  f21 := ⟨Tryz.f129.name, by decide, Tryz.func129.trans (congrArg some (by kernel_rfl))⟩
  f22 := ⟨Tryz.f130.name, by decide, Tryz.func130.trans (congrArg some (by kernel_rfl))⟩
  f23 := ⟨Tryz.f131.name, by decide, Tryz.func131.trans (congrArg some (by kernel_rfl))⟩
  f24 := ⟨Tryz.f132.name, by decide, Tryz.func132.trans (congrArg some (by kernel_rfl))⟩
  f25 := ⟨Tryz.f133.name, by decide, Tryz.func133.trans (congrArg some (by kernel_rfl))⟩
  f26 := ⟨Tryz.f134.name, by decide, Tryz.func134.trans (congrArg some (by kernel_rfl))⟩
  f27 := ⟨Tryz.f135.name, by decide, Tryz.func135.trans (congrArg some (by kernel_rfl))⟩
  f28 := Tryz.func117.trans (congrArg some (by kernel_rfl))
  f29 := Tryz.func118.trans (congrArg some (by kernel_rfl))
  f46 := ⟨Tryz.f158.name, by decide, Tryz.func158.trans (congrArg some (by kernel_rfl))⟩
  f47 := Tryz.func151.trans (congrArg some (by kernel_rfl))
  f48 := Tryz.func152.trans (congrArg some (by kernel_rfl))
  f49 := ⟨Tryz.f159.name, by decide, Tryz.func159.trans (congrArg some (by kernel_rfl))⟩
  f50 := ⟨Tryz.f160.name, by decide, Tryz.func160.trans (congrArg some (by kernel_rfl))⟩
  f57 := ⟨Tryz.f169.name, by decide, Tryz.func169.trans (congrArg some (by kernel_rfl))⟩
  t0 := Tryz.underlying0
  a0 := Tryz.isAgg0
  z0 := Tryz.sizeOf0
  v0 := Tryz.zeroValue0
  t3 := Tryz.underlying3
  a3 := Tryz.isAgg3
  z3 := Tryz.sizeOf3
  v3 := Tryz.zeroValue3
  t4 := Tryz.underlying4
  a4 := Tryz.isAgg4
  z4 := Tryz.sizeOf4
  v4 := Tryz.zeroValue4
  t5 := Tryz.underlying5
  a5 := Tryz.isAgg5
  z5 := Tryz.sizeOf5
  v5 := Tryz.zeroValue5
  t9 := Tryz.underlying9
  a9 := Tryz.isAgg9
  z9 := Tryz.sizeOf9
  v9 := Tryz.zeroValue9
  t22 := Tryz.underlying25
  a22 := Tryz.isAgg25
  z22 := Tryz.sizeOf25
  v22 := Tryz.zeroValue25
  t25 := Tryz.underlying112
  a25 := Tryz.isAgg112
  z25 := Tryz.sizeOf112
  v25 := Tryz.zeroValue112
  t39 := Tryz.underlying146
  a39 := Tryz.isAgg146
  z39 := Tryz.sizeOf146
  v39 := Tryz.zeroValue146
  t45 := Tryz.underlying164
  a45 := Tryz.isAgg164
  z45 := Tryz.sizeOf164
  v45 := Tryz.zeroValue164
  t46 := Tryz.underlying165
  a46 := Tryz.isAgg165
  z46 := Tryz.sizeOf165
  v46 := Tryz.zeroValue165
  t50 := Tryz.underlying98
  a50 := Tryz.isAgg98
  z50 := Tryz.sizeOf98
  v50 := Tryz.zeroValue98
  t53 := Tryz.underlying171
  a53 := Tryz.isAgg171
  z53 := Tryz.sizeOf171
  v53 := Tryz.zeroValue171
  t55 := Tryz.underlying173
  a55 := Tryz.isAgg173
  z55 := Tryz.sizeOf173
  v55 := Tryz.zeroValue173
  t66 := Tryz.underlying191
  a66 := Tryz.isAgg191
  z66 := Tryz.sizeOf191
  v66 := Tryz.zeroValue191
  t70 := Tryz.underlying195
  a70 := Tryz.isAgg195
  z70 := Tryz.sizeOf195
  v70 := Tryz.zeroValue195
  t76 := Tryz.underlying204
  a76 := Tryz.isAgg204
  z76 := Tryz.sizeOf204
  v76 := Tryz.zeroValue204
  t77 := Tryz.underlying205
  a77 := Tryz.isAgg205
  z77 := Tryz.sizeOf205
  v77 := Tryz.zeroValue205 }
end Go.Proofs
