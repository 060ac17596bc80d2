/-
  Printed texts: Go functions as plain functions, and that they are. No statement of the seed is proved here.
-/
import Derived.Test.YtfdnmjbbeolcdaaGreatDoorProg
import Derived.Test.YtfdnmjbbeolcdaaGreatDoorE1
import Derived.Test.YtfdnmjbbeolcdaaGreatDoorA1
import Derived.Test.YtfdnmjbbeolcdaaGreatDoorA2
import Derived.Test.YtfdnmjbbeolcdaaGreatDoorRows
import Derived.Shelf.SlGeneric
import Derived.Ground.SlsfProg
import Derived.Ground.SlgmProg
set_option linter.unusedVariables false
set_option linter.unusedSimpArgs false
set_option linter.unusedSectionVars false
set_option maxRecDepth 100000
set_option maxHeartbeats 40000000
namespace Go.Gk
open Go IntKind Go.Proofs
noncomputable abbrev aY:=Tryz.prog
abbrev c_(f:Nat)(l:Z bL)(w:bM)(R:bL->bM->Prop):Prop:=Calls aY f l.toArray w (eU R)
def jd(x:aU):=(x.Name,x.Kind,x.cD)
instance instGTPinType:GT aU:=GT.via jd
instance instKVPinType:KV aU:=instKVvia (λ(x:aU)=>(x.Name,x.Kind,x.cD))
theorem gh:Fd 0 (λx:aU=>x.Name):= .v jd<|.fst .self
theorem ux:Fs 0 aP (λ(x:aU)y=>{x with Name:=y}):= .v jd<|.fst .self
theorem kB:Fd 1 (λx:aU=>x.Kind):= .v jd<|.snd<|.fst .self
theorem uy:Fs 1 Int (λ(x:aU)y=>{x with Kind:=y}):= .v jd<|.snd<|.fst .self
theorem gi:Fd 2 (λx:aU=>x.cD):= .v jd<|.snd<|.snd<|.self
def jq(x:aC):=(x.Name,x.aV)
instance instGTPartType:GT aC:=GT.via jq
theorem jS:Fd 0 (λx:aC=>x.Name):= .v jq<|.fst .self
theorem sY:Fs 0 aP (λ(x:aC)y=>{x with Name:=y}):= .v jq<|.fst .self
theorem gJ:Fd 1 (λx:aC=>x.aV):= .v jq<|.snd<|.self
theorem sZ:Fs 1 (Z aU) (λ(x:aC)y=>{x with aV:=y}):= .v jq<|.snd<|.self
def nr(x:Part):=(x.Name,x.bU)
instance instGTPart:GT Part:=GT.via nr
instance instKVPart:KV Part:=instKVvia (λ(x:Part)=>(x.Name,x.bU))
theorem iy:Fd 0 (λx:Part=>x.Name):= .v nr<|.fst .self
theorem tG:Fs 0 aP (λ(x:Part)y=>{x with Name:=y}):= .v nr<|.fst .self
theorem gK:Fd 1 (λx:Part=>x.bU):= .v nr<|.snd<|.self
theorem tH:Fs 1 aP (λ(x:Part)y=>{x with bU:=y}):= .v nr<|.snd<|.self
def nX(x:bN):=(x.Part,x.bN)
instance instGTPin:GT bN:=GT.via nX
instance instKVPin:KV bN:=instKVvia (λ(x:bN)=>(x.Part,x.bN))
theorem jX:Fd 0 (λx:bN=>x.Part):= .v nX<|.fst .self
theorem pL:Fs 0 aP (λ(x:bN)y=>{x with Part:=y}):= .v nX<|.fst .self
theorem lR:Fd 1 (λx:bN=>x.bN):= .v nX<|.snd<|.self
theorem pM:Fs 1 aP (λ(x:bN)y=>{x with bN:=y}):= .v nX<|.snd<|.self
def rl(x:Net):=(x.Name,x.aV,x.mU)
instance instGTNet:GT Net:=GT.via rl
theorem kS:Fd 0 (λx:Net=>x.Name):= .v rl<|.fst .self
theorem lS:Fd 1 (λx:Net=>x.aV):= .v rl<|.snd<|.fst .self
theorem Ag:Fd 2 (λx:Net=>x.mU):= .v rl<|.snd<|.snd<|.self
def lj(x:aG):=(x.aJ,x.aQ)
instance instGTNetlist:GT aG:=GT.via lj
theorem cG:Fd 0 (λx:aG=>x.aJ):= .v lj<|.fst .self
theorem uz:Fs 0 (Z Part) (λ(x:aG)y=>{x with aJ:=y}):= .v lj<|.fst .self
theorem dt:Fd 1 (λx:aG=>x.aQ):= .v lj<|.snd<|.self
def dS(x:aD):=(x.part,x.iJ,x.mark)
instance instGTnetlist_tie:GT aD:=GT.via dS
instance instKVnetlist_tie:KV aD:=instKVvia (λ(x:aD)=>(x.part,x.iJ,x.mark))
theorem jH:Fd 0 (λx:aD=>x.part):= .v dS<|.fst .self
theorem jI:Fs 0 Int (λ(x:aD)y=>{x with part:=y}):= .v dS<|.fst .self
theorem iz:Fd 1 (λx:aD=>x.iJ):= .v dS<|.snd<|.fst .self
theorem qi:Fs 1 Int (λ(x:aD)y=>{x with iJ:=y}):= .v dS<|.snd<|.fst .self
theorem lT:Fd 2 (λx:aD=>x.mark):= .v dS<|.snd<|.snd<|.self
theorem jJ:Fs 2 Int (λ(x:aD)y=>{x with mark:=y}):= .v dS<|.snd<|.snd<|.self
def jr(x:aB):=(x.e0,x.e1)
instance instGTArr2_Int:GT aB:=GT.via jr
instance instKVArr2_Int:KV aB:=instKVvia (λ(x:aB)=>(x.e0,x.e1))
theorem iP:Fd 0 (λx:aB=>x.e0):= .v jr<|.fst .self
theorem ly:Fs 0 Int (λ(x:aB)y=>{x with e0:=y}):= .v jr<|.fst .self
theorem iQ:Fd 1 (λx:aB=>x.e1):= .v jr<|.snd<|.self
theorem lz:Fs 1 Int (λ(x:aB)y=>{x with e1:=y}):= .v jr<|.snd<|.self
def jY(x:aH):=(x.A,x.B)
instance instGTPairing:GT aH:=GT.via jY
instance instKVPairing:KV aH:=instKVvia (λ(x:aH)=>(x.A,x.B))
theorem iA:Fd 0 (λx:aH=>x.A):= .v jY<|.fst .self
theorem pN:Fs 0 aP (λ(x:aH)y=>{x with A:=y}):= .v jY<|.fst .self
theorem iB:Fd 1 (λx:aH=>x.B):= .v jY<|.snd<|.self
theorem pO:Fs 1 aP (λ(x:aH)y=>{x with B:=y}):= .v jY<|.snd<|.self
theorem yD(M:bZ):GT.ok M (#[n_,n_]:bQ bL).toList (⟨[],[]⟩:aG):=⟨[n_],[n_],rfl,(show GT.ok M [n_] ([]:Z Part)from⟨_,rfl,none,0,0,rfl,rfl,aX _,by simp[maxLen],λ_ _ h=>by simp at h⟩),(show GT.ok M [n_] ([]:Z Net)from⟨_,rfl,none,0,0,rfl,rfl,aX _,by simp[maxLen],λ_ _ h=>by simp at h⟩)⟩
theorem qj(M:bZ):GT.ok M (#[(.string ⟨#[]⟩),(.string ⟨#[]⟩)]:bQ bL).toList (⟨⟨[]⟩,⟨[]⟩⟩:aH):=⟨[(.string ⟨#[]⟩)],[(.string ⟨#[]⟩)],rfl,(show GT.ok M [(.string ⟨#[]⟩)] (⟨[]⟩:aP)from rfl),(show GT.ok M [(.string ⟨#[]⟩)] (⟨[]⟩:aP)from rfl)⟩
theorem Ah(M:bZ):GT.ok M (#[(.string ⟨#[]⟩),(.string ⟨#[]⟩)]:bQ bL).toList (⟨⟨[]⟩,⟨[]⟩⟩:Part):=⟨[(.string ⟨#[]⟩)],[(.string ⟨#[]⟩)],rfl,(show GT.ok M [(.string ⟨#[]⟩)] (⟨[]⟩:aP)from rfl),(show GT.ok M [(.string ⟨#[]⟩)] (⟨[]⟩:aP)from rfl)⟩
theorem xX(M:bZ):GT.ok M (#[(.string ⟨#[]⟩),(.string ⟨#[]⟩)]:bQ bL).toList (⟨⟨[]⟩,⟨[]⟩⟩:bN):=⟨[(.string ⟨#[]⟩)],[(.string ⟨#[]⟩)],rfl,(show GT.ok M [(.string ⟨#[]⟩)] (⟨[]⟩:aP)from rfl),(show GT.ok M [(.string ⟨#[]⟩)] (⟨[]⟩:aP)from rfl)⟩
theorem yE(M:bZ):GT.ok M (#[(.string ⟨#[]⟩),e_,e_]:bQ bL).toList (⟨⟨[]⟩,0,0⟩:aU):=⟨[(.string ⟨#[]⟩)],[e_,e_],rfl,(show GT.ok M [(.string ⟨#[]⟩)] (⟨[]⟩:aP)from rfl),⟨[e_],[e_],rfl,(show GT.ok M [e_] (0:Int)from rfl),(show GT.ok M [e_] (0:Int)from rfl)⟩⟩
theorem w5(M:bZ):GT.ok M (#[(.string ⟨#[]⟩),n_]:bQ bL).toList (⟨⟨[]⟩,[]⟩:aC):=⟨[(.string ⟨#[]⟩)],[n_],rfl,(show GT.ok M [(.string ⟨#[]⟩)] (⟨[]⟩:aP)from rfl),(show GT.ok M [n_] ([]:Z aU)from⟨_,rfl,none,0,0,rfl,rfl,aX _,by simp[maxLen],λ_ _ h=>by simp at h⟩)⟩
theorem oO(M:bZ):GT.ok M (#[e_,e_]:bQ bL).toList (⟨0,0⟩:aB):=⟨[e_],[e_],rfl,(show GT.ok M [e_] (0:Int)from rfl),(show GT.ok M [e_] (0:Int)from rfl)⟩
theorem lA(M:bZ):GT.ok M (#[e_,e_,e_]:bQ bL).toList (⟨0,0,0⟩:aD):=⟨[e_],[e_,e_],rfl,(show GT.ok M [e_] (0:Int)from rfl),⟨[e_],[e_],rfl,(show GT.ok M [e_] (0:Int)from rfl),(show GT.ok M [e_] (0:Int)from rfl)⟩⟩
theorem gA:jP aY 26 true 2:=q5
theorem Di:wV aY 26 2:=yC<|.agg #[n_,n_]
theorem Ei:D1 aY 26 [n_,n_]:=⟨(.agg #[n_,n_]),λ_=>by kernel_rfl,rfl⟩
theorem gj:pj aY 26 0 0:=rY
theorem mw:jP aY 23 false 1:=q5
theorem uA:Tryz.prog.underlying 23=some (.slice 42):=by kernel_rfl
theorem oc:qc aY 23 42 2:=yB
theorem r4:jP aY 42 true 2:=q5
theorem yF:wV aY 42 2:=yC<|.agg #[(.string ⟨#[]⟩),(.string ⟨#[]⟩)]
theorem mx:pj aY 42 0 0:=rY
theorem fV:jP aY 9 false 1:=q5
theorem lB:pj aY 42 1 1:=rY
theorem Dj:sT aY 42 [(0,1),(1,1)] #[(.string ⟨#[]⟩),(.string ⟨#[]⟩)]:=sT.of (.agg #[(.string ⟨#[]⟩),(.string ⟨#[]⟩)]) Tryz.underlying42
theorem Ej:qa aY 23 42 2 32:=qa.of<|.agg #[(.string ⟨#[]⟩),(.string ⟨#[]⟩)]
theorem iZ:pj aY 26 1 1:=rY
theorem oP:jP aY 24 false 1:=q5
theorem vP:Tryz.prog.underlying 24=some (.slice 46):=by kernel_rfl
theorem r5:qc aY 24 46 3:=yB
theorem s6:jP aY 46 true 3:=q5
theorem BA:wV aY 46 3:=yC<|.agg #[(.string ⟨#[]⟩),n_,n_]
theorem oQ:pj aY 46 0 0:=rY
theorem Ek:sT aY 46 [(0,1),(1,1),(2,1)] #[(.string ⟨#[]⟩),n_,n_]:=sT.of (.agg #[(.string ⟨#[]⟩),n_,n_]) Tryz.underlying46
theorem El:D1 aY 46 [(.string ⟨#[]⟩),n_,n_]:=⟨(.agg #[(.string ⟨#[]⟩),n_,n_]),λ_=>by kernel_rfl,rfl⟩
theorem nu:pj aY 46 1 1:=rY
theorem vQ:jP aY 43 false 1:=q5
theorem s8:Tryz.prog.underlying 43=some (.slice 48):=by kernel_rfl
theorem q6:qc aY 43 48 2:=yB
theorem kC:jP aY 48 true 2:=q5
theorem s9:wV aY 48 2:=yC<|.agg #[(.string ⟨#[]⟩),(.string ⟨#[]⟩)]
theorem nv:pj aY 48 0 0:=rY
theorem ql:pj aY 48 1 1:=rY
theorem BB:sT aY 48 [(0,1),(1,1)] #[(.string ⟨#[]⟩),(.string ⟨#[]⟩)]:=sT.of (.agg #[(.string ⟨#[]⟩),(.string ⟨#[]⟩)]) Tryz.underlying48
theorem CB:qa aY 43 48 2 32:=qa.of<|.agg #[(.string ⟨#[]⟩),(.string ⟨#[]⟩)]
theorem Em:qa aY 24 46 3 64:=qa.of<|.agg #[(.string ⟨#[]⟩),n_,n_]
theorem vR:jP aY 22 false 1:=q5
theorem CC:Tryz.prog.underlying 22=some (.slice 60):=by kernel_rfl
theorem ta:qc aY 22 60 2:=yB
theorem oR:jP aY 60 true 2:=q5
theorem Ai:wV aY 60 2:=yC<|.agg #[(.string ⟨#[]⟩),n_]
theorem uB:pj aY 60 0 0:=rY
theorem r6:Tryz.prog.underlying 9=some (.string):=by kernel_rfl
theorem z9(a:aP)(b:Int)(w:bM):(callFunc 86 [str a,(.int .u8 b)].toArray).run aY w = .ok (.value<|vi<|Lib.indexByte a.bK (jQ b).toUInt8) w:=rL Extern.BytealgIndexByte.indexByte Tryz.func86<|Lib.run_indexByteString _ _ w
theorem Dk:fo aY 68:=fU Tryz.func68
theorem CD:fo aY 35:=fU Tryz.func35
theorem qm:pj aY 60 1 1:=rY
theorem yG:jP aY 58 false 1:=q5
theorem vS:Tryz.prog.underlying 58=some (.slice 57):=by kernel_rfl
theorem r7:qc aY 58 57 3:=yB
theorem r8:jP aY 57 true 3:=q5
theorem Aj:wV aY 57 3:=yC<|.agg #[(.string ⟨#[]⟩),e_,e_]
theorem oS:pj aY 57 0 0:=rY
theorem uC:pj aY 57 1 1:=rY
theorem jh:jP aY 3 false 1:=q5
theorem oT:pj aY 57 2 2:=rY
theorem mixed:Tryz.prog.follows .mixedOrders=true:=by kernel_rfl
theorem Dl:fo aY 52:=fU Tryz.func52
theorem sV:Tryz.prog.underlying 3=some (.int .i64):=by kernel_rfl
theorem mV:Tryz.prog.underlying 127=some (.int .u64):=by kernel_rfl
theorem Gb(a b:aP)(w:bM):(callFunc 85 [str a,str b].toArray).run aY w = .ok (.value<|vi<|Lib.compareBytes a.bK b.bK) w:=rL Extern.BytealgCompare.compare Tryz.func85<|Lib.run_compareString _ _ w
theorem uD:fo aY 47:=fU Tryz.func47
theorem yH:fo aY 32:=fU Tryz.func32
theorem Gc(a:aP)(b:Int)(w:bM):(callFunc 89 [str a,(.int .u8 b)].toArray).run aY w = .ok (.value<|vi ((Lib.countByte a.bK (jQ b).toUInt8:Nat):Int)) w:=rL Extern.BytealgCount.count Tryz.func89<|Lib.run_countString _ _ w
theorem Dm:fo aY 71:=fU Tryz.func71
theorem BC:qa aY 44 9 1 16:=qa.of<|.string ⟨#[]⟩
theorem FW:wO aY 9 (⟨[]⟩:aP):=wO.of (.string ⟨#[]⟩)<|λM=>rfl
theorem m1:qc aY 44 9 1:=yB
theorem tb:Tryz.prog.underlying 44=some (.slice 9):=by kernel_rfl
theorem Dn:fo aY 13:=fU Tryz.func13
theorem BD:fo aY 24:=fU Tryz.func24
theorem Dp:fo aY 41:=fU Tryz.func41
theorem Cd:C6 aY 48 bN:=⟨λM cs ds a b w ha hb=>by
  obtain⟨_,_,rfl,rfl,rfl⟩:=ha
  obtain⟨_,_,rfl,rfl,rfl⟩:=hb
  refine(lM 9999 Tryz.underlying48<|zN.cons (by decide) (d8 fV rfl _) (d8 fV rfl _) (oJ r6 _ _ w)<|zN.cons (by decide) (d8 fV rfl _) (d8 fV rfl _) (oJ r6 _ _ w) zN.nil).trans ?_
  congr 1
  cases a;cases b;unfold nX
  rw[kq]
  simp,by kernel_rfl⟩
theorem Ce:m0 aY 48 bN:=m0.struct Tryz.underlying48 rfl Cd (λk=>(zA.cons (by decide) (d8 fV rfl) (λb w=>MapKept.run_checkKey r6 (k:=Gk.str k.Part) trivial b 9998) (zA.cons (by decide) (d8 fV rfl) (λb w=>MapKept.run_checkKey r6 (k:=Gk.str k.bN) trivial b 9998) zA.nil))) (λk x hx=>by
  have hx:x∈[Sc.toV k.Part,Sc.toV k.bN]:=hx
  simp only[fB,List.not_mem_nil,or_false]at hx
  rcases hx with rfl|rfl
  · exact MapKept.sameBits_self (d:= .string) (k:=Gk.str k.Part) trivial _
  · exact MapKept.sameBits_self (d:= .string) (k:=Gk.str k.bN) trivial _)
theorem Dq:nd aY 52 48 4 bN Bool (false:Bool):=⟨by kernel_rfl,Ce,lh (.bool false)<|λM=>⟨_,rfl,rfl⟩⟩
theorem CE:pj aY 46 2 2:=rY
theorem BE:jP aY 44 false 1:=q5
theorem Dr:fo aY 5:=fU Tryz.func5
theorem EM:sT aY 57 [(0,1),(1,1),(2,1)] #[(.string ⟨#[]⟩),e_,e_]:=sT.of (.agg #[(.string ⟨#[]⟩),e_,e_]) Tryz.underlying57
theorem EN:sT aY 60 [(0,1),(1,1)] #[(.string ⟨#[]⟩),n_]:=sT.of (.agg #[(.string ⟨#[]⟩),n_]) Tryz.underlying60
theorem EO:sT aY 26 [(0,1),(1,1)] #[n_,n_]:=sT.of (.agg #[n_,n_]) Tryz.underlying26
theorem Ak:nd aY 117 48 3 bN Int (0:Int):=⟨by kernel_rfl,Ce,lh e_<|λM=>⟨_,rfl,rfl⟩⟩
theorem Ds:fo aY 61:=fU Tryz.func61
theorem FX:fo aY 6:=fU Tryz.func6
theorem Dt:fo aY 21:=fU Tryz.func21
theorem ET:sT aY 96 [(0,1),(1,1),(2,1),(3,1)] #[n_,n_,e_,e_]:=sT.of (.agg #[n_,n_,e_,e_]) Tryz.underlying96
theorem w6:pj aY 96 0 0:=rY
theorem FY:wV aY 9 1:=yC<|.string ⟨#[]⟩
theorem qn:pj aY 96 3 3:=rY
theorem w7:pj aY 96 1 1:=rY
theorem CF:jP aY 94 false 1:=q5
theorem uE:pj aY 96 2 2:=rY
theorem D5:wV aY 3 1:=yC<|.int .i64 0
theorem CG:fo aY 33:=fU Tryz.func33
theorem CH:sT aY 84 [(0,1),(1,1),(2,1)] #[e_,e_,e_]:=sT.of (.agg #[e_,e_,e_]) Tryz.underlying84
theorem Du:qc aY 94 84 3:=yB
theorem CI:wV aY 84 3:=yC<|.agg #[e_,e_,e_]
theorem EV:qa aY 94 84 3 24:=qa.of<|.agg #[e_,e_,e_]
theorem Dv:fo aY 43:=fU Tryz.func43
theorem Al:jP aY 103 false 1:=q5
theorem Am:qa aY 63 3 1 8:=qa.of<|.int .i64 0
theorem E0:wO aY 3 (0:Int):=wO.of e_<|λM=>rfl
theorem oU:qc aY 63 3 1:=yB
theorem Cf:qa aY 122 67 1 24:=qa.of<|.slice none 0 0
theorem Cg:wO aY 67 lL:=wO.of n_<|λM=>rfl
theorem E3:Tryz.prog.underlying 94=some (.slice 84):=by kernel_rfl
theorem BF:jP aY 84 true 3:=q5
theorem uF:pj aY 84 1 1:=rY
theorem tI:qc aY 122 67 1:=yB
theorem yI:jP aY 67 false 1:=q5
theorem w8:pj aY 84 0 0:=rY
theorem An:pj aY 84 2 2:=rY
theorem Ao:Cu aY 69 2 3 1:=⟨by kernel_rfl,λ_=>by kernel_rfl⟩
theorem Ap:B9 aY 69 1 ((.agg #[e_,e_]):bL).cells:=B9.of Ao
theorem yJ:qc aY 67 69 2:=yB
theorem yK:wV aY 69 2:=yC<|.agg #[e_,e_]
theorem CJ:qa aY 67 69 2 16:=qa.of<|.agg #[e_,e_]
theorem vT:Tryz.prog.underlying 63=some (.slice 3):=by kernel_rfl
theorem Dw:fo aY 95:=fU Tryz.func95
theorem BG:fo aY 66:=fU Tryz.func66
theorem vU:jP aY 69 true 2:=q5
theorem CK:Tryz.prog.underlying 67=some (.slice 69):=by kernel_rfl
theorem w9:Cv aY 69 0 0:=Ao.at (k:=⟨0,by decide⟩) rfl
theorem xa:Cv aY 69 1 1:=Ao.at (k:=⟨1,by decide⟩) rfl
theorem lk:qc aY 124 63 1:=yB
theorem Dx:wV aY 63 1:=yC<|.slice none 0 0
theorem Aq:qa aY 124 63 1 24:=qa.of<|.slice none 0 0
theorem Dy:fo aY 65:=fU Tryz.func65
theorem qR:Tryz.prog.underlying 124=some (.slice 63):=by kernel_rfl
theorem Ar:jP aY 126 false 1:=q5
theorem uG:jP aY 63 false 1:=q5
theorem E9:wO aY 63 ([]:Z Int):=wO.of n_<|λM=>⟨_,rfl,none,0,0,rfl,rfl,aX _,by simp[maxLen],λ_ _ h=>by simp at h⟩
theorem Dz:fo aY 64:=fU Tryz.func64
theorem DA:fo aY 18:=fU Tryz.func18
theorem xY:nd aY 100 3 3 Int Int (0:Int):=⟨by kernel_rfl,m0.int sV,lh e_<|λM=>⟨_,rfl,rfl⟩⟩
theorem DB:Tryz.prog.underlying 100=some (.map 3 3):=by kernel_rfl
theorem DC:fo aY 19:=fU Tryz.func19
theorem As:nd aY 101 3 63 Int RV lL:=⟨by kernel_rfl,m0.int sV,lh n_<|λM=>rF.2 rfl⟩
theorem DD:nd aY 101 3 63 Int (Z Int) ([]:Z Int):=⟨by kernel_rfl,m0.int sV,lh n_<|λM=>⟨_,rfl,⟨_,rfl,none,0,0,rfl,rfl,aX _,by simp[maxLen],λ_ _ h=>by simp at h⟩⟩⟩
theorem DE:fo aY 20:=fU Tryz.func20
theorem DF:sT aY 39 [(0,1),(1,1)] #[(.string ⟨#[]⟩),(.string ⟨#[]⟩)]:=sT.of (.agg #[(.string ⟨#[]⟩),(.string ⟨#[]⟩)]) Tryz.underlying39
theorem uH:qc aY 33 39 2:=yB
theorem yL:wV aY 39 2:=yC<|.agg #[(.string ⟨#[]⟩),(.string ⟨#[]⟩)]
theorem BH:qa aY 33 39 2 32:=qa.of<|.agg #[(.string ⟨#[]⟩),(.string ⟨#[]⟩)]
theorem r9:Tryz.prog.underlying 33=some (.slice 39):=by kernel_rfl
theorem DG:fo aY 22:=fU Tryz.func22
theorem vV:jP aY 39 true 2:=q5
theorem qo:pj aY 39 0 0:=rY
theorem qp:pj aY 39 1 1:=rY
theorem Ch:nd aY 107 9 4 aP Bool (false:Bool):=⟨by kernel_rfl,m0.str r6,lh (.bool false)<|λM=>⟨_,rfl,rfl⟩⟩
theorem DH:fo aY 23:=fU Tryz.func23
theorem DI:fo aY 28:=fU Tryz.func28
theorem CL:fo aY 27:=fU Tryz.func27
theorem DJ:fo aY 25:=fU Tryz.func25
theorem DK:fo aY 26:=fU Tryz.func26
theorem CM:Cu aY 78 2 77 1:=⟨by kernel_rfl,λ_=>by kernel_rfl⟩
theorem DL:B9 aY 78 1 ((.agg #[(.map none),(.map none)]):bL).cells:=B9.of CM
theorem Fj:D1 aY 78 [(.map none),(.map none)]:=⟨(.agg #[(.map none),(.map none)]),λ_=>by kernel_rfl,rfl⟩
theorem Fk:jP aY 78 true 2:=q5
theorem Au:Cv aY 78 0 0:=CM.at (k:=⟨0,by decide⟩) rfl
theorem BI:jP aY 77 false 1:=q5
theorem Av:Cv aY 78 1 1:=CM.at (k:=⟨1,by decide⟩) rfl
theorem BJ:nd aY 77 9 3 aP Int (0:Int):=⟨by kernel_rfl,m0.str r6,lh e_<|λM=>⟨_,rfl,rfl⟩⟩
theorem DM:C6 aY 84 aD:=⟨λM cs ds a b w ha hb=>by
  obtain⟨_,_,rfl,rfl,⟨_,_,rfl,rfl,rfl⟩⟩:=ha
  obtain⟨_,_,rfl,rfl,⟨_,_,rfl,rfl,rfl⟩⟩:=hb
  refine(lM 9999 Tryz.underlying84<|zN.cons (by decide) (d8 jh rfl _) (d8 jh rfl _) (ml sV _ _ w)<|zN.cons (by decide) (d8 jh rfl _) (d8 jh rfl _) (ml sV _ _ w)<|zN.cons (by decide) (d8 jh rfl _) (d8 jh rfl _) (ml sV _ _ w) zN.nil).trans ?_
  congr 1
  cases a;cases b;unfold dS
  rw[kq]
  simp,by kernel_rfl⟩
theorem DN:m0 aY 84 aD:=m0.struct Tryz.underlying84 rfl DM (λk=>(zA.cons (by decide) (d8 jh rfl) (λb w=>MapKept.run_checkKey sV (k:= .int .i64 k.part) rfl b 9998) (zA.cons (by decide) (d8 jh rfl) (λb w=>MapKept.run_checkKey sV (k:= .int .i64 k.iJ) rfl b 9998) (zA.cons (by decide) (d8 jh rfl) (λb w=>MapKept.run_checkKey sV (k:= .int .i64 k.mark) rfl b 9998) zA.nil)))) (λk x hx=>by
  have hx:x∈[Sc.toV k.part,Sc.toV k.iJ,Sc.toV k.mark]:=hx
  simp only[fB,List.not_mem_nil,or_false]at hx
  rcases hx with rfl|rfl|rfl
  · exact MapKept.sameBits_self (d:= .int .i64) (k:= .int .i64 k.part) rfl _
  · exact MapKept.sameBits_self (d:= .int .i64) (k:= .int .i64 k.iJ) rfl _
  · exact MapKept.sameBits_self (d:= .int .i64) (k:= .int .i64 k.mark) rfl _)
theorem Aw:nd aY 79 84 3 aD Int (0:Int):=⟨by kernel_rfl,DN,lh e_<|λM=>⟨_,rfl,rfl⟩⟩
theorem DO:fo aY 31:=fU Tryz.func31
theorem CN:Tryz.prog.underlying 79=some (.map 84 3):=by kernel_rfl
theorem CO:qc aY 86 33 1:=yB
theorem Fm:wV aY 33 1:=yC<|.slice none 0 0
theorem DQ:Tryz.prog.underlying 86=some (.slice 33):=by kernel_rfl
theorem DR:jP aY 33 false 1:=q5
theorem Fp:wO aY 39 (⟨⟨[]⟩,⟨[]⟩⟩:aH):=wO.of (.agg #[(.string ⟨#[]⟩),(.string ⟨#[]⟩)])<|λM=>qj M
def lU(E:bM)(V:Z HP)(res:Z bN)(v:bL)(w:bM):Prop:=Holds E w<|[own 48 v res]++V
def dT(E:bM)(V:Z HP)(res:Z Int×Int)(v:bL)(w:bM):Prop:=∃u0:bL,v = .tuple #[u0,vi res.2]/\Holds E w ([own 3 u0 res.1]++V)
def iW(E:bM)(V:Z HP)(res:Z (Z Int))(v:bL)(w:bM):Prop:=Holds E w<|[own 63 v res]++V
def aF(E:bM)(V:Z HP)(res:Int)(v:bL)(w:bM):Prop:=v= vi res/\Holds E w V
def bE(E:bM)(V:Z HP)(res:Bool)(v:bL)(w:bM):Prop:=v= vb res/\Holds E w V
def bI(E:bM)(V:Z HP)(res:Int×Bool)(v:bL)(w:bM):Prop:=v = .tuple #[vi res.1,vb res.2]/\Holds E w V
def fc(E:bM)(V:Z HP)(res:Z aP)(v:bL)(w:bM):Prop:=Holds E w<|[own 9 v res]++V
def gB(E:bM)(V:Z HP)(b3:Nat)(h_:bL)(d_:Z (aP×Int))(i_:bL)(e_:Z (aP×Int))(res:Z (aD×Int))(v:bL)(w:bM):Prop:=Holds E w<|[mp v res,bc 78 b3 [h_,i_],mp h_ d_,mp i_ e_]++V
def iK(E:bM)(V:Z HP)(res:Z aH)(v:bL)(w:bM):Prop:=Holds E w<|[own 39 v res]++V
def sj(H:Type)(d:DataW H):Nat:=YtfdnmjbbeolcdaaGreatDoor.Rows.uptoBulk d
def DS(H:Type)(d:List (DataW H)):Nat:=YtfdnmjbbeolcdaaGreatDoor.Rows.uptoBulkAll d
theorem fL:UB sj DS where
  str:=λH b=>by simp[sj,YtfdnmjbbeolcdaaGreatDoor.Rows.uptoBulk]
  pos:=λH d=>by
    unfold sj
    cases d with
    |lit l=>cases l <;> simp[YtfdnmjbbeolcdaaGreatDoor.Rows.uptoBulk]
    |nil=>simp[YtfdnmjbbeolcdaaGreatDoor.Rows.uptoBulk]
    |ptr d=>simp[YtfdnmjbbeolcdaaGreatDoor.Rows.uptoBulk]
    |slice elems spare=>simp[YtfdnmjbbeolcdaaGreatDoor.Rows.uptoBulk]
    |agg parts=>simp[YtfdnmjbbeolcdaaGreatDoor.Rows.uptoBulk]
    |iface t d=>simp[YtfdnmjbbeolcdaaGreatDoor.Rows.uptoBulk]
    |map entries=>simp[YtfdnmjbbeolcdaaGreatDoor.Rows.uptoBulk]
    |held h=>simp[YtfdnmjbbeolcdaaGreatDoor.Rows.uptoBulk]
  sl:=λH e s=>by simp[sj,DS,YtfdnmjbbeolcdaaGreatDoor.Rows.uptoBulk]
  ag:=λH l=>by simp[sj,DS,YtfdnmjbbeolcdaaGreatDoor.Rows.uptoBulk]
  nil:=λH=>by simp[DS,YtfdnmjbbeolcdaaGreatDoor.Rows.uptoBulkAll]
  cons:=λH x l=>by simp[sj,DS,YtfdnmjbbeolcdaaGreatDoor.Rows.uptoBulkAll]
theorem BM:fH sj Tryz.prog 9 aP:=yQ fL (by kernel_rfl)
theorem FZ:fH sj Tryz.prog 3 Int:=yP fL (by kernel_rfl)
theorem Fv:fH sj Tryz.prog 57 aU:=iF fL (λ(x:aU)=>(x.Name,x.Kind,x.cD)) (λb=>⟨b.1,b.2.1,b.2.2⟩) (λb=>rfl) Tryz.underlying57 (ia fL BM<|ia fL FZ<|kJ fL FZ) (λb=>by simp only[sg];omega)
theorem Fw:fH sj Tryz.prog 58 (Z aU):=jL (e:=57) fL Fv
theorem Fx:fH sj Tryz.prog 60 aC:=iF fL (λ(x:aC)=>(x.Name,x.aV)) (λb=>⟨b.1,b.2⟩) (λb=>rfl) Tryz.underlying60 (ia fL BM<|kJ fL Fw) (λb=>by simp only[ll];omega)
theorem Fy:fH sj Tryz.prog 22 (Z aC):=jL (e:=60) fL Fx
theorem Fz:fH sj Tryz.prog 42 Part:=iF fL (λ(x:Part)=>(x.Name,x.bU)) (λb=>⟨b.1,b.2⟩) (λb=>rfl) Tryz.underlying42 (ia fL BM<|kJ fL BM) (λb=>by simp only[rq];omega)
theorem FA:fH sj Tryz.prog 23 (Z Part):=jL (e:=42) fL Fz
theorem FB:fH sj Tryz.prog 48 bN:=iF fL (λ(x:bN)=>(x.Part,x.bN)) (λb=>⟨b.1,b.2⟩) (λb=>rfl) Tryz.underlying48 (ia fL BM<|kJ fL BM) (λb=>by simp only[AD];omega)
theorem FC:fH sj Tryz.prog 43 (Z bN):=jL (e:=48) fL FB
theorem FD:fH sj Tryz.prog 44 (Z aP):=jL (e:=9) fL BM
theorem FE:fH sj Tryz.prog 46 Net:=iF fL (λ(x:Net)=>(x.Name,x.aV,x.mU)) (λb=>⟨b.1,b.2.1,b.2.2⟩) (λb=>rfl) Tryz.underlying46 (ia fL BM<|ia fL FC<|kJ fL FD) (λb=>by simp only[qq];omega)
theorem FF:fH sj Tryz.prog 24 (Z Net):=jL (e:=46) fL FE
theorem FG:fH sj Tryz.prog 26 aG:=iF fL (λ(x:aG)=>(x.aJ,x.aQ)) (λb=>⟨b.1,b.2⟩) (λb=>rfl) Tryz.underlying26 (ia fL FA<|kJ fL FF) (λb=>by simp only[kU];omega)
end Go.Gk
namespace Go.Proofs
open Go.Shelf Go.RowKit Go.Lib Go.Sort
def Tryz.lay73_ren : Go.Shelf.Ren := ⟨fun | 6 => 73 | 15 => 92 | 14 => 91 | 28 => 108 | 29 => 109 | 20 => 100 | 21 => 101 | 22 => 102 | 23 => 103 | 24 => 104 | 25 => 105 | 26 => 106 | 27 => 107 | 46 => 127 | 47 => 128 | 48 => 129 | 49 => 130 | 50 => 131 | 57 => 138 | n => n, fun | 22 => 44 | 24 => 9 | 25 => 103 | 3 => 3 | 39 => 127 | 0 => 0 | 53 => 158 | 55 => 160 | 4 => 4 | 46 => 152 | 45 => 151 | 50 => 80 | 5 => 5 | 9 => 9 | 66 => 177 | 70 => 181 | 76 => 187 | 77 => 188 | n => n, fun | n => n⟩
theorem Tryz.lay73 : Go.Proofs.SlLaysF.n6 Tryz.prog Tryz.lay73_ren := {
  mixed := by kernel_rfl
  f6 := ⟨Tryz.f73.name, by decide, Tryz.func73.trans (congrArg some (by kernel_rfl))⟩
  f14 := ⟨Tryz.f91.name, by decide, Tryz.func91.trans (congrArg some (by kernel_rfl))⟩
  f15 := Tryz.func92.trans (congrArg some (by kernel_rfl))
  f20 := ⟨Tryz.f100.name, by decide, Tryz.func100.trans (congrArg some (by kernel_rfl))⟩
  f21 := ⟨Tryz.f101.name, by decide, Tryz.func101.trans (congrArg some (by kernel_rfl))⟩
  f22 := ⟨Tryz.f102.name, by decide, Tryz.func102.trans (congrArg some (by kernel_rfl))⟩
  f23 := ⟨Tryz.f103.name, by decide, Tryz.func103.trans (congrArg some (by kernel_rfl))⟩
  f24 := ⟨Tryz.f104.name, by decide, Tryz.func104.trans (congrArg some (by kernel_rfl))⟩
  f25 := ⟨Tryz.f105.name, by decide, Tryz.func105.trans (congrArg some (by kernel_rfl))⟩
  f26 := ⟨Tryz.f106.name, by decide, Tryz.func106.trans (congrArg some (by kernel_rfl))⟩
  f27 := ⟨Tryz.f107.name, by decide, Tryz.func107.trans (congrArg some (by kernel_rfl))⟩
  f28 := Tryz.func108.trans (congrArg some (by kernel_rfl))
  f29 := Tryz.func109.trans (congrArg some (by kernel_rfl))
  f46 := ⟨Tryz.f127.name, by decide, Tryz.func127.trans (congrArg some (by kernel_rfl))⟩
  f47 := Tryz.func128.trans (congrArg some (by kernel_rfl))
  f48 := Tryz.func129.trans (congrArg some (by kernel_rfl))
  f49 := ⟨Tryz.f130.name, by decide, Tryz.func130.trans (congrArg some (by kernel_rfl))⟩
  f50 := ⟨Tryz.f131.name, by decide, Tryz.func131.trans (congrArg some (by kernel_rfl))⟩
  f57 := ⟨Tryz.f138.name, by decide, Tryz.func138.trans (congrArg some (by kernel_rfl))⟩
  t0 := Tryz.underlying0
  a0 := Tryz.isAgg0
  z0 := Tryz.sizeOf0
  v0 := Tryz.zeroValue0
  t3 := Tryz.underlying3
  a3 := Tryz.isAgg3
  z3 := Tryz.sizeOf3
  v3 := Tryz.zeroValue3
  t4 := Tryz.underlying4
  a4 := Tryz.isAgg4
  z4 := Tryz.sizeOf4
  v4 := Tryz.zeroValue4
  t5 := Tryz.underlying5
  a5 := Tryz.isAgg5
  z5 := Tryz.sizeOf5
  v5 := Tryz.zeroValue5
  t9 := Tryz.underlying9
  a9 := Tryz.isAgg9
  z9 := Tryz.sizeOf9
  v9 := Tryz.zeroValue9
  t22 := Tryz.underlying44
  a22 := Tryz.isAgg44
  z22 := Tryz.sizeOf44
  v22 := Tryz.zeroValue44
  a24 := Tryz.isAgg9
  z24 := Tryz.sizeOf9
  t25 := Tryz.underlying103
  a25 := Tryz.isAgg103
  z25 := Tryz.sizeOf103
  v25 := Tryz.zeroValue103
  t39 := Tryz.underlying127
  a39 := Tryz.isAgg127
  z39 := Tryz.sizeOf127
  v39 := Tryz.zeroValue127
  t45 := Tryz.underlying151
  a45 := Tryz.isAgg151
  z45 := Tryz.sizeOf151
  v45 := Tryz.zeroValue151
  t46 := Tryz.underlying152
  a46 := Tryz.isAgg152
  z46 := Tryz.sizeOf152
  v46 := Tryz.zeroValue152
  t50 := Tryz.underlying80
  a50 := Tryz.isAgg80
  z50 := Tryz.sizeOf80
  v50 := Tryz.zeroValue80
  t53 := Tryz.underlying158
  a53 := Tryz.isAgg158
  z53 := Tryz.sizeOf158
  v53 := Tryz.zeroValue158
  t55 := Tryz.underlying160
  a55 := Tryz.isAgg160
  z55 := Tryz.sizeOf160
  v55 := Tryz.zeroValue160
  t66 := Tryz.underlying177
  a66 := Tryz.isAgg177
  z66 := Tryz.sizeOf177
  v66 := Tryz.zeroValue177
  t70 := Tryz.underlying181
  a70 := Tryz.isAgg181
  z70 := Tryz.sizeOf181
  v70 := Tryz.zeroValue181
  t76 := Tryz.underlying187
  a76 := Tryz.isAgg187
  z76 := Tryz.sizeOf187
  v76 := Tryz.zeroValue187
  t77 := Tryz.underlying188
  a77 := Tryz.isAgg188
  z77 := Tryz.sizeOf188
  v77 := Tryz.zeroValue188 }
def Tryz.lay82_ren : Go.Shelf.Ren := ⟨fun | 6 => 82 | 15 => 92 | 14 => 94 | 28 => 108 | 29 => 109 | 20 => 118 | 21 => 119 | 22 => 120 | 23 => 121 | 24 => 122 | 25 => 123 | 26 => 124 | 27 => 125 | 46 => 135 | 47 => 128 | 48 => 129 | 49 => 136 | 50 => 137 | 57 => 140 | n => n, fun | 22 => 67 | 24 => 69 | 25 => 140 | 3 => 3 | 39 => 127 | 0 => 0 | 53 => 158 | 55 => 160 | 4 => 4 | 46 => 152 | 45 => 151 | 50 => 80 | 5 => 5 | 9 => 9 | 66 => 177 | 70 => 181 | 76 => 187 | 77 => 188 | n => n, fun | n => n⟩
theorem Tryz.lay82 : Go.Proofs.SlLaysF0.n6 Tryz.prog Tryz.lay82_ren := {
  mixed := by kernel_rfl
  f6 := ⟨Tryz.f82.name, by decide, Tryz.func82.trans (congrArg some (by kernel_rfl))⟩
  f14 := ⟨Tryz.f94.name, by decide, Tryz.func94.trans (congrArg some (by kernel_rfl))⟩
  f15 := Tryz.func92.trans (congrArg some (by kernel_rfl))
  f20 := ⟨Tryz.f118.name, by decide, Tryz.func118.trans (congrArg some (by kernel_rfl))⟩
  f21 := ⟨Tryz.f119.name, by decide, Tryz.func119.trans (congrArg some (by kernel_rfl))⟩
  f22 := ⟨Tryz.f120.name, by decide, Tryz.func120.trans (congrArg some (by kernel_rfl))⟩
  f23 := ⟨Tryz.f121.name, by decide, Tryz.func121.trans (congrArg some (by kernel_rfl))⟩
  f24 := ⟨Tryz.f122.name, by decide, Tryz.func122.trans (congrArg some (by kernel_rfl))⟩
  f25 := ⟨Tryz.f123.name, by decide, Tryz.func123.trans (congrArg some (by kernel_rfl))⟩
  f26 := ⟨Tryz.f124.name, by decide, Tryz.func124.trans (congrArg some (by kernel_rfl))⟩
  f27 := ⟨Tryz.f125.name, by decide, Tryz.func125.trans (congrArg some (by kernel_rfl))⟩
  f28 := Tryz.func108.trans (congrArg some (by kernel_rfl))
  f29 := Tryz.func109.trans (congrArg some (by kernel_rfl))
  f46 := ⟨Tryz.f135.name, by decide, Tryz.func135.trans (congrArg some (by kernel_rfl))⟩
  f47 := Tryz.func128.trans (congrArg some (by kernel_rfl))
  f48 := Tryz.func129.trans (congrArg some (by kernel_rfl))
  f49 := ⟨Tryz.f136.name, by decide, Tryz.func136.trans (congrArg some (by kernel_rfl))⟩
  f50 := ⟨Tryz.f137.name, by decide, Tryz.func137.trans (congrArg some (by kernel_rfl))⟩
  f57 := ⟨Tryz.f140.name, by decide, Tryz.func140.trans (congrArg some (by kernel_rfl))⟩
  t0 := Tryz.underlying0
  a0 := Tryz.isAgg0
  z0 := Tryz.sizeOf0
  v0 := Tryz.zeroValue0
  t3 := Tryz.underlying3
  a3 := Tryz.isAgg3
  z3 := Tryz.sizeOf3
  v3 := Tryz.zeroValue3
  t4 := Tryz.underlying4
  a4 := Tryz.isAgg4
  z4 := Tryz.sizeOf4
  v4 := Tryz.zeroValue4
  t5 := Tryz.underlying5
  a5 := Tryz.isAgg5
  z5 := Tryz.sizeOf5
  v5 := Tryz.zeroValue5
  t9 := Tryz.underlying9
  a9 := Tryz.isAgg9
  z9 := Tryz.sizeOf9
  v9 := Tryz.zeroValue9
  t22 := Tryz.underlying67
  a22 := Tryz.isAgg67
  z22 := Tryz.sizeOf67
  v22 := Tryz.zeroValue67
  t25 := Tryz.underlying140
  a25 := Tryz.isAgg140
  z25 := Tryz.sizeOf140
  v25 := Tryz.zeroValue140
  t39 := Tryz.underlying127
  a39 := Tryz.isAgg127
  z39 := Tryz.sizeOf127
  v39 := Tryz.zeroValue127
  t45 := Tryz.underlying151
  a45 := Tryz.isAgg151
  z45 := Tryz.sizeOf151
  v45 := Tryz.zeroValue151
  t46 := Tryz.underlying152
  a46 := Tryz.isAgg152
  z46 := Tryz.sizeOf152
  v46 := Tryz.zeroValue152
  t50 := Tryz.underlying80
  a50 := Tryz.isAgg80
  z50 := Tryz.sizeOf80
  v50 := Tryz.zeroValue80
  t53 := Tryz.underlying158
  a53 := Tryz.isAgg158
  z53 := Tryz.sizeOf158
  v53 := Tryz.zeroValue158
  t55 := Tryz.underlying160
  a55 := Tryz.isAgg160
  z55 := Tryz.sizeOf160
  v55 := Tryz.zeroValue160
  t66 := Tryz.underlying177
  a66 := Tryz.isAgg177
  z66 := Tryz.sizeOf177
  v66 := Tryz.zeroValue177
  t70 := Tryz.underlying181
  a70 := Tryz.isAgg181
  z70 := Tryz.sizeOf181
  v70 := Tryz.zeroValue181
  t76 := Tryz.underlying187
  a76 := Tryz.isAgg187
  z76 := Tryz.sizeOf187
  v76 := Tryz.zeroValue187
  t77 := Tryz.underlying188
  a77 := Tryz.isAgg188
  z77 := Tryz.sizeOf188
  v77 := Tryz.zeroValue188 }
def Tryz.lay78_ren : Go.Shelf.Ren := ⟨fun | 6 => 78 | 15 => 92 | 14 => 93 | 28 => 108 | 29 => 109 | 20 => 110 | 21 => 111 | 22 => 112 | 23 => 113 | 24 => 114 | 25 => 115 | 26 => 116 | 27 => 117 | 46 => 132 | 47 => 128 | 48 => 129 | 49 => 133 | 50 => 134 | 57 => 139 | n => n, fun | 22 => 124 | 24 => 63 | 25 => 126 | 3 => 3 | 39 => 127 | 0 => 0 | 53 => 158 | 55 => 160 | 4 => 4 | 46 => 152 | 45 => 151 | 50 => 80 | 5 => 5 | 9 => 9 | 66 => 177 | 70 => 181 | 76 => 187 | 77 => 188 | n => n, fun | n => n⟩
theorem Tryz.lay78 : Go.Proofs.SlLaysF.n6 Tryz.prog Tryz.lay78_ren := {
  mixed := by kernel_rfl
  f6 := ⟨Tryz.f78.name, by decide, Tryz.func78.trans (congrArg some (by kernel_rfl))⟩
  f14 := ⟨Tryz.f93.name, by decide, Tryz.func93.trans (congrArg some (by kernel_rfl))⟩
  f15 := Tryz.func92.trans (congrArg some (by kernel_rfl))
  f20 := ⟨Tryz.f110.name, by decide, Tryz.func110.trans (congrArg some (by kernel_rfl))⟩
  f21 := ⟨Tryz.f111.name, by decide, Tryz.func111.trans (congrArg some (by kernel_rfl))⟩
  f22 := ⟨Tryz.f112.name, by decide, Tryz.func112.trans (congrArg some (by kernel_rfl))⟩
  f23 := ⟨Tryz.f113.name, by decide, Tryz.func113.trans (congrArg some (by kernel_rfl))⟩
  f24 := ⟨Tryz.f114.name, by decide, Tryz.func114.trans (congrArg some (by kernel_rfl))⟩
  f25 := ⟨Tryz.f115.name, by decide, Tryz.func115.trans (congrArg some (by kernel_rfl))⟩
  f26 := ⟨Tryz.f116.name, by decide, Tryz.func116.trans (congrArg some (by kernel_rfl))⟩
  f27 := ⟨Tryz.f117.name, by decide, Tryz.func117.trans (congrArg some (by kernel_rfl))⟩
  f28 := Tryz.func108.trans (congrArg some (by kernel_rfl))
  f29 := Tryz.func109.trans (congrArg some (by kernel_rfl))
  f46 := ⟨Tryz.f132.name, by decide, Tryz.func132.trans (congrArg some (by kernel_rfl))⟩
  f47 := Tryz.func128.trans (congrArg some (by kernel_rfl))
  f48 := Tryz.func129.trans (congrArg some (by kernel_rfl))
  f49 := ⟨Tryz.f133.name, by decide, Tryz.func133.trans (congrArg some (by kernel_rfl))⟩
  f50 := ⟨Tryz.f134.name, by decide, Tryz.func134.trans (congrArg some (by kernel_rfl))⟩
  f57 := ⟨Tryz.f139.name, by decide, Tryz.func139.trans (congrArg some (by kernel_rfl))⟩
  t0 := Tryz.underlying0
  a0 := Tryz.isAgg0
  z0 := Tryz.sizeOf0
  v0 := Tryz.zeroValue0
  t3 := Tryz.underlying3
  a3 := Tryz.isAgg3
  z3 := Tryz.sizeOf3
  v3 := Tryz.zeroValue3
  t4 := Tryz.underlying4
  a4 := Tryz.isAgg4
  z4 := Tryz.sizeOf4
  v4 := Tryz.zeroValue4
  t5 := Tryz.underlying5
  a5 := Tryz.isAgg5
  z5 := Tryz.sizeOf5
  v5 := Tryz.zeroValue5
  t9 := Tryz.underlying9
  a9 := Tryz.isAgg9
  z9 := Tryz.sizeOf9
  v9 := Tryz.zeroValue9
  t22 := Tryz.underlying124
  a22 := Tryz.isAgg124
  z22 := Tryz.sizeOf124
  v22 := Tryz.zeroValue124
  a24 := Tryz.isAgg63
  z24 := Tryz.sizeOf63
  t25 := Tryz.underlying126
  a25 := Tryz.isAgg126
  z25 := Tryz.sizeOf126
  v25 := Tryz.zeroValue126
  t39 := Tryz.underlying127
  a39 := Tryz.isAgg127
  z39 := Tryz.sizeOf127
  v39 := Tryz.zeroValue127
  t45 := Tryz.underlying151
  a45 := Tryz.isAgg151
  z45 := Tryz.sizeOf151
  v45 := Tryz.zeroValue151
  t46 := Tryz.underlying152
  a46 := Tryz.isAgg152
  z46 := Tryz.sizeOf152
  v46 := Tryz.zeroValue152
  t50 := Tryz.underlying80
  a50 := Tryz.isAgg80
  z50 := Tryz.sizeOf80
  v50 := Tryz.zeroValue80
  t53 := Tryz.underlying158
  a53 := Tryz.isAgg158
  z53 := Tryz.sizeOf158
  v53 := Tryz.zeroValue158
  t55 := Tryz.underlying160
  a55 := Tryz.isAgg160
  z55 := Tryz.sizeOf160
  v55 := Tryz.zeroValue160
  t66 := Tryz.underlying177
  a66 := Tryz.isAgg177
  z66 := Tryz.sizeOf177
  v66 := Tryz.zeroValue177
  t70 := Tryz.underlying181
  a70 := Tryz.isAgg181
  z70 := Tryz.sizeOf181
  v70 := Tryz.zeroValue181
  t76 := Tryz.underlying187
  a76 := Tryz.isAgg187
  z76 := Tryz.sizeOf187
  v76 := Tryz.zeroValue187
  t77 := Tryz.underlying188
  a77 := Tryz.isAgg188
  z77 := Tryz.sizeOf188
  v77 := Tryz.zeroValue188 }
end Go.Proofs
namespace Go.Gk
open Go IntKind Go.Proofs
variable (N:Nat){E w:bM}{i0 i1 i2:Nat}{p1 p2 p3 res:Int}{v0 v1 v2:bL}{V:Z HP}
def lW(E:bM)(V:Z HP)(res:aG)(v:bL)(w:bM):Prop:=Holds E w<|[rd v res]++V
theorem lD{p0:aG}{p1:aP}{res:aG}(j:Holds E w V)(h0:eK V i0 v0 p0)(o:dZ N p0 p1=some res):c_ 4 [v0,str p1] w<|lW E V res:=by
 unfold dZ at o;refine enter Tryz.func4 zr zr ?_;have j:=j.dup (i0+0) h0;refine d3<|Gl 0 v0 j zr λay w j=>?_;refine Gs j Di.z λab w j=>?_;refine r_<|H0 zr j Ei zr λad w j=>?_;refine u_<|d3<|v_ zr gj<|GA 2 j zr cG mw λaz j=>B_ 0 p0.aJ j uA<|bA 0<|o_<|GV E V (λ(ae:Z Part)(a0:bL)=>[bx 26 ay p0,raw 26 ab 2,bc 26 ad [a0,n_],own 42 a0 ae,rd az p0.aJ]) (λ_ _=>[(1,str p1),(2,vp ay 0),(4,vp ab 0),(5,vp ad 0)]) (λav _ _=>[(14,az),(15,vi p0.aJ.length),(16,vi av)]) o ?_ ?_ ?_;exact⟨n_,(j.ei Part 42).sp 6 [4,3,2,0,1]⟩;rintro hm av ae s' _ w hk⟨a9,O,rfl,j⟩o;refine w_<|C_<|q_ o λaf ba o=>AT 4 j oc ba λbt j=>AS 0 af j r4 λbu j=>Gs j yF.z λbw w j=>?_;refine Gt 0 j 1 zr r4 λw j=>?_;refine o_<|t_<|v_ zr gj<|GL 5 a9 j mw<|mv (str p1)<|v_ zr mx<|A_ 0 j zr iy fV<|q_ o λao bb o=>HI p1 af.Name zr zr zr bb<|v_ zr lB<|A_ 0 j zr gK fV ?_;have j:=(j.sc aP ao).sc aP af.bU;refine GS (⟨ao,af.bU⟩:Part) trivial rfl j [(0,str ao),(1,str af.bU)] rfl Dj rfl (λM hs g=>by have h:=Ah M;exact cH.cons (f:=λ(x:Part)y=>{x with Name:=y}) h tG (g.sat 1 _ rfl).1 λ_ h=>cH.cons (f:=λ(x:Part)y=>{x with bU:=y}) h tH (g.sat 0 _ rfl).1 λ_ h=>cH.nil h) λbf j=>?_;refine GI ([(⟨ao,af.bU⟩:Part)]:Z Part) j [bf] oc yF (λ_ _=>ix) λbz w j=>?_;have j:=j.freeze 0;refine q_ o λb0 bg o=>GN 10 0 j Ej bg λa1 w j=>?_;refine v_ zr gj<|Hn 9 a1 j zr zr (pD 10 j zr) mw λw j=>?_;exact s_<|bO<|aI<|t_<|Gq hk hm<|bA ((av+1:Nat):Int)<|s_<|oi o▸⟨rfl,a1,j.sp 12 (f0 7 5 [])⟩;rintro ae _ w o⟨aj,O,rfl,j⟩;refine aI<|w_<|d3<|v_ zr iZ<|GA 0 j zr dt oP λaq j=>B_ 0 p0.aQ j vP<|bA 0<|o_<|GV E V (λ(ak:Z Net)(a2:bL)=>[raw 26 ab 2,bc 26 ad [aj,a2],own 46 a2 ak,own 42 aj ae,rd aq p0.aQ]) (λ_ _=>[(4,vp ab 0),(5,vp ad 0)]) (λar _ _=>[(1,str p1),(34,aq),(35,vi p0.aQ.length),(36,vi ar)]) o ?_ ?_ ?_;exact⟨n_,(j.ei Net 46).sp 7 [3,4,0,5,1]⟩;rintro hm ar ak s' _ w hk⟨aw,O,rfl,j⟩o;refine w_<|C_<|q_ o λal bh o=>AT 4 j r5 bh λb2 j=>AS 0 al j s6 λb3 j=>Gs j BA.z λb4 w j=>?_;refine Gt 0 j 1 zr s6 λw j=>?_;refine r_<|mv (str p1)<|v_ zr oQ<|A_ 0 j zr kS fV<|q_ o λaa bj o=>HI p1 al.Name zr zr zr bj<|Ig (zs:=[(.string ⟨#[]⟩),n_,n_]) (cs:=[str aa,n_,n_]) zt zr [(0,str aa)] zr Ek ⟨rfl,zt⟩ zr<|H0 zr j El zr λa3 w j=>?_;refine Ih (cs:=[str aa,n_,n_]) 0 zt j zr zr zr (sW.all (⟨zr,zr,zr,zt⟩:sW [str aa,n_,n_])) s6 zr zr λw j=>?_;refine u_<|d3<|v_ zr nu<|GA 1 j zr lS vQ λa4 j=>B_ 0 al.aV j s8<|bA 0<|o_<|GV E V (λ(an:Z bN)(a5:bL)=>[raw 26 ab 2,bc 26 ad [aj,aw],own 42 aj ae,own 46 aw ak,bc 46 a3 [str aa,a5,n_],own 48 a5 an,rd aq p0.aQ,rd a4 al.aV]) (λ_ _=>[(1,str p1),(4,vp ab 0),(5,vp ad 0),(10,vp a3 0),(34,aq),(35,vi p0.aQ.length),(36,vi ar)]) (λax _ _=>[(46,a4),(47,vi al.aV.length),(48,vi ax)]) o ?_ ?_ ?_;exact⟨n_,(j.ei bN 48).sp 11 [6,7,9,8,2,0,10,1]⟩;rintro hm ax an s' _ w hk⟨bk,O,rfl,j⟩o;refine w_<|C_<|q_ o λag bl o=>AT 7 j q6 bl λb5 j=>AS 0 ag j kC λb6 j=>Gs j s9.z λb7 w j=>?_;refine Gt 0 j 1 zr kC λw j=>?_;refine o_<|t_<|v_ zr nu<|GL 7 bk j vQ<|mv (str p1)<|v_ zr nv<|A_ 0 j zr jX fV<|q_ o λau bm o=>HI p1 ag.Part zr zr zr bm<|v_ zr ql<|A_ 0 j zr lR fV ?_;have j:=(j.sc aP au).sc aP ag.bN;refine GS (⟨au,ag.bN⟩:bN) trivial rfl j [(0,str au),(1,str ag.bN)] rfl BB rfl (λM hs g=>by have h:=xX M;exact cH.cons (f:=λ(x:bN)y=>{x with Part:=y}) h pL (g.sat 1 _ rfl).1 λ_ h=>cH.cons (f:=λ(x:bN)y=>{x with bN:=y}) h pM (g.sat 0 _ rfl).1 λ_ h=>cH.nil h) λbn j=>?_;refine GI ([(⟨au,ag.bN⟩:bN)]:Z bN) j [bn] q6 s9 (λ_ _=>ix) λb8 w j=>?_;have j:=j.freeze 0;refine q_ o λb9 bo o=>GN 12 0 j CB bo λa6 w j=>?_;refine v_ zr nu<|Hn 11 a6 j zr zr (pD 12 j zr) vQ λw j=>?_;exact s_<|bO<|aI<|t_<|Gq hk hm<|bA ((ax+1:Nat):Int)<|s_<|oi o▸⟨rfl,a6,j.sp 15 (f0 7 8 [])⟩;rintro an _ w o⟨a7,O,rfl,j⟩;refine aI<|t_<|v_ zr iZ<|GL 1 aw j oP ?_;have j:=((j.freeze 5).wU aP).vt (i:=5) (x:=(⟨aa,an,([]:Z aP)⟩:Net)) rfl<|λM hs g=>⟨[str aa],[a7,n_],rfl,rfl,⟨[a7],[n_],rfl,uf rfl (g.sat 6 _ rfl).1,uf rfl (g.sat 0 _ rfl).1⟩⟩;refine Gp 5 j zr s6 λbp j=>GI ([(⟨aa,an,([]:Z aP)⟩:Net)]:Z Net) j [bp] r5 BA (λ_ _=>ix) λca w j=>?_;have j:=j.freeze 0;refine q_ o λcb bq o=>GN 6 0 j Em bq λa8 w j=>?_;refine v_ zr iZ<|Hn 4 a8 j zr zr (pD 6 j zr) oP λw j=>?_;exact s_<|bO<|aI<|t_<|Gq hk hm<|bA ((ar+1:Nat):Int)<|s_<|oi o▸⟨rfl,a8,j.sp 11 [3,4,6,5,9]⟩;rintro ak _ w o⟨br,O,rfl,j⟩;refine aI<|d3 ?_;have j:=((j.freeze 3).freeze 2).vt (i:=1) (x:=(⟨ae,ak⟩:aG)) rfl<|λM hs g=>⟨[aj],[br],rfl,uf rfl (g.sat 3 _ rfl).1,uf rfl (g.sat 2 _ rfl).1⟩;refine Gp 1 j zr gA λcc j=>Gt 1 j 0 zr gA λw j=>?_;refine o_<|x_ ?_;obtain rfl:=oi o;exact Ec (i:=1) zr j zr zr gA λcd j=>j.pk 7 [0]
theorem iS{p0:aP}(o:Holds E w V)(j:d4 N p0 p1=some res):c_ 68 [str p0,(.int .u8 p1)] w<|aF E V res:=by
 unfold d4 at j;refine enter Tryz.func68 zr zr<|d3<|aM 0<|r_<|mv (str p0)<|mv (.int .u8 p1)<|HY (vi<|Lib.indexByte p0.bK (jQ p1).toUInt8) zr [str p0,(.int .u8 p1)] zr (z9 p0 p1 w)<|aM (Lib.indexByte p0.bK (jQ p1).toUInt8)<|o_ ?_;exact x_<|oi j▸bH ⟨rfl,o.drop 0⟩
theorem nA{p0:aP}(o:Holds E w V)(j:eA N p0 p1=some res):c_ 54 [str p0,(.int .u8 p1)] w<|aF E V res:=by
 unfold eA at j;exact enter Tryz.func54 zr zr<|d3<|aM 0<|r_<|mv (str p0)<|mv (.int .u8 p1)<|q_ j λaa ab j=>y_ Dk (iS N (p0:=p0) (p1:=p1) o ab) λw o=>aM aa<|o_<|x_<|oi j▸bH ⟨rfl,o.drop 0⟩
theorem jt{p0:aP}{res:Bool}(hw:Holds E w V)(o:eV N p0=some res):c_ 35 [str p0] w<|bE E V res:=by
 unfold eV at o;refine enter Tryz.func35 zr zr<|d3<|bW false<|u_<|d3<|mv (str p0)<|G4 p0 r6<|bA 0<|o_<|GY E V (λ(ag:Unit)=>[]) (λ_=>[(0,str p0)]) (λad _=>[(6,vi p0.bK.length),(7,vi ad)]) (λr=>kc aY 49 Tryz.f35 (bE E V r) .ret) o ?_ ?_ ?_ ?_;exact hw.sp 0 [];rintro hm ad ag fl _ w hk⟨O,rfl,hw⟩o;refine w_<|C_<|bA (ad:Int)<|aM (ad:Int)<|r_<|mv (str p0)<|bA (ad:Int)<|q_ o λj ak o=>HU p0 (ad:Int) j zr zr zr r6 ak<|dB (.int .u8 (j.toNat:Int))<|u_ ?_;refine q_ o λaf hj o=>Gn (λ(af:Bool)=>SH E V [(0,str p0),(6,vi p0.bK.length),(7,vi ad),(39,vb af)] []) af ?_ ?_;refine t_<|mv (.int .u8 (j.toNat:Int))<|ic ((j.toNat:Int)) 65<|kR (jn<|(j.toNat:Int)<65)<|GF (.int .u8 (j.toNat:Int)) zr zr xV<|GF (vb<|jn<|(j.toNat:Int)>90) zr zr (Bb .gtr)<|GW (b:=jn<|(j.toNat:Int)<65) (v:=vb<|jn ((j.toNat:Int)<65)||jn ((j.toNat:Int)>90)) zt zr zr (rI true zr)<|kR (jn ((j.toNat:Int)<65)||jn ((j.toNat:Int)>90))<|GF (.int .u8 (j.toNat:Int)) zr zr xV ?_;refine GF (vb<|jn<|(j.toNat:Int)<97) zr zr (Bb .lss)<|GF (vb<|jn<|(j.toNat:Int)<97) zr zr xV<|HR (.int .u8 (j.toNat:Int)) zr zr xV<|HR (vb<|jn<|(j.toNat:Int)>122) zr zr (Bb .gtr)<|GF (vb<|jn ((j.toNat:Int)<97)||jn ((j.toNat:Int)>122)) zr zr FV<|GW (b:=jn ((j.toNat:Int)<65)||jn ((j.toNat:Int)>90)) (v:=vb<|(jn ((j.toNat:Int)<65)||jn ((j.toNat:Int)>90))&&(jn ((j.toNat:Int)<97)||jn ((j.toNat:Int)>122))) zt zr zr (t7 true zr)<|kR ((jn ((j.toNat:Int)<65)||jn ((j.toNat:Int)>90))&&(jn ((j.toNat:Int)<97)||jn ((j.toNat:Int)>122)))<|GF (.int .u8 (j.toNat:Int)) zr zr xV<|GF (vb<|jn<|(j.toNat:Int)<48) zr zr (Bb .lss) ?_;refine GF (vb<|jn<|(j.toNat:Int)<48) zr zr xV<|HR (.int .u8 (j.toNat:Int)) zr zr xV<|HR (vb<|jn<|(j.toNat:Int)>57) zr zr (Bb .gtr)<|GF (vb<|jn ((j.toNat:Int)<48)||jn ((j.toNat:Int)>57)) zr zr FV<|GW (b:=(jn ((j.toNat:Int)<65)||jn ((j.toNat:Int)>90))&&(jn ((j.toNat:Int)<97)||jn ((j.toNat:Int)>122))) (v:=vb<|((jn ((j.toNat:Int)<65)||jn ((j.toNat:Int)>90))&&(jn ((j.toNat:Int)<97)||jn ((j.toNat:Int)>122)))&&(jn ((j.toNat:Int)<48)||jn ((j.toNat:Int)>57))) zt zr zr (t7 true zr)<|kR (((jn ((j.toNat:Int)<65)||jn ((j.toNat:Int)>90))&&(jn ((j.toNat:Int)<97)||jn ((j.toNat:Int)>122)))&&(jn ((j.toNat:Int)<48)||jn ((j.toNat:Int)>57)))<|kA hj (λab hj=>?_) λab hj=>?_;refine AI (.int .u8 (j.toNat:Int)) (cg ab)<|q_ hj λah al hj=>y_ (fU Tryz.func54) (nA N (p0:=⟨[95,43,45,35]⟩) (p1:=(j.toNat:Int)) hw al) λw hw=>GO ah 0 (cg ab)<|kH ab (vb<|ah<0)<|s_ ?_;exact oi hj▸⟨rfl,hw.sp 0 []⟩;exact cT ab<|cT ab<|cT ab<|kH ab (vb false)<|s_<|oi hj▸⟨rfl,hw.sp 0 []⟩;rintro _ w⟨O,rfl,hw⟩;refine aI<|ej o (λo=>?_) λo=>?_;exact d3<|bW false<|o_<|Gy<|bC<|oi o▸⟨rfl,bH ⟨rfl,hw.drop 0⟩⟩;exact Gz<|bO<|aI<|t_<|Gq hk hm<|bA ((ad+1:Nat):Int)<|s_<|oi o▸⟨rfl,hw.sp 0 []⟩;intro r U w o hK;exact bC<|oi o▸hK;rintro ag _ w o⟨O,rfl,hw⟩;refine aI<|d3<|mv (str p0)<|G4 p0 r6<|ic ((p0.bK.length:Int)) 1<|kR (jn<|(p0.bK.length:Int)>=1)<|GF (str p0) rfl rfl xV<|Hl true (jn<|(p0.bK.length:Int)>=1) (vi p0.bK.length) rfl rfl rfl (Bj (s:=p0) rfl (by exact z_ (str p0)) r6)<|GF (vb<|jn<|(p0.bK.length:Int)<=40) rfl rfl (Bb .leq) ?_;exact GW (b:=jn<|(p0.bK.length:Int)>=1) (v:=vb<|jn ((p0.bK.length:Int)>=1)&&jn ((p0.bK.length:Int)<=40)) zt zr zr (t7 true zr)<|bW (jn ((p0.bK.length:Int)>=1)&&jn ((p0.bK.length:Int)<=40))<|o_<|x_<|oi o▸bH ⟨rfl,hw.drop 0⟩
theorem lX{p0 p1:aU}{res:Bool}(j:Holds E w V)(h0:eK V i0 v0 p0)(h1:fu V i1 v1 p1)(hb:dc N p0 p1=some res):c_ 56 [v0,v1] w<|bE E V res:=by
 unfold dc at hb;refine enter Tryz.func56 zr zr ?_;have j:=(j.dup (i0+0) h0).ke (i:=i1+1) h1;refine d3<|Gl 1 v0 j zr λaf w j=>?_;refine bW false<|u_<|q_ hb λae hj hb=>Gn (λ(ae:Bool)=>SH E V [(3,vb ae)] []) ae ?_ ?_;refine t_<|Gu 1 j zr oT gi λag j=>Gr p1.cD 0 j jh<|ic p1.cD 0<|kR (jn<|p1.cD>0)<|kA hj (λo hj=>?_) λo hj=>?_;refine v_ zr oT<|A_ 1 j zr gi jh<|Gu 2 j zr oT gi λah j=>Gr p1.cD 0 j jh<|GO p0.cD p1.cD (cg o)<|kH o (vb<|p0.cD==p1.cD)<|kR (p0.cD==p1.cD)<|kA hj (λaa hj=>?_) λaa hj=>?_;refine v_ zr uC<|A_ 2 j zr kB jh<|Gu 3 j zr uC kB λai j=>Gr p1.Kind 0 j jh<|GO p0.Kind p1.Kind (cg aa)<|kH aa (vb<|p0.Kind != p1.Kind)<|bW (p0.Kind != p1.Kind)<|s_ ?_;exact oi hj▸⟨rfl,j.sp 6 []⟩;exact cT aa<|cT aa<|cT aa<|cT aa<|cT aa<|kH aa (vb false)<|bW false<|s_<|oi hj▸⟨rfl,j.sp 5 []⟩;refine cT o<|cT o<|cT o<|cT o<|cT o<|kH o (vb false)<|kR false<|Ba<|Ba<|Ba<|Ba<|Ba<|GW (b:=false) (v:=vb false) zt zr zr zr<|bW false<|s_ ?_;exact oi hj▸⟨rfl,j.sp 4 []⟩;rintro _ w⟨O,rfl,j⟩;exact aI<|x_<|oi hb▸bH ⟨rfl,j.drop 0⟩
theorem gW{p0:Z aU}{p1:aU->aW Bool}(o:Holds E w V)(h0:eK V i0 v0 p0)(h1:zz aY E V v1 p1 (λ(r:Bool)=>Value.bool r))(j:dA N p0 p1=some res):c_ 52 [v0,v1] w<|aF E V res:=by
 unfold dA at j;refine enter Tryz.func52 zr zr ?_;have o:=o.dup (i0+0) h0;refine d3<|aM 0<|u_<|d3<|mv v0<|B_ 0 p0 o vS<|bA 0<|o_<|GY E V (λ(ab:Unit)=>[rd v0 p0]) (λ_=>[]) (λaa _=>[(0,v0),(1,v1),(7,vi p0.length),(8,vi aa)]) (λr=>kc aY 19 Tryz.f52 (aF E V r) .ret) j ?_ ?_ ?_ ?_;exact o.sp 1 [0];rintro hm aa ab fl _ w hk⟨O,rfl,o⟩j;refine w_<|C_<|bA (aa:Int)<|aM (aa:Int)<|r_<|mv v1<|mv v0<|bA (aa:Int)<|q_ j λaf ag j=>AT 0 o r7 ag λak o=>AS 0 af o r8 λal o=>?_;refine q_ j λan ah j=>Hs 0 o h1 3 ah λw o=>o_<|ej j (λj=>?_) λj=>?_;exact d3<|bA (aa:Int)<|aM (aa:Int)<|o_<|Gy<|bC<|oi j▸⟨rfl,bH ⟨rfl,o.drop 3⟩⟩;exact Gz<|bO<|aI<|t_<|Gq hk hm<|bA ((aa+1:Nat):Int)<|s_<|oi j▸⟨rfl,o.sp 3 [2]⟩;intro r U w j hK;exact bC<|oi j▸hK;rintro ab _ w j⟨O,rfl,o⟩;exact aI<|d3<|aM (-1)<|o_<|x_<|oi j▸bH ⟨rfl,o.drop 1⟩
theorem jM{p0:Z aU}{p1:aU->aW Bool}{res:Bool}(j:Holds E w V)(h0:eK V i0 v0 p0)(h1:zz aY E V v1 p1 (λ(r:Bool)=>Value.bool r))(o:dH N p0 p1=some res):c_ 55 [v0,v1] w<|bE E V res:=by
 unfold dH at o;refine enter Tryz.func55 zr zr ?_;have j:=j.dup (i0+0) h0;refine d3<|bW false<|r_<|mv v0<|mv v1<|q_ o λaa ab o=>y_ Dl (gW N (i0:=0) j zr (h1.lift 1 zr) ab) λw j=>ic aa 0<|bW (jn<|aa>=0)<|o_<|x_ ?_;exact oi o▸bH ⟨rfl,j.drop 1⟩
def kn(E:bM)(V:Z HP)(r:Int)(U:Nat->bL)(w:bM):Prop:=kc aY 71 Tryz.f36 (aF E V r) .ret U w
theorem nB{p0:Z aU}(j:Holds E w V)(h0:eK V i0 v0 p0)(o:fD N p0=some res):c_ 36 [v0] w<|aF E V res:=by
 unfold fD at o;refine enter Tryz.func36 zr zr ?_;have j:=j.dup (i0+0) h0;refine d3<|aM 0<|u_<|d3<|mv v0<|B_ 0 p0 j vS<|ic ((p0.length:Int)) 0<|o_<|ej o (λo=>?_) λo=>?_;exact d3<|aM 9<|o_<|F_<|oi o▸bH ⟨rfl,j.drop 1⟩;refine Gx<|d3<|mv v0<|B_ 0 p0 j vS<|ic ((p0.length:Int)) 200<|o_<|ej o (λo=>?_) λo=>?_;exact d3<|aM 2<|o_<|F_<|oi o▸bH ⟨rfl,j.drop 1⟩;refine Gx<|d3<|mv v0<|B_ 0 p0 j vS<|bA 0<|o_<|GY E V (λ(an:Unit)=>[rd v0 p0]) (λ_=>[(0,v0)]) (λad _=>[(13,v0),(14,vi p0.length),(15,vi ad)]) (kn E V) o ?_ ?_ ?_ ?_;exact j.sp 1 [0];rintro hm ad an fl _ w hk⟨O,rfl,j⟩o;refine w_<|C_<|bA (ad:Int)<|q_ o λaa av o=>AT 0 j r7 av λa2 j=>AS 0 aa j r8 λa3 j=>Gs j Aj.z λaf w j=>?_;refine aM (ad:Int)<|Gt 0 j 1 zr r8 λw j=>?_;refine o_<|C_<|v_ zr oS<|A_ 0 j zr gh fV<|q_ o λao aw o=>y_ CD (jt N (p0:=aa.Name) j aw) λw j=>GR ao<|bW (!ao)<|o_<|ej o (λo=>?_) λo=>?_;exact d3<|aM 5<|o_<|Gy<|d6<|bC<|oi o▸⟨rfl,bH ⟨rfl,j.drop 4⟩⟩;refine d3<|v_ rfl uC<|A_ 0 j rfl kB jh<|ic aa.Kind 1<|kR (jn<|aa.Kind<1)<|Hl true (aa.Kind<1) (vp af 1) rfl rfl rfl (xE rfl uC)<|Hl true (aa.Kind<1) (vi aa.Kind) rfl rfl rfl (qO 0 rfl j (by exact z_ (vp af 1)) rfl kB jh)<|GF (vb<|aa.Kind>7) rfl rfl (Bb .gtr)<|GW (b:=jn<|aa.Kind<1) (v:=vb<|jn (aa.Kind<1)||jn (aa.Kind>7)) trivial rfl rfl (rI true rfl) ?_;refine bW (jn (aa.Kind<1)||jn (aa.Kind>7))<|o_<|ej o (λo=>?_) λo=>?_;exact d3<|aM 4<|o_<|Gy<|d6<|bC<|oi o▸⟨rfl,bH ⟨rfl,j.drop 4⟩⟩;refine d3<|v_ rfl oT<|A_ 0 j rfl gi jh<|ic aa.cD 0<|kR (jn<|aa.cD<0)<|Hl true (aa.cD<0) (vp af 2) rfl rfl rfl (xE rfl oT)<|Hl true (aa.cD<0) (vi aa.cD) rfl rfl rfl (qO 0 rfl j (by exact z_ (vp af 2)) rfl gi jh)<|GF (vb<|aa.cD>200) rfl rfl (Bb .gtr)<|GW (b:=jn<|aa.cD<0) (v:=vb<|jn (aa.cD<0)||jn (aa.cD>200)) trivial rfl rfl (rI true rfl) ?_;refine bW (jn (aa.cD<0)||jn (aa.cD>200))<|o_<|ej o (λo=>?_) λo=>?_;exact d3<|aM 1<|o_<|Gy<|d6<|bC<|oi o▸⟨rfl,bH ⟨rfl,j.drop 4⟩⟩;refine w_<|q_ o λak hj o=>Gn (λ(ak:Bool)=>SH E V [(0,v0),(13,v0),(14,vi p0.length),(15,vi ad),(43,vb ak)] [rd v0 p0]) ak ?_ ?_;refine Hg mixed ?_;have j:=j.drew;refine Hf<|bA (ad:Int)<|p_<|ic ((ad:Int)) 0<|p_<|kR (jn<|(ad:Int)>0)<|kA hj (λab hj=>?_) λab hj=>?_;refine p_<|v_ zr oS<|p_<|A_ 0 j zr gh fV<|p_<|AI v0 (cg ab)<|p_<|AI (vi ad) (cg ab)<|p_<|E_ (ad:Int) 1<|p_ ?_;refine q_ hj λag ax hj=>AT 3 j r7 ax λa4 j=>p_<|Gu 0 j zr oS gh λa5 j=>p_<|Gr ag.Name 0 j fV<|p_<|Hd aa.Name ag.Name (cg ab)<|p_<|kH ab (vb<|aa.Name.p9 ag.Name||aa.Name.jg ag.Name)<|p_<|bW (aa.Name.p9 ag.Name||aa.Name.jg ag.Name)<|GX ?_;exact oi hj▸⟨rfl,j.sp 6 [5]⟩;refine p_<|cT ab<|p_<|cT ab<|p_<|cT ab<|p_<|cT ab<|p_<|cT ab<|p_<|cT ab<|p_<|cT ab<|p_<|cT ab<|p_<|cT ab ?_;exact p_<|kH ab (vb false)<|p_<|bW false<|GX<|oi hj▸⟨rfl,j.sp 4 [3]⟩;rintro _ w⟨O,rfl,j⟩;refine aI<|ej o (λo=>?_) λo=>?_;exact d3<|aM 8<|o_<|Gy<|d6<|bC<|oi o▸⟨rfl,bH ⟨rfl,j.drop 1⟩⟩;exact Gz<|bO<|bO<|aI<|t_<|Gq hk hm<|bA ((ad+1:Nat):Int)<|s_<|oi o▸⟨rfl,j.sp 1 [0]⟩;intro r U w o hK;exact bC<|oi o▸hK;rintro an _ w o⟨O,rfl,j⟩;refine aI<|w_<|d3<|mv v0<|B_ 0 p0 j vS<|bA 0<|o_<|GY E V (λ(aq:Unit)=>[rd v0 p0]) (λ_=>[]) (λah _=>[(0,v0),(58,v0),(59,vi p0.length),(60,vi ah)]) (kn E V) o ?_ ?_ ?_ ?_;exact j.sp 1 [0];rintro hm ah aq fl _ w hk⟨O,rfl,j⟩o;refine w_<|C_<|bA (ah:Int)<|q_ o λay az o=>AT 0 j r7 az λa6 j=>AS 0 ay j r8 λa7 j=>Gs j Aj.z λar w j=>?_;refine aM (ah:Int)<|Gt 0 j 1 zr r8 λw j=>?_;refine r_<|mv v0<|bA (ah:Int)<|q_ o λa8 a0 o=>IJ (i:=3) zt zr j zr zr r7 (.inr ⟨rfl,zr⟩) (.inl zr) a0 λa9 j=>?_;have j:=j.d7 (i:=1) rfl;refine G_ [vp ar 0] ?_;refine q_ o λba a1 o=>y_ (fU Tryz.func55) (jM N (i0:=0) j rfl ⟨56,[vp ar 0],rfl,(fU Tryz.func56),λw Γl v y0 r i j hi hr=>by exact bS (lX N (i0:=i) (i1:=Γl.length+1) j hi kd hr) λ_ _ h=>h⟩ a1) λw j=>o_<|ej o (λo=>?_) λo=>?_;exact d3<|aM 12<|o_<|Gy<|bC<|oi o▸⟨rfl,bH ⟨rfl,j.drop 5⟩⟩;exact Gz<|bO<|aI<|t_<|Gq hk hm<|bA ((ah+1:Nat):Int)<|s_<|oi o▸⟨rfl,j.sp 5 [4]⟩;intro r U w o hK;exact bC<|oi o▸hK;rintro aq _ w o⟨O,rfl,j⟩;exact aI<|d3<|aM 0<|o_<|x_<|oi o▸bH ⟨rfl,j.drop 1⟩
theorem m2{p0:Z aC}(j:Holds E w V)(h0:eK V i0 v0 p0)(o:eW N p0=some res):c_ 11 [v0] w<|aF E V res:=by
 unfold eW at o;refine enter Tryz.func11 zr zr ?_;have j:=j.dup (i0+0) h0;refine d3<|aM 0<|u_<|d3<|mv v0<|B_ 0 p0 j CC<|ic ((p0.length:Int)) 200<|o_<|ej o (λo=>?_) λo=>?_;exact d3<|aM 2<|o_<|F_<|oi o▸bH ⟨rfl,j.drop 1⟩;refine Gx<|d3<|mv v0<|B_ 0 p0 j CC<|bA 0<|o_<|GY E V (λ(ai:Unit)=>[rd v0 p0]) (λ_=>[]) (λab _=>[(0,v0),(9,v0),(10,vi p0.length),(11,vi ab)]) (λr=>kc aY 40 Tryz.f11 (aF E V r) .ret) o ?_ ?_ ?_ ?_;exact j.sp 1 [0];rintro hm ab ai fl _ w hk⟨O,rfl,j⟩o;refine w_<|C_<|bA (ab:Int)<|q_ o λae al o=>AT 0 j ta al λaw j=>AS 0 ae j oR λax j=>Gs j Ai.z λay w j=>?_;refine aM (ab:Int)<|Gt 0 j 1 zr oR λw j=>?_;refine u_<|d3<|v_ zr uB<|A_ 0 j zr jS fV<|q_ o λan ao o=>y_ CD (jt N (p0:=ae.Name) j ao) λw j=>GR an<|o_<|ej o (λo=>?_) λo=>?_;exact d3<|aM 5<|o_<|F_<|d6<|bC<|oi o▸⟨rfl,bH ⟨rfl,j.drop 4⟩⟩;refine Gx<|d3<|v_ zr qm<|GA 0 j zr gJ yG λaz j=>?_;refine q_ o λaf aq o=>y_ (fU Tryz.func36) (nB N (i0:=0) j zr aq) λw j=>aM af<|r_<|bA af<|ic af 0<|o_<|ej o (λo=>?_) λo=>?_;exact d3<|bA af<|aM af<|o_<|F_<|d6<|bC<|oi o▸⟨rfl,bH ⟨rfl,j.drop 5⟩⟩;refine Gx<|q_ o λah hj o=>Gn (λ(ah:Bool)=>SH E V [(0,v0),(9,v0),(10,vi p0.length),(11,vi ab),(38,vb ah)] [rd v0 p0]) ah ?_ ?_;refine Hg mixed ?_;have j:=j.drew;refine Hf<|bA (ab:Int)<|p_<|ic ((ab:Int)) 0<|p_<|kR (jn<|(ab:Int)>0)<|kA hj (λaa hj=>?_) λaa hj=>?_;refine p_<|v_ zr uB<|p_<|A_ 1 j zr jS fV<|p_<|AI v0 (cg aa)<|p_<|AI (vi ab) (cg aa)<|p_<|E_ (ab:Int) 1<|p_ ?_;refine q_ hj λag ar hj=>AT 4 j ta ar λa0 j=>p_<|Gu 0 j zr uB jS λa1 j=>p_<|Gr ag.Name 0 j fV<|p_<|Hd ae.Name ag.Name (cg aa)<|p_<|kH aa (vb<|ae.Name.p9 ag.Name||ae.Name.jg ag.Name)<|GX ?_;exact oi hj▸⟨rfl,j.sp 7 [6]⟩;refine p_<|cT aa<|p_<|cT aa<|p_<|cT aa<|p_<|cT aa<|p_<|cT aa<|p_<|cT aa<|p_<|cT aa<|p_<|cT aa<|p_<|cT aa ?_;exact p_<|kH aa (vb false)<|GX<|oi hj▸⟨rfl,j.sp 5 [4]⟩;rintro _ w⟨O,rfl,j⟩;refine aI<|ej o (λo=>?_) λo=>?_;exact d3<|aM 8<|o_<|Gy<|bC<|oi o▸⟨rfl,bH ⟨rfl,j.drop 1⟩⟩;exact Gz<|bO<|aI<|t_<|Gq hk hm<|bA ((ab+1:Nat):Int)<|s_<|oi o▸⟨rfl,j.sp 1 [0]⟩;intro r U w o hK;exact bC<|oi o▸hK;rintro ai _ w o⟨O,rfl,j⟩;exact aI<|d3<|aM 0<|o_<|x_<|oi o▸bH ⟨rfl,j.drop 1⟩
theorem gl{p0:Z aC}{p1:aP}{p2:aC->aP->aW Int}{res:Int×Bool}(o:Holds E w V)(h0:eK V i0 v0 p0)(h2:yv aY E V v2 p2 (λ(r:Int)=>Value.int .i64 r))(hb:cB N p0 p1 p2=some res):c_ 50 [v0,str p1,v2] w<|bI E V res:=by
 unfold cB at hb;refine enter Tryz.func50 zr zr ?_;have o:=o.dup (i0+0) h0;refine d3<|aM 0<|bW false<|r_<|mv v0<|B_ 0 p0 o CC<|aM (p0.length:Int)<|r_<|bA (p0.length:Int)<|aM 0<|aM (p0.length:Int)<|u_<|Hb E V (λ(j:Int×Int)=>[rd v0 p0]) (λj=>[(0,v0),(1,str p1),(2,v2),(8,vi p0.length),(9,vi j.1)]) (λj=>[(10,vi j.2)]) hb ?_ ?_ ?_;exact o.sp 1 [0];rintro j fl _ w⟨O,rfl,o⟩hb;refine w_<|d3<|bA j.1<|bA j.2<|ic j.1 j.2<|o_<|ej hb (λhb=>?_) λhb=>?_;refine GU<|C_<|bA j.1<|bA j.2<|E_ j.1 j.2<|GZ (dG<|j.1+j.2) ⟨_,sV⟩ mV<|Hc (.int .u64<|wrap .u64<|dG<|j.1+j.2) (.int .u64 1) (.int .u64<|Int.fdiv (wrap .u64<|dG<|j.1+j.2) 2) zr zr zr<|GZ (Int.fdiv (wrap .u64<|dG<|j.1+j.2) 2) ⟨_,mV⟩ sV<|aM (dG<|Int.fdiv (wrap .u64<|dG<|j.1+j.2) 2) ?_;refine r_<|mv v2<|mv v0<|bA (dG<|Int.fdiv (wrap .u64<|dG<|j.1+j.2) 2)<|q_ hb λah ai hb=>AT 0 o ta ai λar o=>AS 0 ah o oR λau o=>mv (str p1) ?_;have o:=o.sc aP p1;refine q_ hb λaj ak hb=>GP 1 0 o h2 4 ak λw o=>ic aj 0<|o_<|q_ hb λae hj hb=>Gn (λ(ae:Int×Int)=>SH E V [(0,v0),(1,str p1),(2,v2),(8,vi p0.length),(9,vi ae.1),(10,vi ae.2)] [rd v0 p0]) ae ?_ ?_;refine ej hj (λhj=>?_) λhj=>?_;refine t_<|bA (dG<|Int.fdiv (wrap .u64<|dG<|j.1+j.2) 2)<|E_ (dG<|Int.fdiv (wrap .u64<|dG<|j.1+j.2) 2) 1<|aM (dG<|dG (Int.fdiv (wrap .u64<|dG<|j.1+j.2) 2)+1)<|s_ ?_;exact oi hj▸⟨rfl,o.sp 4 [3]⟩;refine t_<|bA (dG<|Int.fdiv (wrap .u64<|dG<|j.1+j.2) 2)<|aM (dG<|Int.fdiv (wrap .u64<|dG<|j.1+j.2) 2)<|s_ ?_;exact oi hj▸⟨rfl,o.sp 4 [3]⟩;rintro _ w⟨O,rfl,o⟩;exact bO<|oi hb▸⟨rfl,o.sp 1 [0]⟩;exact GQ<|oi hb▸⟨rfl,o.sp 1 [0]⟩;rintro j _ w hb⟨O,rfl,o⟩;refine aI<|w_<|q_ hb λaf hj hb=>Gn (λ(af:Bool)=>SH E V [(6,vi j.1),(7,vb af)] []) af ?_ ?_;refine t_<|bA j.1<|bA j.1<|bA (p0.length:Int)<|ic j.1 ((p0.length:Int))<|kR (jn<|j.1<(p0.length:Int))<|kA hj (λaa hj=>?_) λaa hj=>?_;refine AI v2 (cg aa)<|AI v0 (cg aa)<|AI (vi j.1) (cg aa)<|q_ hj λal an hj=>AT 0 o ta an λav o=>AS 0 al o oR λaw o=>AI (str p1) (cg aa) ?_;have o:=o.sc aP p1;refine q_ hj λag ao hj=>GP 1 0 o h2 4 ao λw o=>GO ag 0 (cg aa)<|kH aa (vb<|ag==0)<|aM j.1<|bW (ag==0)<|s_ ?_;exact oi hj▸⟨rfl,o.sp 4 []⟩;refine cT aa<|cT aa<|cT aa<|cT aa<|cT aa<|cT aa<|cT aa<|cT aa<|kH aa (vb false)<|aM j.1<|bW false<|s_ ?_;exact oi hj▸⟨rfl,o.sp 1 []⟩;rintro _ w⟨O,rfl,o⟩;exact aI<|x_<|oi hb▸ph ⟨rfl,o.drop 0⟩
theorem lE{p0 p1:aP}(o:Holds E w V)(j:gL N p0 p1=some res):c_ 67 [str p0,str p1] w<|aF E V res:=by
 unfold gL at j;refine enter Tryz.func67 zr zr<|d3<|aM 0<|r_<|mv (str p0)<|mv (str p1)<|HY (vi<|Lib.compareBytes p0.bK p1.bK) zr [str p0,str p1] zr (Gb p0 p1 w)<|aM (Lib.compareBytes p0.bK p1.bK)<|o_ ?_;exact x_<|oi j▸bH ⟨rfl,o.drop 0⟩
theorem cZ{p0 p1:aP}(o:Holds E w V)(j:cQ N p0 p1=some res):c_ 47 [str p0,str p1] w<|aF E V res:=by
 unfold cQ at j;exact enter Tryz.func47 zr zr<|d3<|aM 0<|r_<|mv (str p0)<|mv (str p1)<|q_ j λaa ab j=>y_ (fU Tryz.func67) (lE N (p0:=p0) (p1:=p1) o ab) λw o=>aM aa<|o_<|x_<|oi j▸bH ⟨rfl,o.drop 0⟩
theorem nD{p0:aC}{p1:aP}(j:Holds E w V)(h0:eK V i0 v0 p0)(o:eB N p0 p1=some res):c_ 51 [v0,str p1] w<|aF E V res:=by
 unfold eB at o;refine enter Tryz.func51 zr zr ?_;have j:=j.dup (i0+0) h0;refine d3<|Gl 0 v0 j zr λad w j=>?_;exact aM 0<|r_<|v_ zr uB<|A_ 0 j zr jS fV<|mv (str p1)<|q_ o λaa ab o=>y_ uD (cZ N (p0:=p0.Name) (p1:=p1) j ab) λw j=>aM aa<|o_<|x_<|oi o▸bH ⟨rfl,j.drop 2⟩
theorem eD{p0:Z aC}{p1:aP}(hw:Holds E w V)(h0:eK V i0 v0 p0)(hb:dd N p0 p1=some res):c_ 32 [v0,str p1] w<|aF E V res:=by
 unfold dd at hb;refine enter Tryz.func32 zr zr ?_;have hw:=hw.dup (i0+0) h0;refine d3<|aM 0<|r_<|mv v0<|mv (str p1) ?_;refine q_ hb λo ad hb=>y_ (fU Tryz.func50) (gl N (p1:=p1) (i0:=0) hw rfl ⟨51,[],rfl,(fU Tryz.func51),λw Γl v v' y0 y1 r i j hw hi hj hr=>by obtain rfl:=hw.jA (γ:=aP) hj;exact bS (nD N (p1:=y1) (i0:=i) hw hi hr) λ_ _ h=>h⟩ ad) λw hw=>mv (.tuple #[vi o.1,vb o.2])<|D_ (vi o.1)<|D_ (vb o.2)<|aM o.1<|bW o.2<|u_<|d3<|kR o.2 ?_;refine GR o.2<|o_<|ej hb (λhb=>?_) λhb=>?_;exact d3<|aM (-1)<|o_<|F_<|oi hb▸bH ⟨rfl,hw.drop 1⟩;exact GC<|bA o.1<|aM o.1<|o_<|x_<|oi hb▸bH ⟨rfl,hw.drop 1⟩
theorem m3{p0:Z aC}{p1:Z Part}{p2:aP->aW Bool}(j:Holds E w V)(h0:eK V i0 v0 p0)(h1:eK V i1 v1 p1)(h2:zz aY E V v2 p2 (λ(r:Bool)=>Value.bool r))(o:eX N p0 p1 p2=some res):c_ 12 [v0,v1,v2] w<|aF E V res:=by
 unfold eX at o;refine enter Tryz.func12 zr zr ?_;have j:=(j.dup (i0+0) h0).dup (i1+1) h1;refine d3<|aM 0<|u_<|d3<|mv v1<|B_ 0 p1 j uA<|ic ((p1.length:Int)) 1000<|o_<|ej o (λo=>?_) λo=>?_;exact d3<|aM 2<|o_<|F_<|oi o▸bH ⟨rfl,j.drop 2⟩;refine Gx<|d3<|mv v1<|B_ 0 p1 j uA<|bA 0<|o_<|GY E V (λ(ah:Unit)=>[rd v0 p0,rd v1 p1]) (λ_=>[]) (λab _=>[(0,v0),(1,v1),(2,v2),(12,v1),(13,vi p1.length),(14,vi ab)]) (λr=>kc aY 46 Tryz.f12 (aF E V r) .ret) o ?_ ?_ ?_ ?_;exact j.sp 2 [1,0];rintro hm ab ah fl _ w hk⟨O,rfl,j⟩o;refine w_<|C_<|bA (ab:Int)<|q_ o λad an o=>AT 1 j oc an λaw j=>AS 0 ad j r4 λax j=>Gs j yF.z λay w j=>?_;refine aM (ab:Int)<|Gt 0 j 1 zr r4 λw j=>?_;refine o_<|C_<|mv v2<|v_ zr mx<|A_ 0 j zr iy fV ?_;have j:=j.sc aP ad.Name;refine q_ o λai ao o=>Hs 0 j h2 6 ao λw j=>GR ai<|bW (!ai)<|o_<|ej o (λo=>?_) λo=>?_;exact d3<|aM 5<|o_<|Gy<|d6<|bC<|oi o▸⟨rfl,bH ⟨rfl,j.drop 6⟩⟩;refine d3<|mv v0<|v_ zr lB<|A_ 1 j zr gK fV<|q_ o λaj aq o=>y_ yH (eD N (p1:=ad.bU) (i0:=4) j zr aq) λw j=>ic aj 0<|bW (jn<|aj<0)<|o_<|ej o (λo=>?_) λo=>?_;exact d3<|aM 9<|o_<|Gy<|d6<|bC<|oi o▸⟨rfl,bH ⟨rfl,j.drop 6⟩⟩;refine w_<|q_ o λag hj o=>Gn (λ(ag:Bool)=>SH E V [(0,v0),(1,v1),(2,v2),(12,v1),(13,vi p1.length),(14,vi ab),(31,vb ag)] [rd v0 p0,rd v1 p1]) ag ?_ ?_;refine Hg mixed ?_;have j:=j.drew;refine Hf<|bA (ab:Int)<|p_<|ic ((ab:Int)) 0<|p_<|kR (jn<|(ab:Int)>0)<|kA hj (λaa hj=>?_) λaa hj=>?_;refine p_<|v_ zr mx<|p_<|A_ 1 j zr iy fV<|p_<|AI v1 (cg aa)<|p_<|AI (vi ab) (cg aa)<|p_<|E_ (ab:Int) 1<|p_ ?_;refine q_ hj λaf ar hj=>AT 5 j oc ar λaz j=>p_<|Gu 0 j zr mx iy λa0 j=>p_<|Gr af.Name 0 j fV<|p_<|Hd ad.Name af.Name (cg aa)<|p_<|kH aa (vb<|ad.Name.p9 af.Name||ad.Name.jg af.Name)<|p_<|bW (ad.Name.p9 af.Name||ad.Name.jg af.Name)<|GX ?_;exact oi hj▸⟨rfl,j.sp 8 [6,7]⟩;refine p_<|cT aa<|p_<|cT aa<|p_<|cT aa<|p_<|cT aa<|p_<|cT aa<|p_<|cT aa<|p_<|cT aa<|p_<|cT aa<|p_<|cT aa ?_;exact p_<|kH aa (vb false)<|p_<|bW false<|GX<|oi hj▸⟨rfl,j.sp 6 [4,5]⟩;rintro _ w⟨O,rfl,j⟩;refine aI<|ej o (λo=>?_) λo=>?_;exact d3<|aM 8<|o_<|Gy<|d6<|bC<|oi o▸⟨rfl,bH ⟨rfl,j.drop 2⟩⟩;exact Gz<|bO<|bO<|aI<|t_<|Gq hk hm<|bA ((ab+1:Nat):Int)<|s_<|oi o▸⟨rfl,j.sp 2 [0,1]⟩;intro r U w o hK;exact bC<|oi o▸hK;rintro ah _ w o⟨O,rfl,j⟩;exact aI<|d3<|aM 0<|o_<|x_<|oi o▸bH ⟨rfl,j.drop 2⟩
theorem nF{p0 p1:aP}(o:Holds E w V)(j:fE N p0 p1=some res):c_ 90 [str p0,str p1] w<|aF E V res:=by
 unfold fE at j;refine enter Tryz.func90 zr zr<|d3<|aM 0<|r_<|mv (str p1)<|G4 p1 r6<|aM (p1.bK.length:Int)<|u_<|C_<|bA (p1.bK.length:Int)<|ic ((p1.bK.length:Int)) 0<|kR ((p1.bK.length:Int)==0)<|GF (str p1) zr zr xV<|GF (str p0) zr zr xV<|GF (vb<|p1.jg p0) zr zr (F8 .eql)<|GW (b:=(p1.bK.length:Int)==0) (v:=vb<|((p1.bK.length:Int)==0)||p1.jg p0) zt zr zr (rI true zr)<|bW (((p1.bK.length:Int)==0)||p1.jg p0)<|o_ ?_;refine ej j (λj=>?_) λj=>?_;exact d3<|aM 0<|o_<|Gy<|bC<|oi j▸bH ⟨rfl,o.drop 0⟩;refine d3<|bA (p1.bK.length:Int)<|ic ((p1.bK.length:Int)) 1<|bW ((p1.bK.length:Int)==1)<|o_<|ej j (λj=>?_) λj=>?_;exact d3<|mv (str p0)<|mv (str p1)<|q_ j λaa ab j=>HU p1 0 aa zr zr zr r6 ab<|q_ j λad ae j=>y_ Dk (iS N (p0:=p0) (p1:=(aa.toNat:Int)) o ae) λw o=>aM ad<|o_<|Gy<|bC<|oi j▸bH ⟨rfl,o.drop 0⟩;refine d3<|bA (p1.bK.length:Int)<|mv (str p0)<|G4 p0 r6<|ic ((p1.bK.length:Int)) ((p0.bK.length:Int))<|bW (jn<|(p1.bK.length:Int)>=(p0.bK.length:Int))<|o_<|ej j (λj=>?_) λj=>?_;exact d3<|aM (-1)<|o_<|Gy<|bC<|oi j▸bH ⟨rfl,o.drop 0⟩;cases j
theorem lY{p0 p1:aP}(o:Holds E w V)(j:gF N p0 p1=some res):c_ 71 [str p0,str p1] w<|aF E V res:=by
 unfold gF at j;exact enter Tryz.func71 zr zr<|d3<|aM 0<|r_<|mv (str p0)<|mv (str p1)<|q_ j λaa ab j=>y_ (fU Tryz.func90) (nF N (p0:=p0) (p1:=p1) o ab) λw o=>aM aa<|o_<|x_<|oi j▸bH ⟨rfl,o.drop 0⟩
theorem qt{p0 p1:aP}(hw:Holds E w V)(j:iM N p0 p1=some res):c_ 70 [str p0,str p1] w<|aF E V res:=by
 unfold iM at j;refine enter Tryz.func70 zr zr<|d3<|aM 0<|u_<|d3<|mv (str p1)<|G4 p1 r6<|ic ((p1.bK.length:Int)) 0<|o_<|ej j (λj=>?_) λj=>?_;cases j;refine Gx<|d3<|mv (str p1)<|G4 p1 r6<|ic ((p1.bK.length:Int)) 1<|o_<|ej j (λj=>?_) λj=>?_;exact d3<|mv (str p0)<|mv (str p1)<|q_ j λab ae j=>HU p1 0 ab zr zr zr r6 ae<|HY (vi ((Lib.countByte p0.bK (jQ (ab.toNat:Int)).toUInt8:Nat):Int)) zr [str p0,(.int .u8 (ab.toNat:Int))] zr (Gc p0 (ab.toNat:Int) w)<|aM ((Lib.countByte p0.bK (jQ (ab.toNat:Int)).toUInt8:Nat):Int)<|o_<|F_<|oi j▸bH ⟨rfl,hw.drop 0⟩;refine GC<|aM 0<|o_<|HO E V (λ(o:aP×Int)=>[]) (λ_=>[(4,vi 0)]) (λo=>[(0,str o.1),(1,str p1),(5,vi o.2)]) (λr=>kc aY 34 Tryz.f70 (aF E V r) .ret) j ?_ ?_ ?_ ?_;exact hw.sp 0 [];rintro o fl _ w⟨O,rfl,hw⟩j;refine C_<|mv (str o.1)<|mv (str p1)<|q_ j λad af j=>y_ Dm (lY N (p0:=o.1) (p1:=p1) hw af) λw hw=>aM ad<|u_<|d3<|bA ad<|ic ad ((-1))<|o_<|ej j (λj=>?_) λj=>?_;exact d3<|bA o.2<|aM o.2<|o_<|F_<|d6<|oi j▸⟨rfl,bH ⟨rfl,hw.drop 0⟩⟩;refine GC<|bA o.2<|E_ o.2 1<|aM (dG<|o.2+1)<|o_<|t_<|mv (str o.1)<|bA ad<|mv (str p1) ?_;refine G4 p1 r6<|E_ ad (p1.bK.length:Int)<|q_ j λag ah j=>HZ o.1 zr zr r6 (.inl zr) (.inr ⟨rfl,zr⟩) ah<|dB (str ag)<|s_<|bO ?_;exact oi j▸⟨rfl,hw.sp 0 []⟩;intro r U w j hK;exact oi j▸hK;rintro o _ w j⟨O,rfl,hw⟩;obtain rfl:=oi j;exact zF<|bH ⟨rfl,hw.drop 0⟩
theorem oe{p0 p1:aP}{res:Z aP}(o:Holds E w V)(j:ir N p0 p1 p2 p3=some res):c_ 58 [str p0,str p1,vi p2,vi p3] w<|fc E V res:=by
 unfold ir at j;refine enter Tryz.func58 zr zr<|d3<|dB n_<|u_<|d3<|bA p3<|ic p3 0<|o_<|ej j (λj=>?_) λj=>?_;refine d3<|dB n_<|o_<|F_ ?_;obtain rfl:=oi j;exact bH<|(o.ei aP 9).pk 1 [0];refine Gx<|d3<|mv (str p1)<|Hd p1 ⟨[]⟩ zt<|o_<|ej j (λj=>?_) λj=>?_;cases j;refine Gx<|d3<|bA p3<|ic p3 0<|o_<|q_ j λaa hj j=>Gn (λ(aa:Int)=>SH E V [(0,str p0),(1,str p1),(2,vi p2),(3,vi aa)] []) aa ?_ ?_;refine ej hj (λhj=>?_) λhj=>?_;refine t_<|mv (str p0)<|mv (str p1)<|q_ hj λag aj hj=>y_ (fU Tryz.func70) (qt N (p0:=p0) (p1:=p1) o aj) λw o=>E_ ag 1<|aM (dG<|ag+1)<|s_ ?_;exact oi hj▸⟨rfl,o.sp 0 []⟩;exact Gz<|oi hj▸⟨rfl,o.sp 0 []⟩;rintro _ w⟨O,rfl,o⟩;refine aI<|d3<|bA aa<|mv (str p0)<|G4 p0 r6<|E_ (p0.bK.length:Int) 1<|Ie aa (dG<|(p0.bK.length:Int)+1) zt zr zr zr<|aM (eo (dG ((p0.bK.length:Int)+1)) aa)<|r_ ?_;refine bA (eo (dG ((p0.bK.length:Int)+1)) aa)<|q_ j λaw ak j=>HC (eo (dG ((p0.bK.length:Int)+1)) aa) zr o zr zr BC FW ak λaf w o=>?_;refine dB af<|r_<|bA (eo (dG ((p0.bK.length:Int)+1)) aa)<|E_ (eo (dG ((p0.bK.length:Int)+1)) aa) 1<|aM (dG<|(eo (dG ((p0.bK.length:Int)+1)) aa) - 1)<|r_<|aM 0<|u_<|Hb E V (λ(ab:aP×Z aP×Int)=>[own 9 af ab.2.1]) (λab=>[(0,str ab.1),(9,af),(10,vi ab.2.2)]) (λ_=>[(1,str p1),(2,vi p2),(3,vi<|dG<|(eo (dG ((p0.bK.length:Int)+1)) aa) - 1)]) j ?_ ?_ ?_;exact o.sp 1 [0];rintro ab fl _ w⟨O,rfl,o⟩j;refine w_<|d3<|bA ab.2.2<|bA (dG<|(eo (dG ((p0.bK.length:Int)+1)) aa) - 1)<|ic ab.2.2 (dG<|(eo (dG ((p0.bK.length:Int)+1)) aa) - 1)<|o_<|ej j (λj=>?_) λj=>?_;refine GU<|C_<|mv (str ab.1)<|mv (str p1)<|q_ j λae al j=>y_ Dm (lY N (p0:=ab.1) (p1:=p1) o al) λw o=>aM ae<|u_<|d3<|bA ae<|ic ae 0<|o_<|ej j (λj=>?_) λj=>?_;refine GQ<|Cq (by decide) ?_;exact oi j▸⟨rfl,o.sp 1 [0]⟩;refine GC<|mv af<|bA ab.2.2<|mv (str ab.1)<|bA ae<|bA p2<|E_ ae p2<|q_ j λan ao j=>HZ ab.1 zr zr r6 (.inr ⟨rfl,zr⟩) (.inl zr) ao<|q_ j λay ah j=>GD 0 o zr zr m1 ah ?_;have o:=o.sc aP an;refine Hx 1 0 o ah fV λw o=>?_;refine r_<|mv (str ab.1)<|bA ae<|mv (str p1)<|G4 p1 r6<|E_ ae (p1.bK.length:Int)<|q_ j λaq ar j=>HZ ab.1 zr zr r6 (.inl zr) (.inr ⟨rfl,zr⟩) ar<|dB (str aq)<|o_<|t_<|bA ab.2.2<|E_ ab.2.2 1<|aM (dG<|ab.2.2+1)<|s_<|bO ?_;exact oi j▸⟨rfl,o.sp 2 [1]⟩;exact GQ<|oi j▸⟨rfl,o.sp 1 [0]⟩;rintro ab _ w j⟨O,rfl,o⟩;refine aI<|d3<|mv af<|bA ab.2.2<|mv (str ab.1)<|q_ j λaz ai j=>GD 0 o zr zr m1 ai ?_;have o:=o.sc aP ab.1;refine Hx 1 0 o ai fV λw o=>?_;refine r_<|mv af<|bA ab.2.2<|E_ ab.2.2 1<|q_ j λa0 au j=>HJ 1 zr o zr zr m1 (.inr ⟨rfl,zr⟩) au λav o=>dB av<|o_<|x_ ?_;obtain rfl:=oi j;exact bH<|o.pk 2 [1]
theorem qu{p0 p1:aP}{res:Z aP}(o:Holds E w V)(j:iN N p0 p1=some res):c_ 38 [str p0,str p1] w<|fc E V res:=by
 unfold iN at j;refine enter Tryz.func38 zr zr<|d3<|dB n_<|r_<|mv (str p0)<|mv (str p1)<|q_ j λad aa j=>GB (fU Tryz.func58) (oe N (p0:=p0) (p1:=p1) (p2:=0) (p3:=(-1)) o aa) λab w o=>dB ab<|o_<|x_ ?_;obtain rfl:=oi j;exact bH<|o.pk 1 [0]
theorem kW{p0:Z aP}{p1:aP->aW Bool}(j:Holds E w V)(h0:eK V i0 v0 p0)(h1:zz aY E V v1 p1 (λ(r:Bool)=>Value.bool r))(o:fQ N p0 p1=some res):c_ 57 [v0,v1] w<|aF E V res:=by
 unfold fQ at o;refine enter Tryz.func57 zr zr ?_;have j:=j.dup (i0+0) h0;refine d3<|aM 0<|u_<|d3<|mv v0<|B_ 0 p0 j tb<|bA 0<|o_<|GY E V (λ(ab:Unit)=>[rd v0 p0]) (λ_=>[]) (λaa _=>[(0,v0),(1,v1),(7,vi p0.length),(8,vi aa)]) (λr=>kc aY 19 Tryz.f57 (aF E V r) .ret) o ?_ ?_ ?_ ?_;exact j.sp 1 [0];rintro hm aa ab fl _ w hk⟨O,rfl,j⟩o;refine w_<|C_<|bA (aa:Int)<|aM (aa:Int)<|r_<|mv v1<|mv v0<|bA (aa:Int)<|q_ o λad ag o=>AT 0 j m1 ag λak j=>Gr ad 0 j fV ?_;have j:=j.sc aP ad;refine q_ o λal ah o=>Hs 0 j h1 3 ah λw j=>o_<|ej o (λo=>?_) λo=>?_;exact d3<|bA (aa:Int)<|aM (aa:Int)<|o_<|Gy<|bC<|oi o▸⟨rfl,bH ⟨rfl,j.drop 3⟩⟩;exact Gz<|bO<|aI<|t_<|Gq hk hm<|bA ((aa+1:Nat):Int)<|s_<|oi o▸⟨rfl,j.sp 3 [2]⟩;intro r U w o hK;exact bC<|oi o▸hK;rintro ab _ w o⟨O,rfl,j⟩;exact aI<|d3<|aM (-1)<|o_<|x_<|oi o▸bH ⟨rfl,j.drop 1⟩
theorem jZ{p0:Z aP}{p1:aP->aW Bool}{res:Bool}(j:Holds E w V)(h0:eK V i0 v0 p0)(h1:zz aY E V v1 p1 (λ(r:Bool)=>Value.bool r))(o:dL N p0 p1=some res):c_ 37 [v0,v1] w<|bE E V res:=by
 unfold dL at o;refine enter Tryz.func37 zr zr ?_;have j:=j.dup (i0+0) h0;refine d3<|bW false<|r_<|mv v0<|mv v1<|q_ o λaa ab o=>y_ (fU Tryz.func57) (kW N (i0:=0) j zr (h1.lift 1 zr) ab) λw j=>ic aa 0<|bW (jn<|aa>=0)<|o_<|x_ ?_;exact oi o▸bH ⟨rfl,j.drop 1⟩
theorem nG{p0:aP}{res:Bool}(o:Holds E w V)(j:dM N p0=some res):c_ 39 [str p0] w<|bE E V res:=by
 unfold dM at j;exact enter Tryz.func39 zr zr<|d3<|bW false<|r_<|mv (str p0)<|q_ j λaa ab j=>y_ CD (jt N (p0:=p0) o ab) λw o=>GR aa<|bW (!aa)<|o_<|x_<|oi j▸bH ⟨rfl,o.drop 0⟩
theorem ln{p0:aP}{res:Bool}(j:Holds E w V)(hb:eY N p0=some res):c_ 13 [str p0] w<|bE E V res:=by
 unfold eY at hb;refine enter Tryz.func13 zr zr<|d3<|bW false<|u_<|q_ hb λad hj hb=>Gn (λ(ad:Bool)=>SH E V [(2,vb ad)] []) ad ?_ ?_;refine t_<|mv (str p0)<|G4 p0 r6<|ic ((p0.bK.length:Int)) 200<|kR (jn<|(p0.bK.length:Int)<=200)<|kA hj (λo hj=>?_) λo hj=>?_;refine AI (str p0) (cg o)<|q_ hj λah af hj=>GB (hg:=cg o) (fU Tryz.func38) (qu N (p0:=p0) (p1:=⟨[47]⟩) j af) λai w j=>?_;have j:=j.freeze 0;refine q_ hj λae ag hj=>y_ (fU Tryz.func37) (jZ N (i0:=0) j rfl ⟨39,[],rfl,(fU Tryz.func39),λw Γl v y0 r i j hi hr=>by obtain rfl:=j.jA (γ:=aP) hi;exact bS (nG N (p0:=y0) j hr) λ_ _ h=>h⟩ ag) λw j=>GR (hg:=cg o) ae<|kH o (vb<|!ae)<|bW (!ae)<|s_ ?_;exact oi hj▸⟨rfl,j.sp 1 []⟩;exact cT o<|cT o<|cT o<|cT o<|kH o (vb false)<|bW false<|s_<|oi hj▸⟨rfl,j.sp 0 []⟩;rintro _ w⟨O,rfl,j⟩;exact aI<|x_<|oi hb▸bH ⟨rfl,j.drop 0⟩
theorem ib{p0:Z Part}{p1:aP}{p2:Part->aP->aW Int}{res:Int×Bool}(o:Holds E w V)(h0:eK V i0 v0 p0)(h2:yv aY E V v2 p2 (λ(r:Int)=>Value.int .i64 r))(hb:cU N p0 p1 p2=some res):c_ 45 [v0,str p1,v2] w<|bI E V res:=by
 unfold cU at hb;refine enter Tryz.func45 zr zr ?_;have o:=o.dup (i0+0) h0;refine d3<|aM 0<|bW false<|r_<|mv v0<|B_ 0 p0 o uA<|aM (p0.length:Int)<|r_<|bA (p0.length:Int)<|aM 0<|aM (p0.length:Int)<|u_<|Hb E V (λ(j:Int×Int)=>[rd v0 p0]) (λj=>[(0,v0),(1,str p1),(2,v2),(8,vi p0.length),(9,vi j.1)]) (λj=>[(10,vi j.2)]) hb ?_ ?_ ?_;exact o.sp 1 [0];rintro j fl _ w⟨O,rfl,o⟩hb;refine w_<|d3<|bA j.1<|bA j.2<|ic j.1 j.2<|o_<|ej hb (λhb=>?_) λhb=>?_;refine GU<|C_<|bA j.1<|bA j.2<|E_ j.1 j.2<|GZ (dG<|j.1+j.2) ⟨_,sV⟩ mV<|Hc (.int .u64<|wrap .u64<|dG<|j.1+j.2) (.int .u64 1) (.int .u64<|Int.fdiv (wrap .u64<|dG<|j.1+j.2) 2) zr zr zr<|GZ (Int.fdiv (wrap .u64<|dG<|j.1+j.2) 2) ⟨_,mV⟩ sV<|aM (dG<|Int.fdiv (wrap .u64<|dG<|j.1+j.2) 2) ?_;refine r_<|mv v2<|mv v0<|bA (dG<|Int.fdiv (wrap .u64<|dG<|j.1+j.2) 2)<|q_ hb λah ai hb=>AT 0 o oc ai λar o=>AS 0 ah o r4 λau o=>mv (str p1) ?_;have o:=o.sc aP p1;refine q_ hb λaj ak hb=>GP 1 0 o h2 4 ak λw o=>ic aj 0<|o_<|q_ hb λae hj hb=>Gn (λ(ae:Int×Int)=>SH E V [(0,v0),(1,str p1),(2,v2),(8,vi p0.length),(9,vi ae.1),(10,vi ae.2)] [rd v0 p0]) ae ?_ ?_;refine ej hj (λhj=>?_) λhj=>?_;refine t_<|bA (dG<|Int.fdiv (wrap .u64<|dG<|j.1+j.2) 2)<|E_ (dG<|Int.fdiv (wrap .u64<|dG<|j.1+j.2) 2) 1<|aM (dG<|dG (Int.fdiv (wrap .u64<|dG<|j.1+j.2) 2)+1)<|s_ ?_;exact oi hj▸⟨rfl,o.sp 4 [3]⟩;refine t_<|bA (dG<|Int.fdiv (wrap .u64<|dG<|j.1+j.2) 2)<|aM (dG<|Int.fdiv (wrap .u64<|dG<|j.1+j.2) 2)<|s_ ?_;exact oi hj▸⟨rfl,o.sp 4 [3]⟩;rintro _ w⟨O,rfl,o⟩;exact bO<|oi hb▸⟨rfl,o.sp 1 [0]⟩;exact GQ<|oi hb▸⟨rfl,o.sp 1 [0]⟩;rintro j _ w hb⟨O,rfl,o⟩;refine aI<|w_<|q_ hb λaf hj hb=>Gn (λ(af:Bool)=>SH E V [(6,vi j.1),(7,vb af)] []) af ?_ ?_;refine t_<|bA j.1<|bA j.1<|bA (p0.length:Int)<|ic j.1 ((p0.length:Int))<|kR (jn<|j.1<(p0.length:Int))<|kA hj (λaa hj=>?_) λaa hj=>?_;refine AI v2 (cg aa)<|AI v0 (cg aa)<|AI (vi j.1) (cg aa)<|q_ hj λal an hj=>AT 0 o oc an λav o=>AS 0 al o r4 λaw o=>AI (str p1) (cg aa) ?_;have o:=o.sc aP p1;refine q_ hj λag ao hj=>GP 1 0 o h2 4 ao λw o=>GO ag 0 (cg aa)<|kH aa (vb<|ag==0)<|aM j.1<|bW (ag==0)<|s_ ?_;exact oi hj▸⟨rfl,o.sp 4 []⟩;refine cT aa<|cT aa<|cT aa<|cT aa<|cT aa<|cT aa<|cT aa<|cT aa<|kH aa (vb false)<|aM j.1<|bW false<|s_ ?_;exact oi hj▸⟨rfl,o.sp 1 []⟩;rintro _ w⟨O,rfl,o⟩;exact aI<|x_<|oi hb▸ph ⟨rfl,o.drop 0⟩
theorem nH{p0:Part}{p1:aP}(j:Holds E w V)(h0:eK V i0 v0 p0)(o:eC N p0 p1=some res):c_ 46 [v0,str p1] w<|aF E V res:=by
 unfold eC at o;refine enter Tryz.func46 zr zr ?_;have j:=j.dup (i0+0) h0;refine d3<|Gl 0 v0 j zr λad w j=>?_;exact aM 0<|r_<|v_ zr mx<|A_ 0 j zr iy fV<|mv (str p1)<|q_ o λaa ab o=>y_ uD (cZ N (p0:=p0.Name) (p1:=p1) j ab) λw j=>aM aa<|o_<|x_<|oi o▸bH ⟨rfl,j.drop 2⟩
theorem gX{p0:Z Part}{p1:aP}(hw:Holds E w V)(h0:eK V i0 v0 p0)(hb:dQ N p0 p1=some res):c_ 24 [v0,str p1] w<|aF E V res:=by
 unfold dQ at hb;refine enter Tryz.func24 zr zr ?_;have hw:=hw.dup (i0+0) h0;refine d3<|aM 0<|r_<|mv v0<|mv (str p1) ?_;refine q_ hb λo ad hb=>y_ (fU Tryz.func45) (ib N (p1:=p1) (i0:=0) hw rfl ⟨46,[],rfl,(fU Tryz.func46),λw Γl v v' y0 y1 r i j hw hi hj hr=>by obtain rfl:=hw.jA (γ:=aP) hj;exact bS (nH N (p1:=y1) (i0:=i) hw hi hr) λ_ _ h=>h⟩ ad) λw hw=>mv (.tuple #[vi o.1,vb o.2])<|D_ (vi o.1)<|D_ (vb o.2)<|aM o.1<|bW o.2<|u_<|d3<|kR o.2 ?_;refine GR o.2<|o_<|ej hb (λhb=>?_) λhb=>?_;exact d3<|aM (-1)<|o_<|F_<|oi hb▸bH ⟨rfl,hw.drop 1⟩;exact GC<|bA o.1<|aM o.1<|o_<|x_<|oi hb▸bH ⟨rfl,hw.drop 1⟩
theorem gD{p0:Z aU}{p1:aP}{p2:aU->aP->aW Int}{res:Int×Bool}(o:Holds E w V)(h0:eK V i0 v0 p0)(h2:yv aY E V v2 p2 (λ(r:Int)=>Value.int .i64 r))(hb:cF N p0 p1 p2=some res):c_ 59 [v0,str p1,v2] w<|bI E V res:=by
 unfold cF at hb;refine enter Tryz.func59 zr zr ?_;have o:=o.dup (i0+0) h0;refine d3<|aM 0<|bW false<|r_<|mv v0<|B_ 0 p0 o vS<|aM (p0.length:Int)<|r_<|bA (p0.length:Int)<|aM 0<|aM (p0.length:Int)<|u_<|Hb E V (λ(j:Int×Int)=>[rd v0 p0]) (λj=>[(0,v0),(1,str p1),(2,v2),(8,vi p0.length),(9,vi j.1)]) (λj=>[(10,vi j.2)]) hb ?_ ?_ ?_;exact o.sp 1 [0];rintro j fl _ w⟨O,rfl,o⟩hb;refine w_<|d3<|bA j.1<|bA j.2<|ic j.1 j.2<|o_<|ej hb (λhb=>?_) λhb=>?_;refine GU<|C_<|bA j.1<|bA j.2<|E_ j.1 j.2<|GZ (dG<|j.1+j.2) ⟨_,sV⟩ mV<|Hc (.int .u64<|wrap .u64<|dG<|j.1+j.2) (.int .u64 1) (.int .u64<|Int.fdiv (wrap .u64<|dG<|j.1+j.2) 2) zr zr zr<|GZ (Int.fdiv (wrap .u64<|dG<|j.1+j.2) 2) ⟨_,mV⟩ sV<|aM (dG<|Int.fdiv (wrap .u64<|dG<|j.1+j.2) 2) ?_;refine r_<|mv v2<|mv v0<|bA (dG<|Int.fdiv (wrap .u64<|dG<|j.1+j.2) 2)<|q_ hb λah ai hb=>AT 0 o r7 ai λar o=>AS 0 ah o r8 λau o=>mv (str p1) ?_;have o:=o.sc aP p1;refine q_ hb λaj ak hb=>GP 1 0 o h2 4 ak λw o=>ic aj 0<|o_<|q_ hb λae hj hb=>Gn (λ(ae:Int×Int)=>SH E V [(0,v0),(1,str p1),(2,v2),(8,vi p0.length),(9,vi ae.1),(10,vi ae.2)] [rd v0 p0]) ae ?_ ?_;refine ej hj (λhj=>?_) λhj=>?_;refine t_<|bA (dG<|Int.fdiv (wrap .u64<|dG<|j.1+j.2) 2)<|E_ (dG<|Int.fdiv (wrap .u64<|dG<|j.1+j.2) 2) 1<|aM (dG<|dG (Int.fdiv (wrap .u64<|dG<|j.1+j.2) 2)+1)<|s_ ?_;exact oi hj▸⟨rfl,o.sp 4 [3]⟩;refine t_<|bA (dG<|Int.fdiv (wrap .u64<|dG<|j.1+j.2) 2)<|aM (dG<|Int.fdiv (wrap .u64<|dG<|j.1+j.2) 2)<|s_ ?_;exact oi hj▸⟨rfl,o.sp 4 [3]⟩;rintro _ w⟨O,rfl,o⟩;exact bO<|oi hb▸⟨rfl,o.sp 1 [0]⟩;exact GQ<|oi hb▸⟨rfl,o.sp 1 [0]⟩;rintro j _ w hb⟨O,rfl,o⟩;refine aI<|w_<|q_ hb λaf hj hb=>Gn (λ(af:Bool)=>SH E V [(6,vi j.1),(7,vb af)] []) af ?_ ?_;refine t_<|bA j.1<|bA j.1<|bA (p0.length:Int)<|ic j.1 ((p0.length:Int))<|kR (jn<|j.1<(p0.length:Int))<|kA hj (λaa hj=>?_) λaa hj=>?_;refine AI v2 (cg aa)<|AI v0 (cg aa)<|AI (vi j.1) (cg aa)<|q_ hj λal an hj=>AT 0 o r7 an λav o=>AS 0 al o r8 λaw o=>AI (str p1) (cg aa) ?_;have o:=o.sc aP p1;refine q_ hj λag ao hj=>GP 1 0 o h2 4 ao λw o=>GO ag 0 (cg aa)<|kH aa (vb<|ag==0)<|aM j.1<|bW (ag==0)<|s_ ?_;exact oi hj▸⟨rfl,o.sp 4 []⟩;refine cT aa<|cT aa<|cT aa<|cT aa<|cT aa<|cT aa<|cT aa<|cT aa<|kH aa (vb false)<|aM j.1<|bW false<|s_ ?_;exact oi hj▸⟨rfl,o.sp 1 []⟩;rintro _ w⟨O,rfl,o⟩;exact aI<|x_<|oi hb▸ph ⟨rfl,o.drop 0⟩
theorem og{p0:aU}{p1:aP}(j:Holds E w V)(h0:eK V i0 v0 p0)(o:eO N p0 p1=some res):c_ 60 [v0,str p1] w<|aF E V res:=by
 unfold eO at o;refine enter Tryz.func60 zr zr ?_;have j:=j.dup (i0+0) h0;refine d3<|Gl 0 v0 j zr λad w j=>?_;exact aM 0<|r_<|v_ zr oS<|A_ 0 j zr gh fV<|mv (str p1)<|q_ o λaa ab o=>y_ uD (cZ N (p0:=p0.Name) (p1:=p1) j ab) λw j=>aM aa<|o_<|x_<|oi o▸bH ⟨rfl,j.drop 2⟩
theorem lZ{p0:aC}{p1:aP}(o:Holds E w V)(h0:eK V i0 v0 p0)(hb:gG N p0 p1=some res):c_ 41 [v0,str p1] w<|aF E V res:=by
 unfold gG at hb;refine enter Tryz.func41 zr zr ?_;have o:=o.dup (i0+0) h0;refine d3<|Gl 0 v0 o zr λaf w o=>?_;refine aM 0<|r_<|v_ zr qm<|GA 0 o zr gJ yG λag o=>mv (str p1) ?_;refine q_ hb λaa ad hb=>y_ (fU Tryz.func59) (gD N (p1:=p1) (i0:=0) o rfl ⟨60,[],rfl,(fU Tryz.func60),λw Γl v v' y0 y1 r i j o hi hj hr=>by obtain rfl:=o.jA (γ:=aP) hj;exact bS (og N (p1:=y1) (i0:=i) o hi hr) λ_ _ h=>h⟩ ad) λw o=>mv (.tuple #[vi aa.1,vb aa.2])<|D_ (vi aa.1)<|D_ (vb aa.2)<|aM aa.1<|bW aa.2<|u_<|d3<|kR aa.2 ?_;refine GR aa.2<|o_<|ej hb (λhb=>?_) λhb=>?_;exact d3<|aM (-1)<|o_<|F_<|oi hb▸bH ⟨rfl,o.drop 3⟩;exact GC<|bA aa.1<|aM aa.1<|o_<|x_<|oi hb▸bH ⟨rfl,o.drop 3⟩
theorem pR{p0:Z aC}{p1:Z Part}{p2:bN}{res:Bool}(j:Holds E w V)(h0:eK V i0 v0 p0)(h1:eK V i1 v1 p1)(h2:eK V i2 v2 p2)(hb:jm N p0 p1 p2=some res):c_ 16 [v0,v1,v2] w<|bE E V res:=by
 unfold jm at hb;refine enter Tryz.func16 zr zr ?_;have j:=((j.dup (i0+0) h0).dup (i1+1) h1).dup (i2+2) h2;refine d3<|Gl 0 v2 j zr λag w j=>?_;refine bW false<|r_<|mv v1<|v_ zr nv<|A_ 0 j zr jX fV<|q_ hb λad ai hb=>y_ BD (gX N (p1:=p2.Part) (i0:=2) j zr ai) λw j=>aM ad<|u_<|q_ hb λae hj hb=>Gn (λ(ae:Bool)=>SH E V [(6,vb ae)] []) ae ?_ ?_;have j:=j.drew;refine Hh (λw=>Holds E w<|[bx 48 ag p2]++V) mixed zr [0,0,0,1,0,0,0,0,0,0,2,0,0,1,1,2,0,0,0] [0,1,2,3,4,5,6,7,8,9,13,14,10,11,12,15,16,17,18] (j.pk 4 [0])<|Gj zr zr<|bA ad<|dI zr<|ic ad 0<|dI zr<|kR (jn<|ad>=0)<|Gv<|kA hj (λo hj=>?_) λo hj=>?_;refine Gm v0 zr (λw=>AI v0 (cg o) Gi)<|Gj zr zr<|AI v0 (cg o)<|dI zr<|AI v1 (cg o)<|dI zr<|AI (vi ad) (cg o)<|dI zr<|q_ hj λah aj hj=>AT 2 j oc aj λaq j=>dI zr<|Gu 0 j zr lB gK λar j=>dI zr<|Gr ah.bU 0 j fV<|Gv<|Gm (vp ag 1) zr (λw=>v_ zr ql Gi)<|Ha (str p2.bN) zr (λw j=>A_ 0 j zr lR fV Gi)<|GK zr zr ?_;refine q_ hj λau ak hj=>y_ yH (eD N (p1:=ah.bU) (i0:=5) j zr ak) λw j=>Gw (j.pk 6 [2])<|Gj zr zr<|q_ hj λal an hj=>AT 5 j ta an λav j=>dI zr<|AS 0 al j oR λaw j=>wP zr<|q_ hj λaf ao hj=>y_ Dp (lZ N (p1:=p2.bN) (i0:=0) j zr ao) λw j=>Gw (j.pk 8 [4])<|Gj zr zr<|GO af 0 (cg o)<|dI zr<|kH o (vb<|af>=0)<|dI zr<|bW (jn<|af>=0)<|Gv ?_;exact GJ<|oi hj▸⟨rfl,j.sp 8 []⟩;refine Gm undef zr (λw=>cT o Gi)<|Gj zr zr<|cT o<|dI zr<|cT o<|dI zr<|cT o<|dI zr<|cT o<|dI zr<|cT o<|dI zr<|cT o<|Gv<|Gm undef zr (λw=>cT o Gi)<|Gm undef zr (λw=>cT o Gi)<|GK zr zr<|cT o ?_;refine Gw (j.pk 4 [0])<|Gj zr zr<|cT o<|dI zr<|cT o<|wP zr<|cT o<|Gw (j.pk 4 [0])<|Gj zr zr<|cT o<|dI zr<|kH o (vb false)<|dI zr<|bW false<|Gv<|GJ ?_;exact oi hj▸⟨rfl,j.sp 4 []⟩;rintro _ w⟨O,rfl,j⟩;exact aI<|x_<|oi hb▸bH ⟨rfl,j.drop 0⟩
theorem l5{p0:bN}{p1:Z aC}{p2:aG}{res:Bool}(j:Holds E w V)(h0:eK V i0 v0 p0)(h1:fu V i1 v1 p1)(h2:fu V i2 v2 p2)(o:fF N p0 p1 p2=some res):c_ 15 [v0,v1,v2] w<|bE E V res:=by
 unfold fF at o;refine enter Tryz.func15 zr zr ?_;have j:=((j.dup (i0+0) h0).ke (i:=i1+1) h1).ke (i:=i2+2) h2;refine d3<|Gl 2 v0 j zr λad w j=>?_;refine bW false<|r_<|AS 2 p1 j vR λae j=>Gu 2 j zr gj cG λaf j=>AS 0 p2.aJ j mw λag j=>Gp 3 j zr kC λah j=>?_;exact q_ o λaa ab o=>y_ (fU Tryz.func16) (pR N (i0:=3) (i1:=1) (i2:=0) j zr zr zr ab) λw j=>bW aa<|o_<|x_<|oi o▸bH ⟨rfl,j.drop 8⟩
end Go.Gk
