/-
  Printed texts: Go functions as plain functions, and that they are. No statement of the seed is proved here.
-/
import Derived.Test.YtfdnmjbbeolcdabGreatDoorProg
import Derived.Test.YtfdnmjbbeolcdabGreatDoorE1
import Derived.Test.YtfdnmjbbeolcdabGreatDoorA1
import Derived.Test.YtfdnmjbbeolcdabGreatDoorA2
import Derived.Test.YtfdnmjbbeolcdabGreatDoorRows
import Derived.Shelf.SlGeneric
import Derived.Ground.SlsfProg
import Derived.Ground.SlgmProg
set_option linter.unusedVariables false
set_option linter.unusedSimpArgs false
set_option linter.unusedSectionVars false
set_option maxRecDepth 100000
set_option maxHeartbeats 40000000
namespace Go.Gk
open Go IntKind Go.Proofs
noncomputable abbrev bH:=Tryz.prog
abbrev c_(f:Nat)(l:List Value)(w:World)(R:Value->World->Prop):Prop:=Calls bH f l.toArray w (fi R)
def kF(x:bA):=(x.Name,x.Kind,x.bC)
instance instGTPinType:GT bA:=GT.via kF
instance instKVPinType:KV bA:=instKVvia (λ(x:bA)=>(x.Name,x.Kind,x.bC))
theorem eX:Fd 0 (λx:bA=>x.Name):= .v kF<|.fst .self
theorem xe:Fs 0 aU (λ(x:bA)y=>{x with Name:=y}):= .v kF<|.fst .self
theorem iZ:Fd 1 (λx:bA=>x.Kind):= .v kF<|.snd<|.fst .self
theorem xf:Fs 1 Int (λ(x:bA)y=>{x with Kind:=y}):= .v kF<|.snd<|.fst .self
theorem ez:Fd 2 (λx:bA=>x.bC):= .v kF<|.snd<|.snd<|.self
def kW(x:aD):=(x.Name,x.aQ)
instance instGTPartType:GT aD:=GT.via kW
theorem gC:Fd 0 (λx:aD=>x.Name):= .v kW<|.fst .self
theorem vD:Fs 0 aU (λ(x:aD)y=>{x with Name:=y}):= .v kW<|.fst .self
theorem cR:Fd 1 (λx:aD=>x.aQ):= .v kW<|.snd<|.self
theorem vE:Fs 1 (List bA) (λ(x:aD)y=>{x with aQ:=y}):= .v kW<|.snd<|.self
def pY(x:Part):=(x.Name,x.cM)
instance instGTPart:GT Part:=GT.via pY
instance instKVPart:KV Part:=instKVvia (λ(x:Part)=>(x.Name,x.cM))
theorem fN:Fd 0 (λx:Part=>x.Name):= .v pY<|.fst .self
theorem AO:Fs 0 aU (λ(x:Part)y=>{x with Name:=y}):= .v pY<|.fst .self
theorem iM:Fd 1 (λx:Part=>x.cM):= .v pY<|.snd<|.self
theorem AP:Fs 1 aU (λ(x:Part)y=>{x with cM:=y}):= .v pY<|.snd<|.self
def qz(x:cC):=(x.Part,x.cC)
instance instGTPin:GT cC:=GT.via qz
instance instKVPin:KV cC:=instKVvia (λ(x:cC)=>(x.Part,x.cC))
theorem kX:Fd 0 (λx:cC=>x.Part):= .v qz<|.fst .self
theorem sA:Fs 0 aU (λ(x:cC)y=>{x with Part:=y}):= .v qz<|.fst .self
theorem mI:Fd 1 (λx:cC=>x.cC):= .v qz<|.snd<|.self
theorem sB:Fs 1 aU (λ(x:cC)y=>{x with cC:=y}):= .v qz<|.snd<|.self
def ur(x:Net):=(x.Name,x.aQ,x.mh)
instance instGTNet:GT Net:=GT.via ur
theorem j9:Fd 0 (λx:Net=>x.Name):= .v ur<|.fst .self
theorem ka:Fd 1 (λx:Net=>x.aQ):= .v ur<|.snd<|.fst .self
theorem yo:Fd 2 (λx:Net=>x.mh):= .v ur<|.snd<|.snd<|.self
def nr(x:aH):=(x.aJ,x.aZ)
instance instGTNetlist:GT aH:=GT.via nr
theorem cF:Fd 0 (λx:aH=>x.aJ):= .v nr<|.fst .self
theorem xg:Fs 0 (List Part) (λ(x:aH)y=>{x with aJ:=y}):= .v nr<|.fst .self
theorem cQ:Fd 1 (λx:aH=>x.aZ):= .v nr<|.snd<|.self
def gh(x:aT):=(x.part,x.j6,x.mark)
instance instGTnetlist_tie:GT aT:=GT.via gh
instance instKVnetlist_tie:KV aT:=instKVvia (λ(x:aT)=>(x.part,x.j6,x.mark))
theorem lD:Fd 0 (λx:aT=>x.part):= .v gh<|.fst .self
theorem ta:Fs 0 Int (λ(x:aT)y=>{x with part:=y}):= .v gh<|.fst .self
theorem jV:Fd 1 (λx:aT=>x.j6):= .v gh<|.snd<|.fst .self
theorem tb:Fs 1 Int (λ(x:aT)y=>{x with j6:=y}):= .v gh<|.snd<|.fst .self
theorem nZ:Fd 2 (λx:aT=>x.mark):= .v gh<|.snd<|.snd<|.self
theorem tc:Fs 2 Int (λ(x:aT)y=>{x with mark:=y}):= .v gh<|.snd<|.snd<|.self
def kY(x:aB):=(x.e0,x.e1)
instance instGTArr2_Int:GT aB:=GT.via kY
instance instKVArr2_Int:KV aB:=instKVvia (λ(x:aB)=>(x.e0,x.e1))
theorem fm:Fd 0 (λx:aB=>x.e0):= .v kY<|.fst .self
theorem kb:Fs 0 Int (λ(x:aB)y=>{x with e0:=y}):= .v kY<|.fst .self
theorem gD:Fd 1 (λx:aB=>x.e1):= .v kY<|.snd<|.self
theorem kc:Fs 1 Int (λ(x:aB)y=>{x with e1:=y}):= .v kY<|.snd<|.self
def eO(x:aO):=(x.t,x.l,x.parts,x.pA)
instance instGTetchhouseref2_colours:GT aO:=GT.via eO
theorem eH:Fd 0 (λx:aO=>x.t):= .v eO<|.fst .self
theorem gQ:Fd 1 (λx:aO=>x.l):= .v eO<|.snd<|.fst .self
theorem bY:Fd 2 (λx:aO=>x.parts):= .v eO<|.snd<|.snd<|.fst .self
theorem bZ:Fd 3 (λx:aO=>x.pA):= .v eO<|.snd<|.snd<|.snd<|.self
def nu(x:aX):=(x.A,x.B)
instance instGTPairing:GT aX:=GT.via nu
instance instKVPairing:KV aX:=instKVvia (λ(x:aX)=>(x.A,x.B))
theorem mo:Fs 0 aU (λ(x:aX)y=>{x with A:=y}):= .v nu<|.fst .self
theorem mq:Fs 1 aU (λ(x:aX)y=>{x with B:=y}):= .v nu<|.snd<|.self
theorem AQ(M:cN):GT.ok M (#[n_,n_]:Array Value).toList (⟨[],[]⟩:aH):=⟨[n_],[n_],rfl,(show GT.ok M [n_] ([]:List Part)from⟨_,rfl,none,0,0,rfl,rfl,bR _,by simp[maxLen],λ_ _ h=>by simp at h⟩),(show GT.ok M [n_] ([]:List Net)from⟨_,rfl,none,0,0,rfl,rfl,bR _,by simp[maxLen],λ_ _ h=>by simp at h⟩)⟩
theorem qA(M:cN):GT.ok M (#[(.string ⟨#[]⟩),(.string ⟨#[]⟩)]:Array Value).toList (⟨⟨[]⟩,⟨[]⟩⟩:aX):=⟨[(.string ⟨#[]⟩)],[(.string ⟨#[]⟩)],rfl,(show GT.ok M [(.string ⟨#[]⟩)] (⟨[]⟩:aU)from rfl),(show GT.ok M [(.string ⟨#[]⟩)] (⟨[]⟩:aU)from rfl)⟩
theorem lE(M:cN):GT.ok M (#[(.int .i64 0),(.int .i64 0)]:Array Value).toList (⟨0,0⟩:aB):=⟨[(.int .i64 0)],[(.int .i64 0)],rfl,(show GT.ok M [(.int .i64 0)] (0:Int)from rfl),(show GT.ok M [(.int .i64 0)] (0:Int)from rfl)⟩
theorem Ej(M:cN):GT.ok M (#[(.string ⟨#[]⟩),(.string ⟨#[]⟩)]:Array Value).toList (⟨⟨[]⟩,⟨[]⟩⟩:Part):=⟨[(.string ⟨#[]⟩)],[(.string ⟨#[]⟩)],rfl,(show GT.ok M [(.string ⟨#[]⟩)] (⟨[]⟩:aU)from rfl),(show GT.ok M [(.string ⟨#[]⟩)] (⟨[]⟩:aU)from rfl)⟩
theorem AR(M:cN):GT.ok M (#[(.string ⟨#[]⟩),(.int .i64 0),(.int .i64 0)]:Array Value).toList (⟨⟨[]⟩,0,0⟩:bA):=⟨[(.string ⟨#[]⟩)],[(.int .i64 0),(.int .i64 0)],rfl,(show GT.ok M [(.string ⟨#[]⟩)] (⟨[]⟩:aU)from rfl),⟨[(.int .i64 0)],[(.int .i64 0)],rfl,(show GT.ok M [(.int .i64 0)] (0:Int)from rfl),(show GT.ok M [(.int .i64 0)] (0:Int)from rfl)⟩⟩
theorem zm(M:cN):GT.ok M (#[(.string ⟨#[]⟩),n_]:Array Value).toList (⟨⟨[]⟩,[]⟩:aD):=⟨[(.string ⟨#[]⟩)],[n_],rfl,(show GT.ok M [(.string ⟨#[]⟩)] (⟨[]⟩:aU)from rfl),(show GT.ok M [n_] ([]:List bA)from⟨_,rfl,none,0,0,rfl,rfl,bR _,by simp[maxLen],λ_ _ h=>by simp at h⟩)⟩
theorem Aa(M:cN):GT.ok M (#[(.string ⟨#[]⟩),(.string ⟨#[]⟩)]:Array Value).toList (⟨⟨[]⟩,⟨[]⟩⟩:cC):=⟨[(.string ⟨#[]⟩)],[(.string ⟨#[]⟩)],rfl,(show GT.ok M [(.string ⟨#[]⟩)] (⟨[]⟩:aU)from rfl),(show GT.ok M [(.string ⟨#[]⟩)] (⟨[]⟩:aU)from rfl)⟩
theorem vF(M:cN):GT.ok M (#[(.int .i64 0),(.int .i64 0),(.int .i64 0)]:Array Value).toList (⟨0,0,0⟩:aT):=⟨[(.int .i64 0)],[(.int .i64 0),(.int .i64 0)],rfl,(show GT.ok M [(.int .i64 0)] (0:Int)from rfl),⟨[(.int .i64 0)],[(.int .i64 0)],rfl,(show GT.ok M [(.int .i64 0)] (0:Int)from rfl),(show GT.ok M [(.int .i64 0)] (0:Int)from rfl)⟩⟩
theorem gX:lz bH 26 true 2:=t6
theorem zn:lz bH 22 false 1:=t6
theorem AU:Tryz.prog.underlying 22=some (.slice 63):=by kernel_rfl
theorem sC:pK bH 22 63 2:=z7
theorem m9:lz bH 63 true 2:=t6
theorem zo:y8 bH 63 2:=z8<|.agg #[(.string ⟨#[]⟩),n_]
theorem pZ:rU bH 63 0 0:=t5
theorem gj:lz bH 9 false 1:=t6
theorem td:Tryz.prog.underlying 9=some (.string):=by kernel_rfl
theorem Gl(a:aU)(b:Int)(w:World):(callFunc 192 [str a,(.int .u8 b)].toArray).run bH w = .ok (.value<|vi<|Lib.indexByte a.bX (Int.toNat b).toUInt8) w:=pP Extern.BytealgIndexByte.indexByte Tryz.func192<|Lib.run_indexByteString _ _ w
theorem DQ:fk bH 166:=fM Tryz.func166
theorem DR:fk bH 123:=fM Tryz.func123
theorem Cb:fk bH 108:=fM Tryz.func108
theorem jE:rU bH 63 1 1:=t5
theorem p4:lz bH 61 false 1:=t6
theorem rr:Tryz.prog.underlying 61=some (.slice 60):=by kernel_rfl
theorem nG:pK bH 61 60 3:=z7
theorem nH:lz bH 60 true 3:=t6
theorem vG:y8 bH 60 3:=z8<|.agg #[(.string ⟨#[]⟩),(.int .i64 0),(.int .i64 0)]
theorem l7:rU bH 60 0 0:=t5
theorem ru:rU bH 60 1 1:=t5
theorem iy:lz bH 3 false 1:=t6
theorem kZ:rU bH 60 2 2:=t5
theorem mixed:Tryz.prog.follows .mixedOrders=true:=by kernel_rfl
theorem E3:fk bH 71:=fM Tryz.func71
theorem gY:rU bH 26 0 0:=t5
theorem nb:lz bH 23 false 1:=t6
theorem ry:Tryz.prog.underlying 23=some (.slice 53):=by kernel_rfl
theorem n2:pK bH 23 53 2:=z7
theorem nI:lz bH 53 true 2:=t6
theorem vH:y8 bH 53 2:=z8<|.agg #[(.string ⟨#[]⟩),(.string ⟨#[]⟩)]
theorem kp:rU bH 53 0 0:=t5
theorem mJ:rU bH 53 1 1:=t5
theorem Ab:Tryz.prog.underlying 3=some (.int .i64):=by kernel_rfl
theorem q7:Tryz.prog.underlying 115=some (.int .u64):=by kernel_rfl
theorem AJ(a b:aU)(w:World):(callFunc 117 [str a,str b].toArray).run bH w = .ok (.value<|vi<|Lib.compareBytes a.bX b.bX) w:=pP Extern.BytealgCompare.compare Tryz.func117<|Lib.run_compareString _ _ w
theorem yp:fk bH 39:=fM Tryz.func39
theorem Dh:fk bH 36:=fM Tryz.func36
theorem Gr(a:aU)(b:Int)(w:World):(callFunc 190 [str a,(.int .u8 b)].toArray).run bH w = .ok (.value<|vi ((Lib.countByte a.bX (Int.toNat b).toUInt8:Nat):Int)) w:=pP Extern.BytealgCount.count Tryz.func190<|Lib.run_countString _ _ w
theorem DS:fk bH 165:=fM Tryz.func165
theorem AV:rV bH 55 9 1 16:=rV.of<|.string ⟨#[]⟩
theorem Gs:vR bH 9 (⟨[]⟩:aU):=vR.of (.string ⟨#[]⟩)<|λM=>rfl
theorem kM:pK bH 55 9 1:=z7
theorem Fa:fk bH 88:=fM Tryz.func88
theorem qM:Tryz.prog.underlying 55=some (.slice 9):=by kernel_rfl
theorem Ff:fk bH 63:=fM Tryz.func63
theorem i3:rU bH 26 1 1:=t5
theorem oJ:lz bH 24 false 1:=t6
theorem te:Tryz.prog.underlying 24=some (.slice 57):=by kernel_rfl
theorem tf:pK bH 24 57 3:=z7
theorem t7:lz bH 57 true 3:=t6
theorem AW:y8 bH 57 3:=z8<|.agg #[(.string ⟨#[]⟩),n_,n_]
theorem nJ:rU bH 57 0 0:=t5
theorem nK:rU bH 57 1 1:=t5
theorem vI:lz bH 54 false 1:=t6
theorem t8:Tryz.prog.underlying 54=some (.slice 67):=by kernel_rfl
theorem kq:lz bH 67 true 2:=t6
theorem oK:rU bH 67 0 0:=t5
theorem rA:rU bH 67 1 1:=t5
theorem Fm:fk bH 70:=fM Tryz.func70
theorem t9:pK bH 54 67 2:=z7
theorem yq:y8 bH 67 2:=z8<|.agg #[(.string ⟨#[]⟩),(.string ⟨#[]⟩)]
theorem Cc:EG bH 67 cC:=⟨λM cs ds a b w ha hb=>by
  obtain⟨_,_,rfl,rfl,rfl⟩:=ha
  obtain⟨_,_,rfl,rfl,rfl⟩:=hb
  refine(nV 9999 Tryz.underlying67<|CR.cons (by decide) (jd gj rfl _) (jd gj rfl _) (mE td _ _ w)<|CR.cons (by decide) (jd gj rfl _) (jd gj rfl _) (mE td _ _ w) CR.nil).trans ?_
  congr 1
  cases a;cases b;unfold qz
  rw[iB]
  simp,by kernel_rfl⟩
theorem DT:r7 bH 67 cC:=r7.struct Tryz.underlying67 rfl Cc (λk=>(DJ.cons (by decide) (jd gj rfl) (λb w=>MapKept.run_checkKey td (k:=Gk.str k.Part) trivial b 9998) (DJ.cons (by decide) (jd gj rfl) (λb w=>MapKept.run_checkKey td (k:=Gk.str k.cC) trivial b 9998) DJ.nil))) (λk x hx=>by
  have hx:x∈[Sc.toV k.Part,Sc.toV k.cC]:=hx
  simp only[iV,List.not_mem_nil,or_false]at hx
  rcases hx with rfl|rfl
  · exact MapKept.sameBits_self (d:= .string) (k:=Gk.str k.Part) trivial _
  · exact MapKept.sameBits_self (d:= .string) (k:=Gk.str k.cC) trivial _)
theorem DU:tZ bH 117 67 4 cC Bool (false:Bool):=⟨by kernel_rfl,DT,r9 (.bool false)<|λM=>⟨_,rfl,rfl⟩⟩
theorem Cd:rU bH 57 2 2:=t5
theorem Ce:lz bH 55 false 1:=t6
theorem Ek:fk bH 33:=fM Tryz.func33
theorem Gy:vx bH 71 [(0,1),(1,1),(2,1),(3,1)] #[n_,n_,(.int .i64 0),(.int .i64 0)]:=vx.of (.agg #[n_,n_,(.int .i64 0),(.int .i64 0)]) Tryz.underlying71
theorem El:tZ bH 86 67 3 cC Int (0:Int):=⟨by kernel_rfl,DT,r9 (.int .i64 0)<|λM=>⟨_,rfl,rfl⟩⟩
theorem Fq:fk bH 35:=fM Tryz.func35
theorem zp:rU bH 71 0 0:=t5
theorem Gz:y8 bH 9 1:=z8<|.string ⟨#[]⟩
theorem Di:vx bH 67 [(0,1),(1,1)] #[(.string ⟨#[]⟩),(.string ⟨#[]⟩)]:=vx.of (.agg #[(.string ⟨#[]⟩),(.string ⟨#[]⟩)]) Tryz.underlying67
theorem tg:rU bH 71 3 3:=t5
theorem zq:rU bH 71 1 1:=t5
theorem Em:lz bH 69 false 1:=t6
theorem xh:rU bH 71 2 2:=t5
theorem CU:y8 bH 3 1:=z8<|.int .i64 0
theorem GC:vx bH 92 [(0,1),(1,1),(2,1)] #[(.int .i64 0),(.int .i64 0),(.int .i64 0)]:=vx.of (.agg #[(.int .i64 0),(.int .i64 0),(.int .i64 0)]) Tryz.underlying92
theorem Ft:pK bH 69 92 3:=z7
theorem Fu:y8 bH 92 3:=z8<|.agg #[(.int .i64 0),(.int .i64 0),(.int .i64 0)]
theorem GD:rV bH 69 92 3 24:=rV.of<|.agg #[(.int .i64 0),(.int .i64 0),(.int .i64 0)]
theorem Fv:fk bH 19:=fM Tryz.func19
theorem En:lz bH 95 false 1:=t6
theorem rB:rV bH 38 3 1 8:=rV.of<|.int .i64 0
theorem EK:vR bH 3 (0:Int):=vR.of (.int .i64 0)<|λM=>rfl
theorem il:pK bH 38 3 1:=z7
theorem Fw:rV bH 96 49 1 24:=rV.of<|.slice none 0 0
theorem DV:vR bH 49 nU:=vR.of n_<|λM=>rfl
theorem GL:Tryz.prog.underlying 69=some (.slice 92):=by kernel_rfl
theorem Fx:lz bH 92 true 3:=t6
theorem xi:rU bH 92 1 1:=t5
theorem AX:pK bH 96 49 1:=z7
theorem AY:lz bH 49 false 1:=t6
theorem zu:rU bH 92 0 0:=t5
theorem Cf:rU bH 92 2 2:=t5
theorem Cg:EI bH 51 2 3 1:=⟨by kernel_rfl,λ_=>by kernel_rfl⟩
theorem yr:EW bH 51 1 ((.agg #[(.int .i64 0),(.int .i64 0)]):Value).cells:=EW.of Cg
theorem rC:pK bH 49 51 2:=z7
theorem uR:y8 bH 51 2:=z8<|.agg #[(.int .i64 0),(.int .i64 0)]
theorem AZ:rV bH 49 51 2 16:=rV.of<|.agg #[(.int .i64 0),(.int .i64 0)]
theorem nc:Tryz.prog.underlying 38=some (.slice 3):=by kernel_rfl
theorem DW:fk bH 120:=fM Tryz.func120
theorem Ch:fk bH 42:=fM Tryz.func42
theorem th:lz bH 51 true 2:=t6
theorem A0:Tryz.prog.underlying 49=some (.slice 51):=by kernel_rfl
theorem p5:Ef bH 51 0 0:=Cg.at (k:=⟨0,by decide⟩) rfl
theorem tj:Ef bH 51 1 1:=Cg.at (k:=⟨1,by decide⟩) rfl
theorem iq:pK bH 44 38 1:=z7
theorem yt:y8 bH 38 1:=z8<|.slice none 0 0
theorem xj:rV bH 44 38 1 24:=rV.of<|.slice none 0 0
theorem Fy:fk bH 41:=fM Tryz.func41
theorem sD:Tryz.prog.underlying 44=some (.slice 38):=by kernel_rfl
theorem Eo:lz bH 99 false 1:=t6
theorem kd:lz bH 38 false 1:=t6
theorem Fz:vR bH 38 ([]:List Int):=vR.of n_<|λM=>⟨_,rfl,none,0,0,rfl,rfl,bR _,by simp[maxLen],λ_ _ h=>by simp at h⟩
theorem FA:fk bH 40:=fM Tryz.func40
theorem FB:fk bH 10:=fM Tryz.func10
theorem Dj:tZ bH 75 3 3 Int Int (0:Int):=⟨by kernel_rfl,r7.int Ab,r9 (.int .i64 0)<|λM=>⟨_,rfl,rfl⟩⟩
theorem GW:Tryz.prog.underlying 75=some (.map 3 3):=by kernel_rfl
theorem FC:fk bH 11:=fM Tryz.func11
theorem Ci:fk bH 121:=fM Tryz.func121
theorem Ep:fk bH 89:=fM Tryz.func89
theorem FD:fk bH 44:=fM Tryz.func44
theorem Dk:fk bH 45:=fM Tryz.func45
theorem FE:fk bH 54:=fM Tryz.func54
theorem FF:fk bH 55:=fM Tryz.func55
theorem FH:fk bH 90:=fM Tryz.func90
theorem FI:fk bH 22:=fM Tryz.func22
theorem FJ:fk bH 12:=fM Tryz.func12
theorem zv:pK bH 43 26 2:=z7
theorem zw:y8 bH 26 2:=z8<|.agg #[n_,n_]
theorem Cj:y8 bH 46 4:=z8<|.agg #[n_,n_,n_,n_]
theorem G3:vx bH 46 [(0,1),(1,1),(2,1),(3,1)] #[n_,n_,n_,n_]:=vx.of (.agg #[n_,n_,n_,n_]) Tryz.underlying46
theorem FK:HJ bH 46 [n_,n_,n_,n_]:=⟨(.agg #[n_,n_,n_,n_]),λ_=>by kernel_rfl,rfl⟩
theorem qN:lz bH 46 true 4:=t6
theorem Er:Tryz.prog.underlying 43=some (.slice 26):=by kernel_rfl
theorem l8:rU bH 46 2 2:=t5
theorem lT:lz bH 44 false 1:=t6
theorem l9:rU bH 46 3 3:=t5
theorem Ck:rU bH 46 1 1:=t5
theorem FL:lz bH 43 false 1:=t6
theorem xk:rU bH 46 0 0:=t5
theorem FM:fk bH 52:=fM Tryz.func52
theorem Ha:vR bH 51 (⟨0,0⟩:aB):=vR.of (.agg #[(.int .i64 0),(.int .i64 0)])<|λM=>lE M
theorem Cl{α:Type}[GT α]{z0:α}{bytes:Nat}(sl:pK bH 49 51 (GT.sz α))(el:rV bH 49 51 (GT.sz α) bytes)(zd:vR bH 51 z0){E w:World}{V:List HP}{v0 v2:Value}{p0 p2 l1:List α}{p1:Int}
    (hw:Holds E w (own 51 v0 p0::own 51 v2 p2::V)) (hb:vA bytes p0 p1 p2=some l1):c_ 93 [v0,vi p1,v2] w<|λv w=>Holds E w<|own 51 v l1::V:=by
 have un:=sl.pL
 have ui:Tryz.prog.underlying 3=some (.int .i64):=by kernel_rfl
 unfold vA at hb
 split at hb
 case isFalse=>cases hb
 rename_i hc
 obtain⟨c1,c2,c3,c4⟩:=hc
 have hb:=oi hb
 have hle:p0.length+p2.length<=140737488355328:=jN (Nat.le_mul_of_pos_right _ el.pos) c4
 obtain⟨xb,xo,xc,rfl,hv1,hv2⟩:=uo 1 hw rfl (by omega)
 obtain⟨a,cap,rfl,hcap⟩:=um (i:=0) hw rfl
 refine enter Tryz.func93 rfl rfl ?_
 refine j_ ?_
 refine cP n_ ?_
 refine o_ ?_
 refine mv (.slice a p0.length cap) ?_
 refine mv (vi p1) ?_
 refine Kb trivial rfl rfl sl rfl c1 c2 hcap λu=>?_
 refine o_ ?_
 refine mv (.slice (some ⟨xb,xo,none⟩) p2.length xc) ?_
 refine ID 1 p2 hw un ?_
 refine cP (vi ((p2.length:Nat):Int)) ?_
 refine s_ ?_
 refine j_ ?_
 refine mv (vi ((p2.length:Nat):Int)) ?_
 refine ic ((p2.length:Nat):Int) 0 ?_
 refine k_ ?_
 refine I0 (b:=((p2.length:Nat):Int)==0) rfl (λhc=>?_)<|λhc=>?_
 ·exfalso
  rw[c3]at hc
  exact absurd hc (by decide)
 refine Iu ?_
 refine mv (.slice a p0.length cap) ?_
 refine ID 0 p0 hw un ?_
 refine cP (vi ((p0.length:Nat):Int)) ?_
 refine s_ ?_
 refine j_ ?_
 refine mv (vi p1) ?_
 refine mv (vi ((p0.length:Nat):Int)) ?_
 refine ic p1 ((p0.length:Nat):Int) ?_
 refine k_ ?_
 refine I0 (b:=p1==((p0.length:Nat):Int)) rfl (λhc=>?_)<|λhc=>?_
 ·have e:p1=((p0.length:Nat):Int):=by simpa using hc
  have hq:p0++p2=l1:=by rw[<-hb,e,dJ,eR,List.drop_length,fP]
  have hw:=hw.freeze 1
  refine j_ ?_
  refine mv (.slice a p0.length cap) ?_
  refine mv (.slice (some ⟨xb,xo,none⟩) p2.length xc) ?_
  refine Iq (l':=l1) 0 1 trivial rfl hw rfl rfl rfl rfl el (by unfold app;rw[aG c4,hq]) λv w hw=>?_
  refine cP v ?_
  refine k_ ?_
  refine E_ ?_
  exact bD<|hw.pick 2 [0] (new:=[own 51 v l1]) rfl rfl (by decide) (by decide)
 have hlt:p1<((p0.length:Nat):Int):=by
  have:¬p1=((p0.length:Nat):Int):=by simpa using hc
  omega
 obtain⟨b,o,cap',hv,_,hcm⟩:=uo 0 hw rfl (by omega)
 injection hv with q1 q2 q3
 subst q1;subst q3
 have e1:wrap .i64 (((p0.length:Nat):Int)+((p2.length:Nat):Int))=((p0.length+1:Nat):Int):=by
  rw[c3,dL (by omega) (by omega)];omega
 refine Ii ?_
 refine j_ ?_
 refine mv (vi ((p0.length:Nat):Int)) ?_
 refine mv (vi ((p2.length:Nat):Int)) ?_
 refine A_ ((p0.length:Nat):Int) ((p2.length:Nat):Int) ?_
 refine mv (.slice (some ⟨b,o,none⟩) p0.length cap) ?_
 refine Kc trivial rfl rfl un ?_
 refine ic (wrap .i64<|((p0.length:Nat):Int)+((p2.length:Nat):Int)) ((cap:Nat):Int) ?_
 refine k_ ?_
 refine I0 (b:=decide<|wrap .i64 (((p0.length:Nat):Int)+((p2.length:Nat):Int))>((cap:Nat):Int)) rfl (λhc=>?_)<|λhc=>?_
 ·have hg:cap<p0.length+1:=by
   have:=of_decide_eq_true hc
   rw[e1]at this;omega
  have e2:wrap .i64 (wrap .i64 (((p0.length:Nat):Int)+((p2.length:Nat):Int)) - p1)=((p0.length+1 - Int.toNat p1:Nat):Int):=by
   rw[e1,dL (by omega) (by omega)];omega
  have e3:wrap .i64 (p1+((p2.length:Nat):Int))=((Int.toNat p1+1:Nat):Int):=by
   rw[c3,dL (by omega) (by omega)];omega
  have hs:Int.toNat p1+(p0.length+1 - Int.toNat p1)=p0.length+1:=by omega
  refine j_ ?_
  refine mv (.slice (some ⟨b,o,none⟩) p0.length cap) ?_
  refine mv (vi p1) ?_
  refine JK rfl rfl sl rfl c1 (by omega) ?_
  refine mv (vi ((p0.length:Nat):Int)) ?_
  refine mv (vi ((p2.length:Nat):Int)) ?_
  refine A_ ((p0.length:Nat):Int) ((p2.length:Nat):Int) ?_
  refine mv (vi p1) ?_
  refine A_ (wrap .i64<|((p0.length:Nat):Int)+((p2.length:Nat):Int)) p1 ?_
  refine Kd (i0:=Int.toNat p1) 0 p0 (p0.length+1 - Int.toNat p1) trivial rfl hw rfl (congrArg (Value.int .i64) e2) rfl el ui zd (by omega) (by omega) (by omega) (by rw[hs];rw[c3]at c4;exact c4) λb2 c2' w hc2 hw=>?_
  rw[hs]at hw hc2 ⊢
  have hl2:(p0.take (Int.toNat p1)++List.replicate (p0.length+1 - Int.toNat p1) z0).length=p0.length+1:=by rw[cL,bQ,kj];omega
  refine cP (.slice (some ⟨b2,0,none⟩) (p0.length+1) c2') ?_
  refine o_ ?_
  refine mv (.slice (some ⟨b2,0,none⟩) (p0.length+1) c2') ?_
  refine mv (vi p1) ?_
  refine IU _ rfl sl rfl c1 (by omega) (by omega) (by omega) ?_
  refine mv (.slice (some ⟨xb,xo,none⟩) p2.length xc) ?_
  refine Jc 0 (Int.toNat p1) p2 (p0.take (Int.toNat p1)++List.replicate (p0.length+1 - Int.toNat p1) z0) trivial rfl hw rfl rfl (by rw[hl2];rfl) el (by rw[c3];simp only[Nat.min_def];split <;> omega) (by rw[hl2];omega) (by rw[c3];omega) (λM hs gd=>sf 2 gd rfl) λw hw=>?_
  have hmx:Max.max (p0.take (Int.toNat p1)++List.replicate (p0.length+1 - Int.toNat p1) z0).length (Int.toNat p1+p2.length)=p0.length+1:=by rw[hl2,c3];omega
  rw[hmx]at hw
  have hl3:((p0.take (Int.toNat p1)++List.replicate (p0.length+1 - Int.toNat p1) z0).take (Int.toNat p1)++p2++(p0.take (Int.toNat p1)++List.replicate (p0.length+1 - Int.toNat p1) z0).drop (Int.toNat p1+p2.length)).length=p0.length+1:=by simp only[cL,bQ,dR,hl2,c3];omega
  have hdl:(p0.drop<|Int.toNat p1).length=p0.length - Int.toNat p1:=dR
  refine k_ ?_
  refine t_<|Jk mixed rfl (λ(D:Nat->Bool)(U:Nat->Value)(w:World)=>cK D U [(0,46,(.slice (some ⟨b2,0,none⟩) (p0.length+1) c2')),(1,47,vi p1),(2,48,vi ((p2.length:Nat):Int)),(3,49,vi<|wrap .i64<|p1+((p2.length:Nat):Int)),(4,50, .slice (some ⟨b2,0+(Int.toNat p1+1)*GT.sz α,none⟩) (p0.length+1 -(Int.toNat p1+1))<|c2' -(Int.toNat p1+1)),(5,51,(.slice (some ⟨b,o,none⟩) p0.length cap)),(6,52,vi p1),(7,53, .slice (some ⟨b,o+ Int.toNat p1*GT.sz α,none⟩) (p0.length - Int.toNat p1)<|cap - Int.toNat p1)]/\agree U [(0,(.slice (some ⟨b,o,none⟩) p0.length cap)),(1,vi p1),(7,vi ((p2.length:Nat):Int)),(9,(.slice (some ⟨b2,0,none⟩) (p0.length+1) c2'))]/\Holds E w (own 51 (.slice (some ⟨b2,0,none⟩) (p0.length+1) c2') (bif D 8 then((p0.take (Int.toNat p1)++List.replicate (p0.length+1 - Int.toNat p1) z0).take (Int.toNat p1)++p2++(p0.take (Int.toNat p1)++List.replicate (p0.length+1 - Int.toNat p1) z0).drop (Int.toNat p1+p2.length)).take (Int.toNat p1+1)++p0.drop (Int.toNat p1)++((p0.take (Int.toNat p1)++List.replicate (p0.length+1 - Int.toNat p1) z0).take (Int.toNat p1)++p2++(p0.take (Int.toNat p1)++List.replicate (p0.length+1 - Int.toNat p1) z0).drop (Int.toNat p1+p2.length)).drop (Int.toNat p1+1+(p0.drop<|Int.toNat p1).length)else(p0.take (Int.toNat p1)++List.replicate (p0.length+1 - Int.toNat p1) z0).take (Int.toNat p1)++p2++(p0.take (Int.toNat p1)++List.replicate (p0.length+1 - Int.toNat p1) z0).drop (Int.toNat p1+p2.length))::own 51 (.slice (some ⟨b,o,none⟩) p0.length cap) p0::own 51 (.slice (some ⟨xb,xo,none⟩) p2.length xc) p2::V)) ?_ ⟨?_,?_,?_,?_,?_,?_,?_,?_,?_,trivial⟩ ?_
  ·exact⟨cK.none,⟨rfl,rfl,rfl,rfl,trivial⟩,hw.drew⟩
  ·rintro D U w hD hdep hcl⟨hv,ha,hw⟩
   refine mv (hx:=ha.at 3 rfl) (.slice (some ⟨b2,0,none⟩) (p0.length+1) c2') ?_
   refine m_ ?_
   exact⟨rfl,hv.put 0 rfl rfl,ha.up rfl,hw⟩
  ·rintro D U w hD hdep hcl⟨hv,ha,hw⟩
   refine mv (hx:=ha.at 1 rfl) (vi p1) ?_
   refine m_ ?_
   exact⟨rfl,hv.put 1 rfl rfl,ha.up rfl,hw⟩
  ·rintro D U w hD hdep hcl⟨hv,ha,hw⟩
   refine mv (hx:=ha.at 2 rfl) (vi ((p2.length:Nat):Int)) ?_
   refine m_ ?_
   exact⟨rfl,hv.put 2 rfl rfl,ha.up rfl,hw⟩
  ·rintro D U w hD hdep hcl⟨hv,ha,hw⟩
   refine A_ (hx:=hv.at 1 rfl<|hdep.1 rfl) (hy:=hv.at 2 rfl<|hdep.2.1 rfl) p1 ((p2.length:Nat):Int) ?_
   refine m_ ?_
   exact⟨rfl,hv.put 3 rfl rfl,ha.up rfl,hw⟩
  ·rintro D U w hD hdep hcl⟨hv,ha,hw⟩
   refine IU ((Int.toNat p1+1:Nat):Int) (hv.at 0 rfl<|hdep.1 rfl) sl (congrArg some<|(hv.at 3 rfl<|hdep.2.1 rfl).trans<|congrArg (Value.int .i64) e3) (by omega) (by omega) (by omega) (by omega) ?_
   rw[dJ]
   refine m_ ?_
   exact⟨rfl,hv.put 4 rfl rfl,ha.up rfl,hw⟩
  ·rintro D U w hD hdep hcl⟨hv,ha,hw⟩
   refine mv (hx:=ha.at 0 rfl) (.slice (some ⟨b,o,none⟩) p0.length cap) ?_
   refine m_ ?_
   exact⟨rfl,hv.put 5 rfl rfl,ha.up rfl,hw⟩
  ·rintro D U w hD hdep hcl⟨hv,ha,hw⟩
   refine mv (hx:=ha.at 1 rfl) (vi p1) ?_
   refine m_ ?_
   exact⟨rfl,hv.put 6 rfl rfl,ha.up rfl,hw⟩
  ·rintro D U w hD hdep hcl⟨hv,ha,hw⟩
   refine IU _ (hv.at 5 rfl<|hdep.1 rfl) sl (congrArg some<|hv.at 6 rfl<|hdep.2.1 rfl) c1 (by omega) (by omega) (by omega) ?_
   refine m_ ?_
   exact⟨rfl,hv.put 7 rfl rfl,ha.up rfl,hw⟩
  ·rintro D U w hD hdep hcl⟨hv,ha,hw⟩
   rw[hD,bK]at hw
   refine Jc 0 (Int.toNat p1+1) (p0.drop<|Int.toNat p1) ((p0.take (Int.toNat p1)++List.replicate (p0.length+1 - Int.toNat p1) z0).take (Int.toNat p1)++p2++(p0.take (Int.toNat p1)++List.replicate (p0.length+1 - Int.toNat p1) z0).drop (Int.toNat p1+p2.length)) trivial rfl hw (hv.at 4 rfl<|hdep.1 rfl) (hv.at 7 rfl<|hdep.2.1 rfl) (by rw[hl3];rfl) el (by rw[hdl];simp only[Nat.min_def];split <;> omega) (by rw[hl3];omega) (by rw[hdl];omega) (λM hs gd=>sd 1 gd rfl (by omega)) λw hw=>?_
   have hmx:Max.max ((p0.take (Int.toNat p1)++List.replicate (p0.length+1 - Int.toNat p1) z0).take (Int.toNat p1)++p2++(p0.take (Int.toNat p1)++List.replicate (p0.length+1 - Int.toNat p1) z0).drop (Int.toNat p1+p2.length)).length (Int.toNat p1+1+(p0.drop<|Int.toNat p1).length)=p0.length+1:=by rw[hl3,hdl];omega
   rw[hmx]at hw
   refine m_ ?_
   exact⟨rfl,hv.up rfl,ha.up rfl,hw⟩
  intro D U w hall ⟨hv,ha,hw⟩
  rw[hall 8 (by decide),bL]at hw
  obtain⟨O,rfl⟩:=ha.qY
  refine aF ?_
  refine j_ ?_
  refine mv (.slice (some ⟨b2,0,none⟩) (p0.length+1) c2') ?_
  refine cP (.slice (some ⟨b2,0,none⟩) (p0.length+1) c2') ?_
  refine k_ ?_
  refine E_ ?_
  refine bD ?_
  have hq:(((p0.take (Int.toNat p1)++List.replicate (p0.length+1 - Int.toNat p1) z0).take (Int.toNat p1)++p2++(p0.take (Int.toNat p1)++List.replicate (p0.length+1 - Int.toNat p1) z0).drop (Int.toNat p1+p2.length)).take (Int.toNat p1+1)++p0.drop (Int.toNat p1)++((p0.take (Int.toNat p1)++List.replicate (p0.length+1 - Int.toNat p1) z0).take (Int.toNat p1)++p2++(p0.take (Int.toNat p1)++List.replicate (p0.length+1 - Int.toNat p1) z0).drop (Int.toNat p1+p2.length)).drop (Int.toNat p1+1+(p0.drop<|Int.toNat p1).length))=l1:=by
   rw[<-hb]
   exact v8 p0 p2 _ (Int.toNat p1) z0 c3 (by omega)<|bR _
  rw[hq]at hw
  exact hw.pick 3 [0] (new:=[own 51 (.slice (some ⟨b2,0,none⟩) (p0.length+1) c2') l1]) rfl rfl (by decide) (by decide)
 have hg:p0.length+1<=cap:=by
  have:=of_decide_eq_false hc
  rw[e1]at this;omega
 have e3:wrap .i64 (p1+((p2.length:Nat):Int))=((Int.toNat p1+1:Nat):Int):=by
  rw[c3,dL (by omega) (by omega)];omega
 refine Iu ?_
 refine mv (.slice (some ⟨b,o,none⟩) p0.length cap) ?_
 refine mv (vi ((p0.length:Nat):Int)) ?_
 refine mv (vi ((p2.length:Nat):Int)) ?_
 refine A_ ((p0.length:Nat):Int) ((p2.length:Nat):Int) ?_
 refine JK (hi:=((p0.length+1:Nat):Int)) rfl rfl sl (congrArg (λx=>some<|Value.int .i64 x) e1) (by omega) (by omega) ?_
 rw[dJ]
 refine cP (.slice (some ⟨b,o,none⟩) (p0.length+1) cap) ?_
 refine s_ ?_
 refine j_ ?_
 refine mv (.slice (some ⟨xb,xo,none⟩) p2.length xc) ?_
 refine mv (.slice (some ⟨b,o,none⟩) (p0.length+1) cap) ?_
 refine mv (vi p1) ?_
 refine mv (vi ((p2.length:Nat):Int)) ?_
 refine A_ p1 ((p2.length:Nat):Int) ?_
 refine IU ((Int.toNat p1+1:Nat):Int) rfl sl (congrArg (λx=>some<|Value.int .i64 x) e3) (by omega) (by omega) (by omega) (by omega) ?_
 rw[dJ]
 refine Jp (Value.bool false) rfl [(.slice (some ⟨xb,xo,none⟩) p2.length xc), .slice (some ⟨b,o+(Int.toNat p1+1)*GT.sz α,none⟩) (p0.length+1 -(Int.toNat p1+1))<|cap -(Int.toNat p1+1)] rfl (pP (Extern.SlicesOverlaps.overlaps #[49,49] #[4]) Tryz.func126<|v7 1 0 sl hw rfl rfl (by omega) (by omega)) ?_
 refine Iz false ?_
 refine k_ ?_
 refine Jl rfl ?_
 have hdl:(p0.drop<|Int.toNat p1).length=p0.length - Int.toNat p1:=dR
 refine t_<|Jk mixed rfl (λ(D:Nat->Bool)(U:Nat->Value)(w:World)=>cK D U [(0,69,(.slice (some ⟨b,o,none⟩) (p0.length+1) cap)),(1,70,vi p1),(2,71,vi ((p2.length:Nat):Int)),(3,72,vi<|wrap .i64<|p1+((p2.length:Nat):Int)),(4,73, .slice (some ⟨b,o+(Int.toNat p1+1)*GT.sz α,none⟩) (p0.length+1 -(Int.toNat p1+1))<|cap -(Int.toNat p1+1)),(5,74,(.slice (some ⟨b,o,none⟩) (p0.length+1) cap)),(6,75,vi p1),(7,76, .slice (some ⟨b,o+ Int.toNat p1*GT.sz α,none⟩) (p0.length+1 - Int.toNat p1)<|cap - Int.toNat p1)]/\agree U [(0,(.slice (some ⟨b,o,none⟩) (p0.length+1) cap)),(1,vi p1),(2,(.slice (some ⟨xb,xo,none⟩) p2.length xc)),(7,vi ((p2.length:Nat):Int))]/\Holds E w ((bif D 8 then own 51 (.slice (some ⟨b,o,none⟩) (p0.length+1) cap) (p0.take (Int.toNat p1+1)++p0.drop (Int.toNat p1)++p0.drop (Int.toNat p1+1+(p0.drop<|Int.toNat p1).length))else own 51 (.slice (some ⟨b,o,none⟩) p0.length cap) p0)::own 51 (.slice (some ⟨xb,xo,none⟩) p2.length xc) p2::V)) ?_ ⟨?_,?_,?_,?_,?_,?_,?_,?_,?_,trivial⟩ ?_
 ·exact⟨cK.none,⟨rfl,rfl,rfl,rfl,trivial⟩,hw.drew⟩
 ·rintro D U w hD hdep hcl⟨hv,ha,hw⟩
  refine mv (hx:=ha.at 0 rfl) (.slice (some ⟨b,o,none⟩) (p0.length+1) cap) ?_
  refine m_ ?_
  exact⟨rfl,hv.put 0 rfl rfl,ha.up rfl,hw⟩
 ·rintro D U w hD hdep hcl⟨hv,ha,hw⟩
  refine mv (hx:=ha.at 1 rfl) (vi p1) ?_
  refine m_ ?_
  exact⟨rfl,hv.put 1 rfl rfl,ha.up rfl,hw⟩
 ·rintro D U w hD hdep hcl⟨hv,ha,hw⟩
  refine mv (hx:=ha.at 3 rfl) (vi ((p2.length:Nat):Int)) ?_
  refine m_ ?_
  exact⟨rfl,hv.put 2 rfl rfl,ha.up rfl,hw⟩
 ·rintro D U w hD hdep hcl⟨hv,ha,hw⟩
  refine A_ (hx:=hv.at 1 rfl<|hdep.1 rfl) (hy:=hv.at 2 rfl<|hdep.2.1 rfl) p1 ((p2.length:Nat):Int) ?_
  refine m_ ?_
  exact⟨rfl,hv.put 3 rfl rfl,ha.up rfl,hw⟩
 ·rintro D U w hD hdep hcl⟨hv,ha,hw⟩
  refine IU ((Int.toNat p1+1:Nat):Int) (hv.at 0 rfl<|hdep.1 rfl) sl (congrArg some<|(hv.at 3 rfl<|hdep.2.1 rfl).trans<|congrArg (Value.int .i64) e3) (by omega) (by omega) (by omega) (by omega) ?_
  rw[dJ]
  refine m_ ?_
  exact⟨rfl,hv.put 4 rfl rfl,ha.up rfl,hw⟩
 ·rintro D U w hD hdep hcl⟨hv,ha,hw⟩
  refine mv (hx:=ha.at 0 rfl) (.slice (some ⟨b,o,none⟩) (p0.length+1) cap) ?_
  refine m_ ?_
  exact⟨rfl,hv.put 5 rfl rfl,ha.up rfl,hw⟩
 ·rintro D U w hD hdep hcl⟨hv,ha,hw⟩
  refine mv (hx:=ha.at 1 rfl) (vi p1) ?_
  refine m_ ?_
  exact⟨rfl,hv.put 6 rfl rfl,ha.up rfl,hw⟩
 ·rintro D U w hD hdep hcl⟨hv,ha,hw⟩
  refine IU _ (hv.at 5 rfl<|hdep.1 rfl) sl (congrArg some<|hv.at 6 rfl<|hdep.2.1 rfl) c1 (by omega) (by omega) (by omega) ?_
  refine m_ ?_
  exact⟨rfl,hv.put 7 rfl rfl,ha.up rfl,hw⟩
 ·rintro D U w hD hdep hcl⟨hv,ha,hw⟩
  rw[hD,bK]at hw
  refine Jc 0 (Int.toNat p1+1) (p0.drop<|Int.toNat p1) p0 trivial rfl hw (hv.at 4 rfl<|hdep.1 rfl) (hv.at 7 rfl<|hdep.2.1 rfl) rfl el (by rw[hdl];simp only[Nat.min_def];split <;> omega) (by omega) (by rw[hdl];omega) (λM hs gd=>sd 0 gd rfl (by omega)) λw hw=>?_
  have hmx:Max.max p0.length (Int.toNat p1+1+(p0.drop<|Int.toNat p1).length)=p0.length+1:=by rw[hdl];omega
  rw[hmx]at hw
  refine m_ ?_
  exact⟨rfl,hv.up rfl,ha.up rfl,hw⟩
 intro D U w hall ⟨hv,ha,hw⟩
 rw[hall 8 (by decide),bL]at hw
 have hl1:(p0.take (Int.toNat p1+1)++p0.drop (Int.toNat p1)++p0.drop (Int.toNat p1+1+(p0.drop<|Int.toNat p1).length)).length=p0.length+1:=by simp only[cL,bQ,dR];omega
 obtain⟨O,rfl⟩:=ha.qY
 refine aF ?_
 refine j_ ?_
 refine mv (.slice (some ⟨b,o,none⟩) (p0.length+1) cap) ?_
 refine mv (vi p1) ?_
 refine IU _ rfl sl rfl c1 (by omega) (by omega) (by omega) ?_
 refine mv (.slice (some ⟨xb,xo,none⟩) p2.length xc) ?_
 refine Jc 0 (Int.toNat p1) p2 (p0.take (Int.toNat p1+1)++p0.drop (Int.toNat p1)++p0.drop (Int.toNat p1+1+(p0.drop<|Int.toNat p1).length)) trivial rfl hw rfl rfl (by rw[hl1];rfl) el (by rw[c3];simp only[Nat.min_def];split <;> omega) (by rw[hl1];omega) (by rw[c3];omega) (λM hs gd=>sf 1 gd rfl) λw hw=>?_
 have hmx:Max.max (p0.take (Int.toNat p1+1)++p0.drop (Int.toNat p1)++p0.drop (Int.toNat p1+1+(p0.drop<|Int.toNat p1).length)).length (Int.toNat p1+p2.length)=p0.length+1:=by rw[hl1,c3];omega
 rw[hmx]at hw
 refine o_ ?_
 refine mv (.slice (some ⟨b,o,none⟩) (p0.length+1) cap) ?_
 refine cP (.slice (some ⟨b,o,none⟩) (p0.length+1) cap) ?_
 refine k_ ?_
 refine E_ ?_
 refine bD ?_
 have hq:((p0.take (Int.toNat p1+1)++p0.drop (Int.toNat p1)++p0.drop (Int.toNat p1+1+(p0.drop<|Int.toNat p1).length)).take (Int.toNat p1)++p2++(p0.take (Int.toNat p1+1)++p0.drop (Int.toNat p1)++p0.drop (Int.toNat p1+1+(p0.drop<|Int.toNat p1).length)).drop (Int.toNat p1+p2.length))=l1:=by
  rw[<-hb]
  exact uK p0 p2 (Int.toNat p1) c3 (by omega)
 rw[hq]at hw
 exact hw.pick 2 [0] (new:=[own 51 (.slice (some ⟨b,o,none⟩) (p0.length+1) cap) l1]) rfl rfl (by decide) (by decide)
theorem FN:fk bH 53:=fM Tryz.func53
theorem Dl:pK bH 77 44 1:=z7
theorem FO:y8 bH 44 1:=z8<|.slice none 0 0
theorem FP:rV bH 77 44 1 24:=rV.of<|.slice none 0 0
theorem FQ:Tryz.prog.underlying 77=some (.slice 44):=by kernel_rfl
theorem Es:fk bH 30:=fM Tryz.func30
theorem Cm{α:Type}[GT α]{z0:α}{bytes:Nat}(sl:pK bH 44 38 (GT.sz α))(el:rV bH 44 38 (GT.sz α) bytes)(zd:vR bH 38 z0){E w:World}{V:List HP}{v0 v2:Value}{p0 p2 l1:List α}{p1:Int}
    (hw:Holds E w (own 38 v0 p0::own 38 v2 p2::V)) (hb:vA bytes p0 p1 p2=some l1):c_ 56 [v0,vi p1,v2] w<|λv w=>Holds E w<|own 38 v l1::V:=by
 have un:=sl.pL
 have ui:Tryz.prog.underlying 3=some (.int .i64):=by kernel_rfl
 unfold vA at hb
 split at hb
 case isFalse=>cases hb
 rename_i hc
 obtain⟨c1,c2,c3,c4⟩:=hc
 have hb:=oi hb
 have hle:p0.length+p2.length<=140737488355328:=jN (Nat.le_mul_of_pos_right _ el.pos) c4
 obtain⟨xb,xo,xc,rfl,hv1,hv2⟩:=uo 1 hw rfl (by omega)
 obtain⟨a,cap,rfl,hcap⟩:=um (i:=0) hw rfl
 refine enter Tryz.func56 rfl rfl ?_
 refine j_ ?_
 refine cP n_ ?_
 refine o_ ?_
 refine mv (.slice a p0.length cap) ?_
 refine mv (vi p1) ?_
 refine Kb trivial rfl rfl sl rfl c1 c2 hcap λu=>?_
 refine o_ ?_
 refine mv (.slice (some ⟨xb,xo,none⟩) p2.length xc) ?_
 refine ID 1 p2 hw un ?_
 refine cP (vi ((p2.length:Nat):Int)) ?_
 refine s_ ?_
 refine j_ ?_
 refine mv (vi ((p2.length:Nat):Int)) ?_
 refine ic ((p2.length:Nat):Int) 0 ?_
 refine k_ ?_
 refine I0 (b:=((p2.length:Nat):Int)==0) rfl (λhc=>?_)<|λhc=>?_
 ·exfalso
  rw[c3]at hc
  exact absurd hc (by decide)
 refine Iu ?_
 refine mv (.slice a p0.length cap) ?_
 refine ID 0 p0 hw un ?_
 refine cP (vi ((p0.length:Nat):Int)) ?_
 refine s_ ?_
 refine j_ ?_
 refine mv (vi p1) ?_
 refine mv (vi ((p0.length:Nat):Int)) ?_
 refine ic p1 ((p0.length:Nat):Int) ?_
 refine k_ ?_
 refine I0 (b:=p1==((p0.length:Nat):Int)) rfl (λhc=>?_)<|λhc=>?_
 ·have e:p1=((p0.length:Nat):Int):=by simpa using hc
  have hq:p0++p2=l1:=by rw[<-hb,e,dJ,eR,List.drop_length,fP]
  have hw:=hw.freeze 1
  refine j_ ?_
  refine mv (.slice a p0.length cap) ?_
  refine mv (.slice (some ⟨xb,xo,none⟩) p2.length xc) ?_
  refine Iq (l':=l1) 0 1 trivial rfl hw rfl rfl rfl rfl el (by unfold app;rw[aG c4,hq]) λv w hw=>?_
  refine cP v ?_
  refine k_ ?_
  refine E_ ?_
  exact bD<|hw.pick 2 [0] (new:=[own 38 v l1]) rfl rfl (by decide) (by decide)
 have hlt:p1<((p0.length:Nat):Int):=by
  have:¬p1=((p0.length:Nat):Int):=by simpa using hc
  omega
 obtain⟨b,o,cap',hv,_,hcm⟩:=uo 0 hw rfl (by omega)
 injection hv with q1 q2 q3
 subst q1;subst q3
 have e1:wrap .i64 (((p0.length:Nat):Int)+((p2.length:Nat):Int))=((p0.length+1:Nat):Int):=by
  rw[c3,dL (by omega) (by omega)];omega
 refine Ii ?_
 refine j_ ?_
 refine mv (vi ((p0.length:Nat):Int)) ?_
 refine mv (vi ((p2.length:Nat):Int)) ?_
 refine A_ ((p0.length:Nat):Int) ((p2.length:Nat):Int) ?_
 refine mv (.slice (some ⟨b,o,none⟩) p0.length cap) ?_
 refine Kc trivial rfl rfl un ?_
 refine ic (wrap .i64<|((p0.length:Nat):Int)+((p2.length:Nat):Int)) ((cap:Nat):Int) ?_
 refine k_ ?_
 refine I0 (b:=decide<|wrap .i64 (((p0.length:Nat):Int)+((p2.length:Nat):Int))>((cap:Nat):Int)) rfl (λhc=>?_)<|λhc=>?_
 ·have hg:cap<p0.length+1:=by
   have:=of_decide_eq_true hc
   rw[e1]at this;omega
  have e2:wrap .i64 (wrap .i64 (((p0.length:Nat):Int)+((p2.length:Nat):Int)) - p1)=((p0.length+1 - Int.toNat p1:Nat):Int):=by
   rw[e1,dL (by omega) (by omega)];omega
  have e3:wrap .i64 (p1+((p2.length:Nat):Int))=((Int.toNat p1+1:Nat):Int):=by
   rw[c3,dL (by omega) (by omega)];omega
  have hs:Int.toNat p1+(p0.length+1 - Int.toNat p1)=p0.length+1:=by omega
  refine j_ ?_
  refine mv (.slice (some ⟨b,o,none⟩) p0.length cap) ?_
  refine mv (vi p1) ?_
  refine JK rfl rfl sl rfl c1 (by omega) ?_
  refine mv (vi ((p0.length:Nat):Int)) ?_
  refine mv (vi ((p2.length:Nat):Int)) ?_
  refine A_ ((p0.length:Nat):Int) ((p2.length:Nat):Int) ?_
  refine mv (vi p1) ?_
  refine A_ (wrap .i64<|((p0.length:Nat):Int)+((p2.length:Nat):Int)) p1 ?_
  refine Kd (i0:=Int.toNat p1) 0 p0 (p0.length+1 - Int.toNat p1) trivial rfl hw rfl (congrArg (Value.int .i64) e2) rfl el ui zd (by omega) (by omega) (by omega) (by rw[hs];rw[c3]at c4;exact c4) λb2 c2' w hc2 hw=>?_
  rw[hs]at hw hc2 ⊢
  have hl2:(p0.take (Int.toNat p1)++List.replicate (p0.length+1 - Int.toNat p1) z0).length=p0.length+1:=by rw[cL,bQ,kj];omega
  refine cP (.slice (some ⟨b2,0,none⟩) (p0.length+1) c2') ?_
  refine o_ ?_
  refine mv (.slice (some ⟨b2,0,none⟩) (p0.length+1) c2') ?_
  refine mv (vi p1) ?_
  refine IU _ rfl sl rfl c1 (by omega) (by omega) (by omega) ?_
  refine mv (.slice (some ⟨xb,xo,none⟩) p2.length xc) ?_
  refine Jc 0 (Int.toNat p1) p2 (p0.take (Int.toNat p1)++List.replicate (p0.length+1 - Int.toNat p1) z0) trivial rfl hw rfl rfl (by rw[hl2];rfl) el (by rw[c3];simp only[Nat.min_def];split <;> omega) (by rw[hl2];omega) (by rw[c3];omega) (λM hs gd=>sf 2 gd rfl) λw hw=>?_
  have hmx:Max.max (p0.take (Int.toNat p1)++List.replicate (p0.length+1 - Int.toNat p1) z0).length (Int.toNat p1+p2.length)=p0.length+1:=by rw[hl2,c3];omega
  rw[hmx]at hw
  have hl3:((p0.take (Int.toNat p1)++List.replicate (p0.length+1 - Int.toNat p1) z0).take (Int.toNat p1)++p2++(p0.take (Int.toNat p1)++List.replicate (p0.length+1 - Int.toNat p1) z0).drop (Int.toNat p1+p2.length)).length=p0.length+1:=by simp only[cL,bQ,dR,hl2,c3];omega
  have hdl:(p0.drop<|Int.toNat p1).length=p0.length - Int.toNat p1:=dR
  refine k_ ?_
  refine t_<|Jk mixed rfl (λ(D:Nat->Bool)(U:Nat->Value)(w:World)=>cK D U [(0,46,(.slice (some ⟨b2,0,none⟩) (p0.length+1) c2')),(1,47,vi p1),(2,48,vi ((p2.length:Nat):Int)),(3,49,vi<|wrap .i64<|p1+((p2.length:Nat):Int)),(4,50, .slice (some ⟨b2,0+(Int.toNat p1+1)*GT.sz α,none⟩) (p0.length+1 -(Int.toNat p1+1))<|c2' -(Int.toNat p1+1)),(5,51,(.slice (some ⟨b,o,none⟩) p0.length cap)),(6,52,vi p1),(7,53, .slice (some ⟨b,o+ Int.toNat p1*GT.sz α,none⟩) (p0.length - Int.toNat p1)<|cap - Int.toNat p1)]/\agree U [(0,(.slice (some ⟨b,o,none⟩) p0.length cap)),(1,vi p1),(7,vi ((p2.length:Nat):Int)),(9,(.slice (some ⟨b2,0,none⟩) (p0.length+1) c2'))]/\Holds E w (own 38 (.slice (some ⟨b2,0,none⟩) (p0.length+1) c2') (bif D 8 then((p0.take (Int.toNat p1)++List.replicate (p0.length+1 - Int.toNat p1) z0).take (Int.toNat p1)++p2++(p0.take (Int.toNat p1)++List.replicate (p0.length+1 - Int.toNat p1) z0).drop (Int.toNat p1+p2.length)).take (Int.toNat p1+1)++p0.drop (Int.toNat p1)++((p0.take (Int.toNat p1)++List.replicate (p0.length+1 - Int.toNat p1) z0).take (Int.toNat p1)++p2++(p0.take (Int.toNat p1)++List.replicate (p0.length+1 - Int.toNat p1) z0).drop (Int.toNat p1+p2.length)).drop (Int.toNat p1+1+(p0.drop<|Int.toNat p1).length)else(p0.take (Int.toNat p1)++List.replicate (p0.length+1 - Int.toNat p1) z0).take (Int.toNat p1)++p2++(p0.take (Int.toNat p1)++List.replicate (p0.length+1 - Int.toNat p1) z0).drop (Int.toNat p1+p2.length))::own 38 (.slice (some ⟨b,o,none⟩) p0.length cap) p0::own 38 (.slice (some ⟨xb,xo,none⟩) p2.length xc) p2::V)) ?_ ⟨?_,?_,?_,?_,?_,?_,?_,?_,?_,trivial⟩ ?_
  ·exact⟨cK.none,⟨rfl,rfl,rfl,rfl,trivial⟩,hw.drew⟩
  ·rintro D U w hD hdep hcl⟨hv,ha,hw⟩
   refine mv (hx:=ha.at 3 rfl) (.slice (some ⟨b2,0,none⟩) (p0.length+1) c2') ?_
   refine m_ ?_
   exact⟨rfl,hv.put 0 rfl rfl,ha.up rfl,hw⟩
  ·rintro D U w hD hdep hcl⟨hv,ha,hw⟩
   refine mv (hx:=ha.at 1 rfl) (vi p1) ?_
   refine m_ ?_
   exact⟨rfl,hv.put 1 rfl rfl,ha.up rfl,hw⟩
  ·rintro D U w hD hdep hcl⟨hv,ha,hw⟩
   refine mv (hx:=ha.at 2 rfl) (vi ((p2.length:Nat):Int)) ?_
   refine m_ ?_
   exact⟨rfl,hv.put 2 rfl rfl,ha.up rfl,hw⟩
  ·rintro D U w hD hdep hcl⟨hv,ha,hw⟩
   refine A_ (hx:=hv.at 1 rfl<|hdep.1 rfl) (hy:=hv.at 2 rfl<|hdep.2.1 rfl) p1 ((p2.length:Nat):Int) ?_
   refine m_ ?_
   exact⟨rfl,hv.put 3 rfl rfl,ha.up rfl,hw⟩
  ·rintro D U w hD hdep hcl⟨hv,ha,hw⟩
   refine IU ((Int.toNat p1+1:Nat):Int) (hv.at 0 rfl<|hdep.1 rfl) sl (congrArg some<|(hv.at 3 rfl<|hdep.2.1 rfl).trans<|congrArg (Value.int .i64) e3) (by omega) (by omega) (by omega) (by omega) ?_
   rw[dJ]
   refine m_ ?_
   exact⟨rfl,hv.put 4 rfl rfl,ha.up rfl,hw⟩
  ·rintro D U w hD hdep hcl⟨hv,ha,hw⟩
   refine mv (hx:=ha.at 0 rfl) (.slice (some ⟨b,o,none⟩) p0.length cap) ?_
   refine m_ ?_
   exact⟨rfl,hv.put 5 rfl rfl,ha.up rfl,hw⟩
  ·rintro D U w hD hdep hcl⟨hv,ha,hw⟩
   refine mv (hx:=ha.at 1 rfl) (vi p1) ?_
   refine m_ ?_
   exact⟨rfl,hv.put 6 rfl rfl,ha.up rfl,hw⟩
  ·rintro D U w hD hdep hcl⟨hv,ha,hw⟩
   refine IU _ (hv.at 5 rfl<|hdep.1 rfl) sl (congrArg some<|hv.at 6 rfl<|hdep.2.1 rfl) c1 (by omega) (by omega) (by omega) ?_
   refine m_ ?_
   exact⟨rfl,hv.put 7 rfl rfl,ha.up rfl,hw⟩
  ·rintro D U w hD hdep hcl⟨hv,ha,hw⟩
   rw[hD,bK]at hw
   refine Jc 0 (Int.toNat p1+1) (p0.drop<|Int.toNat p1) ((p0.take (Int.toNat p1)++List.replicate (p0.length+1 - Int.toNat p1) z0).take (Int.toNat p1)++p2++(p0.take (Int.toNat p1)++List.replicate (p0.length+1 - Int.toNat p1) z0).drop (Int.toNat p1+p2.length)) trivial rfl hw (hv.at 4 rfl<|hdep.1 rfl) (hv.at 7 rfl<|hdep.2.1 rfl) (by rw[hl3];rfl) el (by rw[hdl];simp only[Nat.min_def];split <;> omega) (by rw[hl3];omega) (by rw[hdl];omega) (λM hs gd=>sd 1 gd rfl (by omega)) λw hw=>?_
   have hmx:Max.max ((p0.take (Int.toNat p1)++List.replicate (p0.length+1 - Int.toNat p1) z0).take (Int.toNat p1)++p2++(p0.take (Int.toNat p1)++List.replicate (p0.length+1 - Int.toNat p1) z0).drop (Int.toNat p1+p2.length)).length (Int.toNat p1+1+(p0.drop<|Int.toNat p1).length)=p0.length+1:=by rw[hl3,hdl];omega
   rw[hmx]at hw
   refine m_ ?_
   exact⟨rfl,hv.up rfl,ha.up rfl,hw⟩
  intro D U w hall ⟨hv,ha,hw⟩
  rw[hall 8 (by decide),bL]at hw
  obtain⟨O,rfl⟩:=ha.qY
  refine aF ?_
  refine j_ ?_
  refine mv (.slice (some ⟨b2,0,none⟩) (p0.length+1) c2') ?_
  refine cP (.slice (some ⟨b2,0,none⟩) (p0.length+1) c2') ?_
  refine k_ ?_
  refine E_ ?_
  refine bD ?_
  have hq:(((p0.take (Int.toNat p1)++List.replicate (p0.length+1 - Int.toNat p1) z0).take (Int.toNat p1)++p2++(p0.take (Int.toNat p1)++List.replicate (p0.length+1 - Int.toNat p1) z0).drop (Int.toNat p1+p2.length)).take (Int.toNat p1+1)++p0.drop (Int.toNat p1)++((p0.take (Int.toNat p1)++List.replicate (p0.length+1 - Int.toNat p1) z0).take (Int.toNat p1)++p2++(p0.take (Int.toNat p1)++List.replicate (p0.length+1 - Int.toNat p1) z0).drop (Int.toNat p1+p2.length)).drop (Int.toNat p1+1+(p0.drop<|Int.toNat p1).length))=l1:=by
   rw[<-hb]
   exact v8 p0 p2 _ (Int.toNat p1) z0 c3 (by omega)<|bR _
  rw[hq]at hw
  exact hw.pick 3 [0] (new:=[own 38 (.slice (some ⟨b2,0,none⟩) (p0.length+1) c2') l1]) rfl rfl (by decide) (by decide)
 have hg:p0.length+1<=cap:=by
  have:=of_decide_eq_false hc
  rw[e1]at this;omega
 have e3:wrap .i64 (p1+((p2.length:Nat):Int))=((Int.toNat p1+1:Nat):Int):=by
  rw[c3,dL (by omega) (by omega)];omega
 refine Iu ?_
 refine mv (.slice (some ⟨b,o,none⟩) p0.length cap) ?_
 refine mv (vi ((p0.length:Nat):Int)) ?_
 refine mv (vi ((p2.length:Nat):Int)) ?_
 refine A_ ((p0.length:Nat):Int) ((p2.length:Nat):Int) ?_
 refine JK (hi:=((p0.length+1:Nat):Int)) rfl rfl sl (congrArg (λx=>some<|Value.int .i64 x) e1) (by omega) (by omega) ?_
 rw[dJ]
 refine cP (.slice (some ⟨b,o,none⟩) (p0.length+1) cap) ?_
 refine s_ ?_
 refine j_ ?_
 refine mv (.slice (some ⟨xb,xo,none⟩) p2.length xc) ?_
 refine mv (.slice (some ⟨b,o,none⟩) (p0.length+1) cap) ?_
 refine mv (vi p1) ?_
 refine mv (vi ((p2.length:Nat):Int)) ?_
 refine A_ p1 ((p2.length:Nat):Int) ?_
 refine IU ((Int.toNat p1+1:Nat):Int) rfl sl (congrArg (λx=>some<|Value.int .i64 x) e3) (by omega) (by omega) (by omega) (by omega) ?_
 rw[dJ]
 refine Jp (Value.bool false) rfl [(.slice (some ⟨xb,xo,none⟩) p2.length xc), .slice (some ⟨b,o+(Int.toNat p1+1)*GT.sz α,none⟩) (p0.length+1 -(Int.toNat p1+1))<|cap -(Int.toNat p1+1)] rfl (pP (Extern.SlicesOverlaps.overlaps #[44,44] #[4]) Tryz.func94<|v7 1 0 sl hw rfl rfl (by omega) (by omega)) ?_
 refine Iz false ?_
 refine k_ ?_
 refine Jl rfl ?_
 have hdl:(p0.drop<|Int.toNat p1).length=p0.length - Int.toNat p1:=dR
 refine t_<|Jk mixed rfl (λ(D:Nat->Bool)(U:Nat->Value)(w:World)=>cK D U [(0,69,(.slice (some ⟨b,o,none⟩) (p0.length+1) cap)),(1,70,vi p1),(2,71,vi ((p2.length:Nat):Int)),(3,72,vi<|wrap .i64<|p1+((p2.length:Nat):Int)),(4,73, .slice (some ⟨b,o+(Int.toNat p1+1)*GT.sz α,none⟩) (p0.length+1 -(Int.toNat p1+1))<|cap -(Int.toNat p1+1)),(5,74,(.slice (some ⟨b,o,none⟩) (p0.length+1) cap)),(6,75,vi p1),(7,76, .slice (some ⟨b,o+ Int.toNat p1*GT.sz α,none⟩) (p0.length+1 - Int.toNat p1)<|cap - Int.toNat p1)]/\agree U [(0,(.slice (some ⟨b,o,none⟩) (p0.length+1) cap)),(1,vi p1),(2,(.slice (some ⟨xb,xo,none⟩) p2.length xc)),(7,vi ((p2.length:Nat):Int))]/\Holds E w ((bif D 8 then own 38 (.slice (some ⟨b,o,none⟩) (p0.length+1) cap) (p0.take (Int.toNat p1+1)++p0.drop (Int.toNat p1)++p0.drop (Int.toNat p1+1+(p0.drop<|Int.toNat p1).length))else own 38 (.slice (some ⟨b,o,none⟩) p0.length cap) p0)::own 38 (.slice (some ⟨xb,xo,none⟩) p2.length xc) p2::V)) ?_ ⟨?_,?_,?_,?_,?_,?_,?_,?_,?_,trivial⟩ ?_
 ·exact⟨cK.none,⟨rfl,rfl,rfl,rfl,trivial⟩,hw.drew⟩
 ·rintro D U w hD hdep hcl⟨hv,ha,hw⟩
  refine mv (hx:=ha.at 0 rfl) (.slice (some ⟨b,o,none⟩) (p0.length+1) cap) ?_
  refine m_ ?_
  exact⟨rfl,hv.put 0 rfl rfl,ha.up rfl,hw⟩
 ·rintro D U w hD hdep hcl⟨hv,ha,hw⟩
  refine mv (hx:=ha.at 1 rfl) (vi p1) ?_
  refine m_ ?_
  exact⟨rfl,hv.put 1 rfl rfl,ha.up rfl,hw⟩
 ·rintro D U w hD hdep hcl⟨hv,ha,hw⟩
  refine mv (hx:=ha.at 3 rfl) (vi ((p2.length:Nat):Int)) ?_
  refine m_ ?_
  exact⟨rfl,hv.put 2 rfl rfl,ha.up rfl,hw⟩
 ·rintro D U w hD hdep hcl⟨hv,ha,hw⟩
  refine A_ (hx:=hv.at 1 rfl<|hdep.1 rfl) (hy:=hv.at 2 rfl<|hdep.2.1 rfl) p1 ((p2.length:Nat):Int) ?_
  refine m_ ?_
  exact⟨rfl,hv.put 3 rfl rfl,ha.up rfl,hw⟩
 ·rintro D U w hD hdep hcl⟨hv,ha,hw⟩
  refine IU ((Int.toNat p1+1:Nat):Int) (hv.at 0 rfl<|hdep.1 rfl) sl (congrArg some<|(hv.at 3 rfl<|hdep.2.1 rfl).trans<|congrArg (Value.int .i64) e3) (by omega) (by omega) (by omega) (by omega) ?_
  rw[dJ]
  refine m_ ?_
  exact⟨rfl,hv.put 4 rfl rfl,ha.up rfl,hw⟩
 ·rintro D U w hD hdep hcl⟨hv,ha,hw⟩
  refine mv (hx:=ha.at 0 rfl) (.slice (some ⟨b,o,none⟩) (p0.length+1) cap) ?_
  refine m_ ?_
  exact⟨rfl,hv.put 5 rfl rfl,ha.up rfl,hw⟩
 ·rintro D U w hD hdep hcl⟨hv,ha,hw⟩
  refine mv (hx:=ha.at 1 rfl) (vi p1) ?_
  refine m_ ?_
  exact⟨rfl,hv.put 6 rfl rfl,ha.up rfl,hw⟩
 ·rintro D U w hD hdep hcl⟨hv,ha,hw⟩
  refine IU _ (hv.at 5 rfl<|hdep.1 rfl) sl (congrArg some<|hv.at 6 rfl<|hdep.2.1 rfl) c1 (by omega) (by omega) (by omega) ?_
  refine m_ ?_
  exact⟨rfl,hv.put 7 rfl rfl,ha.up rfl,hw⟩
 ·rintro D U w hD hdep hcl⟨hv,ha,hw⟩
  rw[hD,bK]at hw
  refine Jc 0 (Int.toNat p1+1) (p0.drop<|Int.toNat p1) p0 trivial rfl hw (hv.at 4 rfl<|hdep.1 rfl) (hv.at 7 rfl<|hdep.2.1 rfl) rfl el (by rw[hdl];simp only[Nat.min_def];split <;> omega) (by omega) (by rw[hdl];omega) (λM hs gd=>sd 0 gd rfl (by omega)) λw hw=>?_
  have hmx:Max.max p0.length (Int.toNat p1+1+(p0.drop<|Int.toNat p1).length)=p0.length+1:=by rw[hdl];omega
  rw[hmx]at hw
  refine m_ ?_
  exact⟨rfl,hv.up rfl,ha.up rfl,hw⟩
 intro D U w hall ⟨hv,ha,hw⟩
 rw[hall 8 (by decide),bL]at hw
 have hl1:(p0.take (Int.toNat p1+1)++p0.drop (Int.toNat p1)++p0.drop (Int.toNat p1+1+(p0.drop<|Int.toNat p1).length)).length=p0.length+1:=by simp only[cL,bQ,dR];omega
 obtain⟨O,rfl⟩:=ha.qY
 refine aF ?_
 refine j_ ?_
 refine mv (.slice (some ⟨b,o,none⟩) (p0.length+1) cap) ?_
 refine mv (vi p1) ?_
 refine IU _ rfl sl rfl c1 (by omega) (by omega) (by omega) ?_
 refine mv (.slice (some ⟨xb,xo,none⟩) p2.length xc) ?_
 refine Jc 0 (Int.toNat p1) p2 (p0.take (Int.toNat p1+1)++p0.drop (Int.toNat p1)++p0.drop (Int.toNat p1+1+(p0.drop<|Int.toNat p1).length)) trivial rfl hw rfl rfl (by rw[hl1];rfl) el (by rw[c3];simp only[Nat.min_def];split <;> omega) (by rw[hl1];omega) (by rw[c3];omega) (λM hs gd=>sf 1 gd rfl) λw hw=>?_
 have hmx:Max.max (p0.take (Int.toNat p1+1)++p0.drop (Int.toNat p1)++p0.drop (Int.toNat p1+1+(p0.drop<|Int.toNat p1).length)).length (Int.toNat p1+p2.length)=p0.length+1:=by rw[hl1,c3];omega
 rw[hmx]at hw
 refine o_ ?_
 refine mv (.slice (some ⟨b,o,none⟩) (p0.length+1) cap) ?_
 refine cP (.slice (some ⟨b,o,none⟩) (p0.length+1) cap) ?_
 refine k_ ?_
 refine E_ ?_
 refine bD ?_
 have hq:((p0.take (Int.toNat p1+1)++p0.drop (Int.toNat p1)++p0.drop (Int.toNat p1+1+(p0.drop<|Int.toNat p1).length)).take (Int.toNat p1)++p2++(p0.take (Int.toNat p1+1)++p0.drop (Int.toNat p1)++p0.drop (Int.toNat p1+1+(p0.drop<|Int.toNat p1).length)).drop (Int.toNat p1+p2.length))=l1:=by
  rw[<-hb]
  exact uK p0 p2 (Int.toNat p1) c3 (by omega)
 rw[hq]at hw
 exact hw.pick 2 [0] (new:=[own 38 (.slice (some ⟨b,o,none⟩) (p0.length+1) cap) l1]) rfl rfl (by decide) (by decide)
theorem FR:fk bH 26:=fM Tryz.func26
theorem Et:fk bH 29:=fM Tryz.func29
theorem FT:fk bH 27:=fM Tryz.func27
theorem FU:fk bH 13:=fM Tryz.func13
theorem FV:fk bH 28:=fM Tryz.func28
theorem FW:fk bH 14:=fM Tryz.func14
theorem H4:Tryz.prog.underlying 4=some (.bool):=by kernel_rfl
theorem DX:tZ bH 84 3 38 Int RV nU:=⟨by kernel_rfl,r7.int Ab,r9 n_<|λM=>wP.2 rfl⟩
theorem Hi:tZ bH 84 3 38 Int (List Int) ([]:List Int):=⟨by kernel_rfl,r7.int Ab,r9 n_<|λM=>⟨_,rfl,⟨_,rfl,none,0,0,rfl,rfl,bR _,by simp[maxLen],λ_ _ h=>by simp at h⟩⟩⟩
theorem FX:fk bH 15:=fM Tryz.func15
theorem Dm:vx bH 35 [(0,1),(1,1)] #[(.string ⟨#[]⟩),(.string ⟨#[]⟩)]:=vx.of (.agg #[(.string ⟨#[]⟩),(.string ⟨#[]⟩)]) Tryz.underlying35
theorem A1:pK bH 30 35 2:=z7
theorem Dn:y8 bH 35 2:=z8<|.agg #[(.string ⟨#[]⟩),(.string ⟨#[]⟩)]
theorem Dp:rV bH 30 35 2 32:=rV.of<|.agg #[(.string ⟨#[]⟩),(.string ⟨#[]⟩)]
theorem FY:fk bH 31:=fM Tryz.func31
theorem Dq:fk bH 16:=fM Tryz.func16
theorem Eu:Tryz.prog.underlying 30=some (.slice 35):=by kernel_rfl
theorem FZ:lz bH 35 true 2:=t6
theorem F0:EG bH 35 aX:=⟨λM cs ds a b w ha hb=>by
  obtain⟨_,_,rfl,rfl,rfl⟩:=ha
  obtain⟨_,_,rfl,rfl,rfl⟩:=hb
  refine(nV 9999 Tryz.underlying35<|CR.cons (by decide) (jd gj rfl _) (jd gj rfl _) (mE td _ _ w)<|CR.cons (by decide) (jd gj rfl _) (jd gj rfl _) (mE td _ _ w) CR.nil).trans ?_
  congr 1
  cases a;cases b;unfold nu
  rw[iB]
  simp,by kernel_rfl⟩
theorem HR:fk bH 8:=fM Tryz.func8
theorem Hk:vx bH 60 [(0,1),(1,1),(2,1)] #[(.string ⟨#[]⟩),(.int .i64 0),(.int .i64 0)]:=vx.of (.agg #[(.string ⟨#[]⟩),(.int .i64 0),(.int .i64 0)]) Tryz.underlying60
theorem Hl:vx bH 63 [(0,1),(1,1)] #[(.string ⟨#[]⟩),n_]:=vx.of (.agg #[(.string ⟨#[]⟩),n_]) Tryz.underlying63
theorem Hm:vx bH 53 [(0,1),(1,1)] #[(.string ⟨#[]⟩),(.string ⟨#[]⟩)]:=vx.of (.agg #[(.string ⟨#[]⟩),(.string ⟨#[]⟩)]) Tryz.underlying53
theorem Hn:vx bH 26 [(0,1),(1,1)] #[n_,n_]:=vx.of (.agg #[n_,n_]) Tryz.underlying26
theorem F1:rV bH 54 67 2 32:=rV.of<|.agg #[(.string ⟨#[]⟩),(.string ⟨#[]⟩)]
def jq(E:World)(V:List HP)(res:aO)(v:Value)(w:World):Prop:=Holds E w<|[rd v res]++V
def cG(E:World)(V:List HP)(res:List Int)(v:Value)(w:World):Prop:=Holds E w<|[own 3 v res]++V
def nv(E:World)(V:List HP)(res:List aX×List aX×Int)(v:Value)(w:World):Prop:=∃u0 u1:Value,v = .tuple #[u0,u1,vi res.2.2]/\Holds E w ([own 35 u0 res.1,own 35 u1 res.2.1]++V)
def pj(E:World)(V:List HP)(res:Bool×Int)(v:Value)(w:World):Prop:=v = .tuple #[vb res.1,vi res.2]/\Holds E w V
def fF(E:World)(V:List HP)(res:List Int×Int)(v:Value)(w:World):Prop:=∃u0:Value,v = .tuple #[u0,vi res.2]/\Holds E w ([own 3 u0 res.1]++V)
def kn(E:World)(V:List HP)(res:List (List Int))(v:Value)(w:World):Prop:=Holds E w<|[own 38 v res]++V
def aC(E:World)(V:List HP)(res:Int)(v:Value)(w:World):Prop:=v= vi res/\Holds E w V
def aV(E:World)(V:List HP)(res:Bool)(v:Value)(w:World):Prop:=v= vb res/\Holds E w V
def cE(E:World)(V:List HP)(res:Int×Bool)(v:Value)(w:World):Prop:=v = .tuple #[vi res.1,vb res.2]/\Holds E w V
def eI(E:World)(V:List HP)(res:List aU)(v:Value)(w:World):Prop:=Holds E w<|[own 9 v res]++V
def n3(E:World)(V:List HP)(res:List cC)(v:Value)(w:World):Prop:=Holds E w<|[own 67 v res]++V
def uZ(H:Type)(d:DataW H):Nat:=YtfdnmjbbeolcdabGreatDoor.Rows.uptoBulk d
def F3(H:Type)(d:List (DataW H)):Nat:=YtfdnmjbbeolcdabGreatDoor.Rows.uptoBulkAll d
theorem iz:UB uZ F3 where
  str:=λH b=>by simp[uZ,YtfdnmjbbeolcdabGreatDoor.Rows.uptoBulk]
  pos:=λH d=>by
    unfold uZ
    cases d with
    |lit l=>cases l <;> simp[YtfdnmjbbeolcdabGreatDoor.Rows.uptoBulk]
    |nil=>simp[YtfdnmjbbeolcdabGreatDoor.Rows.uptoBulk]
    |ptr d=>simp[YtfdnmjbbeolcdabGreatDoor.Rows.uptoBulk]
    |slice elems spare=>simp[YtfdnmjbbeolcdabGreatDoor.Rows.uptoBulk]
    |agg parts=>simp[YtfdnmjbbeolcdabGreatDoor.Rows.uptoBulk]
    |iface t d=>simp[YtfdnmjbbeolcdabGreatDoor.Rows.uptoBulk]
    |map entries=>simp[YtfdnmjbbeolcdabGreatDoor.Rows.uptoBulk]
    |held h=>simp[YtfdnmjbbeolcdabGreatDoor.Rows.uptoBulk]
  sl:=λH e s=>by simp[uZ,F3,YtfdnmjbbeolcdabGreatDoor.Rows.uptoBulk]
  ag:=λH l=>by simp[uZ,F3,YtfdnmjbbeolcdabGreatDoor.Rows.uptoBulk]
  nil:=λH=>by simp[F3,YtfdnmjbbeolcdabGreatDoor.Rows.uptoBulkAll]
  cons:=λH x l=>by simp[uZ,F3,YtfdnmjbbeolcdabGreatDoor.Rows.uptoBulkAll]
theorem DY:iP uZ Tryz.prog 9 aU:=A5 iz (by kernel_rfl)
theorem HS:iP uZ Tryz.prog 3 Int:=A4 iz (by kernel_rfl)
theorem Hr:iP uZ Tryz.prog 60 bA:=jX iz (λ(x:bA)=>(x.Name,x.Kind,x.bC)) (λb=>⟨b.1,b.2.1,b.2.2⟩) (λb=>rfl) Tryz.underlying60 (jG iz DY<|jG iz HS<|mB iz HS) (λb=>by simp only[rD];omega)
theorem Hs:iP uZ Tryz.prog 61 (List bA):=lF (e:=60) iz Hr
theorem Ht:iP uZ Tryz.prog 63 aD:=jX iz (λ(x:aD)=>(x.Name,x.aQ)) (λb=>⟨b.1,b.2⟩) (λb=>rfl) Tryz.underlying63 (jG iz DY<|mB iz Hs) (λb=>by simp only[kH];omega)
theorem Hu:iP uZ Tryz.prog 22 (List aD):=lF (e:=63) iz Ht
theorem Hv:iP uZ Tryz.prog 53 Part:=jX iz (λ(x:Part)=>(x.Name,x.cM)) (λb=>⟨b.1,b.2⟩) (λb=>rfl) Tryz.underlying53 (jG iz DY<|mB iz DY) (λb=>by simp only[xp];omega)
theorem Hx:iP uZ Tryz.prog 23 (List Part):=lF (e:=53) iz Hv
theorem Hy:iP uZ Tryz.prog 67 cC:=jX iz (λ(x:cC)=>(x.Part,x.cC)) (λb=>⟨b.1,b.2⟩) (λb=>rfl) Tryz.underlying67 (jG iz DY<|mB iz DY) (λb=>by simp only[Ev];omega)
theorem Hz:iP uZ Tryz.prog 54 (List cC):=lF (e:=67) iz Hy
theorem HA:iP uZ Tryz.prog 55 (List aU):=lF (e:=9) iz DY
theorem HB:iP uZ Tryz.prog 57 Net:=jX iz (λ(x:Net)=>(x.Name,x.aQ,x.mh)) (λb=>⟨b.1,b.2.1,b.2.2⟩) (λb=>rfl) Tryz.underlying57 (jG iz DY<|jG iz Hz<|mB iz HA) (λb=>by simp only[tm];omega)
theorem HC:iP uZ Tryz.prog 24 (List Net):=lF (e:=57) iz HB
theorem F4:iP uZ Tryz.prog 26 aH:=jX iz (λ(x:aH)=>(x.aJ,x.aZ)) (λb=>⟨b.1,b.2⟩) (λb=>rfl) Tryz.underlying26 (jG iz Hx<|mB iz HC) (λb=>by simp only[mK];omega)
end Go.Gk
namespace Go.Proofs
open Go.Shelf Go.RowKit Go.Lib Go.Sort
def Tryz.lay74_ren : Go.Shelf.Ren := ⟨fun | 6 => 74 | 15 => 60 | 14 => 116 | 28 => 106 | 29 => 107 | 20 => 139 | 21 => 140 | 22 => 141 | 23 => 142 | 24 => 143 | 25 => 144 | 26 => 145 | 27 => 146 | 46 => 179 | 47 => 130 | 48 => 131 | 49 => 180 | 50 => 181 | 57 => 198 | n => n, fun | 22 => 55 | 24 => 9 | 25 => 95 | 3 => 3 | 39 => 115 | 0 => 0 | 53 => 154 | 55 => 156 | 4 => 4 | 46 => 147 | 45 => 146 | 50 => 89 | 5 => 5 | 9 => 9 | 66 => 173 | 70 => 177 | 76 => 205 | 77 => 206 | n => n, fun | n => n⟩
theorem Tryz.lay74 : Go.Proofs.SlLaysF.n6 Tryz.prog Tryz.lay74_ren := {
  mixed := by kernel_rfl
  f6 := ⟨Tryz.f74.name, by decide, Tryz.func74.trans (congrArg some (by kernel_rfl))⟩
  f14 := ⟨Tryz.f116.name, by decide, Tryz.func116.trans (congrArg some (by kernel_rfl))⟩
  f15 := Tryz.func60.trans (congrArg some (by kernel_rfl))
  f20 := ⟨Tryz.f139.name, by decide, Tryz.func139.trans (congrArg some (by kernel_rfl))⟩
  f21 := ⟨Tryz.f140.name, by decide, Tryz.func140.trans (congrArg some (by kernel_rfl))⟩
  f22 := ⟨Tryz.f141.name, by decide, Tryz.func141.trans (congrArg some (by kernel_rfl))⟩
  f23 := ⟨Tryz.f142.name, by decide, Tryz.func142.trans (congrArg some (by kernel_rfl))⟩
  f24 := ⟨Tryz.f143.name, by decide, Tryz.func143.trans (congrArg some (by kernel_rfl))⟩
  f25 := ⟨Tryz.f144.name, by decide, Tryz.func144.trans (congrArg some (by kernel_rfl))⟩
  f26 := ⟨Tryz.f145.name, by decide, Tryz.func145.trans (congrArg some (by kernel_rfl))⟩
  f27 := ⟨Tryz.f146.name, by decide, Tryz.func146.trans (congrArg some (by kernel_rfl))⟩
  f28 := Tryz.func106.trans (congrArg some (by kernel_rfl))
  f29 := Tryz.func107.trans (congrArg some (by kernel_rfl))
  f46 := ⟨Tryz.f179.name, by decide, Tryz.func179.trans (congrArg some (by kernel_rfl))⟩
  f47 := Tryz.func130.trans (congrArg some (by kernel_rfl))
  f48 := Tryz.func131.trans (congrArg some (by kernel_rfl))
  f49 := ⟨Tryz.f180.name, by decide, Tryz.func180.trans (congrArg some (by kernel_rfl))⟩
  f50 := ⟨Tryz.f181.name, by decide, Tryz.func181.trans (congrArg some (by kernel_rfl))⟩
  f57 := ⟨Tryz.f198.name, by decide, Tryz.func198.trans (congrArg some (by kernel_rfl))⟩
  t0 := Tryz.underlying0
  a0 := Tryz.isAgg0
  z0 := Tryz.sizeOf0
  v0 := Tryz.zeroValue0
  t3 := Tryz.underlying3
  a3 := Tryz.isAgg3
  z3 := Tryz.sizeOf3
  v3 := Tryz.zeroValue3
  t4 := Tryz.underlying4
  a4 := Tryz.isAgg4
  z4 := Tryz.sizeOf4
  v4 := Tryz.zeroValue4
  t5 := Tryz.underlying5
  a5 := Tryz.isAgg5
  z5 := Tryz.sizeOf5
  v5 := Tryz.zeroValue5
  t9 := Tryz.underlying9
  a9 := Tryz.isAgg9
  z9 := Tryz.sizeOf9
  v9 := Tryz.zeroValue9
  t22 := Tryz.underlying55
  a22 := Tryz.isAgg55
  z22 := Tryz.sizeOf55
  v22 := Tryz.zeroValue55
  a24 := Tryz.isAgg9
  z24 := Tryz.sizeOf9
  t25 := Tryz.underlying95
  a25 := Tryz.isAgg95
  z25 := Tryz.sizeOf95
  v25 := Tryz.zeroValue95
  t39 := Tryz.underlying115
  a39 := Tryz.isAgg115
  z39 := Tryz.sizeOf115
  v39 := Tryz.zeroValue115
  t45 := Tryz.underlying146
  a45 := Tryz.isAgg146
  z45 := Tryz.sizeOf146
  v45 := Tryz.zeroValue146
  t46 := Tryz.underlying147
  a46 := Tryz.isAgg147
  z46 := Tryz.sizeOf147
  v46 := Tryz.zeroValue147
  t50 := Tryz.underlying89
  a50 := Tryz.isAgg89
  z50 := Tryz.sizeOf89
  v50 := Tryz.zeroValue89
  t53 := Tryz.underlying154
  a53 := Tryz.isAgg154
  z53 := Tryz.sizeOf154
  v53 := Tryz.zeroValue154
  t55 := Tryz.underlying156
  a55 := Tryz.isAgg156
  z55 := Tryz.sizeOf156
  v55 := Tryz.zeroValue156
  t66 := Tryz.underlying173
  a66 := Tryz.isAgg173
  z66 := Tryz.sizeOf173
  v66 := Tryz.zeroValue173
  t70 := Tryz.underlying177
  a70 := Tryz.isAgg177
  z70 := Tryz.sizeOf177
  v70 := Tryz.zeroValue177
  t76 := Tryz.underlying205
  a76 := Tryz.isAgg205
  z76 := Tryz.sizeOf205
  v76 := Tryz.zeroValue205
  t77 := Tryz.underlying206
  a77 := Tryz.isAgg206
  z77 := Tryz.sizeOf206
  v77 := Tryz.zeroValue206 }
def Tryz.lay84_ren : Go.Shelf.Ren := ⟨fun | 6 => 84 | 15 => 60 | 14 => 119 | 28 => 106 | 29 => 107 | 20 => 155 | 21 => 156 | 22 => 157 | 23 => 158 | 24 => 159 | 25 => 160 | 26 => 161 | 27 => 162 | 46 => 185 | 47 => 130 | 48 => 131 | 49 => 186 | 50 => 187 | 57 => 200 | n => n, fun | 22 => 49 | 24 => 51 | 25 => 135 | 3 => 3 | 39 => 115 | 0 => 0 | 53 => 154 | 55 => 156 | 4 => 4 | 46 => 147 | 45 => 146 | 50 => 89 | 5 => 5 | 9 => 9 | 66 => 173 | 70 => 177 | 76 => 205 | 77 => 206 | n => n, fun | n => n⟩
theorem Tryz.lay84 : Go.Proofs.SlLaysF0.n6 Tryz.prog Tryz.lay84_ren := {
  mixed := by kernel_rfl
  f6 := ⟨Tryz.f84.name, by decide, Tryz.func84.trans (congrArg some (by kernel_rfl))⟩
  f14 := ⟨Tryz.f119.name, by decide, Tryz.func119.trans (congrArg some (by kernel_rfl))⟩
  f15 := Tryz.func60.trans (congrArg some (by kernel_rfl))
  f20 := ⟨Tryz.f155.name, by decide, Tryz.func155.trans (congrArg some (by kernel_rfl))⟩
  f21 := ⟨Tryz.f156.name, by decide, Tryz.func156.trans (congrArg some (by kernel_rfl))⟩
  f22 := ⟨Tryz.f157.name, by decide, Tryz.func157.trans (congrArg some (by kernel_rfl))⟩
  f23 := ⟨Tryz.f158.name, by decide, Tryz.func158.trans (congrArg some (by kernel_rfl))⟩
  f24 := ⟨Tryz.f159.name, by decide, Tryz.func159.trans (congrArg some (by kernel_rfl))⟩
  f25 := ⟨Tryz.f160.name, by decide, Tryz.func160.trans (congrArg some (by kernel_rfl))⟩
  f26 := ⟨Tryz.f161.name, by decide, Tryz.func161.trans (congrArg some (by kernel_rfl))⟩
  f27 := ⟨Tryz.f162.name, by decide, Tryz.func162.trans (congrArg some (by kernel_rfl))⟩
  f28 := Tryz.func106.trans (congrArg some (by kernel_rfl))
  f29 := Tryz.func107.trans (congrArg some (by kernel_rfl))
  f46 := ⟨Tryz.f185.name, by decide, Tryz.func185.trans (congrArg some (by kernel_rfl))⟩
  f47 := Tryz.func130.trans (congrArg some (by kernel_rfl))
  f48 := Tryz.func131.trans (congrArg some (by kernel_rfl))
  f49 := ⟨Tryz.f186.name, by decide, Tryz.func186.trans (congrArg some (by kernel_rfl))⟩
  f50 := ⟨Tryz.f187.name, by decide, Tryz.func187.trans (congrArg some (by kernel_rfl))⟩
  f57 := ⟨Tryz.f200.name, by decide, Tryz.func200.trans (congrArg some (by kernel_rfl))⟩
  t0 := Tryz.underlying0
  a0 := Tryz.isAgg0
  z0 := Tryz.sizeOf0
  v0 := Tryz.zeroValue0
  t3 := Tryz.underlying3
  a3 := Tryz.isAgg3
  z3 := Tryz.sizeOf3
  v3 := Tryz.zeroValue3
  t4 := Tryz.underlying4
  a4 := Tryz.isAgg4
  z4 := Tryz.sizeOf4
  v4 := Tryz.zeroValue4
  t5 := Tryz.underlying5
  a5 := Tryz.isAgg5
  z5 := Tryz.sizeOf5
  v5 := Tryz.zeroValue5
  t9 := Tryz.underlying9
  a9 := Tryz.isAgg9
  z9 := Tryz.sizeOf9
  v9 := Tryz.zeroValue9
  t22 := Tryz.underlying49
  a22 := Tryz.isAgg49
  z22 := Tryz.sizeOf49
  v22 := Tryz.zeroValue49
  t25 := Tryz.underlying135
  a25 := Tryz.isAgg135
  z25 := Tryz.sizeOf135
  v25 := Tryz.zeroValue135
  t39 := Tryz.underlying115
  a39 := Tryz.isAgg115
  z39 := Tryz.sizeOf115
  v39 := Tryz.zeroValue115
  t45 := Tryz.underlying146
  a45 := Tryz.isAgg146
  z45 := Tryz.sizeOf146
  v45 := Tryz.zeroValue146
  t46 := Tryz.underlying147
  a46 := Tryz.isAgg147
  z46 := Tryz.sizeOf147
  v46 := Tryz.zeroValue147
  t50 := Tryz.underlying89
  a50 := Tryz.isAgg89
  z50 := Tryz.sizeOf89
  v50 := Tryz.zeroValue89
  t53 := Tryz.underlying154
  a53 := Tryz.isAgg154
  z53 := Tryz.sizeOf154
  v53 := Tryz.zeroValue154
  t55 := Tryz.underlying156
  a55 := Tryz.isAgg156
  z55 := Tryz.sizeOf156
  v55 := Tryz.zeroValue156
  t66 := Tryz.underlying173
  a66 := Tryz.isAgg173
  z66 := Tryz.sizeOf173
  v66 := Tryz.zeroValue173
  t70 := Tryz.underlying177
  a70 := Tryz.isAgg177
  z70 := Tryz.sizeOf177
  v70 := Tryz.zeroValue177
  t76 := Tryz.underlying205
  a76 := Tryz.isAgg205
  z76 := Tryz.sizeOf205
  v76 := Tryz.zeroValue205
  t77 := Tryz.underlying206
  a77 := Tryz.isAgg206
  z77 := Tryz.sizeOf206
  v77 := Tryz.zeroValue206 }
def Tryz.lay80_ren : Go.Shelf.Ren := ⟨fun | 6 => 80 | 15 => 60 | 14 => 118 | 28 => 106 | 29 => 107 | 20 => 147 | 21 => 148 | 22 => 149 | 23 => 150 | 24 => 151 | 25 => 152 | 26 => 153 | 27 => 154 | 46 => 182 | 47 => 130 | 48 => 131 | 49 => 183 | 50 => 184 | 57 => 199 | n => n, fun | 22 => 44 | 24 => 38 | 25 => 99 | 3 => 3 | 39 => 115 | 0 => 0 | 53 => 154 | 55 => 156 | 4 => 4 | 46 => 147 | 45 => 146 | 50 => 89 | 5 => 5 | 9 => 9 | 66 => 173 | 70 => 177 | 76 => 205 | 77 => 206 | n => n, fun | n => n⟩
theorem Tryz.lay80 : Go.Proofs.SlLaysF.n6 Tryz.prog Tryz.lay80_ren := {
  mixed := by kernel_rfl
  f6 := ⟨Tryz.f80.name, by decide, Tryz.func80.trans (congrArg some (by kernel_rfl))⟩
  f14 := ⟨Tryz.f118.name, by decide, Tryz.func118.trans (congrArg some (by kernel_rfl))⟩
  f15 := Tryz.func60.trans (congrArg some (by kernel_rfl))
  f20 := ⟨Tryz.f147.name, by decide, Tryz.func147.trans (congrArg some (by kernel_rfl))⟩
  f21 := ⟨Tryz.f148.name, by decide, Tryz.func148.trans (congrArg some (by kernel_rfl))⟩
  f22 := ⟨Tryz.f149.name, by decide, Tryz.func149.trans (congrArg some (by kernel_rfl))⟩
  f23 := ⟨Tryz.f150.name, by decide, Tryz.func150.trans (congrArg some (by kernel_rfl))⟩
  f24 := ⟨Tryz.f151.name, by decide, Tryz.func151.trans (congrArg some (by kernel_rfl))⟩
  f25 := ⟨Tryz.f152.name, by decide, Tryz.func152.trans (congrArg some (by kernel_rfl))⟩
  f26 := ⟨Tryz.f153.name, by decide, Tryz.func153.trans (congrArg some (by kernel_rfl))⟩
  f27 := ⟨Tryz.f154.name, by decide, Tryz.func154.trans (congrArg some (by kernel_rfl))⟩
  f28 := Tryz.func106.trans (congrArg some (by kernel_rfl))
  f29 := Tryz.func107.trans (congrArg some (by kernel_rfl))
  f46 := ⟨Tryz.f182.name, by decide, Tryz.func182.trans (congrArg some (by kernel_rfl))⟩
  f47 := Tryz.func130.trans (congrArg some (by kernel_rfl))
  f48 := Tryz.func131.trans (congrArg some (by kernel_rfl))
  f49 := ⟨Tryz.f183.name, by decide, Tryz.func183.trans (congrArg some (by kernel_rfl))⟩
  f50 := ⟨Tryz.f184.name, by decide, Tryz.func184.trans (congrArg some (by kernel_rfl))⟩
  f57 := ⟨Tryz.f199.name, by decide, Tryz.func199.trans (congrArg some (by kernel_rfl))⟩
  t0 := Tryz.underlying0
  a0 := Tryz.isAgg0
  z0 := Tryz.sizeOf0
  v0 := Tryz.zeroValue0
  t3 := Tryz.underlying3
  a3 := Tryz.isAgg3
  z3 := Tryz.sizeOf3
  v3 := Tryz.zeroValue3
  t4 := Tryz.underlying4
  a4 := Tryz.isAgg4
  z4 := Tryz.sizeOf4
  v4 := Tryz.zeroValue4
  t5 := Tryz.underlying5
  a5 := Tryz.isAgg5
  z5 := Tryz.sizeOf5
  v5 := Tryz.zeroValue5
  t9 := Tryz.underlying9
  a9 := Tryz.isAgg9
  z9 := Tryz.sizeOf9
  v9 := Tryz.zeroValue9
  t22 := Tryz.underlying44
  a22 := Tryz.isAgg44
  z22 := Tryz.sizeOf44
  v22 := Tryz.zeroValue44
  a24 := Tryz.isAgg38
  z24 := Tryz.sizeOf38
  t25 := Tryz.underlying99
  a25 := Tryz.isAgg99
  z25 := Tryz.sizeOf99
  v25 := Tryz.zeroValue99
  t39 := Tryz.underlying115
  a39 := Tryz.isAgg115
  z39 := Tryz.sizeOf115
  v39 := Tryz.zeroValue115
  t45 := Tryz.underlying146
  a45 := Tryz.isAgg146
  z45 := Tryz.sizeOf146
  v45 := Tryz.zeroValue146
  t46 := Tryz.underlying147
  a46 := Tryz.isAgg147
  z46 := Tryz.sizeOf147
  v46 := Tryz.zeroValue147
  t50 := Tryz.underlying89
  a50 := Tryz.isAgg89
  z50 := Tryz.sizeOf89
  v50 := Tryz.zeroValue89
  t53 := Tryz.underlying154
  a53 := Tryz.isAgg154
  z53 := Tryz.sizeOf154
  v53 := Tryz.zeroValue154
  t55 := Tryz.underlying156
  a55 := Tryz.isAgg156
  z55 := Tryz.sizeOf156
  v55 := Tryz.zeroValue156
  t66 := Tryz.underlying173
  a66 := Tryz.isAgg173
  z66 := Tryz.sizeOf173
  v66 := Tryz.zeroValue173
  t70 := Tryz.underlying177
  a70 := Tryz.isAgg177
  z70 := Tryz.sizeOf177
  v70 := Tryz.zeroValue177
  t76 := Tryz.underlying205
  a76 := Tryz.isAgg205
  z76 := Tryz.sizeOf205
  v76 := Tryz.zeroValue205
  t77 := Tryz.underlying206
  a77 := Tryz.isAgg206
  z77 := Tryz.sizeOf206
  v77 := Tryz.zeroValue206 }
def Tryz.lay91_ren : Go.Shelf.Ren := ⟨fun | 6 => 91 | 8 => 60 | 9 => 125 | 19 => 106 | 20 => 107 | 21 => 167 | 22 => 168 | 23 => 169 | 24 => 170 | 25 => 171 | 26 => 172 | 27 => 173 | 28 => 174 | 29 => 175 | 36 => 193 | 31 => 130 | 32 => 131 | 37 => 194 | 38 => 195 | 39 => 196 | 41 => 205 | n => n, fun | 27 => 55 | 29 => 9 | 3 => 3 | 32 => 115 | 26 => 55 | 0 => 0 | 44 => 154 | 46 => 156 | 4 => 4 | 36 => 147 | 35 => 146 | 41 => 89 | 5 => 5 | 9 => 9 | 53 => 173 | 57 => 177 | 63 => 205 | 64 => 206 | n => n, fun | n => n⟩
theorem Tryz.lay91 : Go.Proofs.SlLaysM.n6 Tryz.prog Tryz.lay91_ren := {
  mixed := by kernel_rfl
  f6 := ⟨Tryz.f91.name, by decide, Tryz.func91.trans (congrArg some (by kernel_rfl))⟩
  f8 := Tryz.func60.trans (congrArg some (by kernel_rfl))
  f9 := ⟨Tryz.f125.name, by decide, Tryz.func125.trans (congrArg some (by kernel_rfl))⟩
  f19 := Tryz.func106.trans (congrArg some (by kernel_rfl))
  f20 := Tryz.func107.trans (congrArg some (by kernel_rfl))
  f21 := ⟨Tryz.f167.name, by decide, Tryz.func167.trans (congrArg some (by kernel_rfl))⟩
  f22 := ⟨Tryz.f168.name, by decide, Tryz.func168.trans (congrArg some (by kernel_rfl))⟩
  f23 := ⟨Tryz.f169.name, by decide, Tryz.func169.trans (congrArg some (by kernel_rfl))⟩
  f24 := ⟨Tryz.f170.name, by decide, Tryz.func170.trans (congrArg some (by kernel_rfl))⟩
  f25 := ⟨Tryz.f171.name, by decide, Tryz.func171.trans (congrArg some (by kernel_rfl))⟩
  f26 := ⟨Tryz.f172.name, by decide, Tryz.func172.trans (congrArg some (by kernel_rfl))⟩
  f27 := ⟨Tryz.f173.name, by decide, Tryz.func173.trans (congrArg some (by kernel_rfl))⟩
  f28 := ⟨Tryz.f174.name, by decide, Tryz.func174.trans (congrArg some (by kernel_rfl))⟩
  f29 := ⟨Tryz.f175.name, by decide, Tryz.func175.trans (congrArg some (by kernel_rfl))⟩
  f31 := Tryz.func130.trans (congrArg some (by kernel_rfl))
  f32 := Tryz.func131.trans (congrArg some (by kernel_rfl))
  f36 := ⟨Tryz.f193.name, by decide, Tryz.func193.trans (congrArg some (by kernel_rfl))⟩
  f37 := ⟨Tryz.f194.name, by decide, Tryz.func194.trans (congrArg some (by kernel_rfl))⟩
  f38 := ⟨Tryz.f195.name, by decide, Tryz.func195.trans (congrArg some (by kernel_rfl))⟩
  f39 := ⟨Tryz.f196.name, by decide, Tryz.func196.trans (congrArg some (by kernel_rfl))⟩
  f41 := ⟨Tryz.f205.name, by decide, Tryz.func205.trans (congrArg some (by kernel_rfl))⟩
  t0 := Tryz.underlying0
  a0 := Tryz.isAgg0
  z0 := Tryz.sizeOf0
  v0 := Tryz.zeroValue0
  t3 := Tryz.underlying3
  a3 := Tryz.isAgg3
  z3 := Tryz.sizeOf3
  v3 := Tryz.zeroValue3
  t4 := Tryz.underlying4
  a4 := Tryz.isAgg4
  z4 := Tryz.sizeOf4
  v4 := Tryz.zeroValue4
  t5 := Tryz.underlying5
  a5 := Tryz.isAgg5
  z5 := Tryz.sizeOf5
  v5 := Tryz.zeroValue5
  t9 := Tryz.underlying9
  a9 := Tryz.isAgg9
  z9 := Tryz.sizeOf9
  v9 := Tryz.zeroValue9
  t26 := Tryz.underlying55
  a26 := Tryz.isAgg55
  z26 := Tryz.sizeOf55
  v26 := Tryz.zeroValue55
  t27 := Tryz.underlying55
  a27 := Tryz.isAgg55
  z27 := Tryz.sizeOf55
  v27 := Tryz.zeroValue55
  t29 := Tryz.underlying9
  a29 := Tryz.isAgg9
  z29 := Tryz.sizeOf9
  v29 := Tryz.zeroValue9
  t32 := Tryz.underlying115
  a32 := Tryz.isAgg115
  z32 := Tryz.sizeOf115
  v32 := Tryz.zeroValue115
  t35 := Tryz.underlying146
  a35 := Tryz.isAgg146
  z35 := Tryz.sizeOf146
  v35 := Tryz.zeroValue146
  t36 := Tryz.underlying147
  a36 := Tryz.isAgg147
  z36 := Tryz.sizeOf147
  v36 := Tryz.zeroValue147
  t41 := Tryz.underlying89
  a41 := Tryz.isAgg89
  z41 := Tryz.sizeOf89
  v41 := Tryz.zeroValue89
  t44 := Tryz.underlying154
  a44 := Tryz.isAgg154
  z44 := Tryz.sizeOf154
  v44 := Tryz.zeroValue154
  t46 := Tryz.underlying156
  a46 := Tryz.isAgg156
  z46 := Tryz.sizeOf156
  v46 := Tryz.zeroValue156
  t53 := Tryz.underlying173
  a53 := Tryz.isAgg173
  z53 := Tryz.sizeOf173
  v53 := Tryz.zeroValue173
  t57 := Tryz.underlying177
  a57 := Tryz.isAgg177
  z57 := Tryz.sizeOf177
  v57 := Tryz.zeroValue177
  t63 := Tryz.underlying205
  a63 := Tryz.isAgg205
  z63 := Tryz.sizeOf205
  v63 := Tryz.zeroValue205
  t64 := Tryz.underlying206
  a64 := Tryz.isAgg206
  z64 := Tryz.sizeOf206
  v64 := Tryz.zeroValue206 }
def Tryz.lay29_ren : Go.Shelf.Ren := ⟨fun | 5 => 29 | 8 => 60 | 7 => 59 | 19 => 106 | 20 => 107 | 10 => 97 | 11 => 98 | 12 => 99 | 13 => 100 | 14 => 101 | 15 => 102 | 16 => 103 | 17 => 104 | 18 => 105 | 30 => 129 | 31 => 130 | 32 => 131 | 33 => 132 | 34 => 133 | 35 => 120 | 40 => 178 | n => n, fun | 23 => 38 | 25 => 3 | 3 => 3 | 32 => 115 | 22 => 38 | 0 => 0 | 44 => 154 | 46 => 156 | 4 => 4 | 36 => 147 | 35 => 146 | 41 => 89 | 5 => 5 | 9 => 9 | 53 => 173 | 57 => 177 | 63 => 205 | 64 => 206 | n => n, fun | n => n⟩
theorem Tryz.lay29 : Go.Proofs.SlLaysM.n5 Tryz.prog Tryz.lay29_ren := {
  mixed := by kernel_rfl
  f5 := ⟨Tryz.f29.name, by decide, Tryz.func29.trans (congrArg some (by kernel_rfl))⟩
  f7 := ⟨Tryz.f59.name, by decide, Tryz.func59.trans (congrArg some (by kernel_rfl))⟩
  f8 := Tryz.func60.trans (congrArg some (by kernel_rfl))
  f10 := ⟨Tryz.f97.name, by decide, Tryz.func97.trans (congrArg some (by kernel_rfl))⟩
  f11 := ⟨Tryz.f98.name, by decide, Tryz.func98.trans (congrArg some (by kernel_rfl))⟩
  f12 := ⟨Tryz.f99.name, by decide, Tryz.func99.trans (congrArg some (by kernel_rfl))⟩
  f13 := ⟨Tryz.f100.name, by decide, Tryz.func100.trans (congrArg some (by kernel_rfl))⟩
  f14 := ⟨Tryz.f101.name, by decide, Tryz.func101.trans (congrArg some (by kernel_rfl))⟩
  f15 := ⟨Tryz.f102.name, by decide, Tryz.func102.trans (congrArg some (by kernel_rfl))⟩
  f16 := ⟨Tryz.f103.name, by decide, Tryz.func103.trans (congrArg some (by kernel_rfl))⟩
  f17 := ⟨Tryz.f104.name, by decide, Tryz.func104.trans (congrArg some (by kernel_rfl))⟩
  f18 := ⟨Tryz.f105.name, by decide, Tryz.func105.trans (congrArg some (by kernel_rfl))⟩
  f19 := Tryz.func106.trans (congrArg some (by kernel_rfl))
  f20 := Tryz.func107.trans (congrArg some (by kernel_rfl))
  f30 := ⟨Tryz.f129.name, by decide, Tryz.func129.trans (congrArg some (by kernel_rfl))⟩
  f31 := Tryz.func130.trans (congrArg some (by kernel_rfl))
  f32 := Tryz.func131.trans (congrArg some (by kernel_rfl))
  f33 := ⟨Tryz.f132.name, by decide, Tryz.func132.trans (congrArg some (by kernel_rfl))⟩
  f34 := ⟨Tryz.f133.name, by decide, Tryz.func133.trans (congrArg some (by kernel_rfl))⟩
  f35 := ⟨Tryz.f120.name, by decide, Tryz.func120.trans (congrArg some (by kernel_rfl))⟩
  f40 := ⟨Tryz.f178.name, by decide, Tryz.func178.trans (congrArg some (by kernel_rfl))⟩
  t0 := Tryz.underlying0
  a0 := Tryz.isAgg0
  z0 := Tryz.sizeOf0
  v0 := Tryz.zeroValue0
  t3 := Tryz.underlying3
  a3 := Tryz.isAgg3
  z3 := Tryz.sizeOf3
  v3 := Tryz.zeroValue3
  t4 := Tryz.underlying4
  a4 := Tryz.isAgg4
  z4 := Tryz.sizeOf4
  v4 := Tryz.zeroValue4
  t5 := Tryz.underlying5
  a5 := Tryz.isAgg5
  z5 := Tryz.sizeOf5
  v5 := Tryz.zeroValue5
  t9 := Tryz.underlying9
  a9 := Tryz.isAgg9
  z9 := Tryz.sizeOf9
  v9 := Tryz.zeroValue9
  t22 := Tryz.underlying38
  a22 := Tryz.isAgg38
  z22 := Tryz.sizeOf38
  v22 := Tryz.zeroValue38
  t23 := Tryz.underlying38
  a23 := Tryz.isAgg38
  z23 := Tryz.sizeOf38
  v23 := Tryz.zeroValue38
  t25 := Tryz.underlying3
  a25 := Tryz.isAgg3
  z25 := Tryz.sizeOf3
  v25 := Tryz.zeroValue3
  t32 := Tryz.underlying115
  a32 := Tryz.isAgg115
  z32 := Tryz.sizeOf115
  v32 := Tryz.zeroValue115
  t35 := Tryz.underlying146
  a35 := Tryz.isAgg146
  z35 := Tryz.sizeOf146
  v35 := Tryz.zeroValue146
  t36 := Tryz.underlying147
  a36 := Tryz.isAgg147
  z36 := Tryz.sizeOf147
  v36 := Tryz.zeroValue147
  t41 := Tryz.underlying89
  a41 := Tryz.isAgg89
  z41 := Tryz.sizeOf89
  v41 := Tryz.zeroValue89
  t44 := Tryz.underlying154
  a44 := Tryz.isAgg154
  z44 := Tryz.sizeOf154
  v44 := Tryz.zeroValue154
  t46 := Tryz.underlying156
  a46 := Tryz.isAgg156
  z46 := Tryz.sizeOf156
  v46 := Tryz.zeroValue156
  t53 := Tryz.underlying173
  a53 := Tryz.isAgg173
  z53 := Tryz.sizeOf173
  v53 := Tryz.zeroValue173
  t57 := Tryz.underlying177
  a57 := Tryz.isAgg177
  z57 := Tryz.sizeOf177
  v57 := Tryz.zeroValue177
  t63 := Tryz.underlying205
  a63 := Tryz.isAgg205
  z63 := Tryz.sizeOf205
  v63 := Tryz.zeroValue205
  t64 := Tryz.underlying206
  a64 := Tryz.isAgg206
  z64 := Tryz.sizeOf206
  v64 := Tryz.zeroValue206 }
end Go.Proofs
namespace Go.Gk
open Go IntKind Go.Proofs
variable (N:Nat){E w:World}{i0 i1 i2:Nat}{p1 p2 p3 res:Int}{v0 v1 v2:Value}{V:List HP}
theorem kh{p0:aU}(o:Holds E w V)(j:fI N p0 p1=some res):c_ 166 [str p0,(.int .u8 p1)] w<|aC E V res:=by
 unfold fI at j;refine enter Tryz.func166 zr zr<|j_<|aI 0<|o_<|mv (str p0)<|mv (.int .u8 p1)<|Jp (vi<|Lib.indexByte p0.bX (Int.toNat p1).toUInt8) zr [str p0,(.int .u8 p1)] zr (Gl p0 p1 w)<|aI (Lib.indexByte p0.bX (Int.toNat p1).toUInt8)<|k_ ?_;exact w_<|oi j▸bD ⟨rfl,o.drop 0⟩
theorem lV{p0:aU}(o:Holds E w V)(j:fx N p0 p1=some res):c_ 123 [str p0,(.int .u8 p1)] w<|aC E V res:=by
 unfold fx at j;exact enter Tryz.func123 zr zr<|j_<|aI 0<|o_<|mv (str p0)<|mv (.int .u8 p1)<|q_ j λaa ab j=>v_ DQ (kh N (p0:=p0) (p1:=p1) o ab) λw o=>aI aa<|k_<|w_<|oi j▸bD ⟨rfl,o.drop 0⟩
theorem k9{p0:aU}{res:Bool}(hw:Holds E w V)(o:gL N p0=some res):c_ 108 [str p0] w<|aV E V res:=by
 unfold gL at o;refine enter Tryz.func108 zr zr<|j_<|bW false<|s_<|j_<|mv (str p0)<|IV p0 td<|aW 0<|k_<|Iw E V (λ(ag:Unit)=>[]) (λ_=>[(0,str p0)]) (λad _=>[(6,vi p0.bX.length),(7,vi ad)]) (λr=>iH bH 49 Tryz.f108 (aV E V r) .ret) o ?_ ?_ ?_ ?_;exact hw.sp 0 [];rintro hm ad ag fl _ w hk⟨O,rfl,hw⟩o;refine t_<|AT<|aW (ad:Int)<|aI (ad:Int)<|o_<|mv (str p0)<|aW (ad:Int)<|q_ o λj ak o=>JC p0 (ad:Int) j zr zr zr td ak<|cP (.int .u8 (j.toNat:Int))<|s_ ?_;refine q_ o λaf hj o=>H_ (λ(af:Bool)=>SH E V [(0,str p0),(6,vi p0.bX.length),(7,vi ad),(39,vb af)] []) af ?_ ?_;refine r_<|mv (.int .u8 (j.toNat:Int))<|ic ((j.toNat:Int)) 65<|j3 (decide<|(j.toNat:Int)<65)<|Ik (.int .u8 (j.toNat:Int)) zr zr uq<|Ik (vb<|decide<|(j.toNat:Int)>90) zr zr (xJ .gtr)<|IE (b:=decide<|(j.toNat:Int)<65) (v:=vb<|decide ((j.toNat:Int)<65)||decide ((j.toNat:Int)>90)) zt zr zr (uz true zr)<|j3 (decide ((j.toNat:Int)<65)||decide ((j.toNat:Int)>90))<|Ik (.int .u8 (j.toNat:Int)) zr zr uq ?_;refine Ik (vb<|decide<|(j.toNat:Int)<97) zr zr (xJ .lss)<|Ik (vb<|decide<|(j.toNat:Int)<97) zr zr uq<|IY (.int .u8 (j.toNat:Int)) zr zr uq<|IY (vb<|decide<|(j.toNat:Int)>122) zr zr (xJ .gtr)<|Ik (vb<|decide ((j.toNat:Int)<97)||decide ((j.toNat:Int)>122)) zr zr F7<|IE (b:=decide ((j.toNat:Int)<65)||decide ((j.toNat:Int)>90)) (v:=vb<|(decide ((j.toNat:Int)<65)||decide ((j.toNat:Int)>90))&&(decide ((j.toNat:Int)<97)||decide ((j.toNat:Int)>122))) zt zr zr (mD true)<|j3 ((decide ((j.toNat:Int)<65)||decide ((j.toNat:Int)>90))&&(decide ((j.toNat:Int)<97)||decide ((j.toNat:Int)>122)))<|Ik (.int .u8 (j.toNat:Int)) zr zr uq<|Ik (vb<|decide<|(j.toNat:Int)<48) zr zr (xJ .lss) ?_;refine Ik (vb<|decide<|(j.toNat:Int)<48) zr zr uq<|IY (.int .u8 (j.toNat:Int)) zr zr uq<|IY (vb<|decide<|(j.toNat:Int)>57) zr zr (xJ .gtr)<|Ik (vb<|decide ((j.toNat:Int)<48)||decide ((j.toNat:Int)>57)) zr zr F7<|IE (b:=(decide ((j.toNat:Int)<65)||decide ((j.toNat:Int)>90))&&(decide ((j.toNat:Int)<97)||decide ((j.toNat:Int)>122))) (v:=vb<|((decide ((j.toNat:Int)<65)||decide ((j.toNat:Int)>90))&&(decide ((j.toNat:Int)<97)||decide ((j.toNat:Int)>122)))&&(decide ((j.toNat:Int)<48)||decide ((j.toNat:Int)>57))) zt zr zr (mD true)<|j3 (((decide ((j.toNat:Int)<65)||decide ((j.toNat:Int)>90))&&(decide ((j.toNat:Int)<97)||decide ((j.toNat:Int)>122)))&&(decide ((j.toNat:Int)<48)||decide ((j.toNat:Int)>57)))<|iT hj (λab hj=>?_) λab hj=>?_;refine AI (.int .u8 (j.toNat:Int)) (cg ab)<|q_ hj λah al hj=>v_ (hg:=cg ab) DR (lV N (p0:=⟨[95,43,45,35]⟩) (p1:=(j.toNat:Int)) hw al) λw hw=>IF ah 0 (cg ab)<|iL ab (vb<|decide<|ah<0)<|m_ ?_;exact oi hj▸⟨rfl,hw.sp 0 []⟩;exact bT ab<|bT ab<|bT ab<|iL ab (vb false)<|m_<|oi hj▸⟨rfl,hw.sp 0 []⟩;rintro _ w⟨O,rfl,hw⟩;refine aF<|ek o (λo=>?_) λo=>?_;exact j_<|bW false<|k_<|F_<|aN<|oi o▸⟨rfl,bD ⟨rfl,hw.drop 0⟩⟩;exact Ic<|bG<|aF<|r_<|C_ hk hm<|aW ((ad+1:Nat):Int)<|m_<|oi o▸⟨rfl,hw.sp 0 []⟩;intro r U w o hK;exact aN<|oi o▸hK;rintro ag _ w o⟨O,rfl,hw⟩;refine aF<|j_<|mv (str p0)<|IV p0 td<|ic ((p0.bX.length:Int)) 1<|j3 (decide<|(p0.bX.length:Int)>=1)<|Ik (str p0) rfl rfl uq<|IG true (decide<|(p0.bX.length:Int)>=1) (vi p0.bX.length) rfl rfl rfl (C0 (s:=p0) rfl (by exact z_ (str p0)) td)<|Ik (vb<|decide<|(p0.bX.length:Int)<=40) rfl rfl (xJ .leq) ?_;exact IE (b:=decide<|(p0.bX.length:Int)>=1) (v:=vb<|decide ((p0.bX.length:Int)>=1)&&decide ((p0.bX.length:Int)<=40)) zt zr zr (mD true)<|bW (decide ((p0.bX.length:Int)>=1)&&decide ((p0.bX.length:Int)<=40))<|k_<|w_<|oi o▸bD ⟨rfl,hw.drop 0⟩
theorem n8{p0 p1:bA}{res:Bool}(j:Holds E w V)(h0:V[i0]? =some (rd v0 p0))(h1:V[i1]? =some (pt v1 p1))(hb:eE N p0 p1=some res):c_ 135 [v0,v1] w<|aV E V res:=by
 unfold eE at hb;refine enter Tryz.func135 zr zr ?_;have j:=(j.dup (i0+0) h0).s6 (i:=i1+1) h1;refine j_<|Ia 1 v0 j zr λaf w j=>?_;refine bW false<|s_<|q_ hb λae hj hb=>H_ (λ(ae:Bool)=>SH E V [(3,vb ae)] []) ae ?_ ?_;refine r_<|It 1 j zr kZ ez λag j=>G_ p1.bC 0 j iy<|ic p1.bC 0<|j3 (decide<|p1.bC>0)<|iT hj (λo hj=>?_) λo hj=>?_;refine p_ (hg:=cg o) zr kZ<|By (hg:=cg o) 1 j zr ez iy<|It (hg:=cg o) 2 j zr kZ ez λah j=>G_ (hg:=cg o) p1.bC 0 j iy<|IF p0.bC p1.bC (cg o)<|iL o (vb<|p0.bC==p1.bC)<|j3 (p0.bC==p1.bC)<|iT hj (λaa hj=>?_) λaa hj=>?_;refine p_ (hg:=cg aa) zr ru<|By (hg:=cg aa) 2 j zr iZ iy<|It (hg:=cg aa) 3 j zr ru iZ λai j=>G_ (hg:=cg aa) p1.Kind 0 j iy<|IF p0.Kind p1.Kind (cg aa)<|iL aa (vb<|p0.Kind != p1.Kind)<|bW (p0.Kind != p1.Kind)<|m_ ?_;exact oi hj▸⟨rfl,j.sp 6 []⟩;exact bT aa<|bT aa<|bT aa<|bT aa<|bT aa<|iL aa (vb false)<|bW false<|m_<|oi hj▸⟨rfl,j.sp 5 []⟩;refine bT o<|bT o<|bT o<|bT o<|bT o<|iL o (vb false)<|j3 false<|zj<|zj<|zj<|zj<|zj<|IE (b:=false) (v:=vb false) zt zr zr zr<|bW false<|m_ ?_;exact oi hj▸⟨rfl,j.sp 4 []⟩;rintro _ w⟨O,rfl,j⟩;exact aF<|w_<|oi hb▸bD ⟨rfl,j.drop 0⟩
theorem jv{p0:List bA}{p1:bA->Option Bool}(o:Holds E w V)(h0:V[i0]? =some (rd v0 p0))(h1:CQ bH E V v1 p1 (λ(r:Bool)=>Value.bool r))(j:eU N p0 p1=some res):c_ 71 [v0,v1] w<|aC E V res:=by
 unfold eU at j;refine enter Tryz.func71 zr zr ?_;have o:=o.dup (i0+0) h0;refine j_<|aI 0<|s_<|j_<|mv v0<|x_ 0 p0 o rr<|aW 0<|k_<|Iw E V (λ(ab:Unit)=>[rd v0 p0]) (λ_=>[]) (λaa _=>[(0,v0),(1,v1),(7,vi p0.length),(8,vi aa)]) (λr=>iH bH 19 Tryz.f71 (aC E V r) .ret) j ?_ ?_ ?_ ?_;exact o.sp 1 [0];rintro hm aa ab fl _ w hk⟨O,rfl,o⟩j;refine t_<|AT<|aW (aa:Int)<|aI (aa:Int)<|o_<|mv v1<|mv v0<|aW (aa:Int)<|q_ j λaf ag j=>u_ 0 o nG ag λak o=>y_ 0 af o nH λal o=>?_;refine q_ j λan ah j=>JD 0 zr o zr h1 3 zr zr zr ah λw o=>k_<|ek j (λj=>?_) λj=>?_;exact j_<|aW (aa:Int)<|aI (aa:Int)<|k_<|F_<|aN<|oi j▸⟨rfl,bD ⟨rfl,o.drop 3⟩⟩;exact Ic<|bG<|aF<|r_<|C_ hk hm<|aW ((aa+1:Nat):Int)<|m_<|oi j▸⟨rfl,o.sp 3 [2]⟩;intro r U w j hK;exact aN<|oi j▸hK;rintro ab _ w j⟨O,rfl,o⟩;exact aF<|j_<|aI (-1)<|k_<|w_<|oi j▸bD ⟨rfl,o.drop 1⟩
theorem lG{p0:List bA}{p1:bA->Option Bool}{res:Bool}(j:Holds E w V)(h0:V[i0]? =some (rd v0 p0))(h1:CQ bH E V v1 p1 (λ(r:Bool)=>Value.bool r))(o:fj N p0 p1=some res):c_ 134 [v0,v1] w<|aV E V res:=by
 unfold fj at o;refine enter Tryz.func134 zr zr ?_;have j:=j.dup (i0+0) h0;refine j_<|bW false<|o_<|mv v0<|mv v1<|q_ o λaa ab o=>v_ E3 (jv N (i0:=0) j zr (h1.lift 1 zr) ab) λw j=>ic aa 0<|bW (decide<|aa>=0)<|k_<|w_ ?_;exact oi o▸bD ⟨rfl,j.drop 1⟩
def mi(E:World)(V:List HP)(r:Int)(U:Nat->Value)(w:World):Prop:=iH bH 71 Tryz.f109 (aC E V r) .ret U w
theorem qa{p0:List bA}(j:Holds E w V)(h0:V[i0]? =some (rd v0 p0))(o:hZ N p0=some res):c_ 109 [v0] w<|aC E V res:=by
 unfold hZ at o;refine enter Tryz.func109 zr zr ?_;have j:=j.dup (i0+0) h0;refine j_<|aI 0<|s_<|j_<|mv v0<|x_ 0 p0 j rr<|ic ((p0.length:Int)) 0<|k_<|ek o (λo=>?_) λo=>?_;exact j_<|aI 9<|k_<|E_<|oi o▸bD ⟨rfl,j.drop 1⟩;refine Ii<|j_<|mv v0<|x_ 0 p0 j rr<|ic ((p0.length:Int)) 200<|k_<|ek o (λo=>?_) λo=>?_;exact j_<|aI 2<|k_<|E_<|oi o▸bD ⟨rfl,j.drop 1⟩;refine Ii<|j_<|mv v0<|x_ 0 p0 j rr<|aW 0<|k_<|Iw E V (λ(an:Unit)=>[rd v0 p0]) (λ_=>[(0,v0)]) (λad _=>[(13,v0),(14,vi p0.length),(15,vi ad)]) (mi E V) o ?_ ?_ ?_ ?_;exact j.sp 1 [0];rintro hm ad an fl _ w hk⟨O,rfl,j⟩o;refine t_<|AT<|aW (ad:Int)<|q_ o λaa av o=>u_ 0 j nG av λa2 j=>y_ 0 aa j nH λa3 j=>Ie j vG.z λaf w j=>?_;refine aI (ad:Int)<|Ib 0 j 1 zr nH λw j=>?_;refine k_<|AT<|p_ zr l7<|By 0 j zr eX gj<|q_ o λao aw o=>v_ Cb (k9 N (p0:=aa.Name) j aw) λw j=>Iz ao<|bW (!ao)<|k_<|ek o (λo=>?_) λo=>?_;exact j_<|aI 5<|k_<|F_<|dZ<|aN<|oi o▸⟨rfl,bD ⟨rfl,j.drop 4⟩⟩;refine j_<|p_ rfl ru<|By 0 j rfl iZ iy<|ic aa.Kind 1<|j3 (decide<|aa.Kind<1)<|IG true (decide<|aa.Kind<1) (vp af 1) rfl rfl rfl (lK ru)<|IG true (decide<|aa.Kind<1) (vi aa.Kind) rfl rfl rfl (gA 0 rfl j (by exact z_ (vp af 1)) rfl iZ iy)<|Ik (vb<|decide<|aa.Kind>7) rfl rfl (xJ .gtr)<|IE (b:=decide<|aa.Kind<1) (v:=vb<|decide (aa.Kind<1)||decide (aa.Kind>7)) trivial rfl rfl (uz true rfl) ?_;refine bW (decide (aa.Kind<1)||decide (aa.Kind>7))<|k_<|ek o (λo=>?_) λo=>?_;exact j_<|aI 4<|k_<|F_<|dZ<|aN<|oi o▸⟨rfl,bD ⟨rfl,j.drop 4⟩⟩;refine j_<|p_ rfl kZ<|By 0 j rfl ez iy<|ic aa.bC 0<|j3 (decide<|aa.bC<0)<|IG true (decide<|aa.bC<0) (vp af 2) rfl rfl rfl (lK kZ)<|IG true (decide<|aa.bC<0) (vi aa.bC) rfl rfl rfl (gA 0 rfl j (by exact z_ (vp af 2)) rfl ez iy)<|Ik (vb<|decide<|aa.bC>200) rfl rfl (xJ .gtr)<|IE (b:=decide<|aa.bC<0) (v:=vb<|decide (aa.bC<0)||decide (aa.bC>200)) trivial rfl rfl (uz true rfl) ?_;refine bW (decide (aa.bC<0)||decide (aa.bC>200))<|k_<|ek o (λo=>?_) λo=>?_;exact j_<|aI 1<|k_<|F_<|dZ<|aN<|oi o▸⟨rfl,bD ⟨rfl,j.drop 4⟩⟩;refine t_<|q_ o λak hj o=>H_ (λ(ak:Bool)=>SH E V [(0,v0),(13,v0),(14,vi p0.length),(15,vi ad),(43,vb ak)] [rd v0 p0]) ak ?_ ?_;refine IK mixed ?_;have j:=j.drew;refine IJ<|aW (ad:Int)<|l_<|ic ((ad:Int)) 0<|l_<|j3 (decide<|(ad:Int)>0)<|iT hj (λab hj=>?_) λab hj=>?_;refine l_<|p_ (hg:=cg ab) zr l7<|l_<|By (hg:=cg ab) 0 j zr eX gj<|l_<|AI v0 (cg ab)<|l_<|AI (vi ad) (cg ab)<|l_<|A_ (hg:=cg ab) (ad:Int) 1<|l_ ?_;refine q_ hj λag ax hj=>u_ (hg:=cg ab) 3 j nG ax λa4 j=>l_<|It (hg:=cg ab) 0 j zr l7 eX λa5 j=>l_<|G_ (hg:=cg ab) ag.Name 0 j gj<|l_<|IN aa.Name ag.Name (cg ab)<|l_<|iL ab (vb<|aa.Name.lQ ag.Name||aa.Name.jQ ag.Name)<|l_<|bW (aa.Name.lQ ag.Name||aa.Name.jQ ag.Name)<|Iv ?_;exact oi hj▸⟨rfl,j.sp 6 [5]⟩;refine l_<|bT ab<|l_<|bT ab<|l_<|bT ab<|l_<|bT ab<|l_<|bT ab<|l_<|bT ab<|l_<|bT ab<|l_<|bT ab<|l_<|bT ab ?_;exact l_<|iL ab (vb false)<|l_<|bW false<|Iv<|oi hj▸⟨rfl,j.sp 4 [3]⟩;rintro _ w⟨O,rfl,j⟩;refine aF<|ek o (λo=>?_) λo=>?_;exact j_<|aI 8<|k_<|F_<|dZ<|aN<|oi o▸⟨rfl,bD ⟨rfl,j.drop 1⟩⟩;exact Ic<|bG<|bG<|aF<|r_<|C_ hk hm<|aW ((ad+1:Nat):Int)<|m_<|oi o▸⟨rfl,j.sp 1 [0]⟩;intro r U w o hK;exact aN<|oi o▸hK;rintro an _ w o⟨O,rfl,j⟩;refine aF<|t_<|j_<|mv v0<|x_ 0 p0 j rr<|aW 0<|k_<|Iw E V (λ(aq:Unit)=>[rd v0 p0]) (λ_=>[]) (λah _=>[(0,v0),(58,v0),(59,vi p0.length),(60,vi ah)]) (mi E V) o ?_ ?_ ?_ ?_;exact j.sp 1 [0];rintro hm ah aq fl _ w hk⟨O,rfl,j⟩o;refine t_<|AT<|aW (ah:Int)<|q_ o λay az o=>u_ 0 j nG az λa6 j=>y_ 0 ay j nH λa7 j=>Ie j vG.z λar w j=>?_;refine aI (ah:Int)<|Ib 0 j 1 zr nH λw j=>?_;refine o_<|mv v0<|aW (ah:Int)<|q_ o λa8 a0 o=>JF 3 zt zr j zr zr nG (.inr ⟨rfl,zr⟩) a0 λa9 j=>?_;have j:=j.kD (i:=1) rfl;refine Js zr [vp ar 0] zr ?_;refine q_ o λba a1 o=>v_ (fM Tryz.func134) (lG N (i0:=0) j rfl ⟨135,[vp ar 0],rfl,(fM Tryz.func135),λw Γl v y0 r i j hi hr=>by exact eZ (n8 N (i0:=i) (i1:=Γl.length+1) j hi sY hr) λ_ _ h=>h⟩ a1) λw j=>k_<|ek o (λo=>?_) λo=>?_;exact j_<|aI 12<|k_<|F_<|aN<|oi o▸⟨rfl,bD ⟨rfl,j.drop 5⟩⟩;exact Ic<|bG<|aF<|r_<|C_ hk hm<|aW ((ah+1:Nat):Int)<|m_<|oi o▸⟨rfl,j.sp 5 [4]⟩;intro r U w o hK;exact aN<|oi o▸hK;rintro aq _ w o⟨O,rfl,j⟩;exact aF<|j_<|aI 0<|k_<|w_<|oi o▸bD ⟨rfl,j.drop 1⟩
theorem pB{p0:List aD}(j:Holds E w V)(h0:V[i0]? =some (rd v0 p0))(o:gM N p0=some res):c_ 61 [v0] w<|aC E V res:=by
 unfold gM at o;refine enter Tryz.func61 zr zr ?_;have j:=j.dup (i0+0) h0;refine j_<|aI 0<|s_<|j_<|mv v0<|x_ 0 p0 j AU<|ic ((p0.length:Int)) 200<|k_<|ek o (λo=>?_) λo=>?_;exact j_<|aI 2<|k_<|E_<|oi o▸bD ⟨rfl,j.drop 1⟩;refine Ii<|j_<|mv v0<|x_ 0 p0 j AU<|aW 0<|k_<|Iw E V (λ(ai:Unit)=>[rd v0 p0]) (λ_=>[]) (λab _=>[(0,v0),(9,v0),(10,vi p0.length),(11,vi ab)]) (λr=>iH bH 40 Tryz.f61 (aC E V r) .ret) o ?_ ?_ ?_ ?_;exact j.sp 1 [0];rintro hm ab ai fl _ w hk⟨O,rfl,j⟩o;refine t_<|AT<|aW (ab:Int)<|q_ o λae al o=>u_ 0 j sC al λaw j=>y_ 0 ae j m9 λax j=>Ie j zo.z λay w j=>?_;refine aI (ab:Int)<|Ib 0 j 1 zr m9 λw j=>?_;refine s_<|j_<|p_ zr pZ<|By 0 j zr gC gj<|q_ o λan ao o=>v_ Cb (k9 N (p0:=ae.Name) j ao) λw j=>Iz an<|k_<|ek o (λo=>?_) λo=>?_;exact j_<|aI 5<|k_<|E_<|dZ<|aN<|oi o▸⟨rfl,bD ⟨rfl,j.drop 4⟩⟩;refine Ii<|j_<|p_ zr jE<|AS 0 j zr cR p4 λaz j=>?_;refine q_ o λaf aq o=>v_ (fM Tryz.func109) (qa N (i0:=0) j zr aq) λw j=>aI af<|o_<|aW af<|ic af 0<|k_<|ek o (λo=>?_) λo=>?_;exact j_<|aW af<|aI af<|k_<|E_<|dZ<|aN<|oi o▸⟨rfl,bD ⟨rfl,j.drop 5⟩⟩;refine Ii<|q_ o λah hj o=>H_ (λ(ah:Bool)=>SH E V [(0,v0),(9,v0),(10,vi p0.length),(11,vi ab),(38,vb ah)] [rd v0 p0]) ah ?_ ?_;refine IK mixed ?_;have j:=j.drew;refine IJ<|aW (ab:Int)<|l_<|ic ((ab:Int)) 0<|l_<|j3 (decide<|(ab:Int)>0)<|iT hj (λaa hj=>?_) λaa hj=>?_;refine l_<|p_ (hg:=cg aa) zr pZ<|l_<|By (hg:=cg aa) 1 j zr gC gj<|l_<|AI v0 (cg aa)<|l_<|AI (vi ab) (cg aa)<|l_<|A_ (hg:=cg aa) (ab:Int) 1<|l_ ?_;refine q_ hj λag ar hj=>u_ (hg:=cg aa) 4 j sC ar λa0 j=>l_<|It (hg:=cg aa) 0 j zr pZ gC λa1 j=>l_<|G_ (hg:=cg aa) ag.Name 0 j gj<|l_<|IN ae.Name ag.Name (cg aa)<|l_<|iL aa (vb<|ae.Name.lQ ag.Name||ae.Name.jQ ag.Name)<|Iv ?_;exact oi hj▸⟨rfl,j.sp 7 [6]⟩;refine l_<|bT aa<|l_<|bT aa<|l_<|bT aa<|l_<|bT aa<|l_<|bT aa<|l_<|bT aa<|l_<|bT aa<|l_<|bT aa<|l_<|bT aa ?_;exact l_<|iL aa (vb false)<|Iv<|oi hj▸⟨rfl,j.sp 5 [4]⟩;rintro _ w⟨O,rfl,j⟩;refine aF<|ek o (λo=>?_) λo=>?_;exact j_<|aI 8<|k_<|F_<|aN<|oi o▸⟨rfl,bD ⟨rfl,j.drop 1⟩⟩;exact Ic<|bG<|aF<|r_<|C_ hk hm<|aW ((ab+1:Nat):Int)<|m_<|oi o▸⟨rfl,j.sp 1 [0]⟩;intro r U w o hK;exact aN<|oi o▸hK;rintro ai _ w o⟨O,rfl,j⟩;exact aF<|j_<|aI 0<|k_<|w_<|oi o▸bD ⟨rfl,j.drop 1⟩
theorem i4{p0:List aD}{p1:aU}{p2:aD->aU->Option Int}{res:Int×Bool}(o:Holds E w V)(h0:V[i0]? =some (rd v0 p0))(h2:BM bH E V v2 p2 (λ(r:Int)=>Value.int .i64 r))(hb:cZ N p0 p1 p2=some res):c_ 68 [v0,str p1,v2] w<|cE E V res:=by
 unfold cZ at hb;refine enter Tryz.func68 zr zr ?_;have o:=o.dup (i0+0) h0;refine j_<|aI 0<|bW false<|o_<|mv v0<|x_ 0 p0 o AU<|aI (p0.length:Int)<|o_<|aW (p0.length:Int)<|aI 0<|aI (p0.length:Int)<|s_<|IX E V (λ(j:Int×Int)=>[rd v0 p0]) (λj=>[(0,v0),(1,str p1),(2,v2),(8,vi p0.length),(9,vi j.1)]) (λj=>[(10,vi j.2)]) hb ?_ ?_ ?_;exact o.sp 1 [0];rintro j fl _ w⟨O,rfl,o⟩hb;refine t_<|j_<|aW j.1<|aW j.2<|ic j.1 j.2<|k_<|ek hb (λhb=>?_) λhb=>?_;refine IP<|AT<|aW j.1<|aW j.2<|A_ j.1 j.2<|I7 (wrap .i64<|j.1+j.2) ⟨_,Ab⟩ q7<|Jj (.int .u64<|wrap .u64<|wrap .i64<|j.1+j.2) (.int .u64 1) (.int .u64<|Int.fdiv (wrap .u64<|wrap .i64<|j.1+j.2) 2) zt zr zr zr<|I7 (Int.fdiv (wrap .u64<|wrap .i64<|j.1+j.2) 2) ⟨_,q7⟩ Ab<|aI (wrap .i64<|Int.fdiv (wrap .u64<|wrap .i64<|j.1+j.2) 2) ?_;refine o_<|mv v2<|mv v0<|aW (wrap .i64<|Int.fdiv (wrap .u64<|wrap .i64<|j.1+j.2) 2)<|q_ hb λah ai hb=>u_ 0 o sC ai λar o=>y_ 0 ah o m9 λau o=>mv (str p1) ?_;have o:=o.sc aU p1;refine q_ hb λaj ak hb=>IS 1 0 o h2 4 ak λw o=>ic aj 0<|k_<|q_ hb λae hj hb=>H_ (λ(ae:Int×Int)=>SH E V [(0,v0),(1,str p1),(2,v2),(8,vi p0.length),(9,vi ae.1),(10,vi ae.2)] [rd v0 p0]) ae ?_ ?_;refine ek hj (λhj=>?_) λhj=>?_;refine r_<|aW (wrap .i64<|Int.fdiv (wrap .u64<|wrap .i64<|j.1+j.2) 2)<|A_ (wrap .i64<|Int.fdiv (wrap .u64<|wrap .i64<|j.1+j.2) 2) 1<|aI (wrap .i64<|wrap .i64 (Int.fdiv (wrap .u64<|wrap .i64<|j.1+j.2) 2)+1)<|m_ ?_;exact oi hj▸⟨rfl,o.sp 4 [3]⟩;refine r_<|aW (wrap .i64<|Int.fdiv (wrap .u64<|wrap .i64<|j.1+j.2) 2)<|aI (wrap .i64<|Int.fdiv (wrap .u64<|wrap .i64<|j.1+j.2) 2)<|m_ ?_;exact oi hj▸⟨rfl,o.sp 4 [3]⟩;rintro _ w⟨O,rfl,o⟩;exact bG<|oi hb▸⟨rfl,o.sp 1 [0]⟩;exact IC<|oi hb▸⟨rfl,o.sp 1 [0]⟩;rintro j _ w hb⟨O,rfl,o⟩;refine aF<|t_<|q_ hb λaf hj hb=>H_ (λ(af:Bool)=>SH E V [(6,vi j.1),(7,vb af)] []) af ?_ ?_;refine r_<|aW j.1<|aW j.1<|aW (p0.length:Int)<|ic j.1 ((p0.length:Int))<|j3 (decide<|j.1<(p0.length:Int))<|iT hj (λaa hj=>?_) λaa hj=>?_;refine AI v2 (cg aa)<|AI v0 (cg aa)<|AI (vi j.1) (cg aa)<|q_ hj λal an hj=>u_ (hg:=cg aa) 0 o sC an λav o=>y_ (hg:=cg aa) 0 al o m9 λaw o=>AI (str p1) (cg aa) ?_;have o:=o.sc aU p1;refine q_ hj λag ao hj=>IS (hg:=cg aa) 1 0 o h2 4 ao λw o=>IF ag 0 (cg aa)<|iL aa (vb<|ag==0)<|aI j.1<|bW (ag==0)<|m_ ?_;exact oi hj▸⟨rfl,o.sp 4 []⟩;refine bT aa<|bT aa<|bT aa<|bT aa<|bT aa<|bT aa<|bT aa<|bT aa<|iL aa (vb false)<|aI j.1<|bW false<|m_ ?_;exact oi hj▸⟨rfl,o.sp 1 []⟩;rintro _ w⟨O,rfl,o⟩;exact aF<|w_<|oi hb▸qK ⟨rfl,o.drop 0⟩
theorem nL{p0 p1:aU}(o:Holds E w V)(j:jo N p0 p1=some res):c_ 78 [str p0,str p1] w<|aC E V res:=by
 unfold jo at j;refine enter Tryz.func78 zr zr<|j_<|aI 0<|o_<|mv (str p0)<|mv (str p1)<|Jp (vi<|Lib.compareBytes p0.bX p1.bX) zr [str p0,str p1] zr (AJ p0 p1 w)<|aI (Lib.compareBytes p0.bX p1.bX)<|k_ ?_;exact w_<|oi j▸bD ⟨rfl,o.drop 0⟩
theorem eJ{p0 p1:aU}(o:Holds E w V)(j:ej N p0 p1=some res):c_ 39 [str p0,str p1] w<|aC E V res:=by
 unfold ej at j;exact enter Tryz.func39 zr zr<|j_<|aI 0<|o_<|mv (str p0)<|mv (str p1)<|q_ j λaa ab j=>v_ (fM Tryz.func78) (nL N (p0:=p0) (p1:=p1) o ab) λw o=>aI aa<|k_<|w_<|oi j▸bD ⟨rfl,o.drop 0⟩
theorem qc{p0:aD}{p1:aU}(j:Holds E w V)(h0:V[i0]? =some (rd v0 p0))(o:fY N p0 p1=some res):c_ 69 [v0,str p1] w<|aC E V res:=by
 unfold fY at o;refine enter Tryz.func69 zr zr ?_;have j:=j.dup (i0+0) h0;refine j_<|Ia 0 v0 j zr λad w j=>?_;exact aI 0<|o_<|p_ zr pZ<|By 0 j zr gC gj<|mv (str p1)<|q_ o λaa ab o=>v_ yp (eJ N (p0:=p0.Name) (p1:=p1) j ab) λw j=>aI aa<|k_<|w_<|oi o▸bD ⟨rfl,j.drop 2⟩
theorem jw{p0:List aD}{p1:aU}(hw:Holds E w V)(h0:V[i0]? =some (rd v0 p0))(hb:fS N p0 p1=some res):c_ 36 [v0,str p1] w<|aC E V res:=by
 unfold fS at hb;refine enter Tryz.func36 zr zr ?_;have hw:=hw.dup (i0+0) h0;refine j_<|aI 0<|o_<|mv v0<|mv (str p1) ?_;refine q_ hb λo ad hb=>v_ (fM Tryz.func68) (i4 N (p1:=p1) (i0:=0) hw rfl ⟨69,[],rfl,(fM Tryz.func69),λw Γl v v' y0 y1 r i j hw hi hj hr=>by obtain rfl:=hw.pM (γ:=aU) hj;exact eZ (qc N (p1:=y1) (i0:=i) hw hi hr) λ_ _ h=>h⟩ ad) λw hw=>mv (.tuple #[vi o.1,vb o.2])<|Ih (vi o.1)<|Ih (vb o.2)<|aI o.1<|bW o.2<|s_<|j_<|j3 o.2 ?_;refine Iz o.2<|k_<|ek hb (λhb=>?_) λhb=>?_;exact j_<|aI (-1)<|k_<|E_<|oi hb▸bD ⟨rfl,hw.drop 1⟩;exact Iu<|aW o.1<|aI o.1<|k_<|w_<|oi hb▸bD ⟨rfl,hw.drop 1⟩
theorem pC{p0:List aD}{p1:List Part}{p2:aU->Option Bool}(j:Holds E w V)(h0:V[i0]? =some (rd v0 p0))(h1:V[i1]? =some (rd v1 p1))(h2:CQ bH E V v2 p2 (λ(r:Bool)=>Value.bool r))(o:gO N p0 p1 p2=some res):c_ 62 [v0,v1,v2] w<|aC E V res:=by
 unfold gO at o;refine enter Tryz.func62 zr zr ?_;have j:=(j.dup (i0+0) h0).dup (i1+1) h1;refine j_<|aI 0<|s_<|j_<|mv v1<|x_ 0 p1 j ry<|ic ((p1.length:Int)) 1000<|k_<|ek o (λo=>?_) λo=>?_;exact j_<|aI 2<|k_<|E_<|oi o▸bD ⟨rfl,j.drop 2⟩;refine Ii<|j_<|mv v1<|x_ 0 p1 j ry<|aW 0<|k_<|Iw E V (λ(ah:Unit)=>[rd v0 p0,rd v1 p1]) (λ_=>[]) (λab _=>[(0,v0),(1,v1),(2,v2),(12,v1),(13,vi p1.length),(14,vi ab)]) (λr=>iH bH 46 Tryz.f62 (aC E V r) .ret) o ?_ ?_ ?_ ?_;exact j.sp 2 [1,0];rintro hm ab ah fl _ w hk⟨O,rfl,j⟩o;refine t_<|AT<|aW (ab:Int)<|q_ o λad an o=>u_ 1 j n2 an λaw j=>y_ 0 ad j nI λax j=>Ie j vH.z λay w j=>?_;refine aI (ab:Int)<|Ib 0 j 1 zr nI λw j=>?_;refine k_<|AT<|mv v2<|p_ zr kp<|By 0 j zr fN gj ?_;have j:=j.sc aU ad.Name;refine q_ o λai ao o=>JD 0 zr j zr h2 6 zr zr zr ao λw j=>Iz ai<|bW (!ai)<|k_<|ek o (λo=>?_) λo=>?_;exact j_<|aI 5<|k_<|F_<|dZ<|aN<|oi o▸⟨rfl,bD ⟨rfl,j.drop 6⟩⟩;refine j_<|mv v0<|p_ zr mJ<|By 1 j zr iM gj<|q_ o λaj aq o=>v_ Dh (jw N (p1:=ad.cM) (i0:=4) j zr aq) λw j=>ic aj 0<|bW (decide<|aj<0)<|k_<|ek o (λo=>?_) λo=>?_;exact j_<|aI 9<|k_<|F_<|dZ<|aN<|oi o▸⟨rfl,bD ⟨rfl,j.drop 6⟩⟩;refine t_<|q_ o λag hj o=>H_ (λ(ag:Bool)=>SH E V [(0,v0),(1,v1),(2,v2),(12,v1),(13,vi p1.length),(14,vi ab),(31,vb ag)] [rd v0 p0,rd v1 p1]) ag ?_ ?_;refine IK mixed ?_;have j:=j.drew;refine IJ<|aW (ab:Int)<|l_<|ic ((ab:Int)) 0<|l_<|j3 (decide<|(ab:Int)>0)<|iT hj (λaa hj=>?_) λaa hj=>?_;refine l_<|p_ (hg:=cg aa) zr kp<|l_<|By (hg:=cg aa) 1 j zr fN gj<|l_<|AI v1 (cg aa)<|l_<|AI (vi ab) (cg aa)<|l_<|A_ (hg:=cg aa) (ab:Int) 1<|l_ ?_;refine q_ hj λaf ar hj=>u_ (hg:=cg aa) 5 j n2 ar λaz j=>l_<|It (hg:=cg aa) 0 j zr kp fN λa0 j=>l_<|G_ (hg:=cg aa) af.Name 0 j gj<|l_<|IN ad.Name af.Name (cg aa)<|l_<|iL aa (vb<|ad.Name.lQ af.Name||ad.Name.jQ af.Name)<|l_<|bW (ad.Name.lQ af.Name||ad.Name.jQ af.Name)<|Iv ?_;exact oi hj▸⟨rfl,j.sp 8 [6,7]⟩;refine l_<|bT aa<|l_<|bT aa<|l_<|bT aa<|l_<|bT aa<|l_<|bT aa<|l_<|bT aa<|l_<|bT aa<|l_<|bT aa<|l_<|bT aa ?_;exact l_<|iL aa (vb false)<|l_<|bW false<|Iv<|oi hj▸⟨rfl,j.sp 6 [4,5]⟩;rintro _ w⟨O,rfl,j⟩;refine aF<|ek o (λo=>?_) λo=>?_;exact j_<|aI 8<|k_<|F_<|dZ<|aN<|oi o▸⟨rfl,bD ⟨rfl,j.drop 2⟩⟩;exact Ic<|bG<|bG<|aF<|r_<|C_ hk hm<|aW ((ab+1:Nat):Int)<|m_<|oi o▸⟨rfl,j.sp 2 [0,1]⟩;intro r U w o hK;exact aN<|oi o▸hK;rintro ah _ w o⟨O,rfl,j⟩;exact aF<|j_<|aI 0<|k_<|w_<|oi o▸bD ⟨rfl,j.drop 2⟩
theorem qe{p0 p1:aU}(o:Holds E w V)(j:ia N p0 p1=some res):c_ 191 [str p0,str p1] w<|aC E V res:=by
 unfold ia at j;refine enter Tryz.func191 zr zr<|j_<|aI 0<|o_<|mv (str p1)<|IV p1 td<|aI (p1.bX.length:Int)<|s_<|AT<|aW (p1.bX.length:Int)<|ic ((p1.bX.length:Int)) 0<|j3 ((p1.bX.length:Int)==0)<|Ik (str p1) zr zr uq<|Ik (str p0) zr zr uq<|Ik (vb<|p1.jQ p0) zr zr (Gj .eql)<|IE (b:=(p1.bX.length:Int)==0) (v:=vb<|((p1.bX.length:Int)==0)||p1.jQ p0) zt zr zr (uz true zr)<|bW (((p1.bX.length:Int)==0)||p1.jQ p0)<|k_ ?_;refine ek j (λj=>?_) λj=>?_;exact j_<|aI 0<|k_<|F_<|aN<|oi j▸bD ⟨rfl,o.drop 0⟩;refine j_<|aW (p1.bX.length:Int)<|ic ((p1.bX.length:Int)) 1<|bW ((p1.bX.length:Int)==1)<|k_<|ek j (λj=>?_) λj=>?_;exact j_<|mv (str p0)<|mv (str p1)<|q_ j λaa ab j=>JC p1 0 aa zr zr zr td ab<|q_ j λad ae j=>v_ DQ (kh N (p0:=p0) (p1:=(aa.toNat:Int)) o ae) λw o=>aI ad<|k_<|F_<|aN<|oi j▸bD ⟨rfl,o.drop 0⟩;refine j_<|aW (p1.bX.length:Int)<|mv (str p0)<|IV p0 td<|ic ((p1.bX.length:Int)) ((p0.bX.length:Int))<|bW (decide<|(p1.bX.length:Int)>=(p0.bX.length:Int))<|k_<|ek j (λj=>?_) λj=>?_;exact j_<|aI (-1)<|k_<|F_<|aN<|oi j▸bD ⟨rfl,o.drop 0⟩;cases j
theorem n9{p0 p1:aU}(o:Holds E w V)(j:je N p0 p1=some res):c_ 165 [str p0,str p1] w<|aC E V res:=by
 unfold je at j;exact enter Tryz.func165 zr zr<|j_<|aI 0<|o_<|mv (str p0)<|mv (str p1)<|q_ j λaa ab j=>v_ (fM Tryz.func191) (qe N (p0:=p0) (p1:=p1) o ab) λw o=>aI aa<|k_<|w_<|oi j▸bD ⟨rfl,o.drop 0⟩
theorem tp{p0 p1:aU}(hw:Holds E w V)(j:j7 N p0 p1=some res):c_ 164 [str p0,str p1] w<|aC E V res:=by
 unfold j7 at j;refine enter Tryz.func164 zr zr<|j_<|aI 0<|s_<|j_<|mv (str p1)<|IV p1 td<|ic ((p1.bX.length:Int)) 0<|k_<|ek j (λj=>?_) λj=>?_;cases j;refine Ii<|j_<|mv (str p1)<|IV p1 td<|ic ((p1.bX.length:Int)) 1<|k_<|ek j (λj=>?_) λj=>?_;exact j_<|mv (str p0)<|mv (str p1)<|q_ j λab ae j=>JC p1 0 ab zr zr zr td ae<|Jp (vi ((Lib.countByte p0.bX (Int.toNat (ab.toNat:Int)).toUInt8:Nat):Int)) zr [str p0,(.int .u8 (ab.toNat:Int))] zr (Gr p0 (ab.toNat:Int) w)<|aI ((Lib.countByte p0.bX (Int.toNat (ab.toNat:Int)).toUInt8:Nat):Int)<|k_<|E_<|oi j▸bD ⟨rfl,hw.drop 0⟩;refine Iu<|aI 0<|k_<|Je E V (λ(o:aU×Int)=>[]) (λ_=>[(4,vi 0)]) (λo=>[(0,str o.1),(1,str p1),(5,vi o.2)]) (λr=>iH bH 34 Tryz.f164 (aC E V r) .ret) j ?_ ?_ ?_ ?_;exact hw.sp 0 [];rintro o fl _ w⟨O,rfl,hw⟩j;refine AT<|mv (str o.1)<|mv (str p1)<|q_ j λad af j=>v_ DS (n9 N (p0:=o.1) (p1:=p1) hw af) λw hw=>aI ad<|s_<|j_<|aW ad<|ic ad ((-1))<|k_<|ek j (λj=>?_) λj=>?_;exact j_<|aW o.2<|aI o.2<|k_<|E_<|dZ<|oi j▸⟨rfl,bD ⟨rfl,hw.drop 0⟩⟩;refine Iu<|aW o.2<|A_ o.2 1<|aI (wrap .i64<|o.2+1)<|k_<|r_<|mv (str o.1)<|aW ad<|mv (str p1) ?_;refine IV p1 td<|A_ ad (p1.bX.length:Int)<|q_ j λag ah j=>JP o.1 zr zr td (.inl zr) (.inr ⟨rfl,zr⟩) ah<|cP (str ag)<|m_<|bG ?_;exact oi j▸⟨rfl,hw.sp 0 []⟩;intro r U w j hK;exact oi j▸hK;rintro o _ w j⟨O,rfl,hw⟩;obtain rfl:=oi j;exact BC<|bD ⟨rfl,hw.drop 0⟩
theorem qO{p0 p1:aU}{res:List aU}(o:Holds E w V)(j:jS N p0 p1 p2 p3=some res):c_ 122 [str p0,str p1,vi p2,vi p3] w<|eI E V res:=by
 unfold jS at j;refine enter Tryz.func122 zr zr<|j_<|cP n_<|s_<|j_<|aW p3<|ic p3 0<|k_<|ek j (λj=>?_) λj=>?_;refine j_<|cP n_<|k_<|E_ ?_;obtain rfl:=oi j;have o:=o.cU aU 9;exact bD<|o.pk 1 [0];refine Ii<|j_<|mv (str p1)<|IN p1 ⟨[]⟩ zt<|k_<|ek j (λj=>?_) λj=>?_;cases j;refine Ii<|j_<|aW p3<|ic p3 0<|k_<|q_ j λaa hj j=>H_ (λ(aa:Int)=>SH E V [(0,str p0),(1,str p1),(2,vi p2),(3,vi aa)] []) aa ?_ ?_;refine ek hj (λhj=>?_) λhj=>?_;refine r_<|mv (str p0)<|mv (str p1)<|q_ hj λag aj hj=>v_ (fM Tryz.func164) (tp N (p0:=p0) (p1:=p1) o aj) λw o=>A_ ag 1<|aI (wrap .i64<|ag+1)<|m_ ?_;exact oi hj▸⟨rfl,o.sp 0 []⟩;exact Ic<|oi hj▸⟨rfl,o.sp 0 []⟩;rintro _ w⟨O,rfl,o⟩;refine aF<|j_<|aW aa<|mv (str p0)<|IV p0 td<|A_ (p0.bX.length:Int) 1<|J3 aa (wrap .i64<|(p0.bX.length:Int)+1) zt zr zr zr<|aI (if wrap .i64 ((p0.bX.length:Int)+1)<aa then wrap .i64 ((p0.bX.length:Int)+1)else aa)<|o_ ?_;refine aW (if wrap .i64 ((p0.bX.length:Int)+1)<aa then wrap .i64 ((p0.bX.length:Int)+1)else aa)<|q_ j λaw ak j=>Jn (if wrap .i64 ((p0.bX.length:Int)+1)<aa then wrap .i64 ((p0.bX.length:Int)+1)else aa) zr o zr zr AV Gs ak λaf w o=>?_;refine cP af<|o_<|aW (if wrap .i64 ((p0.bX.length:Int)+1)<aa then wrap .i64 ((p0.bX.length:Int)+1)else aa)<|A_ (if wrap .i64 ((p0.bX.length:Int)+1)<aa then wrap .i64 ((p0.bX.length:Int)+1)else aa) 1<|aI (wrap .i64<|(if wrap .i64 ((p0.bX.length:Int)+1)<aa then wrap .i64 ((p0.bX.length:Int)+1)else aa) - 1)<|o_<|aI 0<|s_<|IX E V (λ(ab:aU×List aU×Int)=>[own 9 af ab.2.1]) (λab=>[(0,str ab.1),(9,af),(10,vi ab.2.2)]) (λ_=>[(1,str p1),(2,vi p2),(3,vi<|wrap .i64<|(if wrap .i64 ((p0.bX.length:Int)+1)<aa then wrap .i64 ((p0.bX.length:Int)+1)else aa) - 1)]) j ?_ ?_ ?_;exact o.sp 1 [0];rintro ab fl _ w⟨O,rfl,o⟩j;refine t_<|j_<|aW ab.2.2<|aW (wrap .i64<|(if wrap .i64 ((p0.bX.length:Int)+1)<aa then wrap .i64 ((p0.bX.length:Int)+1)else aa) - 1)<|ic ab.2.2 (wrap .i64<|(if wrap .i64 ((p0.bX.length:Int)+1)<aa then wrap .i64 ((p0.bX.length:Int)+1)else aa) - 1)<|k_<|ek j (λj=>?_) λj=>?_;refine IP<|AT<|mv (str ab.1)<|mv (str p1)<|q_ j λae al j=>v_ DS (n9 N (p0:=ab.1) (p1:=p1) o al) λw o=>aI ae<|s_<|j_<|aW ae<|ic ae 0<|k_<|ek j (λj=>?_) λj=>?_;refine IC<|D8 (by decide) ?_;exact oi j▸⟨rfl,o.sp 1 [0]⟩;refine Iu<|mv af<|aW ab.2.2<|mv (str ab.1)<|aW ae<|aW p2<|A_ ae p2<|q_ j λan ao j=>JP ab.1 zr zr td (.inr ⟨rfl,zr⟩) (.inl zr) ao<|q_ j λay ah j=>Io 0 o zr zr kM ah ?_;have o:=o.sc aU an;refine Jg 1 0 o ah gj λw o=>?_;refine o_<|mv (str ab.1)<|aW ae<|mv (str p1)<|IV p1 td<|A_ ae (p1.bX.length:Int)<|q_ j λaq ar j=>JP ab.1 zr zr td (.inl zr) (.inr ⟨rfl,zr⟩) ar<|cP (str aq)<|k_<|r_<|aW ab.2.2<|A_ ab.2.2 1<|aI (wrap .i64<|ab.2.2+1)<|m_<|bG ?_;exact oi j▸⟨rfl,o.sp 2 [1]⟩;exact IC<|oi j▸⟨rfl,o.sp 1 [0]⟩;rintro ab _ w j⟨O,rfl,o⟩;refine aF<|j_<|mv af<|aW ab.2.2<|mv (str ab.1)<|q_ j λaz ai j=>Io 0 o zr zr kM ai ?_;have o:=o.sc aU ab.1;refine Jg 1 0 o ai gj λw o=>?_;refine o_<|mv af<|aW ab.2.2<|A_ ab.2.2 1<|q_ j λa0 au j=>Jm 1 o kM (.inr ⟨rfl,zr⟩) au λav o=>cP av<|k_<|w_ ?_;obtain rfl:=oi j;exact bD<|o.pk 2 [1]
theorem oa{p0 p1:aU}{res:List aU}(o:Holds E w V)(j:jf N p0 p1=some res):c_ 88 [str p0,str p1] w<|eI E V res:=by
 unfold jf at j;refine enter Tryz.func88 zr zr<|j_<|cP n_<|o_<|mv (str p0)<|mv (str p1)<|q_ j λad aa j=>Ij (fM Tryz.func122) (qO N (p0:=p0) (p1:=p1) (p2:=0) (p3:=(-1)) o aa) λab w o=>cP ab<|k_<|w_ ?_;obtain rfl:=oi j;exact bD<|o.pk 1 [0]
theorem mM{p0:List aU}{p1:aU->Option Bool}(j:Holds E w V)(h0:V[i0]? =some (rd v0 p0))(h1:CQ bH E V v1 p1 (λ(r:Bool)=>Value.bool r))(o:iJ N p0 p1=some res):c_ 136 [v0,v1] w<|aC E V res:=by
 unfold iJ at o;refine enter Tryz.func136 zr zr ?_;have j:=j.dup (i0+0) h0;refine j_<|aI 0<|s_<|j_<|mv v0<|x_ 0 p0 j qM<|aW 0<|k_<|Iw E V (λ(ab:Unit)=>[rd v0 p0]) (λ_=>[]) (λaa _=>[(0,v0),(1,v1),(7,vi p0.length),(8,vi aa)]) (λr=>iH bH 19 Tryz.f136 (aC E V r) .ret) o ?_ ?_ ?_ ?_;exact j.sp 1 [0];rintro hm aa ab fl _ w hk⟨O,rfl,j⟩o;refine t_<|AT<|aW (aa:Int)<|aI (aa:Int)<|o_<|mv v1<|mv v0<|aW (aa:Int)<|q_ o λad ag o=>u_ 0 j kM ag λak j=>G_ ad 0 j gj ?_;have j:=j.sc aU ad;refine q_ o λal ah o=>JD 0 zr j zr h1 3 zr zr zr ah λw j=>k_<|ek o (λo=>?_) λo=>?_;exact j_<|aW (aa:Int)<|aI (aa:Int)<|k_<|F_<|aN<|oi o▸⟨rfl,bD ⟨rfl,j.drop 3⟩⟩;exact Ic<|bG<|aF<|r_<|C_ hk hm<|aW ((aa+1:Nat):Int)<|m_<|oi o▸⟨rfl,j.sp 3 [2]⟩;intro r U w o hK;exact aN<|oi o▸hK;rintro ab _ w o⟨O,rfl,j⟩;exact aF<|j_<|aI (-1)<|k_<|w_<|oi o▸bD ⟨rfl,j.drop 1⟩
theorem lW{p0:List aU}{p1:aU->Option Bool}{res:Bool}(j:Holds E w V)(h0:V[i0]? =some (rd v0 p0))(h1:CQ bH E V v1 p1 (λ(r:Bool)=>Value.bool r))(o:fy N p0 p1=some res):c_ 110 [v0,v1] w<|aV E V res:=by
 unfold fy at o;refine enter Tryz.func110 zr zr ?_;have j:=j.dup (i0+0) h0;refine j_<|bW false<|o_<|mv v0<|mv v1<|q_ o λaa ab o=>v_ (fM Tryz.func136) (mM N (i0:=0) j zr (h1.lift 1 zr) ab) λw j=>ic aa 0<|bW (decide<|aa>=0)<|k_<|w_ ?_;exact oi o▸bD ⟨rfl,j.drop 1⟩
theorem qf{p0:aU}{res:Bool}(o:Holds E w V)(j:fz N p0=some res):c_ 111 [str p0] w<|aV E V res:=by
 unfold fz at j;exact enter Tryz.func111 zr zr<|j_<|bW false<|o_<|mv (str p0)<|q_ j λaa ab j=>v_ Cb (k9 N (p0:=p0) o ab) λw o=>Iz aa<|bW (!aa)<|k_<|w_<|oi j▸bD ⟨rfl,o.drop 0⟩
theorem ny{p0:aU}{res:Bool}(j:Holds E w V)(hb:gP N p0=some res):c_ 63 [str p0] w<|aV E V res:=by
 unfold gP at hb;refine enter Tryz.func63 zr zr<|j_<|bW false<|s_<|q_ hb λad hj hb=>H_ (λ(ad:Bool)=>SH E V [(2,vb ad)] []) ad ?_ ?_;refine r_<|mv (str p0)<|IV p0 td<|ic ((p0.bX.length:Int)) 200<|j3 (decide<|(p0.bX.length:Int)<=200)<|iT hj (λo hj=>?_) λo hj=>?_;refine AI (str p0) (cg o)<|q_ hj λah af hj=>Ij (hg:=cg o) Fa (oa N (p0:=p0) (p1:=⟨[47]⟩) j af) λai w j=>?_;have j:=j.freeze 0;refine q_ hj λae ag hj=>v_ (hg:=cg o) (fM Tryz.func110) (lW N (i0:=0) j rfl ⟨111,[],rfl,(fM Tryz.func111),λw Γl v y0 r i j hi hr=>by obtain rfl:=j.pM (γ:=aU) hi;exact eZ (qf N (p0:=y0) j hr) λ_ _ h=>h⟩ ag) λw j=>Iz (hg:=cg o) ae<|iL o (vb<|!ae)<|bW (!ae)<|m_ ?_;exact oi hj▸⟨rfl,j.sp 1 []⟩;exact bT o<|bT o<|bT o<|bT o<|iL o (vb false)<|bW false<|m_<|oi hj▸⟨rfl,j.sp 0 []⟩;rintro _ w⟨O,rfl,j⟩;exact aF<|w_<|oi hb▸bD ⟨rfl,j.drop 0⟩
theorem jH{p0:List Part}{p1:aU}{p2:Part->aU->Option Int}{res:Int×Bool}(o:Holds E w V)(h0:V[i0]? =some (rd v0 p0))(h2:BM bH E V v2 p2 (λ(r:Int)=>Value.int .i64 r))(hb:dS N p0 p1 p2=some res):c_ 137 [v0,str p1,v2] w<|cE E V res:=by
 unfold dS at hb;refine enter Tryz.func137 zr zr ?_;have o:=o.dup (i0+0) h0;refine j_<|aI 0<|bW false<|o_<|mv v0<|x_ 0 p0 o ry<|aI (p0.length:Int)<|o_<|aW (p0.length:Int)<|aI 0<|aI (p0.length:Int)<|s_<|IX E V (λ(j:Int×Int)=>[rd v0 p0]) (λj=>[(0,v0),(1,str p1),(2,v2),(8,vi p0.length),(9,vi j.1)]) (λj=>[(10,vi j.2)]) hb ?_ ?_ ?_;exact o.sp 1 [0];rintro j fl _ w⟨O,rfl,o⟩hb;refine t_<|j_<|aW j.1<|aW j.2<|ic j.1 j.2<|k_<|ek hb (λhb=>?_) λhb=>?_;refine IP<|AT<|aW j.1<|aW j.2<|A_ j.1 j.2<|I7 (wrap .i64<|j.1+j.2) ⟨_,Ab⟩ q7<|Jj (.int .u64<|wrap .u64<|wrap .i64<|j.1+j.2) (.int .u64 1) (.int .u64<|Int.fdiv (wrap .u64<|wrap .i64<|j.1+j.2) 2) zt zr zr zr<|I7 (Int.fdiv (wrap .u64<|wrap .i64<|j.1+j.2) 2) ⟨_,q7⟩ Ab<|aI (wrap .i64<|Int.fdiv (wrap .u64<|wrap .i64<|j.1+j.2) 2) ?_;refine o_<|mv v2<|mv v0<|aW (wrap .i64<|Int.fdiv (wrap .u64<|wrap .i64<|j.1+j.2) 2)<|q_ hb λah ai hb=>u_ 0 o n2 ai λar o=>y_ 0 ah o nI λau o=>mv (str p1) ?_;have o:=o.sc aU p1;refine q_ hb λaj ak hb=>IS 1 0 o h2 4 ak λw o=>ic aj 0<|k_<|q_ hb λae hj hb=>H_ (λ(ae:Int×Int)=>SH E V [(0,v0),(1,str p1),(2,v2),(8,vi p0.length),(9,vi ae.1),(10,vi ae.2)] [rd v0 p0]) ae ?_ ?_;refine ek hj (λhj=>?_) λhj=>?_;refine r_<|aW (wrap .i64<|Int.fdiv (wrap .u64<|wrap .i64<|j.1+j.2) 2)<|A_ (wrap .i64<|Int.fdiv (wrap .u64<|wrap .i64<|j.1+j.2) 2) 1<|aI (wrap .i64<|wrap .i64 (Int.fdiv (wrap .u64<|wrap .i64<|j.1+j.2) 2)+1)<|m_ ?_;exact oi hj▸⟨rfl,o.sp 4 [3]⟩;refine r_<|aW (wrap .i64<|Int.fdiv (wrap .u64<|wrap .i64<|j.1+j.2) 2)<|aI (wrap .i64<|Int.fdiv (wrap .u64<|wrap .i64<|j.1+j.2) 2)<|m_ ?_;exact oi hj▸⟨rfl,o.sp 4 [3]⟩;rintro _ w⟨O,rfl,o⟩;exact bG<|oi hb▸⟨rfl,o.sp 1 [0]⟩;exact IC<|oi hb▸⟨rfl,o.sp 1 [0]⟩;rintro j _ w hb⟨O,rfl,o⟩;refine aF<|t_<|q_ hb λaf hj hb=>H_ (λ(af:Bool)=>SH E V [(6,vi j.1),(7,vb af)] []) af ?_ ?_;refine r_<|aW j.1<|aW j.1<|aW (p0.length:Int)<|ic j.1 ((p0.length:Int))<|j3 (decide<|j.1<(p0.length:Int))<|iT hj (λaa hj=>?_) λaa hj=>?_;refine AI v2 (cg aa)<|AI v0 (cg aa)<|AI (vi j.1) (cg aa)<|q_ hj λal an hj=>u_ (hg:=cg aa) 0 o n2 an λav o=>y_ (hg:=cg aa) 0 al o nI λaw o=>AI (str p1) (cg aa) ?_;have o:=o.sc aU p1;refine q_ hj λag ao hj=>IS (hg:=cg aa) 1 0 o h2 4 ao λw o=>IF ag 0 (cg aa)<|iL aa (vb<|ag==0)<|aI j.1<|bW (ag==0)<|m_ ?_;exact oi hj▸⟨rfl,o.sp 4 []⟩;refine bT aa<|bT aa<|bT aa<|bT aa<|bT aa<|bT aa<|bT aa<|bT aa<|iL aa (vb false)<|aI j.1<|bW false<|m_ ?_;exact oi hj▸⟨rfl,o.sp 1 []⟩;rintro _ w⟨O,rfl,o⟩;exact aF<|w_<|oi hb▸qK ⟨rfl,o.drop 0⟩
theorem qg{p0:Part}{p1:aU}(j:Holds E w V)(h0:V[i0]? =some (rd v0 p0))(o:fZ N p0 p1=some res):c_ 138 [v0,str p1] w<|aC E V res:=by
 unfold fZ at o;refine enter Tryz.func138 zr zr ?_;have j:=j.dup (i0+0) h0;refine j_<|Ia 0 v0 j zr λad w j=>?_;exact aI 0<|o_<|p_ zr kp<|By 0 j zr fN gj<|mv (str p1)<|q_ o λaa ab o=>v_ yp (eJ N (p0:=p0.Name) (p1:=p1) j ab) λw j=>aI aa<|k_<|w_<|oi o▸bD ⟨rfl,j.drop 2⟩
theorem sI{p0:List Part}{p1:aU}(hw:Holds E w V)(h0:V[i0]? =some (rd v0 p0))(hb:jD N p0 p1=some res):c_ 113 [v0,str p1] w<|aC E V res:=by
 unfold jD at hb;refine enter Tryz.func113 zr zr ?_;have hw:=hw.dup (i0+0) h0;refine j_<|aI 0<|o_<|mv v0<|mv (str p1) ?_;refine q_ hb λo ad hb=>v_ (fM Tryz.func137) (jH N (p1:=p1) (i0:=0) hw rfl ⟨138,[],rfl,(fM Tryz.func138),λw Γl v v' y0 y1 r i j hw hi hj hr=>by obtain rfl:=hw.pM (γ:=aU) hj;exact eZ (qg N (p1:=y1) (i0:=i) hw hi hr) λ_ _ h=>h⟩ ad) λw hw=>mv (.tuple #[vi o.1,vb o.2])<|Ih (vi o.1)<|Ih (vb o.2)<|aI o.1<|bW o.2<|s_<|j_<|j3 o.2 ?_;refine Iz o.2<|k_<|ek hb (λhb=>?_) λhb=>?_;exact j_<|aI (-1)<|k_<|E_<|oi hb▸bD ⟨rfl,hw.drop 1⟩;exact Iu<|aW o.1<|aI o.1<|k_<|w_<|oi hb▸bD ⟨rfl,hw.drop 1⟩
theorem ja{p0:List bA}{p1:aU}{p2:bA->aU->Option Int}{res:Int×Bool}(o:Holds E w V)(h0:V[i0]? =some (rd v0 p0))(h2:BM bH E V v2 p2 (λ(r:Int)=>Value.int .i64 r))(hb:dD N p0 p1 p2=some res):c_ 114 [v0,str p1,v2] w<|cE E V res:=by
 unfold dD at hb;refine enter Tryz.func114 zr zr ?_;have o:=o.dup (i0+0) h0;refine j_<|aI 0<|bW false<|o_<|mv v0<|x_ 0 p0 o rr<|aI (p0.length:Int)<|o_<|aW (p0.length:Int)<|aI 0<|aI (p0.length:Int)<|s_<|IX E V (λ(j:Int×Int)=>[rd v0 p0]) (λj=>[(0,v0),(1,str p1),(2,v2),(8,vi p0.length),(9,vi j.1)]) (λj=>[(10,vi j.2)]) hb ?_ ?_ ?_;exact o.sp 1 [0];rintro j fl _ w⟨O,rfl,o⟩hb;refine t_<|j_<|aW j.1<|aW j.2<|ic j.1 j.2<|k_<|ek hb (λhb=>?_) λhb=>?_;refine IP<|AT<|aW j.1<|aW j.2<|A_ j.1 j.2<|I7 (wrap .i64<|j.1+j.2) ⟨_,Ab⟩ q7<|Jj (.int .u64<|wrap .u64<|wrap .i64<|j.1+j.2) (.int .u64 1) (.int .u64<|Int.fdiv (wrap .u64<|wrap .i64<|j.1+j.2) 2) zt zr zr zr<|I7 (Int.fdiv (wrap .u64<|wrap .i64<|j.1+j.2) 2) ⟨_,q7⟩ Ab<|aI (wrap .i64<|Int.fdiv (wrap .u64<|wrap .i64<|j.1+j.2) 2) ?_;refine o_<|mv v2<|mv v0<|aW (wrap .i64<|Int.fdiv (wrap .u64<|wrap .i64<|j.1+j.2) 2)<|q_ hb λah ai hb=>u_ 0 o nG ai λar o=>y_ 0 ah o nH λau o=>mv (str p1) ?_;have o:=o.sc aU p1;refine q_ hb λaj ak hb=>IS 1 0 o h2 4 ak λw o=>ic aj 0<|k_<|q_ hb λae hj hb=>H_ (λ(ae:Int×Int)=>SH E V [(0,v0),(1,str p1),(2,v2),(8,vi p0.length),(9,vi ae.1),(10,vi ae.2)] [rd v0 p0]) ae ?_ ?_;refine ek hj (λhj=>?_) λhj=>?_;refine r_<|aW (wrap .i64<|Int.fdiv (wrap .u64<|wrap .i64<|j.1+j.2) 2)<|A_ (wrap .i64<|Int.fdiv (wrap .u64<|wrap .i64<|j.1+j.2) 2) 1<|aI (wrap .i64<|wrap .i64 (Int.fdiv (wrap .u64<|wrap .i64<|j.1+j.2) 2)+1)<|m_ ?_;exact oi hj▸⟨rfl,o.sp 4 [3]⟩;refine r_<|aW (wrap .i64<|Int.fdiv (wrap .u64<|wrap .i64<|j.1+j.2) 2)<|aI (wrap .i64<|Int.fdiv (wrap .u64<|wrap .i64<|j.1+j.2) 2)<|m_ ?_;exact oi hj▸⟨rfl,o.sp 4 [3]⟩;rintro _ w⟨O,rfl,o⟩;exact bG<|oi hb▸⟨rfl,o.sp 1 [0]⟩;exact IC<|oi hb▸⟨rfl,o.sp 1 [0]⟩;rintro j _ w hb⟨O,rfl,o⟩;refine aF<|t_<|q_ hb λaf hj hb=>H_ (λ(af:Bool)=>SH E V [(6,vi j.1),(7,vb af)] []) af ?_ ?_;refine r_<|aW j.1<|aW j.1<|aW (p0.length:Int)<|ic j.1 ((p0.length:Int))<|j3 (decide<|j.1<(p0.length:Int))<|iT hj (λaa hj=>?_) λaa hj=>?_;refine AI v2 (cg aa)<|AI v0 (cg aa)<|AI (vi j.1) (cg aa)<|q_ hj λal an hj=>u_ (hg:=cg aa) 0 o nG an λav o=>y_ (hg:=cg aa) 0 al o nH λaw o=>AI (str p1) (cg aa) ?_;have o:=o.sc aU p1;refine q_ hj λag ao hj=>IS (hg:=cg aa) 1 0 o h2 4 ao λw o=>IF ag 0 (cg aa)<|iL aa (vb<|ag==0)<|aI j.1<|bW (ag==0)<|m_ ?_;exact oi hj▸⟨rfl,o.sp 4 []⟩;refine bT aa<|bT aa<|bT aa<|bT aa<|bT aa<|bT aa<|bT aa<|bT aa<|iL aa (vb false)<|aI j.1<|bW false<|m_ ?_;exact oi hj▸⟨rfl,o.sp 1 []⟩;rintro _ w⟨O,rfl,o⟩;exact aF<|w_<|oi hb▸qK ⟨rfl,o.drop 0⟩
theorem qP{p0:bA}{p1:aU}(j:Holds E w V)(h0:V[i0]? =some (rd v0 p0))(o:gF N p0 p1=some res):c_ 115 [v0,str p1] w<|aC E V res:=by
 unfold gF at o;refine enter Tryz.func115 zr zr ?_;have j:=j.dup (i0+0) h0;refine j_<|Ia 0 v0 j zr λad w j=>?_;exact aI 0<|o_<|p_ zr l7<|By 0 j zr eX gj<|mv (str p1)<|q_ o λaa ab o=>v_ yp (eJ N (p0:=p0.Name) (p1:=p1) j ab) λw j=>aI aa<|k_<|w_<|oi o▸bD ⟨rfl,j.drop 2⟩
theorem ob{p0:aD}{p1:aU}(o:Holds E w V)(h0:V[i0]? =some (rd v0 p0))(hb:jg N p0 p1=some res):c_ 70 [v0,str p1] w<|aC E V res:=by
 unfold jg at hb;refine enter Tryz.func70 zr zr ?_;have o:=o.dup (i0+0) h0;refine j_<|Ia 0 v0 o zr λaf w o=>?_;refine aI 0<|o_<|p_ zr jE<|AS 0 o zr cR p4 λag o=>mv (str p1) ?_;refine q_ hb λaa ad hb=>v_ (fM Tryz.func114) (ja N (p1:=p1) (i0:=0) o rfl ⟨115,[],rfl,(fM Tryz.func115),λw Γl v v' y0 y1 r i j o hi hj hr=>by obtain rfl:=o.pM (γ:=aU) hj;exact eZ (qP N (p1:=y1) (i0:=i) o hi hr) λ_ _ h=>h⟩ ad) λw o=>mv (.tuple #[vi aa.1,vb aa.2])<|Ih (vi aa.1)<|Ih (vb aa.2)<|aI aa.1<|bW aa.2<|s_<|j_<|j3 aa.2 ?_;refine Iz aa.2<|k_<|ek hb (λhb=>?_) λhb=>?_;exact j_<|aI (-1)<|k_<|E_<|oi hb▸bD ⟨rfl,o.drop 3⟩;exact Iu<|aW aa.1<|aI aa.1<|k_<|w_<|oi hb▸bD ⟨rfl,o.drop 3⟩
theorem sJ{p0:List aD}{p1:List Part}{p2:cC}{res:Bool}(j:Holds E w V)(h0:V[i0]? =some (rd v0 p0))(h1:V[i1]? =some (rd v1 p1))(h2:V[i2]? =some (rd v2 p2))(hb:kT N p0 p1 p2=some res):c_ 66 [v0,v1,v2] w<|aV E V res:=by
 unfold kT at hb;refine enter Tryz.func66 zr zr ?_;have j:=((j.dup (i0+0) h0).dup (i1+1) h1).dup (i2+2) h2;refine j_<|Ia 0 v2 j zr λag w j=>?_;refine bW false<|o_<|mv v1<|p_ zr oK<|By 0 j zr kX gj<|q_ hb λad ai hb=>v_ (fM Tryz.func113) (sI N (p1:=p2.Part) (i0:=2) j zr ai) λw j=>aI ad<|s_<|q_ hb λae hj hb=>H_ (λ(ae:Bool)=>SH E V [(6,vb ae)] []) ae ?_ ?_;have j:=j.drew;refine Jw (λw=>Holds E w<|[bx 67 ag p2]++V) mixed zr [0,0,0,1,0,0,0,0,0,0,2,0,0,1,1,2,0,0,0] [0,1,2,3,4,5,6,7,8,9,13,14,10,11,12,15,16,17,18] (j.pk 4 [0])<|Ig zr zr<|aW ad<|cB zr<|ic ad 0<|cB zr<|j3 (decide<|ad>=0)<|Im<|iT hj (λo hj=>?_) λo hj=>?_;refine Ix v0 zr (λw=>AI v0 (cg o) Is)<|Ig zr zr<|AI v0 (cg o)<|cB zr<|AI v1 (cg o)<|cB zr<|AI (vi ad) (cg o)<|cB zr<|q_ hj λah aj hj=>u_ (hg:=cg o) 2 j n2 aj λaq j=>cB zr<|It (hg:=cg o) 0 j zr mJ iM λar j=>cB zr<|G_ (hg:=cg o) ah.cM 0 j gj<|Im<|Ix (vp ag 1) zr (λw=>p_ (hg:=cg o) zr rA Is)<|Jv (str p2.cC) zr zr (λw j=>By (hg:=cg o) 0 j zr mI gj Is)<|Jd zr zr ?_;refine q_ hj λau ak hj=>v_ (hg:=cg o) Dh (jw N (p1:=ah.cM) (i0:=5) j zr ak) λw j=>IH (j.pk 6 [2])<|Ig zr zr<|q_ hj λal an hj=>u_ (hg:=cg o) 5 j sC an λav j=>cB zr<|y_ (hg:=cg o) 0 al j m9 λaw j=>rW zr<|q_ hj λaf ao hj=>v_ (hg:=cg o) Fm (ob N (p1:=p2.cC) (i0:=0) j zr ao) λw j=>IH (j.pk 8 [4])<|Ig zr zr<|IF af 0 (cg o)<|cB zr<|iL o (vb<|decide<|af>=0)<|cB zr<|bW (decide<|af>=0)<|Im ?_;exact Iy<|oi hj▸⟨rfl,j.sp 8 []⟩;refine Ix undef zr (λw=>bT o Is)<|Ig zr zr<|bT o<|cB zr<|bT o<|cB zr<|bT o<|cB zr<|bT o<|cB zr<|bT o<|cB zr<|bT o<|Im<|Ix undef zr (λw=>bT o Is)<|Ix undef zr (λw=>bT o Is)<|Jd zr zr<|bT o ?_;refine IH (j.pk 4 [0])<|Ig zr zr<|bT o<|cB zr<|bT o<|rW zr<|bT o<|IH (j.pk 4 [0])<|Ig zr zr<|bT o<|cB zr<|iL o (vb false)<|cB zr<|bW false<|Im<|Iy ?_;exact oi hj▸⟨rfl,j.sp 4 []⟩;rintro _ w⟨O,rfl,j⟩;exact aF<|w_<|oi hb▸bD ⟨rfl,j.drop 0⟩
theorem oc{p0:cC}{p1:List aD}{p2:aH}{res:Bool}(j:Holds E w V)(h0:V[i0]? =some (rd v0 p0))(h1:V[i1]? =some (pt v1 p1))(h2:V[i2]? =some (pt v2 p2))(o:ib N p0 p1 p2=some res):c_ 65 [v0,v1,v2] w<|aV E V res:=by
 unfold ib at o;refine enter Tryz.func65 zr zr ?_;have j:=((j.dup (i0+0) h0).s6 (i:=i1+1) h1).s6 (i:=i2+2) h2;refine j_<|Ia 2 v0 j zr λad w j=>?_;refine bW false<|o_<|y_ 2 p1 j zn λae j=>It 2 j zr gY cF λaf j=>y_ 0 p2.aJ j nb λag j=>D_ 3 j zr kq λah j=>?_;exact q_ o λaa ab o=>v_ (fM Tryz.func66) (sJ N (i0:=3) (i1:=1) (i2:=0) j zr zr zr ab) λw j=>bW aa<|k_<|w_<|oi o▸bD ⟨rfl,j.drop 8⟩
theorem oM{p0 p1:cC}(j:Holds E w V)(h0:V[i0]? =some (rd v0 p0))(h1:V[i1]? =some (rd v1 p1))(o:iC N p0 p1=some res):c_ 112 [v0,v1] w<|aC E V res:=by
 unfold iC at o;refine enter Tryz.func112 zr zr ?_;have j:=(j.dup (i0+0) h0).dup (i1+1) h1;refine j_<|Ia 1 v0 j zr λaf w j=>?_;refine Ia 1 v1 j zr λag w j=>?_;refine aI 0<|s_<|j_<|p_ zr oK<|By 1 j zr kX gj<|p_ zr oK<|By 0 j zr kX gj<|q_ o λaa ab o=>v_ yp (eJ N (p0:=p0.Part) (p1:=p1.Part) j ab) λw j=>aI aa<|o_<|aW aa<|ic aa 0<|k_<|ek o (λo=>?_) λo=>?_;exact j_<|aW aa<|aI aa<|k_<|E_<|oi o▸bD ⟨rfl,j.drop 4⟩;exact Iu<|p_ zr rA<|By 1 j zr mI gj<|p_ zr rA<|By 0 j zr mI gj<|q_ o λad ae o=>v_ yp (eJ N (p0:=p0.cC) (p1:=p1.cC) j ae) λw j=>aI ad<|k_<|w_<|oi o▸bD ⟨rfl,j.drop 4⟩
def la(E:World)(V:List HP)(v2:Value)(res:Int×List (cC×Bool))(v:Value)(w:World):Prop:=v= vi res.1/\Holds E w ([mp v2 res.2]++V)
theorem oe{p0:List cC}{p1:cC->Option Bool}{p2:List (cC×Bool)}{res:Int×List (cC×Bool)}(j:Holds E w (mp v2 p2::V))(h0:V[i0]? =some (rd v0 p0))(h1:CQ bH E V v1 p1 (λ(r:Bool)=>Value.bool r))(o:fT N p0 p1 p2=some res):c_ 64 [v0,v1,v2] w<|la E V v2 res:=by
 unfold fT at o;refine enter Tryz.func64 zr zr ?_;have j:=j.dup (i0+1) h0;refine j_<|aI 0<|s_<|j_<|mv v0<|x_ 0 p0 j t8<|ic ((p0.length:Int)) 500<|k_<|ek o (λo=>?_) λo=>?_;exact j_<|aI 2<|k_<|E_<|oi o▸bD ⟨rfl,j.pk 2 [1]⟩;refine Ii<|j_<|mv v0<|x_ 0 p0 j t8<|aW 0<|k_<|Iw E V (λ(al:Unit)=>[rd v0 p0,mp v2 p2]) (λ_=>[(0,v0),(2,v2)]) (λab _=>[(1,v1),(14,v0),(15,vi p0.length),(16,vi ab)]) (λr=>iH bH 53 Tryz.f64 (la E V v2 r) .ret) o ?_ ?_ ?_ ?_;exact j.sp 2 [0,1];rintro hm ab al fl _ w hk⟨O,rfl,j⟩o;refine t_<|AT<|aW (ab:Int)<|q_ o λae aq o=>u_ 0 j t9 aq λa0 j=>y_ 0 ae j kq λa1 j=>Ie j yq.z λan w j=>?_;refine aI (ab:Int)<|Ib 0 j 1 zr kq λw j=>?_;refine k_<|AT<|mv v1<|D_ 0 j zr kq λa2 j=>?_;refine q_ o λao ar o=>JD 0 zr j zr h1 6 zr zr zr ar λw j=>Iz ao<|bW (!ao)<|k_<|ek o (λo=>?_) λo=>?_;exact j_<|aI 9<|k_<|F_<|dZ<|aN<|oi o▸⟨rfl,bD ⟨rfl,j.pk 6 [5]⟩⟩;refine t_<|q_ o λah hj o=>H_ (λ(ah:Bool)=>SH E V [(0,v0),(1,v1),(2,v2),(8,vp an 0),(14,v0),(15,vi p0.length),(16,vi ab),(26,vb ah)] [rd v0 p0,mp v2 p2,bx 67 an ae]) ah ?_ ?_;refine IL mixed [0,0,0,0,0,0,0,0,0,2,0,0,0] [0,1,2,3,4,5,6,7,8,9,10,11,12] ?_;have j:=j.drew;refine Ig zr zr<|aW (ab:Int)<|cB zr<|ic ((ab:Int)) 0<|cB zr<|j3 (decide<|(ab:Int)>0)<|Im<|iT hj (λaa hj=>?_) λaa hj=>?_;refine Ig zr zr<|D_ (hg:=cg aa) 1 j zr kq λa3 j=>cB zr<|AI v0 (cg aa)<|cB zr<|AI (vi ab) (cg aa)<|cB zr<|A_ (hg:=cg aa) (ab:Int) 1<|cB zr<|q_ hj λau av hj=>u_ (hg:=cg aa) 5 j t9 av λa4 j=>cB zr<|y_ (hg:=cg aa) 0 au j kq λa5 j=>rW zr ?_;refine q_ hj λai aw hj=>v_ (hg:=cg aa) (fM Tryz.func112) (oM N (i0:=2) (i1:=0) j zr zr aw) λw j=>vC zr<|IF ai 0 (cg aa)<|cB zr<|iL aa (vb<|decide<|ai<=0)<|cB zr<|bW (decide<|ai<=0)<|Im<|Iy ?_;exact oi hj▸⟨rfl,j.sp 9 [7,8,4]⟩;refine Ig zr zr<|bT aa<|cB zr<|bT aa<|cB zr<|bT aa<|cB zr<|bT aa<|cB zr<|bT aa<|cB zr<|bT aa<|rW zr<|bT aa<|vC zr<|bT aa<|cB zr<|iL aa (vb false) ?_;exact cB zr<|bW false<|Im<|Iy<|oi hj▸⟨rfl,j.sp 6 [4,5,1]⟩;rintro _ w⟨O,rfl,j⟩;refine aF<|ek o (λo=>?_) λo=>?_;exact j_<|aI 8<|k_<|F_<|dZ<|aN<|oi o▸⟨rfl,bD ⟨rfl,j.pk 3 [1]⟩⟩;refine j_<|mv v2<|D_ 2 j zr kq λa6 j=>JG 2 ae zt zr j zr (rn 0 j zr) zr DU<|bW (ew p2 ae (false:Bool))<|k_<|ek o (λo=>?_) λo=>?_;exact j_<|aI 7<|k_<|F_<|dZ<|aN<|oi o▸⟨rfl,bD ⟨rfl,j.pk 4 [2]⟩⟩;exact Ic<|bG<|bG<|aF<|r_<|C_ hk hm<|aW ((ab+1:Nat):Int)<|m_<|oi o▸⟨rfl,j.sp 4 [1,2]⟩;intro r U w o hK;exact aN<|oi o▸hK;rintro al _ w o⟨O,rfl,j⟩;refine aF<|t_<|j_<|mv v0<|x_ 0 p0 j t8<|aW 0<|k_<|Jx E V (λ(aj:List (cC×Bool))=>[mp v2 aj,rd v0 p0]) (λ_=>[(2,v2)]) (λak _=>[(44,v0),(45,vi p0.length),(46,vi ak)]) o ?_ ?_ ?_;exact j.sp 2 [1,0];rintro hm ak aj s' _ w hk⟨O,rfl,j⟩o;refine t_<|AT<|q_ o λAJ ay o=>u_ 1 j t9 ay λa7 j=>y_ 0 AJ j kq λa8 j=>Ie j yq.z λa9 w j=>?_;refine Ib 0 j 1 zr kq λw j=>?_;refine k_<|r_<|mv v2<|D_ 0 j zr kq λba j=>?_;have j:=j.sc Bool true;exact Jr 5 0 AJ zt j zr (rn 1 j zr) zr zr zr DU λw j=>m_<|bG<|aF<|r_<|C_ hk hm<|aW ((ak+1:Nat):Int)<|m_<|oi o▸⟨rfl,j.sp 7 [5,6]⟩;rintro aj _ w o⟨O,rfl,j⟩;exact aF<|j_<|aI 0<|k_<|w_<|oi o▸bD ⟨rfl,j.pk 2 [0]⟩
end Go.Gk
