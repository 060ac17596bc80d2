/-
  Printed texts: Go functions as plain functions, and that they are. No statement of the seed is proved here.
-/
import Derived.Test.YtopjilpddngibaaGreatDoorProg
import Derived.Test.YtopjilpddngibaaGreatDoorE1
import Derived.Test.YtopjilpddngibaaGreatDoorA1
import Derived.Test.YtopjilpddngibaaGreatDoorA2
import Derived.Test.YtopjilpddngibaaGreatDoorRows
import Derived.Shelf.SlGeneric
import Derived.Ground.SlsfProg
import Derived.Ground.SlgmProg
set_option linter.unusedVariables false
set_option linter.unusedSimpArgs false
set_option linter.unusedSectionVars false
set_option maxRecDepth 100000
set_option maxHeartbeats 40000000
namespace Go.Gk
open Go Go.Proofs
noncomputable abbrev bE:=Tryz.prog
def jx (x:aU):=(x.Name,x.Kind,x.aW)
instance instGTPinType:GT aU:=GT.via jx
instance instKVPinType:KV aU:=instKVvia (fun(x:aU)=>(x.Name,x.Kind,x.aW))
theorem ee:Fd 0 (fun x:aU=>x.Name):= .v jx (.fst .self)
theorem uT:Fs 0 aT (fun(x:aU) y=>{x with Name:=y}):= .v jx (.fst .self)
theorem gO:Fd 1 (fun x:aU=>x.Kind):= .v jx (.snd (.fst .self))
theorem uU:Fs 1 Int (fun(x:aU) y=>{x with Kind:=y}):= .v jx (.snd (.fst .self))
theorem dC:Fd 2 (fun x:aU=>x.aW):= .v jx (.snd (.snd (.self)))
def jQ (x:aD):=(x.Name,x.aP)
instance instGTPartType:GT aD:=GT.via jQ
theorem fD:Fd 0 (fun x:aD=>x.Name):= .v jQ (.fst .self)
theorem tt:Fs 0 aT (fun(x:aD) y=>{x with Name:=y}):= .v jQ (.fst .self)
theorem cF:Fd 1 (fun x:aD=>x.aP):= .v jQ (.snd (.self))
theorem tu:Fs 1 (List aU) (fun(x:aD) y=>{x with aP:=y}):= .v jQ (.snd (.self))
def n9 (x:Part):=(x.Name,x.cE)
instance instGTPart:GT Part:=GT.via n9
instance instKVPart:KV Part:=instKVvia (fun(x:Part)=>(x.Name,x.cE))
theorem gA:Fd 0 (fun x:Part=>x.Name):= .v n9 (.fst .self)
theorem yC:Fs 0 aT (fun(x:Part) y=>{x with Name:=y}):= .v n9 (.fst .self)
theorem gB:Fd 1 (fun x:Part=>x.cE):= .v n9 (.snd (.self))
theorem yD:Fs 1 aT (fun(x:Part) y=>{x with cE:=y}):= .v n9 (.snd (.self))
def oO (x:bT):=(x.Part,x.bT)
instance instGTPin:GT bT:=GT.via oO
instance instKVPin:KV bT:=instKVvia (fun(x:bT)=>(x.Part,x.bT))
theorem jR:Fd 0 (fun x:bT=>x.Part):= .v oO (.fst .self)
theorem qy:Fs 0 aT (fun(x:bT) y=>{x with Part:=y}):= .v oO (.fst .self)
theorem ln:Fd 1 (fun x:bT=>x.bT):= .v oO (.snd (.self))
theorem qz:Fs 1 aT (fun(x:bT) y=>{x with bT:=y}):= .v oO (.snd (.self))
def sf (x:Net):=(x.Name,x.aP,x.kQ)
instance instGTNet:GT Net:=GT.via sf
theorem mw:Fd 0 (fun x:Net=>x.Name):= .v sf (.fst .self)
theorem i5:Fd 1 (fun x:Net=>x.aP):= .v sf (.snd (.fst .self))
theorem wh:Fd 2 (fun x:Net=>x.kQ):= .v sf (.snd (.snd (.self)))
def l6 (x:aH):=(x.aK,x.aY)
instance instGTNetlist:GT aH:=GT.via l6
theorem cU:Fd 0 (fun x:aH=>x.aK):= .v l6 (.fst .self)
theorem uV:Fs 0 (List Part) (fun(x:aH) y=>{x with aK:=y}):= .v l6 (.fst .self)
theorem dY:Fd 1 (fun x:aH=>x.aY):= .v l6 (.snd (.self))
def fj (x:aQ):=(x.part,x.iZ,x.mark)
instance instGTnetlist_tie:GT aQ:=GT.via fj
instance instKVnetlist_tie:KV aQ:=instKVvia (fun(x:aQ)=>(x.part,x.iZ,x.mark))
theorem kd:Fd 0 (fun x:aQ=>x.part):= .v fj (.fst .self)
theorem q4:Fs 0 Int (fun(x:aQ) y=>{x with part:=y}):= .v fj (.fst .self)
theorem iR:Fd 1 (fun x:aQ=>x.iZ):= .v fj (.snd (.fst .self))
theorem q5:Fs 1 Int (fun(x:aQ) y=>{x with iZ:=y}):= .v fj (.snd (.fst .self))
theorem mx:Fd 2 (fun x:aQ=>x.mark):= .v fj (.snd (.snd (.self)))
theorem q6:Fs 2 Int (fun(x:aQ) y=>{x with mark:=y}):= .v fj (.snd (.snd (.self)))
def jS (x:aB):=(x.e0,x.e1)
instance instGTArr2_Int:GT aB:=GT.via jS
instance instKVArr2_Int:KV aB:=instKVvia (fun(x:aB)=>(x.e0,x.e1))
theorem fE:Fd 0 (fun x:aB=>x.e0):= .v jS (.fst .self)
theorem km:Fs 0 Int (fun(x:aB) y=>{x with e0:=y}):= .v jS (.fst .self)
theorem hU:Fd 1 (fun x:aB=>x.e1):= .v jS (.snd (.self))
theorem kn:Fs 1 Int (fun(x:aB) y=>{x with e1:=y}):= .v jS (.snd (.self))
def dZ (x:aM):=(x.t,x.l,x.parts,x.qp)
instance instGTetchhouseref2_colours:GT aM:=GT.via dZ
theorem dK:Fd 0 (fun x:aM=>x.t):= .v dZ (.fst .self)
theorem fP:Fd 1 (fun x:aM=>x.l):= .v dZ (.snd (.fst .self))
theorem dL:Fd 2 (fun x:aM=>x.parts):= .v dZ (.snd (.snd (.fst .self)))
theorem dM:Fd 3 (fun x:aM=>x.qp):= .v dZ (.snd (.snd (.snd (.self))))
theorem yE (M:cG):GT.ok M (#[(.slice none 0 0),(.slice none 0 0)]:Array Value).toList (⟨[],[]⟩:aH):=⟨[(.slice none 0 0)],[(.slice none 0 0)],rfl,(show GT.ok M [(.slice none 0 0)] ([]: (List Part)) from ⟨_,rfl,none,0,0,rfl,rfl,bP _,by simp [maxLen],fun _ _ h=>by simp at h⟩),(show GT.ok M [(.slice none 0 0)] ([]: (List Net)) from ⟨_,rfl,none,0,0,rfl,rfl,bP _,by simp [maxLen],fun _ _ h=>by simp at h⟩)⟩
theorem yF (M:cG):GT.ok M (#[(.string ⟨#[]⟩),(.int .i64 0),(.int .i64 0)]:Array Value).toList (⟨⟨[]⟩,0,0⟩:aU):=⟨[(.string ⟨#[]⟩)],[(.int .i64 0),(.int .i64 0)],rfl,(show GT.ok M [(.string ⟨#[]⟩)] (⟨[]⟩:aT) from rfl),⟨[(.int .i64 0)],[(.int .i64 0)],rfl,(show GT.ok M [(.int .i64 0)] (0:Int) from rfl),(show GT.ok M [(.int .i64 0)] (0:Int) from rfl)⟩⟩
theorem xr (M:cG):GT.ok M (#[(.string ⟨#[]⟩),(.slice none 0 0)]:Array Value).toList (⟨⟨[]⟩,[]⟩:aD):=⟨[(.string ⟨#[]⟩)],[(.slice none 0 0)],rfl,(show GT.ok M [(.string ⟨#[]⟩)] (⟨[]⟩:aT) from rfl),(show GT.ok M [(.slice none 0 0)] ([]: (List aU)) from ⟨_,rfl,none,0,0,rfl,rfl,bP _,by simp [maxLen],fun _ _ h=>by simp at h⟩)⟩
theorem BP (M:cG):GT.ok M (#[(.string ⟨#[]⟩),(.string ⟨#[]⟩)]:Array Value).toList (⟨⟨[]⟩,⟨[]⟩⟩:Part):=⟨[(.string ⟨#[]⟩)],[(.string ⟨#[]⟩)],rfl,(show GT.ok M [(.string ⟨#[]⟩)] (⟨[]⟩:aT) from rfl),(show GT.ok M [(.string ⟨#[]⟩)] (⟨[]⟩:aT) from rfl)⟩
theorem x5 (M:cG):GT.ok M (#[(.string ⟨#[]⟩),(.string ⟨#[]⟩)]:Array Value).toList (⟨⟨[]⟩,⟨[]⟩⟩:bT):=⟨[(.string ⟨#[]⟩)],[(.string ⟨#[]⟩)],rfl,(show GT.ok M [(.string ⟨#[]⟩)] (⟨[]⟩:aT) from rfl),(show GT.ok M [(.string ⟨#[]⟩)] (⟨[]⟩:aT) from rfl)⟩
theorem tv (M:cG):GT.ok M (#[(.int .i64 0),(.int .i64 0),(.int .i64 0)]:Array Value).toList (⟨0,0,0⟩:aQ):=⟨[(.int .i64 0)],[(.int .i64 0),(.int .i64 0)],rfl,(show GT.ok M [(.int .i64 0)] (0:Int) from rfl),⟨[(.int .i64 0)],[(.int .i64 0)],rfl,(show GT.ok M [(.int .i64 0)] (0:Int) from rfl),(show GT.ok M [(.int .i64 0)] (0:Int) from rfl)⟩⟩
theorem lp (M:cG):GT.ok M (#[(.int .i64 0),(.int .i64 0)]:Array Value).toList (⟨0,0⟩:aB):=⟨[(.int .i64 0)],[(.int .i64 0)],rfl,(show GT.ok M [(.int .i64 0)] (0:Int) from rfl),(show GT.ok M [(.int .i64 0)] (0:Int) from rfl)⟩
theorem lq:ki bE 26 true 2:=sd
theorem xt:ki bE 22 false 1:=sd
theorem yG:Tryz.prog.underlying 22=some (.slice 52):=by kernel_rfl
theorem qA:oJ bE 22 52 2:=yA
theorem lT:ki bE 52 true 2:=sd
theorem xu:xf bE 52 2:=yB (.agg #[(.string ⟨#[]⟩),(.slice none 0 0)])
theorem oa:qb bE 52 0 0:=rU
theorem fY:ki bE 9 false 1:=sd
theorem rV:Tryz.prog.underlying 9=some (.string):=by kernel_rfl
theorem uL (a:aT) (b:Int) (w:World): (callFunc 149 [(str a),(.int .u8 b)].toArray).run bE w = .ok (.value (vi (Lib.indexByte a.bQ (Int.toNat b).toUInt8))) w:=n2 Extern.BytealgIndexByte.indexByte Tryz.func149 (Lib.run_indexByteString _ _ w)
theorem Bq:eY bE 105:=fC Tryz.func105
theorem Cx:eY bE 80:=fC Tryz.func80
theorem BQ:eY bE 36:=fC Tryz.func36
theorem iC:qb bE 52 1 1:=rU
theorem ob:ki bE 50 false 1:=sd
theorem pN:Tryz.prog.underlying 50=some (.slice 49):=by kernel_rfl
theorem mf:oJ bE 50 49 3:=yA
theorem mg:ki bE 49 true 3:=sd
theorem tw:xf bE 49 3:=yB (.agg #[(.string ⟨#[]⟩),(.int .i64 0),(.int .i64 0)])
theorem kK:qb bE 49 0 0:=rU
theorem pO:qb bE 49 1 1:=rU
theorem iy:ki bE 3 false 1:=sd
theorem jT:qb bE 49 2 2:=rU
theorem mixed:Tryz.prog.follows .mixedOrders=true:=by kernel_rfl
theorem Cy:eY bE 46:=fC Tryz.func46
theorem Du:eY bE 82:=fC Tryz.func82
theorem Dv:eY bE 81:=fC Tryz.func81
theorem Dw:eY bE 37:=fC Tryz.func37
theorem Dx:eY bE 14:=fC Tryz.func14
theorem iX:qb bE 26 0 0:=rU
theorem oZ:ki bE 23 false 1:=sd
theorem rW:Tryz.prog.underlying 23=some (.slice 57):=by kernel_rfl
theorem o4:oJ bE 23 57 2:=yA
theorem m1:ki bE 57 true 2:=sd
theorem uW:xf bE 57 2:=yB (.agg #[(.string ⟨#[]⟩),(.string ⟨#[]⟩)])
theorem lr:qb bE 57 0 0:=rU
theorem lu:qb bE 57 1 1:=rU
theorem zV:Tryz.prog.underlying 3=some (.int .i64):=by kernel_rfl
theorem pz:Tryz.prog.underlying 133=some (.int .u64):=by kernel_rfl
theorem Cb (a b:aT) (w:World): (callFunc 91 [(str a),(str b)].toArray).run bE w = .ok (.value (vi (Lib.compareBytes a.bQ b.bQ))) w:=n2 Extern.BytealgCompare.compare Tryz.func91 (Lib.run_compareString _ _ w)
theorem Dy:eY bE 53:=fC Tryz.func53
theorem wi:eY bE 24:=fC Tryz.func24
theorem Dz:eY bE 45:=fC Tryz.func45
theorem DA:eY bE 44:=fC Tryz.func44
theorem AX:eY bE 21:=fC Tryz.func21
theorem tq (a:aT) (b:Int) (w:World): (callFunc 152 [(str a),(.int .u8 b)].toArray).run bE w = .ok (.value (vi ((Lib.countByte a.bQ (Int.toNat b).toUInt8:Nat):Int))) w:=n2 Extern.BytealgCount.count Tryz.func152 (Lib.run_countString _ _ w)
theorem Cz:eY bE 153:=fC Tryz.func153
theorem Bs:eY bE 108:=fC Tryz.func108
theorem CA:eY bE 107:=fC Tryz.func107
theorem yH:qS bE 36 9 1 16:=qS.of (.string ⟨#[]⟩)
theorem DB:tJ bE 9 (⟨[]⟩:aT):=tJ.of (.string ⟨#[]⟩) (fun M=>rfl)
theorem jD:oJ bE 36 9 1:=yA
theorem DC:eY bE 84:=fC Tryz.func84
theorem CB:eY bE 39:=fC Tryz.func39
theorem o5:Tryz.prog.underlying 36=some (.slice 9):=by kernel_rfl
theorem DD:eY bE 83:=fC Tryz.func83
theorem DE:eY bE 40:=fC Tryz.func40
theorem DF:eY bE 38:=fC Tryz.func38
theorem CC:eY bE 16:=fC Tryz.func16
theorem DG:eY bE 15:=fC Tryz.func15
theorem ke:qb bE 26 1 1:=rU
theorem q7:ki bE 24 false 1:=sd
theorem tx:Tryz.prog.underlying 24=some (.slice 65):=by kernel_rfl
theorem uX:oJ bE 24 65 3:=yA
theorem tz:ki bE 65 true 3:=sd
theorem zW:xf bE 65 3:=yB (.agg #[(.string ⟨#[]⟩),(.slice none 0 0),(.slice none 0 0)])
theorem q8:qb bE 65 0 0:=rU
theorem mh:qb bE 65 1 1:=rU
theorem tA:ki bE 53 false 1:=sd
theorem rX:Tryz.prog.underlying 53=some (.slice 59):=by kernel_rfl
theorem jm:ki bE 59 true 2:=sd
theorem m5:qb bE 59 0 0:=rU
theorem DH:eY bE 86:=fC Tryz.func86
theorem DI:eY bE 85:=fC Tryz.func85
theorem DJ:eY bE 42:=fC Tryz.func42
theorem pP:qb bE 59 1 1:=rU
theorem DK:eY bE 88:=fC Tryz.func88
theorem DL:eY bE 87:=fC Tryz.func87
theorem CD:eY bE 43:=fC Tryz.func43
theorem DM:eY bE 19:=fC Tryz.func19
theorem rY:oJ bE 53 59 2:=yA
theorem wj:xf bE 59 2:=yB (.agg #[(.string ⟨#[]⟩),(.string ⟨#[]⟩)])
theorem DN:eY bE 41:=fC Tryz.func41
theorem zX:Db bE 59 bT:=⟨fun M cs ds a b w ha hb=>by
  obtain⟨_,_,rfl,rfl,rfl⟩:=ha
  obtain⟨_,_,rfl,rfl,rfl⟩:=hb
  refine(qX (d:=9999) Tryz.underlying59 (by kernel_rfl) (BI.cons (by decide) (lb fY rfl _) (lb fY rfl _) (pH rV _ _ w) (BI.cons (by decide) (lb fY rfl _) (lb fY rfl _) (pH rV _ _ w) BI.nil))).trans ?_
  congr 1
  cases a;cases b;unfold oO
  rw [jd]
  simp,by kernel_rfl⟩
theorem Bt:sC bE 59 bT:=sC.struct Tryz.underlying59 rfl zX (fun k=>(Bi.cons (by decide) (lb fY rfl) (fun b w=>MapKept.run_checkKey rV (k:=Gk.str k.Part) trivial b 9998) (Bi.cons (by decide) (lb fY rfl) (fun b w=>MapKept.run_checkKey rV (k:=Gk.str k.bT) trivial b 9998) Bi.nil))) (fun k x hx=>by
  have hx:x∈[Sc.toV k.Part,Sc.toV k.bT]:=hx
  simp only [ja,List.not_mem_nil,or_false] at hx
  rcases hx with rfl | rfl
  · exact MapKept.sameBits_self (d:= .string) (k:=Gk.str k.Part) trivial _
  · exact MapKept.sameBits_self (d:= .string) (k:=Gk.str k.bT) trivial _)
theorem CE:xi bE 63 59 4 bT Bool (false:Bool):=⟨by kernel_rfl,Bt,xU (.bool false) (fun M=>⟨_,rfl,rfl⟩)⟩
theorem DO:eY bE 18:=fC Tryz.func18
theorem DQ:eY bE 17:=fC Tryz.func17
theorem zY:qb bE 65 2 2:=rU
theorem zZ:ki bE 36 false 1:=sd
theorem E3:eY bE 8:=fC Tryz.func8
theorem DR:tI bE 39 [(0,1),(1,1),(2,1),(3,1)] #[(.slice none 0 0),(.slice none 0 0),(.int .i64 0),(.int .i64 0)]:=tI.of (.agg #[(.slice none 0 0),(.slice none 0 0),(.int .i64 0),(.int .i64 0)]) Tryz.underlying39
theorem BR:xi bE 69 59 3 bT Int (0:Int):=⟨by kernel_rfl,Bt,xU (.int .i64 0) (fun M=>⟨_,rfl,rfl⟩)⟩
theorem CF:eY bE 20:=fC Tryz.func20
theorem xv:qb bE 39 0 0:=rU
theorem DS:xf bE 9 1:=yB (.string ⟨#[]⟩)
theorem AY:tI bE 59 [(0,1),(1,1)] #[(.string ⟨#[]⟩),(.string ⟨#[]⟩)]:=tI.of (.agg #[(.string ⟨#[]⟩),(.string ⟨#[]⟩)]) Tryz.underlying59
theorem q9:qb bE 39 3 3:=rU
theorem xw:qb bE 39 1 1:=rU
theorem BS:ki bE 37 false 1:=sd
theorem uY:qb bE 39 2 2:=rU
theorem Bu:xf bE 3 1:=yB (.int .i64 0)
theorem DT:eY bE 47:=fC Tryz.func47
theorem DU:eY bE 22:=fC Tryz.func22
theorem DV:tI bE 75 [(0,1),(1,1),(2,1)] #[(.int .i64 0),(.int .i64 0),(.int .i64 0)]:=tI.of (.agg #[(.int .i64 0),(.int .i64 0),(.int .i64 0)]) Tryz.underlying75
theorem CG:oJ bE 37 75 3:=yA
theorem CH:xf bE 75 3:=yB (.agg #[(.int .i64 0),(.int .i64 0),(.int .i64 0)])
theorem DW:qS bE 37 75 3 24:=qS.of (.agg #[(.int .i64 0),(.int .i64 0),(.int .i64 0)])
theorem Fe:eY bE 9:=fC Tryz.func9
theorem DX:eY bE 48:=fC Tryz.func48
theorem BT:ki bE 78 false 1:=sd
theorem DY:eY bE 49:=fC Tryz.func49
theorem DZ:eY bE 51:=fC Tryz.func51
theorem D0:eY bE 50:=fC Tryz.func50
theorem ra:qS bE 27 3 1 8:=qS.of (.int .i64 0)
theorem Cc:tJ bE 3 (0:Int):=tJ.of (.int .i64 0) (fun M=>rfl)
theorem D1:eY bE 52:=fC Tryz.func52
theorem jo:oJ bE 27 3 1:=yA
theorem D2:eY bE 23:=fC Tryz.func23
theorem CI:qS bE 79 80 1 24:=qS.of (.slice none 0 0)
theorem Bv:tJ bE 80 pr:=tJ.of (.slice none 0 0) (fun M=>rfl)
theorem D3:Tryz.prog.underlying 37=some (.slice 75):=by kernel_rfl
theorem CJ:ki bE 75 true 3:=sd
theorem uZ:qb bE 75 1 1:=rU
theorem yI:oJ bE 79 80 1:=yA
theorem yJ:ki bE 80 false 1:=sd
theorem xx:qb bE 75 0 0:=rU
theorem z1:qb bE 75 2 2:=rU
theorem z2:Ca bE 81 2 3 1:=⟨by kernel_rfl,fun _=>by kernel_rfl⟩
theorem x6:Cq bE 81 1 ((.agg #[(.int .i64 0),(.int .i64 0)]):Value).cells:=Cq.of z2
theorem rZ:oJ bE 80 81 2:=yA
theorem wk:xf bE 81 2:=yB (.agg #[(.int .i64 0),(.int .i64 0)])
theorem z3:qS bE 80 81 2 16:=qS.of (.agg #[(.int .i64 0),(.int .i64 0)])
theorem oc:Tryz.prog.underlying 27=some (.slice 3):=by kernel_rfl
theorem CK:eY bE 94:=fC Tryz.func94
theorem D4:eY bE 61:=fC Tryz.func61
theorem z4:eY bE 27:=fC Tryz.func27
theorem u3:ki bE 81 true 2:=sd
theorem D5:eY bE 60:=fC Tryz.func60
theorem D6:eY bE 59:=fC Tryz.func59
theorem AZ:Tryz.prog.underlying 80=some (.slice 81):=by kernel_rfl
theorem rf:BL bE 81 0 0:=z2.at (k:=⟨0,by decide⟩) rfl
theorem u4:BL bE 81 1 1:=z2.at (k:=⟨1,by decide⟩) rfl
theorem iS:oJ bE 44 27 1:=yA
theorem wm:xf bE 27 1:=yB (.slice none 0 0)
theorem u5:qS bE 44 27 1 24:=qS.of (.slice none 0 0)
theorem CL:eY bE 26:=fC Tryz.func26
theorem qB:Tryz.prog.underlying 44=some (.slice 27):=by kernel_rfl
theorem D7:eY bE 54:=fC Tryz.func54
theorem BU:ki bE 84 false 1:=sd
theorem D8:eY bE 55:=fC Tryz.func55
theorem lU:ki bE 27 false 1:=sd
theorem CM:tJ bE 27 ([]: (List Int)):=tJ.of (.slice none 0 0) (fun M=>⟨_,rfl,none,0,0,rfl,rfl,bP _,by simp [maxLen],fun _ _ h=>by simp at h⟩)
theorem D9:eY bE 57:=fC Tryz.func57
theorem Ea:eY bE 56:=fC Tryz.func56
theorem Eb:eY bE 58:=fC Tryz.func58
theorem CN:eY bE 25:=fC Tryz.func25
theorem Ec:eY bE 10:=fC Tryz.func10
theorem Ff:eY bE 4:=fC Tryz.func4
theorem BV:eY bE 96:=fC Tryz.func96
theorem BW:eY bE 95:=fC Tryz.func95
theorem Ed:eY bE 62:=fC Tryz.func62
theorem Ee:eY bE 28:=fC Tryz.func28
theorem CO:eY bE 63:=fC Tryz.func63
theorem A0:eY bE 64:=fC Tryz.func64
theorem CP:eY bE 73:=fC Tryz.func73
theorem CQ:eY bE 74:=fC Tryz.func74
theorem Ef:eY bE 65:=fC Tryz.func65
theorem Eg:eY bE 66:=fC Tryz.func66
theorem CR:eY bE 135:=fC Tryz.func135
theorem CT:eY bE 97:=fC Tryz.func97
theorem Eh:eY bE 67:=fC Tryz.func67
theorem Ei:eY bE 29:=fC Tryz.func29
theorem Ej:eY bE 11:=fC Tryz.func11
theorem yK:oJ bE 43 26 2:=yA
theorem yL:xf bE 26 2:=yB (.agg #[(.slice none 0 0),(.slice none 0 0)])
theorem A1:xf bE 46 4:=yB (.agg #[(.slice none 0 0),(.slice none 0 0),(.slice none 0 0),(.slice none 0 0)])
theorem Ek:tI bE 46 [(0,1),(1,1),(2,1),(3,1)] #[(.slice none 0 0),(.slice none 0 0),(.slice none 0 0),(.slice none 0 0)]:=tI.of (.agg #[(.slice none 0 0),(.slice none 0 0),(.slice none 0 0),(.slice none 0 0)]) Tryz.underlying46
theorem CU:EW bE 46 [(.slice none 0 0),(.slice none 0 0),(.slice none 0 0),(.slice none 0 0)]:=⟨(.agg #[(.slice none 0 0),(.slice none 0 0),(.slice none 0 0),(.slice none 0 0)]),fun _=>by kernel_rfl,rfl⟩
theorem pQ:ki bE 46 true 4:=sd
theorem BX:Tryz.prog.underlying 43=some (.slice 26):=by kernel_rfl
theorem El:eY bE 98:=fC Tryz.func98
theorem Em:eY bE 99:=fC Tryz.func99
theorem En:eY bE 68:=fC Tryz.func68
theorem Eo:eY bE 69:=fC Tryz.func69
theorem pR:qb bE 46 2 2:=rU
theorem o6:ki bE 44 false 1:=sd
theorem pS:qb bE 46 3 3:=rU
theorem Ep:eY bE 30:=fC Tryz.func30
theorem z5:qb bE 46 1 1:=rU
theorem CV:ki bE 43 false 1:=sd
theorem u6:qb bE 46 0 0:=rU
theorem Er:eY bE 70:=fC Tryz.func70
theorem CW:eY bE 71:=fC Tryz.func71
theorem Es:tJ bE 81 (⟨0,0⟩:aB):=tJ.of (.agg #[(.int .i64 0),(.int .i64 0)]) (fun M=>(lp M))
theorem yM {α:Type} [GT α] {z0:α} {bytes:Nat} (sl:oJ bE 80 81 (GT.sz α)) (el:qS bE 80 81 (GT.sz α) bytes) (zd:tJ bE 81 z0) {E w:World} {V:List HP} {v0 v2:Value} {p0 p2 l1:List α} {p1:Int}
    (hw:Holds E w (own 81 v0 p0::own 81 v2 p2::V)) (hb:tp bytes p0 p1 p2=some l1):Calls bE 100 [v0,vi p1,v2].toArray w (eT (fun v w=>Holds E w (own 81 v l1::V))):=by
 have un:=sl.nY
 have ui:Tryz.prog.underlying 3=some (.int .i64):=by kernel_rfl
 unfold tp at hb
 split at hb
 case isFalse=>cases hb
 rename_i hc
 obtain⟨c1,c2,c3,c4⟩:=hc
 have hb:=oi hb
 have hle:p0.length+p2.length<=140737488355328:=je (Nat.le_mul_of_pos_right _ el.pos) c4
 obtain⟨xb,xo,xc,rfl,hv1,hv2⟩:=sb 1 hw rfl (by omega)
 obtain⟨a,cap,rfl,hcap⟩:=sa (i:=0) hw rfl
 refine enter Tryz.func100 rfl rfl ?_
 refine RC.sr ?_
 refine cT (.slice none 0 0) ?_
 refine RL.ns ?_
 refine mv (.slice a p0.length cap) ?_
 refine mv (vi p1) ?_
 refine RL.xX trivial rfl rfl sl rfl c1 c2 hcap fun u=>?_
 refine RL.ns ?_
 refine mv (.slice (some ⟨xb,xo,none⟩) p2.length xc) ?_
 refine RL.eW 1 p2 hw un ?_
 refine cT (vi ((p2.length:Nat):Int)) ?_
 refine RL.nq ?_
 refine RC.sr ?_
 refine mv (vi ((p2.length:Nat):Int)) ?_
 refine ic ((p2.length:Nat):Int) 0 ?_
 refine RL.nt ?_
 refine RC.cond (b:=(((p2.length:Nat):Int)==0)) rfl (fun hc=>?_) (fun hc=>?_)
 ·exfalso
  rw [c3] at hc
  exact absurd hc (by decide)
 refine RC.sx ?_
 refine mv (.slice a p0.length cap) ?_
 refine RL.eW 0 p0 hw un ?_
 refine cT (vi ((p0.length:Nat):Int)) ?_
 refine RL.nq ?_
 refine RC.sr ?_
 refine mv (vi p1) ?_
 refine mv (vi ((p0.length:Nat):Int)) ?_
 refine ic p1 ((p0.length:Nat):Int) ?_
 refine RL.nt ?_
 refine RC.cond (b:=(p1==((p0.length:Nat):Int))) rfl (fun hc=>?_) (fun hc=>?_)
 ·have e:p1= ((p0.length:Nat):Int):=by simpa using hc
  have hq:p0++p2=l1:=by rw [<-hb,e,cV,eB,List.drop_length,f9]
  have hw:=hw.freeze 1
  refine RC.sr ?_
  refine mv (.slice a p0.length cap) ?_
  refine mv (.slice (some ⟨xb,xo,none⟩) p2.length xc) ?_
  refine RL.app (l':=l1) 0 1 trivial rfl hw rfl rfl rfl rfl el (by unfold app;rw [aG c4,hq]) fun v w hw=>?_
  refine cT v ?_
  refine RL.nt ?_
  refine RC.rt ?_
  exact bC (hw.pick 2 [0] (new:=[own 81 v l1]) rfl rfl (by decide) (by decide))
 have hlt:p1< ((p0.length:Nat):Int):=by
  have: ¬p1= ((p0.length:Nat):Int):=by simpa using hc
  omega
 obtain⟨b,o,cap',hv,_,hcm⟩:=sb 0 hw rfl (by omega)
 injection hv with q1 q2 q3
 subst q1;subst q3
 have e1:IntKind.wrap .i64 (((p0.length:Nat):Int)+ ((p2.length:Nat):Int))= ((p0.length+1:Nat):Int):=by
  rw [c3,dz (by omega) (by omega)];omega
 refine RC.ss ?_
 refine RC.sr ?_
 refine mv (vi ((p0.length:Nat):Int)) ?_
 refine mv (vi ((p2.length:Nat):Int)) ?_
 refine RL.gq ((p0.length:Nat):Int) ((p2.length:Nat):Int) ?_
 refine mv (.slice (some ⟨b,o,none⟩) p0.length cap) ?_
 refine RL.Bl trivial rfl rfl un ?_
 refine ic (IntKind.wrap .i64 (((p0.length:Nat):Int)+ ((p2.length:Nat):Int))) ((cap:Nat):Int) ?_
 refine RL.nt ?_
 refine RC.cond (b:=decide (IntKind.wrap .i64 (((p0.length:Nat):Int)+ ((p2.length:Nat):Int))> ((cap:Nat):Int))) rfl (fun hc=>?_) (fun hc=>?_)
 ·have hg:cap<p0.length+1:=by
   have:=of_decide_eq_true hc
   rw [e1] at this;omega
  have e2:IntKind.wrap .i64 (IntKind.wrap .i64 (((p0.length:Nat):Int)+ ((p2.length:Nat):Int)) - p1)= ((p0.length+1 - Int.toNat p1:Nat):Int):=by
   rw [e1,dz (by omega) (by omega)];omega
  have e3:IntKind.wrap .i64 (p1+ ((p2.length:Nat):Int))= (((Int.toNat p1)+1:Nat):Int):=by
   rw [c3,dz (by omega) (by omega)];omega
  have hs: (Int.toNat p1)+ (p0.length+1 - Int.toNat p1)=p0.length+1:=by omega
  refine RC.sr ?_
  refine mv (.slice (some ⟨b,o,none⟩) p0.length cap) ?_
  refine mv (vi p1) ?_
  refine RL.AV rfl rfl sl rfl c1 (by omega) ?_
  refine mv (vi ((p0.length:Nat):Int)) ?_
  refine mv (vi ((p2.length:Nat):Int)) ?_
  refine RL.gq ((p0.length:Nat):Int) ((p2.length:Nat):Int) ?_
  refine mv (vi p1) ?_
  refine RL.gq (IntKind.wrap .i64 (((p0.length:Nat):Int)+ ((p2.length:Nat):Int))) p1 ?_
  refine RL.tN (i0:=Int.toNat p1) 0 p0 (p0.length+1 - Int.toNat p1) trivial rfl hw rfl (congrArg (Value.int .i64) e2) rfl el ui zd (by omega) (by omega) (by omega) (by rw [hs];rw [c3] at c4;exact c4) fun b2 c2' w hc2 hw=>?_
  rw [hs] at hw hc2 ⊢
  have hl2: (p0.take (Int.toNat p1)++List.replicate (p0.length+1 - Int.toNat p1) z0).length=p0.length+1:=by rw [cN,bO,jc];omega
  refine cT (.slice (some ⟨b2,0,none⟩) (p0.length+1) c2') ?_
  refine RL.ns ?_
  refine mv (.slice (some ⟨b2,0,none⟩) (p0.length+1) c2') ?_
  refine mv (vi p1) ?_
  refine RL.qm _ rfl sl rfl c1 (by omega) (by omega) (by omega) ?_
  refine mv (.slice (some ⟨xb,xo,none⟩) p2.length xc) ?_
  refine RL.l5 0 (Int.toNat p1) p2 (p0.take (Int.toNat p1)++List.replicate (p0.length+1 - Int.toNat p1) z0) trivial rfl hw rfl rfl (by rw [hl2];rfl) el (by rw [c3];simp only [Nat.min_def];split <;> omega) (by rw [hl2];omega) (by rw [c3];omega) (fun M hs gd=>qo 2 gd rfl) fun w hw=>?_
  have hmx:Max.max (p0.take (Int.toNat p1)++List.replicate (p0.length+1 - Int.toNat p1) z0).length ((Int.toNat p1)+p2.length)=p0.length+1:=by rw [hl2,c3];omega
  rw [hmx] at hw
  have hl3: ((p0.take (Int.toNat p1)++List.replicate (p0.length+1 - Int.toNat p1) z0).take (Int.toNat p1)++p2++(p0.take (Int.toNat p1)++List.replicate (p0.length+1 - Int.toNat p1) z0).drop (Int.toNat p1+p2.length)).length=p0.length+1:=by simp only [cN,bO,dG,hl2,c3];omega
  have hdl: (p0.drop (Int.toNat p1)).length=p0.length - Int.toNat p1:=dG
  refine RL.nt ?_
  refine RC.seq (RC.BH mixed rfl (fun(D:Nat->Bool) (U:Nat->Value) (w:World)=>cA D U [(0,46,(.slice (some ⟨b2,0,none⟩) (p0.length+1) c2')),(1,47,vi p1),(2,48,vi ((p2.length:Nat):Int)),(3,49,vi (IntKind.wrap .i64 (p1+ ((p2.length:Nat):Int)))),(4,50, .slice (some ⟨b2,0+ ((Int.toNat p1)+1)*GT.sz α,none⟩) (p0.length+1 - ((Int.toNat p1)+1)) (c2' - ((Int.toNat p1)+1))),(5,51,(.slice (some ⟨b,o,none⟩) p0.length cap)),(6,52,vi p1),(7,53, .slice (some ⟨b,o+ (Int.toNat p1)*GT.sz α,none⟩) (p0.length - Int.toNat p1) (cap - Int.toNat p1))]/\agree U [(0,(.slice (some ⟨b,o,none⟩) p0.length cap)),(1,vi p1),(7,vi ((p2.length:Nat):Int)),(9,(.slice (some ⟨b2,0,none⟩) (p0.length+1) c2'))]/\Holds E w (own 81 (.slice (some ⟨b2,0,none⟩) (p0.length+1) c2') (bif D 8 then (((p0.take (Int.toNat p1)++List.replicate (p0.length+1 - Int.toNat p1) z0).take (Int.toNat p1)++p2++(p0.take (Int.toNat p1)++List.replicate (p0.length+1 - Int.toNat p1) z0).drop (Int.toNat p1+p2.length)).take (Int.toNat p1+1)++p0.drop (Int.toNat p1)++((p0.take (Int.toNat p1)++List.replicate (p0.length+1 - Int.toNat p1) z0).take (Int.toNat p1)++p2++(p0.take (Int.toNat p1)++List.replicate (p0.length+1 - Int.toNat p1) z0).drop (Int.toNat p1+p2.length)).drop (Int.toNat p1+1+ (p0.drop (Int.toNat p1)).length)) else ((p0.take (Int.toNat p1)++List.replicate (p0.length+1 - Int.toNat p1) z0).take (Int.toNat p1)++p2++(p0.take (Int.toNat p1)++List.replicate (p0.length+1 - Int.toNat p1) z0).drop (Int.toNat p1+p2.length)))::own 81 (.slice (some ⟨b,o,none⟩) p0.length cap) p0::own 81 (.slice (some ⟨xb,xo,none⟩) p2.length xc) p2::V)) ?_ ⟨?_,?_,?_,?_,?_,?_,?_,?_,?_,trivial⟩ ?_)
  ·exact⟨cA.none,⟨rfl,rfl,rfl,rfl,trivial⟩,hw.drew⟩
  ·rintro D U w hD hdep hcl ⟨hv,ha,hw⟩
   refine mv (hx:=ha.at 3 rfl) (.slice (some ⟨b2,0,none⟩) (p0.length+1) c2') ?_
   refine RL.nil ?_
   exact⟨rfl,hv.put 0 rfl rfl,ha.up rfl,hw⟩
  ·rintro D U w hD hdep hcl ⟨hv,ha,hw⟩
   refine mv (hx:=ha.at 1 rfl) (vi p1) ?_
   refine RL.nil ?_
   exact⟨rfl,hv.put 1 rfl rfl,ha.up rfl,hw⟩
  ·rintro D U w hD hdep hcl ⟨hv,ha,hw⟩
   refine mv (hx:=ha.at 2 rfl) (vi ((p2.length:Nat):Int)) ?_
   refine RL.nil ?_
   exact⟨rfl,hv.put 2 rfl rfl,ha.up rfl,hw⟩
  ·rintro D U w hD hdep hcl ⟨hv,ha,hw⟩
   refine RL.gq (hx:=hv.at 1 rfl (hdep.1 rfl)) (hy:=hv.at 2 rfl (hdep.2.1 rfl)) p1 ((p2.length:Nat):Int) ?_
   refine RL.nil ?_
   exact⟨rfl,hv.put 3 rfl rfl,ha.up rfl,hw⟩
  ·rintro D U w hD hdep hcl ⟨hv,ha,hw⟩
   refine RL.qm (((Int.toNat p1)+1:Nat):Int) (hv.at 0 rfl (hdep.1 rfl)) sl (congrArg some ((hv.at 3 rfl (hdep.2.1 rfl)).trans (congrArg (Value.int .i64) e3))) (by omega) (by omega) (by omega) (by omega) ?_
   rw [cV]
   refine RL.nil ?_
   exact⟨rfl,hv.put 4 rfl rfl,ha.up rfl,hw⟩
  ·rintro D U w hD hdep hcl ⟨hv,ha,hw⟩
   refine mv (hx:=ha.at 0 rfl) (.slice (some ⟨b,o,none⟩) p0.length cap) ?_
   refine RL.nil ?_
   exact⟨rfl,hv.put 5 rfl rfl,ha.up rfl,hw⟩
  ·rintro D U w hD hdep hcl ⟨hv,ha,hw⟩
   refine mv (hx:=ha.at 1 rfl) (vi p1) ?_
   refine RL.nil ?_
   exact⟨rfl,hv.put 6 rfl rfl,ha.up rfl,hw⟩
  ·rintro D U w hD hdep hcl ⟨hv,ha,hw⟩
   refine RL.qm _ (hv.at 5 rfl (hdep.1 rfl)) sl (congrArg some (hv.at 6 rfl (hdep.2.1 rfl))) c1 (by omega) (by omega) (by omega) ?_
   refine RL.nil ?_
   exact⟨rfl,hv.put 7 rfl rfl,ha.up rfl,hw⟩
  ·rintro D U w hD hdep hcl ⟨hv,ha,hw⟩
   rw [hD,bL] at hw
   refine RL.l5 0 ((Int.toNat p1)+1) (p0.drop (Int.toNat p1)) ((p0.take (Int.toNat p1)++List.replicate (p0.length+1 - Int.toNat p1) z0).take (Int.toNat p1)++p2++(p0.take (Int.toNat p1)++List.replicate (p0.length+1 - Int.toNat p1) z0).drop (Int.toNat p1+p2.length)) trivial rfl hw (hv.at 4 rfl (hdep.1 rfl)) (hv.at 7 rfl (hdep.2.1 rfl)) (by rw [hl3];rfl) el (by rw [hdl];simp only [Nat.min_def];split <;> omega) (by rw [hl3];omega) (by rw [hdl];omega) (fun M hs gd=>qn 1 gd rfl (by omega)) fun w hw=>?_
   have hmx:Max.max ((p0.take (Int.toNat p1)++List.replicate (p0.length+1 - Int.toNat p1) z0).take (Int.toNat p1)++p2++(p0.take (Int.toNat p1)++List.replicate (p0.length+1 - Int.toNat p1) z0).drop (Int.toNat p1+p2.length)).length ((Int.toNat p1)+1+ (p0.drop (Int.toNat p1)).length)=p0.length+1:=by rw [hl3,hdl];omega
   rw [hmx] at hw
   refine RL.nil ?_
   exact⟨rfl,hv.up rfl,ha.up rfl,hw⟩
  intro D U w hall ⟨hv,ha,hw⟩
  rw [hall 8 (by decide),bJ] at hw
  obtain⟨O,rfl⟩:=ha.pq
  refine aF ?_
  refine RC.sr ?_
  refine mv (.slice (some ⟨b2,0,none⟩) (p0.length+1) c2') ?_
  refine cT (.slice (some ⟨b2,0,none⟩) (p0.length+1) c2') ?_
  refine RL.nt ?_
  refine RC.rt ?_
  refine bC ?_
  have hq: (((p0.take (Int.toNat p1)++List.replicate (p0.length+1 - Int.toNat p1) z0).take (Int.toNat p1)++p2++(p0.take (Int.toNat p1)++List.replicate (p0.length+1 - Int.toNat p1) z0).drop (Int.toNat p1+p2.length)).take (Int.toNat p1+1)++p0.drop (Int.toNat p1)++((p0.take (Int.toNat p1)++List.replicate (p0.length+1 - Int.toNat p1) z0).take (Int.toNat p1)++p2++(p0.take (Int.toNat p1)++List.replicate (p0.length+1 - Int.toNat p1) z0).drop (Int.toNat p1+p2.length)).drop (Int.toNat p1+1+ (p0.drop (Int.toNat p1)).length))=l1:=by
   rw [<-hb]
   exact tQ p0 p2 _ (Int.toNat p1) z0 c3 (by omega) (bP _)
  rw [hq] at hw
  exact hw.pick 3 [0] (new:=[own 81 (.slice (some ⟨b2,0,none⟩) (p0.length+1) c2') l1]) rfl rfl (by decide) (by decide)
 have hg:p0.length+1<=cap:=by
  have:=of_decide_eq_false hc
  rw [e1] at this;omega
 have e3:IntKind.wrap .i64 (p1+ ((p2.length:Nat):Int))= (((Int.toNat p1)+1:Nat):Int):=by
  rw [c3,dz (by omega) (by omega)];omega
 refine RC.sx ?_
 refine mv (.slice (some ⟨b,o,none⟩) p0.length cap) ?_
 refine mv (vi ((p0.length:Nat):Int)) ?_
 refine mv (vi ((p2.length:Nat):Int)) ?_
 refine RL.gq ((p0.length:Nat):Int) ((p2.length:Nat):Int) ?_
 refine RL.AV (hi:=((p0.length+1:Nat):Int)) rfl rfl sl (congrArg (fun x=>some (Value.int .i64 x)) e1) (by omega) (by omega) ?_
 rw [cV]
 refine cT (.slice (some ⟨b,o,none⟩) (p0.length+1) cap) ?_
 refine RL.nq ?_
 refine RC.sr ?_
 refine mv (.slice (some ⟨xb,xo,none⟩) p2.length xc) ?_
 refine mv (.slice (some ⟨b,o,none⟩) (p0.length+1) cap) ?_
 refine mv (vi p1) ?_
 refine mv (vi ((p2.length:Nat):Int)) ?_
 refine RL.gq p1 ((p2.length:Nat):Int) ?_
 refine RL.qm (((Int.toNat p1)+1:Nat):Int) rfl sl (congrArg (fun x=>some (Value.int .i64 x)) e3) (by omega) (by omega) (by omega) (by omega) ?_
 rw [cV]
 refine RL.n2 (Value.bool false) rfl [(.slice (some ⟨xb,xo,none⟩) p2.length xc), .slice (some ⟨b,o+ ((Int.toNat p1)+1)*GT.sz α,none⟩) (p0.length+1 - ((Int.toNat p1)+1)) (cap - ((Int.toNat p1)+1))] rfl (n2 (Extern.SlicesOverlaps.overlaps #[80,80] #[4]) Tryz.func137 (tP 1 0 sl hw rfl rfl (by omega) (by omega))) ?_
 refine RL.not false ?_
 refine RL.nt ?_
 refine RC.sy rfl ?_
 have hdl: (p0.drop (Int.toNat p1)).length=p0.length - Int.toNat p1:=dG
 refine RC.seq (RC.BH mixed rfl (fun(D:Nat->Bool) (U:Nat->Value) (w:World)=>cA D U [(0,69,(.slice (some ⟨b,o,none⟩) (p0.length+1) cap)),(1,70,vi p1),(2,71,vi ((p2.length:Nat):Int)),(3,72,vi (IntKind.wrap .i64 (p1+ ((p2.length:Nat):Int)))),(4,73, .slice (some ⟨b,o+ ((Int.toNat p1)+1)*GT.sz α,none⟩) (p0.length+1 - ((Int.toNat p1)+1)) (cap - ((Int.toNat p1)+1))),(5,74,(.slice (some ⟨b,o,none⟩) (p0.length+1) cap)),(6,75,vi p1),(7,76, .slice (some ⟨b,o+ (Int.toNat p1)*GT.sz α,none⟩) (p0.length+1 - Int.toNat p1) (cap - Int.toNat p1))]/\agree U [(0,(.slice (some ⟨b,o,none⟩) (p0.length+1) cap)),(1,vi p1),(2,(.slice (some ⟨xb,xo,none⟩) p2.length xc)),(7,vi ((p2.length:Nat):Int))]/\Holds E w ((bif D 8 then own 81 (.slice (some ⟨b,o,none⟩) (p0.length+1) cap) (p0.take (Int.toNat p1+1)++p0.drop (Int.toNat p1)++p0.drop (Int.toNat p1+1+ (p0.drop (Int.toNat p1)).length)) else own 81 (.slice (some ⟨b,o,none⟩) p0.length cap) p0)::own 81 (.slice (some ⟨xb,xo,none⟩) p2.length xc) p2::V)) ?_ ⟨?_,?_,?_,?_,?_,?_,?_,?_,?_,trivial⟩ ?_)
 ·exact⟨cA.none,⟨rfl,rfl,rfl,rfl,trivial⟩,hw.drew⟩
 ·rintro D U w hD hdep hcl ⟨hv,ha,hw⟩
  refine mv (hx:=ha.at 0 rfl) (.slice (some ⟨b,o,none⟩) (p0.length+1) cap) ?_
  refine RL.nil ?_
  exact⟨rfl,hv.put 0 rfl rfl,ha.up rfl,hw⟩
 ·rintro D U w hD hdep hcl ⟨hv,ha,hw⟩
  refine mv (hx:=ha.at 1 rfl) (vi p1) ?_
  refine RL.nil ?_
  exact⟨rfl,hv.put 1 rfl rfl,ha.up rfl,hw⟩
 ·rintro D U w hD hdep hcl ⟨hv,ha,hw⟩
  refine mv (hx:=ha.at 3 rfl) (vi ((p2.length:Nat):Int)) ?_
  refine RL.nil ?_
  exact⟨rfl,hv.put 2 rfl rfl,ha.up rfl,hw⟩
 ·rintro D U w hD hdep hcl ⟨hv,ha,hw⟩
  refine RL.gq (hx:=hv.at 1 rfl (hdep.1 rfl)) (hy:=hv.at 2 rfl (hdep.2.1 rfl)) p1 ((p2.length:Nat):Int) ?_
  refine RL.nil ?_
  exact⟨rfl,hv.put 3 rfl rfl,ha.up rfl,hw⟩
 ·rintro D U w hD hdep hcl ⟨hv,ha,hw⟩
  refine RL.qm (((Int.toNat p1)+1:Nat):Int) (hv.at 0 rfl (hdep.1 rfl)) sl (congrArg some ((hv.at 3 rfl (hdep.2.1 rfl)).trans (congrArg (Value.int .i64) e3))) (by omega) (by omega) (by omega) (by omega) ?_
  rw [cV]
  refine RL.nil ?_
  exact⟨rfl,hv.put 4 rfl rfl,ha.up rfl,hw⟩
 ·rintro D U w hD hdep hcl ⟨hv,ha,hw⟩
  refine mv (hx:=ha.at 0 rfl) (.slice (some ⟨b,o,none⟩) (p0.length+1) cap) ?_
  refine RL.nil ?_
  exact⟨rfl,hv.put 5 rfl rfl,ha.up rfl,hw⟩
 ·rintro D U w hD hdep hcl ⟨hv,ha,hw⟩
  refine mv (hx:=ha.at 1 rfl) (vi p1) ?_
  refine RL.nil ?_
  exact⟨rfl,hv.put 6 rfl rfl,ha.up rfl,hw⟩
 ·rintro D U w hD hdep hcl ⟨hv,ha,hw⟩
  refine RL.qm _ (hv.at 5 rfl (hdep.1 rfl)) sl (congrArg some (hv.at 6 rfl (hdep.2.1 rfl))) c1 (by omega) (by omega) (by omega) ?_
  refine RL.nil ?_
  exact⟨rfl,hv.put 7 rfl rfl,ha.up rfl,hw⟩
 ·rintro D U w hD hdep hcl ⟨hv,ha,hw⟩
  rw [hD,bL] at hw
  refine RL.l5 0 ((Int.toNat p1)+1) (p0.drop (Int.toNat p1)) p0 trivial rfl hw (hv.at 4 rfl (hdep.1 rfl)) (hv.at 7 rfl (hdep.2.1 rfl)) rfl el (by rw [hdl];simp only [Nat.min_def];split <;> omega) (by omega) (by rw [hdl];omega) (fun M hs gd=>qn 0 gd rfl (by omega)) fun w hw=>?_
  have hmx:Max.max p0.length ((Int.toNat p1)+1+ (p0.drop (Int.toNat p1)).length)=p0.length+1:=by rw [hdl];omega
  rw [hmx] at hw
  refine RL.nil ?_
  exact⟨rfl,hv.up rfl,ha.up rfl,hw⟩
 intro D U w hall ⟨hv,ha,hw⟩
 rw [hall 8 (by decide),bJ] at hw
 have hl1: (p0.take (Int.toNat p1+1)++p0.drop (Int.toNat p1)++p0.drop (Int.toNat p1+1+ (p0.drop (Int.toNat p1)).length)).length=p0.length+1:=by simp only [cN,bO,dG];omega
 obtain⟨O,rfl⟩:=ha.pq
 refine aF ?_
 refine RC.sr ?_
 refine mv (.slice (some ⟨b,o,none⟩) (p0.length+1) cap) ?_
 refine mv (vi p1) ?_
 refine RL.qm _ rfl sl rfl c1 (by omega) (by omega) (by omega) ?_
 refine mv (.slice (some ⟨xb,xo,none⟩) p2.length xc) ?_
 refine RL.l5 0 (Int.toNat p1) p2 (p0.take (Int.toNat p1+1)++p0.drop (Int.toNat p1)++p0.drop (Int.toNat p1+1+ (p0.drop (Int.toNat p1)).length)) trivial rfl hw rfl rfl (by rw [hl1];rfl) el (by rw [c3];simp only [Nat.min_def];split <;> omega) (by rw [hl1];omega) (by rw [c3];omega) (fun M hs gd=>qo 1 gd rfl) fun w hw=>?_
 have hmx:Max.max (p0.take (Int.toNat p1+1)++p0.drop (Int.toNat p1)++p0.drop (Int.toNat p1+1+ (p0.drop (Int.toNat p1)).length)).length ((Int.toNat p1)+p2.length)=p0.length+1:=by rw [hl1,c3];omega
 rw [hmx] at hw
 refine RL.ns ?_
 refine mv (.slice (some ⟨b,o,none⟩) (p0.length+1) cap) ?_
 refine cT (.slice (some ⟨b,o,none⟩) (p0.length+1) cap) ?_
 refine RL.nt ?_
 refine RC.rt ?_
 refine bC ?_
 have hq: ((p0.take (Int.toNat p1+1)++p0.drop (Int.toNat p1)++p0.drop (Int.toNat p1+1+ (p0.drop (Int.toNat p1)).length)).take (Int.toNat p1)++p2++(p0.take (Int.toNat p1+1)++p0.drop (Int.toNat p1)++p0.drop (Int.toNat p1+1+ (p0.drop (Int.toNat p1)).length)).drop (Int.toNat p1+p2.length))=l1:=by
  rw [<-hb]
  exact sJ p0 p2 (Int.toNat p1) c3 (by omega)
 rw [hq] at hw
 exact hw.pick 2 [0] (new:=[own 81 (.slice (some ⟨b,o,none⟩) (p0.length+1) cap) l1]) rfl rfl (by decide) (by decide)
theorem CX:eY bE 100:=fC Tryz.func100
theorem CY:eY bE 72:=fC Tryz.func72
theorem Et:eY bE 31:=fC Tryz.func31
theorem Eu:eY bE 32:=fC Tryz.func32
theorem A2:oJ bE 85 44 1:=yA
theorem CZ:xf bE 44 1:=yB (.slice none 0 0)
theorem C0:qS bE 85 44 1 24:=qS.of (.slice none 0 0)
theorem C1:Tryz.prog.underlying 85=some (.slice 44):=by kernel_rfl
theorem De:eY bE 6:=fC Tryz.func6
theorem z6 {α:Type} [GT α] {z0:α} {bytes:Nat} (sl:oJ bE 44 27 (GT.sz α)) (el:qS bE 44 27 (GT.sz α) bytes) (zd:tJ bE 27 z0) {E w:World} {V:List HP} {v0 v2:Value} {p0 p2 l1:List α} {p1:Int}
    (hw:Holds E w (own 27 v0 p0::own 27 v2 p2::V)) (hb:tp bytes p0 p1 p2=some l1):Calls bE 75 [v0,vi p1,v2].toArray w (eT (fun v w=>Holds E w (own 27 v l1::V))):=by
 have un:=sl.nY
 have ui:Tryz.prog.underlying 3=some (.int .i64):=by kernel_rfl
 unfold tp at hb
 split at hb
 case isFalse=>cases hb
 rename_i hc
 obtain⟨c1,c2,c3,c4⟩:=hc
 have hb:=oi hb
 have hle:p0.length+p2.length<=140737488355328:=je (Nat.le_mul_of_pos_right _ el.pos) c4
 obtain⟨xb,xo,xc,rfl,hv1,hv2⟩:=sb 1 hw rfl (by omega)
 obtain⟨a,cap,rfl,hcap⟩:=sa (i:=0) hw rfl
 refine enter Tryz.func75 rfl rfl ?_
 refine RC.sr ?_
 refine cT (.slice none 0 0) ?_
 refine RL.ns ?_
 refine mv (.slice a p0.length cap) ?_
 refine mv (vi p1) ?_
 refine RL.xX trivial rfl rfl sl rfl c1 c2 hcap fun u=>?_
 refine RL.ns ?_
 refine mv (.slice (some ⟨xb,xo,none⟩) p2.length xc) ?_
 refine RL.eW 1 p2 hw un ?_
 refine cT (vi ((p2.length:Nat):Int)) ?_
 refine RL.nq ?_
 refine RC.sr ?_
 refine mv (vi ((p2.length:Nat):Int)) ?_
 refine ic ((p2.length:Nat):Int) 0 ?_
 refine RL.nt ?_
 refine RC.cond (b:=(((p2.length:Nat):Int)==0)) rfl (fun hc=>?_) (fun hc=>?_)
 ·exfalso
  rw [c3] at hc
  exact absurd hc (by decide)
 refine RC.sx ?_
 refine mv (.slice a p0.length cap) ?_
 refine RL.eW 0 p0 hw un ?_
 refine cT (vi ((p0.length:Nat):Int)) ?_
 refine RL.nq ?_
 refine RC.sr ?_
 refine mv (vi p1) ?_
 refine mv (vi ((p0.length:Nat):Int)) ?_
 refine ic p1 ((p0.length:Nat):Int) ?_
 refine RL.nt ?_
 refine RC.cond (b:=(p1==((p0.length:Nat):Int))) rfl (fun hc=>?_) (fun hc=>?_)
 ·have e:p1= ((p0.length:Nat):Int):=by simpa using hc
  have hq:p0++p2=l1:=by rw [<-hb,e,cV,eB,List.drop_length,f9]
  have hw:=hw.freeze 1
  refine RC.sr ?_
  refine mv (.slice a p0.length cap) ?_
  refine mv (.slice (some ⟨xb,xo,none⟩) p2.length xc) ?_
  refine RL.app (l':=l1) 0 1 trivial rfl hw rfl rfl rfl rfl el (by unfold app;rw [aG c4,hq]) fun v w hw=>?_
  refine cT v ?_
  refine RL.nt ?_
  refine RC.rt ?_
  exact bC (hw.pick 2 [0] (new:=[own 27 v l1]) rfl rfl (by decide) (by decide))
 have hlt:p1< ((p0.length:Nat):Int):=by
  have: ¬p1= ((p0.length:Nat):Int):=by simpa using hc
  omega
 obtain⟨b,o,cap',hv,_,hcm⟩:=sb 0 hw rfl (by omega)
 injection hv with q1 q2 q3
 subst q1;subst q3
 have e1:IntKind.wrap .i64 (((p0.length:Nat):Int)+ ((p2.length:Nat):Int))= ((p0.length+1:Nat):Int):=by
  rw [c3,dz (by omega) (by omega)];omega
 refine RC.ss ?_
 refine RC.sr ?_
 refine mv (vi ((p0.length:Nat):Int)) ?_
 refine mv (vi ((p2.length:Nat):Int)) ?_
 refine RL.gq ((p0.length:Nat):Int) ((p2.length:Nat):Int) ?_
 refine mv (.slice (some ⟨b,o,none⟩) p0.length cap) ?_
 refine RL.Bl trivial rfl rfl un ?_
 refine ic (IntKind.wrap .i64 (((p0.length:Nat):Int)+ ((p2.length:Nat):Int))) ((cap:Nat):Int) ?_
 refine RL.nt ?_
 refine RC.cond (b:=decide (IntKind.wrap .i64 (((p0.length:Nat):Int)+ ((p2.length:Nat):Int))> ((cap:Nat):Int))) rfl (fun hc=>?_) (fun hc=>?_)
 ·have hg:cap<p0.length+1:=by
   have:=of_decide_eq_true hc
   rw [e1] at this;omega
  have e2:IntKind.wrap .i64 (IntKind.wrap .i64 (((p0.length:Nat):Int)+ ((p2.length:Nat):Int)) - p1)= ((p0.length+1 - Int.toNat p1:Nat):Int):=by
   rw [e1,dz (by omega) (by omega)];omega
  have e3:IntKind.wrap .i64 (p1+ ((p2.length:Nat):Int))= (((Int.toNat p1)+1:Nat):Int):=by
   rw [c3,dz (by omega) (by omega)];omega
  have hs: (Int.toNat p1)+ (p0.length+1 - Int.toNat p1)=p0.length+1:=by omega
  refine RC.sr ?_
  refine mv (.slice (some ⟨b,o,none⟩) p0.length cap) ?_
  refine mv (vi p1) ?_
  refine RL.AV rfl rfl sl rfl c1 (by omega) ?_
  refine mv (vi ((p0.length:Nat):Int)) ?_
  refine mv (vi ((p2.length:Nat):Int)) ?_
  refine RL.gq ((p0.length:Nat):Int) ((p2.length:Nat):Int) ?_
  refine mv (vi p1) ?_
  refine RL.gq (IntKind.wrap .i64 (((p0.length:Nat):Int)+ ((p2.length:Nat):Int))) p1 ?_
  refine RL.tN (i0:=Int.toNat p1) 0 p0 (p0.length+1 - Int.toNat p1) trivial rfl hw rfl (congrArg (Value.int .i64) e2) rfl el ui zd (by omega) (by omega) (by omega) (by rw [hs];rw [c3] at c4;exact c4) fun b2 c2' w hc2 hw=>?_
  rw [hs] at hw hc2 ⊢
  have hl2: (p0.take (Int.toNat p1)++List.replicate (p0.length+1 - Int.toNat p1) z0).length=p0.length+1:=by rw [cN,bO,jc];omega
  refine cT (.slice (some ⟨b2,0,none⟩) (p0.length+1) c2') ?_
  refine RL.ns ?_
  refine mv (.slice (some ⟨b2,0,none⟩) (p0.length+1) c2') ?_
  refine mv (vi p1) ?_
  refine RL.qm _ rfl sl rfl c1 (by omega) (by omega) (by omega) ?_
  refine mv (.slice (some ⟨xb,xo,none⟩) p2.length xc) ?_
  refine RL.l5 0 (Int.toNat p1) p2 (p0.take (Int.toNat p1)++List.replicate (p0.length+1 - Int.toNat p1) z0) trivial rfl hw rfl rfl (by rw [hl2];rfl) el (by rw [c3];simp only [Nat.min_def];split <;> omega) (by rw [hl2];omega) (by rw [c3];omega) (fun M hs gd=>qo 2 gd rfl) fun w hw=>?_
  have hmx:Max.max (p0.take (Int.toNat p1)++List.replicate (p0.length+1 - Int.toNat p1) z0).length ((Int.toNat p1)+p2.length)=p0.length+1:=by rw [hl2,c3];omega
  rw [hmx] at hw
  have hl3: ((p0.take (Int.toNat p1)++List.replicate (p0.length+1 - Int.toNat p1) z0).take (Int.toNat p1)++p2++(p0.take (Int.toNat p1)++List.replicate (p0.length+1 - Int.toNat p1) z0).drop (Int.toNat p1+p2.length)).length=p0.length+1:=by simp only [cN,bO,dG,hl2,c3];omega
  have hdl: (p0.drop (Int.toNat p1)).length=p0.length - Int.toNat p1:=dG
  refine RL.nt ?_
  refine RC.seq (RC.BH mixed rfl (fun(D:Nat->Bool) (U:Nat->Value) (w:World)=>cA D U [(0,46,(.slice (some ⟨b2,0,none⟩) (p0.length+1) c2')),(1,47,vi p1),(2,48,vi ((p2.length:Nat):Int)),(3,49,vi (IntKind.wrap .i64 (p1+ ((p2.length:Nat):Int)))),(4,50, .slice (some ⟨b2,0+ ((Int.toNat p1)+1)*GT.sz α,none⟩) (p0.length+1 - ((Int.toNat p1)+1)) (c2' - ((Int.toNat p1)+1))),(5,51,(.slice (some ⟨b,o,none⟩) p0.length cap)),(6,52,vi p1),(7,53, .slice (some ⟨b,o+ (Int.toNat p1)*GT.sz α,none⟩) (p0.length - Int.toNat p1) (cap - Int.toNat p1))]/\agree U [(0,(.slice (some ⟨b,o,none⟩) p0.length cap)),(1,vi p1),(7,vi ((p2.length:Nat):Int)),(9,(.slice (some ⟨b2,0,none⟩) (p0.length+1) c2'))]/\Holds E w (own 27 (.slice (some ⟨b2,0,none⟩) (p0.length+1) c2') (bif D 8 then (((p0.take (Int.toNat p1)++List.replicate (p0.length+1 - Int.toNat p1) z0).take (Int.toNat p1)++p2++(p0.take (Int.toNat p1)++List.replicate (p0.length+1 - Int.toNat p1) z0).drop (Int.toNat p1+p2.length)).take (Int.toNat p1+1)++p0.drop (Int.toNat p1)++((p0.take (Int.toNat p1)++List.replicate (p0.length+1 - Int.toNat p1) z0).take (Int.toNat p1)++p2++(p0.take (Int.toNat p1)++List.replicate (p0.length+1 - Int.toNat p1) z0).drop (Int.toNat p1+p2.length)).drop (Int.toNat p1+1+ (p0.drop (Int.toNat p1)).length)) else ((p0.take (Int.toNat p1)++List.replicate (p0.length+1 - Int.toNat p1) z0).take (Int.toNat p1)++p2++(p0.take (Int.toNat p1)++List.replicate (p0.length+1 - Int.toNat p1) z0).drop (Int.toNat p1+p2.length)))::own 27 (.slice (some ⟨b,o,none⟩) p0.length cap) p0::own 27 (.slice (some ⟨xb,xo,none⟩) p2.length xc) p2::V)) ?_ ⟨?_,?_,?_,?_,?_,?_,?_,?_,?_,trivial⟩ ?_)
  ·exact⟨cA.none,⟨rfl,rfl,rfl,rfl,trivial⟩,hw.drew⟩
  ·rintro D U w hD hdep hcl ⟨hv,ha,hw⟩
   refine mv (hx:=ha.at 3 rfl) (.slice (some ⟨b2,0,none⟩) (p0.length+1) c2') ?_
   refine RL.nil ?_
   exact⟨rfl,hv.put 0 rfl rfl,ha.up rfl,hw⟩
  ·rintro D U w hD hdep hcl ⟨hv,ha,hw⟩
   refine mv (hx:=ha.at 1 rfl) (vi p1) ?_
   refine RL.nil ?_
   exact⟨rfl,hv.put 1 rfl rfl,ha.up rfl,hw⟩
  ·rintro D U w hD hdep hcl ⟨hv,ha,hw⟩
   refine mv (hx:=ha.at 2 rfl) (vi ((p2.length:Nat):Int)) ?_
   refine RL.nil ?_
   exact⟨rfl,hv.put 2 rfl rfl,ha.up rfl,hw⟩
  ·rintro D U w hD hdep hcl ⟨hv,ha,hw⟩
   refine RL.gq (hx:=hv.at 1 rfl (hdep.1 rfl)) (hy:=hv.at 2 rfl (hdep.2.1 rfl)) p1 ((p2.length:Nat):Int) ?_
   refine RL.nil ?_
   exact⟨rfl,hv.put 3 rfl rfl,ha.up rfl,hw⟩
  ·rintro D U w hD hdep hcl ⟨hv,ha,hw⟩
   refine RL.qm (((Int.toNat p1)+1:Nat):Int) (hv.at 0 rfl (hdep.1 rfl)) sl (congrArg some ((hv.at 3 rfl (hdep.2.1 rfl)).trans (congrArg (Value.int .i64) e3))) (by omega) (by omega) (by omega) (by omega) ?_
   rw [cV]
   refine RL.nil ?_
   exact⟨rfl,hv.put 4 rfl rfl,ha.up rfl,hw⟩
  ·rintro D U w hD hdep hcl ⟨hv,ha,hw⟩
   refine mv (hx:=ha.at 0 rfl) (.slice (some ⟨b,o,none⟩) p0.length cap) ?_
   refine RL.nil ?_
   exact⟨rfl,hv.put 5 rfl rfl,ha.up rfl,hw⟩
  ·rintro D U w hD hdep hcl ⟨hv,ha,hw⟩
   refine mv (hx:=ha.at 1 rfl) (vi p1) ?_
   refine RL.nil ?_
   exact⟨rfl,hv.put 6 rfl rfl,ha.up rfl,hw⟩
  ·rintro D U w hD hdep hcl ⟨hv,ha,hw⟩
   refine RL.qm _ (hv.at 5 rfl (hdep.1 rfl)) sl (congrArg some (hv.at 6 rfl (hdep.2.1 rfl))) c1 (by omega) (by omega) (by omega) ?_
   refine RL.nil ?_
   exact⟨rfl,hv.put 7 rfl rfl,ha.up rfl,hw⟩
  ·rintro D U w hD hdep hcl ⟨hv,ha,hw⟩
   rw [hD,bL] at hw
   refine RL.l5 0 ((Int.toNat p1)+1) (p0.drop (Int.toNat p1)) ((p0.take (Int.toNat p1)++List.replicate (p0.length+1 - Int.toNat p1) z0).take (Int.toNat p1)++p2++(p0.take (Int.toNat p1)++List.replicate (p0.length+1 - Int.toNat p1) z0).drop (Int.toNat p1+p2.length)) trivial rfl hw (hv.at 4 rfl (hdep.1 rfl)) (hv.at 7 rfl (hdep.2.1 rfl)) (by rw [hl3];rfl) el (by rw [hdl];simp only [Nat.min_def];split <;> omega) (by rw [hl3];omega) (by rw [hdl];omega) (fun M hs gd=>qn 1 gd rfl (by omega)) fun w hw=>?_
   have hmx:Max.max ((p0.take (Int.toNat p1)++List.replicate (p0.length+1 - Int.toNat p1) z0).take (Int.toNat p1)++p2++(p0.take (Int.toNat p1)++List.replicate (p0.length+1 - Int.toNat p1) z0).drop (Int.toNat p1+p2.length)).length ((Int.toNat p1)+1+ (p0.drop (Int.toNat p1)).length)=p0.length+1:=by rw [hl3,hdl];omega
   rw [hmx] at hw
   refine RL.nil ?_
   exact⟨rfl,hv.up rfl,ha.up rfl,hw⟩
  intro D U w hall ⟨hv,ha,hw⟩
  rw [hall 8 (by decide),bJ] at hw
  obtain⟨O,rfl⟩:=ha.pq
  refine aF ?_
  refine RC.sr ?_
  refine mv (.slice (some ⟨b2,0,none⟩) (p0.length+1) c2') ?_
  refine cT (.slice (some ⟨b2,0,none⟩) (p0.length+1) c2') ?_
  refine RL.nt ?_
  refine RC.rt ?_
  refine bC ?_
  have hq: (((p0.take (Int.toNat p1)++List.replicate (p0.length+1 - Int.toNat p1) z0).take (Int.toNat p1)++p2++(p0.take (Int.toNat p1)++List.replicate (p0.length+1 - Int.toNat p1) z0).drop (Int.toNat p1+p2.length)).take (Int.toNat p1+1)++p0.drop (Int.toNat p1)++((p0.take (Int.toNat p1)++List.replicate (p0.length+1 - Int.toNat p1) z0).take (Int.toNat p1)++p2++(p0.take (Int.toNat p1)++List.replicate (p0.length+1 - Int.toNat p1) z0).drop (Int.toNat p1+p2.length)).drop (Int.toNat p1+1+ (p0.drop (Int.toNat p1)).length))=l1:=by
   rw [<-hb]
   exact tQ p0 p2 _ (Int.toNat p1) z0 c3 (by omega) (bP _)
  rw [hq] at hw
  exact hw.pick 3 [0] (new:=[own 27 (.slice (some ⟨b2,0,none⟩) (p0.length+1) c2') l1]) rfl rfl (by decide) (by decide)
 have hg:p0.length+1<=cap:=by
  have:=of_decide_eq_false hc
  rw [e1] at this;omega
 have e3:IntKind.wrap .i64 (p1+ ((p2.length:Nat):Int))= (((Int.toNat p1)+1:Nat):Int):=by
  rw [c3,dz (by omega) (by omega)];omega
 refine RC.sx ?_
 refine mv (.slice (some ⟨b,o,none⟩) p0.length cap) ?_
 refine mv (vi ((p0.length:Nat):Int)) ?_
 refine mv (vi ((p2.length:Nat):Int)) ?_
 refine RL.gq ((p0.length:Nat):Int) ((p2.length:Nat):Int) ?_
 refine RL.AV (hi:=((p0.length+1:Nat):Int)) rfl rfl sl (congrArg (fun x=>some (Value.int .i64 x)) e1) (by omega) (by omega) ?_
 rw [cV]
 refine cT (.slice (some ⟨b,o,none⟩) (p0.length+1) cap) ?_
 refine RL.nq ?_
 refine RC.sr ?_
 refine mv (.slice (some ⟨xb,xo,none⟩) p2.length xc) ?_
 refine mv (.slice (some ⟨b,o,none⟩) (p0.length+1) cap) ?_
 refine mv (vi p1) ?_
 refine mv (vi ((p2.length:Nat):Int)) ?_
 refine RL.gq p1 ((p2.length:Nat):Int) ?_
 refine RL.qm (((Int.toNat p1)+1:Nat):Int) rfl sl (congrArg (fun x=>some (Value.int .i64 x)) e3) (by omega) (by omega) (by omega) (by omega) ?_
 rw [cV]
 refine RL.n2 (Value.bool false) rfl [(.slice (some ⟨xb,xo,none⟩) p2.length xc), .slice (some ⟨b,o+ ((Int.toNat p1)+1)*GT.sz α,none⟩) (p0.length+1 - ((Int.toNat p1)+1)) (cap - ((Int.toNat p1)+1))] rfl (n2 (Extern.SlicesOverlaps.overlaps #[44,44] #[4]) Tryz.func101 (tP 1 0 sl hw rfl rfl (by omega) (by omega))) ?_
 refine RL.not false ?_
 refine RL.nt ?_
 refine RC.sy rfl ?_
 have hdl: (p0.drop (Int.toNat p1)).length=p0.length - Int.toNat p1:=dG
 refine RC.seq (RC.BH mixed rfl (fun(D:Nat->Bool) (U:Nat->Value) (w:World)=>cA D U [(0,69,(.slice (some ⟨b,o,none⟩) (p0.length+1) cap)),(1,70,vi p1),(2,71,vi ((p2.length:Nat):Int)),(3,72,vi (IntKind.wrap .i64 (p1+ ((p2.length:Nat):Int)))),(4,73, .slice (some ⟨b,o+ ((Int.toNat p1)+1)*GT.sz α,none⟩) (p0.length+1 - ((Int.toNat p1)+1)) (cap - ((Int.toNat p1)+1))),(5,74,(.slice (some ⟨b,o,none⟩) (p0.length+1) cap)),(6,75,vi p1),(7,76, .slice (some ⟨b,o+ (Int.toNat p1)*GT.sz α,none⟩) (p0.length+1 - Int.toNat p1) (cap - Int.toNat p1))]/\agree U [(0,(.slice (some ⟨b,o,none⟩) (p0.length+1) cap)),(1,vi p1),(2,(.slice (some ⟨xb,xo,none⟩) p2.length xc)),(7,vi ((p2.length:Nat):Int))]/\Holds E w ((bif D 8 then own 27 (.slice (some ⟨b,o,none⟩) (p0.length+1) cap) (p0.take (Int.toNat p1+1)++p0.drop (Int.toNat p1)++p0.drop (Int.toNat p1+1+ (p0.drop (Int.toNat p1)).length)) else own 27 (.slice (some ⟨b,o,none⟩) p0.length cap) p0)::own 27 (.slice (some ⟨xb,xo,none⟩) p2.length xc) p2::V)) ?_ ⟨?_,?_,?_,?_,?_,?_,?_,?_,?_,trivial⟩ ?_)
 ·exact⟨cA.none,⟨rfl,rfl,rfl,rfl,trivial⟩,hw.drew⟩
 ·rintro D U w hD hdep hcl ⟨hv,ha,hw⟩
  refine mv (hx:=ha.at 0 rfl) (.slice (some ⟨b,o,none⟩) (p0.length+1) cap) ?_
  refine RL.nil ?_
  exact⟨rfl,hv.put 0 rfl rfl,ha.up rfl,hw⟩
 ·rintro D U w hD hdep hcl ⟨hv,ha,hw⟩
  refine mv (hx:=ha.at 1 rfl) (vi p1) ?_
  refine RL.nil ?_
  exact⟨rfl,hv.put 1 rfl rfl,ha.up rfl,hw⟩
 ·rintro D U w hD hdep hcl ⟨hv,ha,hw⟩
  refine mv (hx:=ha.at 3 rfl) (vi ((p2.length:Nat):Int)) ?_
  refine RL.nil ?_
  exact⟨rfl,hv.put 2 rfl rfl,ha.up rfl,hw⟩
 ·rintro D U w hD hdep hcl ⟨hv,ha,hw⟩
  refine RL.gq (hx:=hv.at 1 rfl (hdep.1 rfl)) (hy:=hv.at 2 rfl (hdep.2.1 rfl)) p1 ((p2.length:Nat):Int) ?_
  refine RL.nil ?_
  exact⟨rfl,hv.put 3 rfl rfl,ha.up rfl,hw⟩
 ·rintro D U w hD hdep hcl ⟨hv,ha,hw⟩
  refine RL.qm (((Int.toNat p1)+1:Nat):Int) (hv.at 0 rfl (hdep.1 rfl)) sl (congrArg some ((hv.at 3 rfl (hdep.2.1 rfl)).trans (congrArg (Value.int .i64) e3))) (by omega) (by omega) (by omega) (by omega) ?_
  rw [cV]
  refine RL.nil ?_
  exact⟨rfl,hv.put 4 rfl rfl,ha.up rfl,hw⟩
 ·rintro D U w hD hdep hcl ⟨hv,ha,hw⟩
  refine mv (hx:=ha.at 0 rfl) (.slice (some ⟨b,o,none⟩) (p0.length+1) cap) ?_
  refine RL.nil ?_
  exact⟨rfl,hv.put 5 rfl rfl,ha.up rfl,hw⟩
 ·rintro D U w hD hdep hcl ⟨hv,ha,hw⟩
  refine mv (hx:=ha.at 1 rfl) (vi p1) ?_
  refine RL.nil ?_
  exact⟨rfl,hv.put 6 rfl rfl,ha.up rfl,hw⟩
 ·rintro D U w hD hdep hcl ⟨hv,ha,hw⟩
  refine RL.qm _ (hv.at 5 rfl (hdep.1 rfl)) sl (congrArg some (hv.at 6 rfl (hdep.2.1 rfl))) c1 (by omega) (by omega) (by omega) ?_
  refine RL.nil ?_
  exact⟨rfl,hv.put 7 rfl rfl,ha.up rfl,hw⟩
 ·rintro D U w hD hdep hcl ⟨hv,ha,hw⟩
  rw [hD,bL] at hw
  refine RL.l5 0 ((Int.toNat p1)+1) (p0.drop (Int.toNat p1)) p0 trivial rfl hw (hv.at 4 rfl (hdep.1 rfl)) (hv.at 7 rfl (hdep.2.1 rfl)) rfl el (by rw [hdl];simp only [Nat.min_def];split <;> omega) (by omega) (by rw [hdl];omega) (fun M hs gd=>qn 0 gd rfl (by omega)) fun w hw=>?_
  have hmx:Max.max p0.length ((Int.toNat p1)+1+ (p0.drop (Int.toNat p1)).length)=p0.length+1:=by rw [hdl];omega
  rw [hmx] at hw
  refine RL.nil ?_
  exact⟨rfl,hv.up rfl,ha.up rfl,hw⟩
 intro D U w hall ⟨hv,ha,hw⟩
 rw [hall 8 (by decide),bJ] at hw
 have hl1: (p0.take (Int.toNat p1+1)++p0.drop (Int.toNat p1)++p0.drop (Int.toNat p1+1+ (p0.drop (Int.toNat p1)).length)).length=p0.length+1:=by simp only [cN,bO,dG];omega
 obtain⟨O,rfl⟩:=ha.pq
 refine aF ?_
 refine RC.sr ?_
 refine mv (.slice (some ⟨b,o,none⟩) (p0.length+1) cap) ?_
 refine mv (vi p1) ?_
 refine RL.qm _ rfl sl rfl c1 (by omega) (by omega) (by omega) ?_
 refine mv (.slice (some ⟨xb,xo,none⟩) p2.length xc) ?_
 refine RL.l5 0 (Int.toNat p1) p2 (p0.take (Int.toNat p1+1)++p0.drop (Int.toNat p1)++p0.drop (Int.toNat p1+1+ (p0.drop (Int.toNat p1)).length)) trivial rfl hw rfl rfl (by rw [hl1];rfl) el (by rw [c3];simp only [Nat.min_def];split <;> omega) (by rw [hl1];omega) (by rw [c3];omega) (fun M hs gd=>qo 1 gd rfl) fun w hw=>?_
 have hmx:Max.max (p0.take (Int.toNat p1+1)++p0.drop (Int.toNat p1)++p0.drop (Int.toNat p1+1+ (p0.drop (Int.toNat p1)).length)).length ((Int.toNat p1)+p2.length)=p0.length+1:=by rw [hl1,c3];omega
 rw [hmx] at hw
 refine RL.ns ?_
 refine mv (.slice (some ⟨b,o,none⟩) (p0.length+1) cap) ?_
 refine cT (.slice (some ⟨b,o,none⟩) (p0.length+1) cap) ?_
 refine RL.nt ?_
 refine RC.rt ?_
 refine bC ?_
 have hq: ((p0.take (Int.toNat p1+1)++p0.drop (Int.toNat p1)++p0.drop (Int.toNat p1+1+ (p0.drop (Int.toNat p1)).length)).take (Int.toNat p1)++p2++(p0.take (Int.toNat p1+1)++p0.drop (Int.toNat p1)++p0.drop (Int.toNat p1+1+ (p0.drop (Int.toNat p1)).length)).drop (Int.toNat p1+p2.length))=l1:=by
  rw [<-hb]
  exact sJ p0 p2 (Int.toNat p1) c3 (by omega)
 rw [hq] at hw
 exact hw.pick 2 [0] (new:=[own 27 (.slice (some ⟨b,o,none⟩) (p0.length+1) cap) l1]) rfl rfl (by decide) (by decide)
theorem Ev:eY bE 75:=fC Tryz.func75
theorem C2:eY bE 33:=fC Tryz.func33
theorem C3:eY bE 103:=fC Tryz.func103
theorem Ew:eY bE 76:=fC Tryz.func76
theorem Ex:eY bE 77:=fC Tryz.func77
theorem Ey:eY bE 78:=fC Tryz.func78
theorem C4:eY bE 34:=fC Tryz.func34
theorem Ez:eY bE 12:=fC Tryz.func12
theorem Fg:eY bE 5:=fC Tryz.func5
theorem EA:tI bE 49 [(0,1),(1,1),(2,1)] #[(.string ⟨#[]⟩),(.int .i64 0),(.int .i64 0)]:=tI.of (.agg #[(.string ⟨#[]⟩),(.int .i64 0),(.int .i64 0)]) Tryz.underlying49
theorem EB:tI bE 52 [(0,1),(1,1)] #[(.string ⟨#[]⟩),(.slice none 0 0)]:=tI.of (.agg #[(.string ⟨#[]⟩),(.slice none 0 0)]) Tryz.underlying52
theorem EC:tI bE 57 [(0,1),(1,1)] #[(.string ⟨#[]⟩),(.string ⟨#[]⟩)]:=tI.of (.agg #[(.string ⟨#[]⟩),(.string ⟨#[]⟩)]) Tryz.underlying57
theorem ED:tI bE 26 [(0,1),(1,1)] #[(.slice none 0 0),(.slice none 0 0)]:=tI.of (.agg #[(.slice none 0 0),(.slice none 0 0)]) Tryz.underlying26
theorem C5:qS bE 53 59 2 32:=qS.of (.agg #[(.string ⟨#[]⟩),(.string ⟨#[]⟩)])
theorem EE:eY bE 79:=fC Tryz.func79
theorem EF:eY bE 35:=fC Tryz.func35
theorem EG:eY bE 13:=fC Tryz.func13
theorem Fh:eY bE 7:=fC Tryz.func7
def gU (E:World) (V:List HP) (res: (List Int)×Int) (v:Value) (w:World):Prop:=∃u0:Value,v = .tuple #[u0,(vi res.2)]/\Holds E w ([own 3 u0 res.1]++V)
def jh (E:World) (V:List HP) (res: (List (List Int))) (v:Value) (w:World):Prop:=Holds E w ([own 27 v res]++V)
def l7 (E:World) (V:List HP) (res: (List Int)×(List Int)×Int) (v:Value) (w:World):Prop:=∃u0 u1:Value,v = .tuple #[u0,u1,(vi res.2.2)]/\Holds E w ([rd u0 res.1,rd u1 res.2.1]++V)
def my (E:World) (V:List HP) (res: (List bT)) (v:Value) (w:World):Prop:=Holds E w ([own 59 v res]++V)
def aC (E:World) (V:List HP) (res:Int) (v:Value) (w:World):Prop:=v= (vi res)/\Holds E w V
def bA (E:World) (V:List HP) (res:Bool) (v:Value) (w:World):Prop:=v= (vb res)/\Holds E w V
def bZ (E:World) (V:List HP) (res:Int×Bool) (v:Value) (w:World):Prop:=v = .tuple #[(vi res.1),(vb res.2)]/\Holds E w V
def dQ (E:World) (V:List HP) (res: (List aT)) (v:Value) (w:World):Prop:=Holds E w ([own 9 v res]++V)
def ie (E:World) (V:List HP) (res:aM) (v:Value) (w:World):Prop:=Holds E w ([rd v res]++V)
def cD (E:World) (V:List HP) (res: (List Int)) (v:Value) (w:World):Prop:=Holds E w ([own 3 v res]++V)
end Go.Gk
namespace Go.Gk
open Go Go.Proofs
def tl (H:Type) (d:DataW H):Nat:=YtopjilpddngibaaGreatDoor.Rows.uptoBulk d
def C7 (H:Type) (d:List (DataW H)):Nat:=YtopjilpddngibaaGreatDoor.Rows.uptoBulkAll d
theorem gm:UB tl C7 where
  str:=fun H b=>by simp [tl,YtopjilpddngibaaGreatDoor.Rows.uptoBulk]
  pos:=fun H d=>by
    unfold tl
    cases d with
    | lit l=>cases l <;> simp [YtopjilpddngibaaGreatDoor.Rows.uptoBulk]
    | nil=>simp [YtopjilpddngibaaGreatDoor.Rows.uptoBulk]
    | ptr d=>simp [YtopjilpddngibaaGreatDoor.Rows.uptoBulk]
    | slice elems spare=>simp [YtopjilpddngibaaGreatDoor.Rows.uptoBulk]
    | agg parts=>simp [YtopjilpddngibaaGreatDoor.Rows.uptoBulk]
    | iface t d=>simp [YtopjilpddngibaaGreatDoor.Rows.uptoBulk]
    | map entries=>simp [YtopjilpddngibaaGreatDoor.Rows.uptoBulk]
    | held h=>simp [YtopjilpddngibaaGreatDoor.Rows.uptoBulk]
  sl:=fun H e s=>by simp [tl,C7,YtopjilpddngibaaGreatDoor.Rows.uptoBulk]
  ag:=fun H l=>by simp [tl,C7,YtopjilpddngibaaGreatDoor.Rows.uptoBulk]
  nil:=fun H=>by simp [C7,YtopjilpddngibaaGreatDoor.Rows.uptoBulkAll]
  cons:=fun H x l=>by simp [tl,C7,YtopjilpddngibaaGreatDoor.Rows.uptoBulkAll]
theorem Bx:gH tl Tryz.prog 9 aT:=yR gm (by kernel_rfl)
theorem E4:gH tl Tryz.prog 3 Int:=yQ gm (by kernel_rfl)
theorem EH:gH tl Tryz.prog 49 aU:=iU gm (fun(x:aU)=>(x.Name,x.Kind,x.aW)) (fun b=>⟨b.1,b.2.1,b.2.2⟩) (fun b=>rfl) Tryz.underlying49 (iE gm Bx (iE gm E4 (lf gm E4))) (fun b=>by simp only [pT];omega)
theorem EI:gH tl Tryz.prog 50 (List aU):=kf (e:=49) gm EH
theorem EJ:gH tl Tryz.prog 52 aD:=iU gm (fun(x:aD)=>(x.Name,x.aP)) (fun b=>⟨b.1,b.2⟩) (fun b=>rfl) Tryz.underlying52 (iE gm Bx (lf gm EI)) (fun b=>by simp only [jz];omega)
theorem EK:gH tl Tryz.prog 22 (List aD):=kf (e:=52) gm EJ
theorem EL:gH tl Tryz.prog 57 Part:=iU gm (fun(x:Part)=>(x.Name,x.cE)) (fun b=>⟨b.1,b.2⟩) (fun b=>rfl) Tryz.underlying57 (iE gm Bx (lf gm Bx)) (fun b=>by simp only [ve];omega)
theorem EM:gH tl Tryz.prog 23 (List Part):=kf (e:=57) gm EL
theorem EN:gH tl Tryz.prog 59 bT:=iU gm (fun(x:bT)=>(x.Part,x.bT)) (fun b=>⟨b.1,b.2⟩) (fun b=>rfl) Tryz.underlying59 (iE gm Bx (lf gm Bx)) (fun b=>by simp only [BZ];omega)
theorem EO:gH tl Tryz.prog 53 (List bT):=kf (e:=59) gm EN
theorem EP:gH tl Tryz.prog 36 (List aT):=kf (e:=9) gm Bx
theorem ER:gH tl Tryz.prog 65 Net:=iU gm (fun(x:Net)=>(x.Name,x.aP,x.kQ)) (fun b=>⟨b.1,b.2.1,b.2.2⟩) (fun b=>rfl) Tryz.underlying65 (iE gm Bx (iE gm EO (lf gm EP))) (fun b=>by simp only [ri];omega)
theorem ES:gH tl Tryz.prog 24 (List Net):=kf (e:=65) gm ER
theorem ET:gH tl Tryz.prog 26 aH:=iU gm (fun(x:aH)=>(x.aK,x.aY)) (fun b=>⟨b.1,b.2⟩) (fun b=>rfl) Tryz.underlying26 (iE gm EM (lf gm ES)) (fun b=>by simp only [lx];omega)
end Go.Gk
namespace Go.Proofs
open Go.Shelf Go.RowKit Go.Lib Go.Sort
def Tryz.lay49_ren : Go.Shelf.Ren := ⟨fun | 6 => 49 | 15 => 90 | 14 => 89 | 28 => 117 | 29 => 118 | 20 => 109 | 21 => 110 | 22 => 111 | 23 => 112 | 24 => 113 | 25 => 114 | 26 => 115 | 27 => 116 | 46 => 154 | 47 => 155 | 48 => 156 | 49 => 157 | 50 => 158 | 57 => 183 | n => n, fun | 22 => 36 | 24 => 9 | 25 => 78 | 3 => 3 | 39 => 133 | 0 => 0 | 53 => 156 | 55 => 158 | 4 => 4 | 46 => 150 | 45 => 149 | 50 => 72 | 5 => 5 | 9 => 9 | 66 => 182 | 70 => 186 | 76 => 201 | 77 => 202 | n => n, fun | n => n⟩
theorem Tryz.lay49 : Go.Proofs.SlLaysF.n6 Tryz.prog Tryz.lay49_ren := {
  mixed := by kernel_rfl
  f6 := ⟨Tryz.f49.name, by decide, Tryz.func49.trans (congrArg some (by kernel_rfl))⟩
  f14 := ⟨Tryz.f89.name, by decide, Tryz.func89.trans (congrArg some (by kernel_rfl))⟩
  f15 := Tryz.func90.trans (congrArg some (by kernel_rfl))
  f20 := ⟨Tryz.f109.name, by decide, Tryz.func109.trans (congrArg some (by kernel_rfl))⟩
  f21 := ⟨Tryz.f110.name, by decide, Tryz.func110.trans (congrArg some (by kernel_rfl))⟩
  f22 := ⟨Tryz.f111.name, by decide, Tryz.func111.trans (congrArg some (by kernel_rfl))⟩
  f23 := ⟨Tryz.f112.name, by decide, Tryz.func112.trans (congrArg some (by kernel_rfl))⟩
  f24 := ⟨Tryz.f113.name, by decide, Tryz.func113.trans (congrArg some (by kernel_rfl))⟩
  f25 := ⟨Tryz.f114.name, by decide, Tryz.func114.trans (congrArg some (by kernel_rfl))⟩
  f26 := ⟨Tryz.f115.name, by decide, Tryz.func115.trans (congrArg some (by kernel_rfl))⟩
  f27 := ⟨Tryz.f116.name, by decide, Tryz.func116.trans (congrArg some (by kernel_rfl))⟩
  f28 := Tryz.func117.trans (congrArg some (by kernel_rfl))
  f29 := Tryz.func118.trans (congrArg some (by kernel_rfl))
  f46 := ⟨Tryz.f154.name, by decide, Tryz.func154.trans (congrArg some (by kernel_rfl))⟩
  f47 := Tryz.func155.trans (congrArg some (by kernel_rfl))
  f48 := Tryz.func156.trans (congrArg some (by kernel_rfl))
  f49 := ⟨Tryz.f157.name, by decide, Tryz.func157.trans (congrArg some (by kernel_rfl))⟩
  f50 := ⟨Tryz.f158.name, by decide, Tryz.func158.trans (congrArg some (by kernel_rfl))⟩
  f57 := ⟨Tryz.f183.name, by decide, Tryz.func183.trans (congrArg some (by kernel_rfl))⟩
  t0 := Tryz.underlying0
  a0 := Tryz.isAgg0
  z0 := Tryz.sizeOf0
  v0 := Tryz.zeroValue0
  t3 := Tryz.underlying3
  a3 := Tryz.isAgg3
  z3 := Tryz.sizeOf3
  v3 := Tryz.zeroValue3
  t4 := Tryz.underlying4
  a4 := Tryz.isAgg4
  z4 := Tryz.sizeOf4
  v4 := Tryz.zeroValue4
  t5 := Tryz.underlying5
  a5 := Tryz.isAgg5
  z5 := Tryz.sizeOf5
  v5 := Tryz.zeroValue5
  t9 := Tryz.underlying9
  a9 := Tryz.isAgg9
  z9 := Tryz.sizeOf9
  v9 := Tryz.zeroValue9
  t22 := Tryz.underlying36
  a22 := Tryz.isAgg36
  z22 := Tryz.sizeOf36
  v22 := Tryz.zeroValue36
  a24 := Tryz.isAgg9
  z24 := Tryz.sizeOf9
  t25 := Tryz.underlying78
  a25 := Tryz.isAgg78
  z25 := Tryz.sizeOf78
  v25 := Tryz.zeroValue78
  t39 := Tryz.underlying133
  a39 := Tryz.isAgg133
  z39 := Tryz.sizeOf133
  v39 := Tryz.zeroValue133
  t45 := Tryz.underlying149
  a45 := Tryz.isAgg149
  z45 := Tryz.sizeOf149
  v45 := Tryz.zeroValue149
  t46 := Tryz.underlying150
  a46 := Tryz.isAgg150
  z46 := Tryz.sizeOf150
  v46 := Tryz.zeroValue150
  t50 := Tryz.underlying72
  a50 := Tryz.isAgg72
  z50 := Tryz.sizeOf72
  v50 := Tryz.zeroValue72
  t53 := Tryz.underlying156
  a53 := Tryz.isAgg156
  z53 := Tryz.sizeOf156
  v53 := Tryz.zeroValue156
  t55 := Tryz.underlying158
  a55 := Tryz.isAgg158
  z55 := Tryz.sizeOf158
  v55 := Tryz.zeroValue158
  t66 := Tryz.underlying182
  a66 := Tryz.isAgg182
  z66 := Tryz.sizeOf182
  v66 := Tryz.zeroValue182
  t70 := Tryz.underlying186
  a70 := Tryz.isAgg186
  z70 := Tryz.sizeOf186
  v70 := Tryz.zeroValue186
  t76 := Tryz.underlying201
  a76 := Tryz.isAgg201
  z76 := Tryz.sizeOf201
  v76 := Tryz.zeroValue201
  t77 := Tryz.underlying202
  a77 := Tryz.isAgg202
  z77 := Tryz.sizeOf202
  v77 := Tryz.zeroValue202 }
def Tryz.lay59_ren : Go.Shelf.Ren := ⟨fun | 6 => 59 | 15 => 90 | 14 => 93 | 28 => 117 | 29 => 118 | 20 => 127 | 21 => 128 | 22 => 129 | 23 => 130 | 24 => 131 | 25 => 132 | 26 => 133 | 27 => 134 | 46 => 162 | 47 => 155 | 48 => 156 | 49 => 163 | 50 => 164 | 57 => 185 | n => n, fun | 22 => 80 | 24 => 81 | 25 => 109 | 3 => 3 | 39 => 133 | 0 => 0 | 53 => 156 | 55 => 158 | 4 => 4 | 46 => 150 | 45 => 149 | 50 => 72 | 5 => 5 | 9 => 9 | 66 => 182 | 70 => 186 | 76 => 201 | 77 => 202 | n => n, fun | n => n⟩
theorem Tryz.lay59 : Go.Proofs.SlLaysF0.n6 Tryz.prog Tryz.lay59_ren := {
  mixed := by kernel_rfl
  f6 := ⟨Tryz.f59.name, by decide, Tryz.func59.trans (congrArg some (by kernel_rfl))⟩
  f14 := ⟨Tryz.f93.name, by decide, Tryz.func93.trans (congrArg some (by kernel_rfl))⟩
  f15 := Tryz.func90.trans (congrArg some (by kernel_rfl))
  f20 := ⟨Tryz.f127.name, by decide, Tryz.func127.trans (congrArg some (by kernel_rfl))⟩
  f21 := ⟨Tryz.f128.name, by decide, Tryz.func128.trans (congrArg some (by kernel_rfl))⟩
  f22 := ⟨Tryz.f129.name, by decide, Tryz.func129.trans (congrArg some (by kernel_rfl))⟩
  f23 := ⟨Tryz.f130.name, by decide, Tryz.func130.trans (congrArg some (by kernel_rfl))⟩
  f24 := ⟨Tryz.f131.name, by decide, Tryz.func131.trans (congrArg some (by kernel_rfl))⟩
  f25 := ⟨Tryz.f132.name, by decide, Tryz.func132.trans (congrArg some (by kernel_rfl))⟩
  f26 := ⟨Tryz.f133.name, by decide, Tryz.func133.trans (congrArg some (by kernel_rfl))⟩
  f27 := ⟨Tryz.f134.name, by decide, Tryz.func134.trans (congrArg some (by kernel_rfl))⟩
  f28 := Tryz.func117.trans (congrArg some (by kernel_rfl))
  f29 := Tryz.func118.trans (congrArg some (by kernel_rfl))
  f46 := ⟨Tryz.f162.name, by decide, Tryz.func162.trans (congrArg some (by kernel_rfl))⟩
  f47 := Tryz.func155.trans (congrArg some (by kernel_rfl))
  f48 := Tryz.func156.trans (congrArg some (by kernel_rfl))
  f49 := ⟨Tryz.f163.name, by decide, Tryz.func163.trans (congrArg some (by kernel_rfl))⟩
  f50 := ⟨Tryz.f164.name, by decide, Tryz.func164.trans (congrArg some (by kernel_rfl))⟩
  f57 := ⟨Tryz.f185.name, by decide, Tryz.func185.trans (congrArg some (by kernel_rfl))⟩
  t0 := Tryz.underlying0
  a0 := Tryz.isAgg0
  z0 := Tryz.sizeOf0
  v0 := Tryz.zeroValue0
  t3 := Tryz.underlying3
  a3 := Tryz.isAgg3
  z3 := Tryz.sizeOf3
  v3 := Tryz.zeroValue3
  t4 := Tryz.underlying4
  a4 := Tryz.isAgg4
  z4 := Tryz.sizeOf4
  v4 := Tryz.zeroValue4
  t5 := Tryz.underlying5
  a5 := Tryz.isAgg5
  z5 := Tryz.sizeOf5
  v5 := Tryz.zeroValue5
  t9 := Tryz.underlying9
  a9 := Tryz.isAgg9
  z9 := Tryz.sizeOf9
  v9 := Tryz.zeroValue9
  t22 := Tryz.underlying80
  a22 := Tryz.isAgg80
  z22 := Tryz.sizeOf80
  v22 := Tryz.zeroValue80
  t25 := Tryz.underlying109
  a25 := Tryz.isAgg109
  z25 := Tryz.sizeOf109
  v25 := Tryz.zeroValue109
  t39 := Tryz.underlying133
  a39 := Tryz.isAgg133
  z39 := Tryz.sizeOf133
  v39 := Tryz.zeroValue133
  t45 := Tryz.underlying149
  a45 := Tryz.isAgg149
  z45 := Tryz.sizeOf149
  v45 := Tryz.zeroValue149
  t46 := Tryz.underlying150
  a46 := Tryz.isAgg150
  z46 := Tryz.sizeOf150
  v46 := Tryz.zeroValue150
  t50 := Tryz.underlying72
  a50 := Tryz.isAgg72
  z50 := Tryz.sizeOf72
  v50 := Tryz.zeroValue72
  t53 := Tryz.underlying156
  a53 := Tryz.isAgg156
  z53 := Tryz.sizeOf156
  v53 := Tryz.zeroValue156
  t55 := Tryz.underlying158
  a55 := Tryz.isAgg158
  z55 := Tryz.sizeOf158
  v55 := Tryz.zeroValue158
  t66 := Tryz.underlying182
  a66 := Tryz.isAgg182
  z66 := Tryz.sizeOf182
  v66 := Tryz.zeroValue182
  t70 := Tryz.underlying186
  a70 := Tryz.isAgg186
  z70 := Tryz.sizeOf186
  v70 := Tryz.zeroValue186
  t76 := Tryz.underlying201
  a76 := Tryz.isAgg201
  z76 := Tryz.sizeOf201
  v76 := Tryz.zeroValue201
  t77 := Tryz.underlying202
  a77 := Tryz.isAgg202
  z77 := Tryz.sizeOf202
  v77 := Tryz.zeroValue202 }
def Tryz.lay55_ren : Go.Shelf.Ren := ⟨fun | 6 => 55 | 15 => 90 | 14 => 92 | 28 => 117 | 29 => 118 | 20 => 119 | 21 => 120 | 22 => 121 | 23 => 122 | 24 => 123 | 25 => 124 | 26 => 125 | 27 => 126 | 46 => 159 | 47 => 155 | 48 => 156 | 49 => 160 | 50 => 161 | 57 => 184 | n => n, fun | 22 => 44 | 24 => 27 | 25 => 84 | 3 => 3 | 39 => 133 | 0 => 0 | 53 => 156 | 55 => 158 | 4 => 4 | 46 => 150 | 45 => 149 | 50 => 72 | 5 => 5 | 9 => 9 | 66 => 182 | 70 => 186 | 76 => 201 | 77 => 202 | n => n, fun | n => n⟩
theorem Tryz.lay55 : Go.Proofs.SlLaysF.n6 Tryz.prog Tryz.lay55_ren := {
  mixed := by kernel_rfl
  f6 := ⟨Tryz.f55.name, by decide, Tryz.func55.trans (congrArg some (by kernel_rfl))⟩
  f14 := ⟨Tryz.f92.name, by decide, Tryz.func92.trans (congrArg some (by kernel_rfl))⟩
  f15 := Tryz.func90.trans (congrArg some (by kernel_rfl))
  f20 := ⟨Tryz.f119.name, by decide, Tryz.func119.trans (congrArg some (by kernel_rfl))⟩
  f21 := ⟨Tryz.f120.name, by decide, Tryz.func120.trans (congrArg some (by kernel_rfl))⟩
  f22 := ⟨Tryz.f121.name, by decide, Tryz.func121.trans (congrArg some (by kernel_rfl))⟩
  f23 := ⟨Tryz.f122.name, by decide, Tryz.func122.trans (congrArg some (by kernel_rfl))⟩
  f24 := ⟨Tryz.f123.name, by decide, Tryz.func123.trans (congrArg some (by kernel_rfl))⟩
  f25 := ⟨Tryz.f124.name, by decide, Tryz.func124.trans (congrArg some (by kernel_rfl))⟩
  f26 := ⟨Tryz.f125.name, by decide, Tryz.func125.trans (congrArg some (by kernel_rfl))⟩
  f27 := ⟨Tryz.f126.name, by decide, Tryz.func126.trans (congrArg some (by kernel_rfl))⟩
  f28 := Tryz.func117.trans (congrArg some (by kernel_rfl))
  f29 := Tryz.func118.trans (congrArg some (by kernel_rfl))
  f46 := ⟨Tryz.f159.name, by decide, Tryz.func159.trans (congrArg some (by kernel_rfl))⟩
  f47 := Tryz.func155.trans (congrArg some (by kernel_rfl))
  f48 := Tryz.func156.trans (congrArg some (by kernel_rfl))
  f49 := ⟨Tryz.f160.name, by decide, Tryz.func160.trans (congrArg some (by kernel_rfl))⟩
  f50 := ⟨Tryz.f161.name, by decide, Tryz.func161.trans (congrArg some (by kernel_rfl))⟩
  f57 := ⟨Tryz.f184.name, by decide, Tryz.func184.trans (congrArg some (by kernel_rfl))⟩
  t0 := Tryz.underlying0
  a0 := Tryz.isAgg0
  z0 := Tryz.sizeOf0
  v0 := Tryz.zeroValue0
  t3 := Tryz.underlying3
  a3 := Tryz.isAgg3
  z3 := Tryz.sizeOf3
  v3 := Tryz.zeroValue3
  t4 := Tryz.underlying4
  a4 := Tryz.isAgg4
  z4 := Tryz.sizeOf4
  v4 := Tryz.zeroValue4
  t5 := Tryz.underlying5
  a5 := Tryz.isAgg5
  z5 := Tryz.sizeOf5
  v5 := Tryz.zeroValue5
  t9 := Tryz.underlying9
  a9 := Tryz.isAgg9
  z9 := Tryz.sizeOf9
  v9 := Tryz.zeroValue9
  t22 := Tryz.underlying44
  a22 := Tryz.isAgg44
  z22 := Tryz.sizeOf44
  v22 := Tryz.zeroValue44
  a24 := Tryz.isAgg27
  z24 := Tryz.sizeOf27
  t25 := Tryz.underlying84
  a25 := Tryz.isAgg84
  z25 := Tryz.sizeOf84
  v25 := Tryz.zeroValue84
  t39 := Tryz.underlying133
  a39 := Tryz.isAgg133
  z39 := Tryz.sizeOf133
  v39 := Tryz.zeroValue133
  t45 := Tryz.underlying149
  a45 := Tryz.isAgg149
  z45 := Tryz.sizeOf149
  v45 := Tryz.zeroValue149
  t46 := Tryz.underlying150
  a46 := Tryz.isAgg150
  z46 := Tryz.sizeOf150
  v46 := Tryz.zeroValue150
  t50 := Tryz.underlying72
  a50 := Tryz.isAgg72
  z50 := Tryz.sizeOf72
  v50 := Tryz.zeroValue72
  t53 := Tryz.underlying156
  a53 := Tryz.isAgg156
  z53 := Tryz.sizeOf156
  v53 := Tryz.zeroValue156
  t55 := Tryz.underlying158
  a55 := Tryz.isAgg158
  z55 := Tryz.sizeOf158
  v55 := Tryz.zeroValue158
  t66 := Tryz.underlying182
  a66 := Tryz.isAgg182
  z66 := Tryz.sizeOf182
  v66 := Tryz.zeroValue182
  t70 := Tryz.underlying186
  a70 := Tryz.isAgg186
  z70 := Tryz.sizeOf186
  v70 := Tryz.zeroValue186
  t76 := Tryz.underlying201
  a76 := Tryz.isAgg201
  z76 := Tryz.sizeOf201
  v76 := Tryz.zeroValue201
  t77 := Tryz.underlying202
  a77 := Tryz.isAgg202
  z77 := Tryz.sizeOf202
  v77 := Tryz.zeroValue202 }
def Tryz.lay98_ren : Go.Shelf.Ren := ⟨fun | 6 => 98 | 8 => 90 | 9 => 136 | 19 => 117 | 20 => 118 | 21 => 165 | 22 => 166 | 23 => 167 | 24 => 168 | 25 => 169 | 26 => 170 | 27 => 171 | 28 => 172 | 29 => 173 | 36 => 186 | 31 => 155 | 32 => 156 | 37 => 187 | 38 => 188 | 39 => 189 | 41 => 193 | n => n, fun | 27 => 36 | 29 => 9 | 3 => 3 | 32 => 133 | 26 => 36 | 0 => 0 | 44 => 156 | 46 => 158 | 4 => 4 | 36 => 150 | 35 => 149 | 41 => 72 | 5 => 5 | 9 => 9 | 53 => 182 | 57 => 186 | 63 => 201 | 64 => 202 | n => n, fun | n => n⟩
theorem Tryz.lay98 : Go.Proofs.SlLaysM.n6 Tryz.prog Tryz.lay98_ren := {
  mixed := by kernel_rfl
  f6 := ⟨Tryz.f98.name, by decide, Tryz.func98.trans (congrArg some (by kernel_rfl))⟩
  f8 := Tryz.func90.trans (congrArg some (by kernel_rfl))
  f9 := ⟨Tryz.f136.name, by decide, Tryz.func136.trans (congrArg some (by kernel_rfl))⟩
  f19 := Tryz.func117.trans (congrArg some (by kernel_rfl))
  f20 := Tryz.func118.trans (congrArg some (by kernel_rfl))
  f21 := ⟨Tryz.f165.name, by decide, Tryz.func165.trans (congrArg some (by kernel_rfl))⟩
  f22 := ⟨Tryz.f166.name, by decide, Tryz.func166.trans (congrArg some (by kernel_rfl))⟩
  f23 := ⟨Tryz.f167.name, by decide, Tryz.func167.trans (congrArg some (by kernel_rfl))⟩
  f24 := ⟨Tryz.f168.name, by decide, Tryz.func168.trans (congrArg some (by kernel_rfl))⟩
  f25 := ⟨Tryz.f169.name, by decide, Tryz.func169.trans (congrArg some (by kernel_rfl))⟩
  f26 := ⟨Tryz.f170.name, by decide, Tryz.func170.trans (congrArg some (by kernel_rfl))⟩
  f27 := ⟨Tryz.f171.name, by decide, Tryz.func171.trans (congrArg some (by kernel_rfl))⟩
  f28 := ⟨Tryz.f172.name, by decide, Tryz.func172.trans (congrArg some (by kernel_rfl))⟩
  f29 := ⟨Tryz.f173.name, by decide, Tryz.func173.trans (congrArg some (by kernel_rfl))⟩
  f31 := Tryz.func155.trans (congrArg some (by kernel_rfl))
  f32 := Tryz.func156.trans (congrArg some (by kernel_rfl))
  f36 := ⟨Tryz.f186.name, by decide, Tryz.func186.trans (congrArg some (by kernel_rfl))⟩
  f37 := ⟨Tryz.f187.name, by decide, Tryz.func187.trans (congrArg some (by kernel_rfl))⟩
  f38 := ⟨Tryz.f188.name, by decide, Tryz.func188.trans (congrArg some (by kernel_rfl))⟩
  f39 := ⟨Tryz.f189.name, by decide, Tryz.func189.trans (congrArg some (by kernel_rfl))⟩
  f41 := ⟨Tryz.f193.name, by decide, Tryz.func193.trans (congrArg some (by kernel_rfl))⟩
  t0 := Tryz.underlying0
  a0 := Tryz.isAgg0
  z0 := Tryz.sizeOf0
  v0 := Tryz.zeroValue0
  t3 := Tryz.underlying3
  a3 := Tryz.isAgg3
  z3 := Tryz.sizeOf3
  v3 := Tryz.zeroValue3
  t4 := Tryz.underlying4
  a4 := Tryz.isAgg4
  z4 := Tryz.sizeOf4
  v4 := Tryz.zeroValue4
  t5 := Tryz.underlying5
  a5 := Tryz.isAgg5
  z5 := Tryz.sizeOf5
  v5 := Tryz.zeroValue5
  t9 := Tryz.underlying9
  a9 := Tryz.isAgg9
  z9 := Tryz.sizeOf9
  v9 := Tryz.zeroValue9
  t26 := Tryz.underlying36
  a26 := Tryz.isAgg36
  z26 := Tryz.sizeOf36
  v26 := Tryz.zeroValue36
  t27 := Tryz.underlying36
  a27 := Tryz.isAgg36
  z27 := Tryz.sizeOf36
  v27 := Tryz.zeroValue36
  t29 := Tryz.underlying9
  a29 := Tryz.isAgg9
  z29 := Tryz.sizeOf9
  v29 := Tryz.zeroValue9
  t32 := Tryz.underlying133
  a32 := Tryz.isAgg133
  z32 := Tryz.sizeOf133
  v32 := Tryz.zeroValue133
  t35 := Tryz.underlying149
  a35 := Tryz.isAgg149
  z35 := Tryz.sizeOf149
  v35 := Tryz.zeroValue149
  t36 := Tryz.underlying150
  a36 := Tryz.isAgg150
  z36 := Tryz.sizeOf150
  v36 := Tryz.zeroValue150
  t41 := Tryz.underlying72
  a41 := Tryz.isAgg72
  z41 := Tryz.sizeOf72
  v41 := Tryz.zeroValue72
  t44 := Tryz.underlying156
  a44 := Tryz.isAgg156
  z44 := Tryz.sizeOf156
  v44 := Tryz.zeroValue156
  t46 := Tryz.underlying158
  a46 := Tryz.isAgg158
  z46 := Tryz.sizeOf158
  v46 := Tryz.zeroValue158
  t53 := Tryz.underlying182
  a53 := Tryz.isAgg182
  z53 := Tryz.sizeOf182
  v53 := Tryz.zeroValue182
  t57 := Tryz.underlying186
  a57 := Tryz.isAgg186
  z57 := Tryz.sizeOf186
  v57 := Tryz.zeroValue186
  t63 := Tryz.underlying201
  a63 := Tryz.isAgg201
  z63 := Tryz.sizeOf201
  v63 := Tryz.zeroValue201
  t64 := Tryz.underlying202
  a64 := Tryz.isAgg202
  z64 := Tryz.sizeOf202
  v64 := Tryz.zeroValue202 }
def Tryz.lay77_ren : Go.Shelf.Ren := ⟨fun | 5 => 77 | 8 => 90 | 7 => 104 | 19 => 117 | 20 => 118 | 10 => 140 | 11 => 141 | 12 => 142 | 13 => 143 | 14 => 144 | 15 => 145 | 16 => 146 | 17 => 147 | 18 => 148 | 30 => 176 | 31 => 155 | 32 => 156 | 33 => 177 | 34 => 178 | 35 => 94 | 40 => 191 | n => n, fun | 23 => 27 | 25 => 3 | 3 => 3 | 32 => 133 | 22 => 27 | 0 => 0 | 44 => 156 | 46 => 158 | 4 => 4 | 36 => 150 | 35 => 149 | 41 => 72 | 5 => 5 | 9 => 9 | 53 => 182 | 57 => 186 | 63 => 201 | 64 => 202 | n => n, fun | n => n⟩
theorem Tryz.lay77 : Go.Proofs.SlLaysM.n5 Tryz.prog Tryz.lay77_ren := {
  mixed := by kernel_rfl
  f5 := ⟨Tryz.f77.name, by decide, Tryz.func77.trans (congrArg some (by kernel_rfl))⟩
  f7 := ⟨Tryz.f104.name, by decide, Tryz.func104.trans (congrArg some (by kernel_rfl))⟩
  f8 := Tryz.func90.trans (congrArg some (by kernel_rfl))
  f10 := ⟨Tryz.f140.name, by decide, Tryz.func140.trans (congrArg some (by kernel_rfl))⟩
  f11 := ⟨Tryz.f141.name, by decide, Tryz.func141.trans (congrArg some (by kernel_rfl))⟩
  f12 := ⟨Tryz.f142.name, by decide, Tryz.func142.trans (congrArg some (by kernel_rfl))⟩
  f13 := ⟨Tryz.f143.name, by decide, Tryz.func143.trans (congrArg some (by kernel_rfl))⟩
  f14 := ⟨Tryz.f144.name, by decide, Tryz.func144.trans (congrArg some (by kernel_rfl))⟩
  f15 := ⟨Tryz.f145.name, by decide, Tryz.func145.trans (congrArg some (by kernel_rfl))⟩
  f16 := ⟨Tryz.f146.name, by decide, Tryz.func146.trans (congrArg some (by kernel_rfl))⟩
  f17 := ⟨Tryz.f147.name, by decide, Tryz.func147.trans (congrArg some (by kernel_rfl))⟩
  f18 := ⟨Tryz.f148.name, by decide, Tryz.func148.trans (congrArg some (by kernel_rfl))⟩
  f19 := Tryz.func117.trans (congrArg some (by kernel_rfl))
  f20 := Tryz.func118.trans (congrArg some (by kernel_rfl))
  f30 := ⟨Tryz.f176.name, by decide, Tryz.func176.trans (congrArg some (by kernel_rfl))⟩
  f31 := Tryz.func155.trans (congrArg some (by kernel_rfl))
  f32 := Tryz.func156.trans (congrArg some (by kernel_rfl))
  f33 := ⟨Tryz.f177.name, by decide, Tryz.func177.trans (congrArg some (by kernel_rfl))⟩
  f34 := ⟨Tryz.f178.name, by decide, Tryz.func178.trans (congrArg some (by kernel_rfl))⟩
  f35 := ⟨Tryz.f94.name, by decide, Tryz.func94.trans (congrArg some (by kernel_rfl))⟩
  f40 := ⟨Tryz.f191.name, by decide, Tryz.func191.trans (congrArg some (by kernel_rfl))⟩
  t0 := Tryz.underlying0
  a0 := Tryz.isAgg0
  z0 := Tryz.sizeOf0
  v0 := Tryz.zeroValue0
  t3 := Tryz.underlying3
  a3 := Tryz.isAgg3
  z3 := Tryz.sizeOf3
  v3 := Tryz.zeroValue3
  t4 := Tryz.underlying4
  a4 := Tryz.isAgg4
  z4 := Tryz.sizeOf4
  v4 := Tryz.zeroValue4
  t5 := Tryz.underlying5
  a5 := Tryz.isAgg5
  z5 := Tryz.sizeOf5
  v5 := Tryz.zeroValue5
  t9 := Tryz.underlying9
  a9 := Tryz.isAgg9
  z9 := Tryz.sizeOf9
  v9 := Tryz.zeroValue9
  t22 := Tryz.underlying27
  a22 := Tryz.isAgg27
  z22 := Tryz.sizeOf27
  v22 := Tryz.zeroValue27
  t23 := Tryz.underlying27
  a23 := Tryz.isAgg27
  z23 := Tryz.sizeOf27
  v23 := Tryz.zeroValue27
  t25 := Tryz.underlying3
  a25 := Tryz.isAgg3
  z25 := Tryz.sizeOf3
  v25 := Tryz.zeroValue3
  t32 := Tryz.underlying133
  a32 := Tryz.isAgg133
  z32 := Tryz.sizeOf133
  v32 := Tryz.zeroValue133
  t35 := Tryz.underlying149
  a35 := Tryz.isAgg149
  z35 := Tryz.sizeOf149
  v35 := Tryz.zeroValue149
  t36 := Tryz.underlying150
  a36 := Tryz.isAgg150
  z36 := Tryz.sizeOf150
  v36 := Tryz.zeroValue150
  t41 := Tryz.underlying72
  a41 := Tryz.isAgg72
  z41 := Tryz.sizeOf72
  v41 := Tryz.zeroValue72
  t44 := Tryz.underlying156
  a44 := Tryz.isAgg156
  z44 := Tryz.sizeOf156
  v44 := Tryz.zeroValue156
  t46 := Tryz.underlying158
  a46 := Tryz.isAgg158
  z46 := Tryz.sizeOf158
  v46 := Tryz.zeroValue158
  t53 := Tryz.underlying182
  a53 := Tryz.isAgg182
  z53 := Tryz.sizeOf182
  v53 := Tryz.zeroValue182
  t57 := Tryz.underlying186
  a57 := Tryz.isAgg186
  z57 := Tryz.sizeOf186
  v57 := Tryz.zeroValue186
  t63 := Tryz.underlying201
  a63 := Tryz.isAgg201
  z63 := Tryz.sizeOf201
  v63 := Tryz.zeroValue201
  t64 := Tryz.underlying202
  a64 := Tryz.isAgg202
  z64 := Tryz.sizeOf202
  v64 := Tryz.zeroValue202 }
end Go.Proofs
namespace Go.Gk
open Go Go.Proofs
variable (N:Nat) {E w:World} {i0 i1 i2:Nat} {p1 p2 p3 res:Int} {v0 v1 v2:Value} {V:List HP}
theorem i9 {p0:aT} (o:Holds E w V) (j:eO N p0 p1=some res):
    Calls bE 105 [(str p0),(.int .u8 p1)].toArray w (eT (aC E V res)):=by
 unfold eO at j
 refine enter Tryz.func105 zr zr (RC.sr (aI 0 (RL.ns (mv (str p0) (mv (.int .u8 p1) (RL.n2 (vi (Lib.indexByte p0.bQ (Int.toNat p1).toUInt8)) zr [(str p0),(.int .u8 p1)] zr (uL p0 p1 w) (aI (Lib.indexByte p0.bQ (Int.toNat p1).toUInt8) (RL.nt ?_))))))))
 refine RC.ret ?_
 obtain rfl:=oi j
 exact bC ⟨rfl,o.drop 0⟩
theorem kz {p0:aT} (o:Holds E w V) (j:eE N p0 p1=some res):
    Calls bE 80 [(str p0),(.int .u8 p1)].toArray w (eT (aC E V res)):=by
 unfold eE at j
 refine enter Tryz.func80 zr zr (RC.sr (aI 0 (RL.ns (mv (str p0) (mv (.int .u8 p1) ?_)))))
 obtain⟨aa,ab,j⟩:=bd j
 refine RL.cs Bq (i9 N (p0:=p0) (p1:=p1) o ab) fun w o=>(aI aa (RL.nt (RC.ret ?_)))
 obtain rfl:=oi j
 exact bC ⟨rfl,o.drop 0⟩
def rj (E:World) (V:List HP) (r:Bool) (U:Nat->Value) (w:World):Prop:=gR bE 49 Tryz.f36 (bA E V r) .ret U w
theorem jU {p0:aT} {res:Bool} (hw:Holds E w V) (o:fL N p0=some res):
    Calls bE 36 [(str p0)].toArray w (eT (bA E V res)):=by
 unfold fL at o
 refine enter Tryz.func36 zr zr (RC.sr (bY false (RL.nq (RC.sr (mv (str p0) (RL.lens p0 rV (aX 0 (RL.nt ?_))))))))
 refine RC.r0 E V (fun(ag:Unit)=>[]) (fun _=>[(0,(str p0))]) (fun ad _=>[(6,vi p0.bQ.length),(7,vi ad)]) (rj E V) o ?_ ?_ ?_ ?_
 ·exact hw.sp 0 []
 ·rintro hm ad ag fl _ w hk ⟨O,rfl,hw⟩ o
  refine RC.seq (RC.bs (aX (ad:Int) (aI (ad:Int) (RL.ns (mv (str p0) (aX (ad:Int) ?_))))))
  obtain⟨j,ak,o⟩:=bd o
  refine RL.idxs p0 (ad:Int) j zr zr zr rV ak (cT (.int .u8 (j.toNat:Int)) (RL.nq ?_))
  obtain⟨af,hj,o⟩:=bd o
  refine RC.jn (fun(af:Bool)=>SH E V [(0,(str p0)),(6,vi p0.bQ.length),(7,vi ad),(39,vb af)] []) af ?_ ?_
  ·refine RC.region (mv (.int .u8 (j.toNat:Int)) (ic ((j.toNat:Int)) 65 (jG (decide ((j.toNat:Int)<65)) (RL.g1 (.int .u8 (j.toNat:Int)) zr zr se (RL.g1 (vb (decide ((j.toNat:Int)>90))) zr zr (vB .gtr) (RL.pick (b:=(decide ((j.toNat:Int)<65))) (v:=(vb ((decide ((j.toNat:Int)<65))||(decide ((j.toNat:Int)>90))))) zt zr zr (sq true zr) (jG ((decide ((j.toNat:Int)<65))||(decide ((j.toNat:Int)>90))) (RL.g1 (.int .u8 (j.toNat:Int)) zr zr se ?_))))))))
   refine RL.g1 (vb (decide ((j.toNat:Int)<97))) zr zr (vB .lss) (RL.g1 (vb (decide ((j.toNat:Int)<97))) zr zr se (RL.g2 (.int .u8 (j.toNat:Int)) zr zr se (RL.g2 (vb (decide ((j.toNat:Int)>122))) zr zr (vB .gtr) (RL.g1 (vb ((decide ((j.toNat:Int)<97))||(decide ((j.toNat:Int)>122)))) zr zr Dd (RL.pick (b:=((decide ((j.toNat:Int)<65))||(decide ((j.toNat:Int)>90)))) (v:=(vb (((decide ((j.toNat:Int)<65))||(decide ((j.toNat:Int)>90)))&&((decide ((j.toNat:Int)<97))||(decide ((j.toNat:Int)>122)))))) zt zr zr (lg true) (jG (((decide ((j.toNat:Int)<65))||(decide ((j.toNat:Int)>90)))&&((decide ((j.toNat:Int)<97))||(decide ((j.toNat:Int)>122)))) (RL.g1 (.int .u8 (j.toNat:Int)) zr zr se (RL.g1 (vb (decide ((j.toNat:Int)<48))) zr zr (vB .lss) ?_))))))))
   refine RL.g1 (vb (decide ((j.toNat:Int)<48))) zr zr se (RL.g2 (.int .u8 (j.toNat:Int)) zr zr se (RL.g2 (vb (decide ((j.toNat:Int)>57))) zr zr (vB .gtr) (RL.g1 (vb ((decide ((j.toNat:Int)<48))||(decide ((j.toNat:Int)>57)))) zr zr Dd (RL.pick (b:=(((decide ((j.toNat:Int)<65))||(decide ((j.toNat:Int)>90)))&&((decide ((j.toNat:Int)<97))||(decide ((j.toNat:Int)>122))))) (v:=(vb ((((decide ((j.toNat:Int)<65))||(decide ((j.toNat:Int)>90)))&&((decide ((j.toNat:Int)<97))||(decide ((j.toNat:Int)>122))))&&((decide ((j.toNat:Int)<48))||(decide ((j.toNat:Int)>57)))))) zt zr zr (lg true) (jG ((((decide ((j.toNat:Int)<65))||(decide ((j.toNat:Int)>90)))&&((decide ((j.toNat:Int)<97))||(decide ((j.toNat:Int)>122))))&&((decide ((j.toNat:Int)<48))||(decide ((j.toNat:Int)>57)))) (iW hj (fun ab hj=>?_) fun ab hj=>?_))))))
   rotate_left
   ·refine bS ab (bS ab (bS ab (iQ ab (vb false) (RL.nil ?_))))
    obtain rfl:=oi hj
    exact⟨rfl,hw.sp 0 []⟩
   refine RL.move (.int .u8 (j.toNat:Int)) (cg ab) ?_
   obtain⟨ah,al,hj⟩:=bd hj
   refine RL.cs (hg:=(cg ab)) Cx (kz N (p0:=⟨[95,43,45,35]⟩) (p1:=(j.toNat:Int)) hw al) fun w hw=>(RL.kr ah 0 (cg ab) (iQ ab (vb (decide (ah<0))) (RL.nil ?_)))
   obtain rfl:=oi hj
   exact⟨rfl,hw.sp 0 []⟩
  rintro _ w ⟨O,rfl,hw⟩
  refine aF (dX o (fun o=>?_) fun o=>?_)
  rotate_left
  ·refine RC.skip (bF (aF (RC.region (RL.inc hk hm (aX ((ad+1:Nat):Int) (RL.nil ?_))))))
   obtain rfl:=oi o
   exact⟨rfl,hw.sp 0 []⟩
  refine RC.sr (bY false (RL.nt (RC.rb (aO ?_))))
  obtain rfl:=oi o
  exact⟨rfl,bC ⟨rfl,hw.drop 0⟩⟩
 ·intro r U w o hK
  refine aO ?_
  obtain rfl:=oi o
  exact hK
 rintro ag _ w o ⟨O,rfl,hw⟩
 refine aF (RC.sr (mv (str p0) (RL.lens p0 rV (ic ((p0.bQ.length:Int)) 1 (jG (decide ((p0.bQ.length:Int)>=1)) (RL.g1 (str p0) rfl rfl se (RL.gs true (decide ((p0.bQ.length:Int)>=1)) (vi p0.bQ.length) rfl rfl rfl (AH (s:=p0) rfl (fun h=>by exact(pF h:cv (true&&((decide ((p0.bQ.length:Int)>=1))==true)) (str p0)= (str p0))) rV) (RL.g1 (vb (decide ((p0.bQ.length:Int)<=40))) rfl rfl (vB .leq) ?_))))))))
 refine RL.pick (b:=(decide ((p0.bQ.length:Int)>=1))) (v:=(vb ((decide ((p0.bQ.length:Int)>=1))&&(decide ((p0.bQ.length:Int)<=40))))) zt zr zr (lg true) (bY ((decide ((p0.bQ.length:Int)>=1))&&(decide ((p0.bQ.length:Int)<=40))) (RL.nt (RC.ret ?_)))
 obtain rfl:=oi o
 exact bC ⟨rfl,hw.drop 0⟩
theorem mB {p0 p1:aU} {res:Bool} (j:Holds E w V) (h0:V[i0]? =some (rd v0 p0)) (h1:V[i1]? =some (pt v1 p1)) (hb:dH N p0 p1=some res):
    Calls bE 82 [v0,v1].toArray w (eT (bA E V res)):=by
 unfold dH at hb
 refine enter Tryz.func82 zr zr ?_
 have j:=(j.dup (i0+0) h0).qW (i:=i1+1) h1
 refine RC.sr (RL.cW 1 v0 j zr fun af w j=>?_)
 refine bY false (RL.nq ?_)
 obtain⟨ae,hj,hb⟩:=bd hb
 refine RC.jn (fun(ae:Bool)=>SH E V [(3,vb ae)] []) ae ?_ ?_
 ·refine RC.region (RL.gS 1 zt j zr jT dC fun ag j=>(RL.bX p1.aW 0 j iy (ic p1.aW 0 (jG (decide (p1.aW>0)) (iW hj (fun o hj=>?_) fun o hj=>?_)))))
  rotate_left
  ·refine bS o (bS o (bS o (bS o (bS o (iQ o (vb false) (jG false (xp (xp ?_))))))))
   refine xp (xp (xp (RL.pick (b:=false) (v:=(vb false)) zt zr zr zr (bY false (RL.nil ?_)))))
   obtain rfl:=oi hj
   exact⟨rfl,j.sp 4 []⟩
  refine RL.bU (hg:=(cg o)) zr jT (RL.aV (hg:=(cg o)) 1 j zr dC iy (RL.gS 2 (cg o) j zr jT dC fun ah j=>(RL.bX (hg:=(cg o)) p1.aW 0 j iy (RL.kr p0.aW p1.aW (cg o) (iQ o (vb (p0.aW==p1.aW)) (jG (p0.aW==p1.aW) (iW hj (fun aa hj=>?_) fun aa hj=>?_)))))))
  ·refine RL.bU (hg:=(cg aa)) zr pO (RL.aV (hg:=(cg aa)) 2 j zr gO iy (RL.gS 3 (cg aa) j zr pO gO fun ai j=>(RL.bX (hg:=(cg aa)) p1.Kind 0 j iy (RL.kr p0.Kind p1.Kind (cg aa) (iQ aa (vb (p0.Kind != p1.Kind)) (bY (p0.Kind != p1.Kind) (RL.nil ?_)))))))
   obtain rfl:=oi hj
   exact⟨rfl,j.sp 6 []⟩
  refine bS aa (bS aa (bS aa (bS aa (bS aa (iQ aa (vb false) (bY false (RL.nil ?_)))))))
  obtain rfl:=oi hj
  exact⟨rfl,j.sp 5 []⟩
 rintro _ w ⟨O,rfl,j⟩
 refine aF (RC.ret ?_)
 obtain rfl:=oi hb
 exact bC ⟨rfl,j.drop 0⟩
def ly (E:World) (V:List HP) (r:Int) (U:Nat->Value) (w:World):Prop:=gR bE 19 Tryz.f46 (aC E V r) .ret U w
theorem iu {p0: (List aU)} {p1:aU->Option Bool} (o:Holds E w V) (h0:V[i0]? =some (rd v0 p0)) (h1:Ay bE E V v1 p1 (fun(r:Bool)=>Value.bool r)) (j:d9 N p0 p1=some res):
    Calls bE 46 [v0,v1].toArray w (eT (aC E V res)):=by
 unfold d9 at j
 refine enter Tryz.func46 zr zr ?_
 have o:=o.dup (i0+0) h0
 refine RC.sr (aI 0 (RL.nq (RC.sr (mv v0 (RL.bG 0 p0 o pN (aX 0 (RL.nt (RC.r0 E V (fun(ab:Unit)=>[rd v0 p0]) (fun _=>[]) (fun aa _=>[(0,v0),(1,v1),(7,vi p0.length),(8,vi aa)]) (ly E V) j ?_ ?_ ?_ ?_))))))))
 ·exact o.sp 1 [0]
 ·rintro hm aa ab fl _ w hk ⟨O,rfl,o⟩ j
  refine RC.seq (RC.bs (aX (aa:Int) (aI (aa:Int) (RL.ns (mv v1 (mv v0 (aX (aa:Int) ?_)))))))
  obtain⟨af,ag,j⟩:=bd j
  refine RL.bK 0 o mf ag fun ak o=>(RL.aZ 0 af o mg fun al o=>?_)
  obtain⟨an,ah,j⟩:=bd j
  refine RL.uD 0 zr o zr h1 3 zr zr zr ah fun w o=>(RL.nt (dX j (fun j=>?_) fun j=>?_))
  rotate_left
  ·refine RC.skip (bF (aF (RC.region (RL.inc hk hm (aX ((aa+1:Nat):Int) (RL.nil ?_))))))
   obtain rfl:=oi j
   exact⟨rfl,o.sp 3 [2]⟩
  refine RC.sr (aX (aa:Int) (aI (aa:Int) (RL.nt (RC.rb (aO ?_)))))
  obtain rfl:=oi j
  exact⟨rfl,bC ⟨rfl,o.drop 3⟩⟩
 ·intro r U w j hK
  refine aO ?_
  obtain rfl:=oi j
  exact hK
 rintro ab _ w j ⟨O,rfl,o⟩
 refine aF (RC.sr (aI (-1) (RL.nt (RC.ret ?_))))
 obtain rfl:=oi j
 exact bC ⟨rfl,o.drop 1⟩
theorem kg {p0: (List aU)} {p1:aU->Option Bool} {res:Bool} (j:Holds E w V) (h0:V[i0]? =some (rd v0 p0)) (h1:Ay bE E V v1 p1 (fun(r:Bool)=>Value.bool r)) (o:eA N p0 p1=some res):
    Calls bE 81 [v0,v1].toArray w (eT (bA E V res)):=by
 unfold eA at o
 refine enter Tryz.func81 zr zr ?_
 have j:=j.dup (i0+0) h0
 refine RC.sr (bY false (RL.ns (mv v0 (mv v1 ?_))))
 obtain⟨aa,ab,o⟩:=bd o
 refine RL.cs Cy (iu N (i0:=0) j zr (h1.lift 1 zr) ab) fun w j=>(ic aa 0 (bY (decide (aa>=0)) (RL.nt (RC.ret ?_))))
 obtain rfl:=oi o
 exact bC ⟨rfl,j.drop 1⟩
def kR (E:World) (V:List HP) (r:Int) (U:Nat->Value) (w:World):Prop:=gR bE 71 Tryz.f37 (aC E V r) .ret U w
theorem om {p0: (List aU)} (j:Holds E w V) (h0:V[i0]? =some (rd v0 p0)) (o:ga N p0=some res):
    Calls bE 37 [v0].toArray w (eT (aC E V res)):=by
 unfold ga at o
 refine enter Tryz.func37 zr zr ?_
 have j:=j.dup (i0+0) h0
 refine RC.sr (aI 0 (RL.nq (RC.sr (mv v0 (RL.bG 0 p0 j pN (ic ((p0.length:Int)) 0 (RL.nt (dX o (fun o=>?_) fun o=>?_))))))))
 ·refine RC.sr (aI 9 (RL.nt (RC.rt ?_)))
  obtain rfl:=oi o
  exact bC ⟨rfl,j.drop 1⟩
 refine RC.ss (RC.sr (mv v0 (RL.bG 0 p0 j pN (ic ((p0.length:Int)) 200 (RL.nt (dX o (fun o=>?_) fun o=>?_))))))
 ·refine RC.sr (aI 2 (RL.nt (RC.rt ?_)))
  obtain rfl:=oi o
  exact bC ⟨rfl,j.drop 1⟩
 refine RC.ss (RC.sr (mv v0 (RL.bG 0 p0 j pN (aX 0 (RL.nt (RC.r0 E V (fun(an:Unit)=>[rd v0 p0]) (fun _=>[(0,v0)]) (fun ad _=>[(13,v0),(14,vi p0.length),(15,vi ad)]) (kR E V) o ?_ ?_ ?_ ?_))))))
 ·exact j.sp 1 [0]
 ·rintro hm ad an fl _ w hk ⟨O,rfl,j⟩ o
  refine RC.seq (RC.bs (aX (ad:Int) ?_))
  obtain⟨aa,av,o⟩:=bd o
  refine RL.bK 0 j mf av fun a2 j=>(RL.aZ 0 aa j mg fun a3 j=>(RL.alloc j tw.z fun af w j=>?_))
  refine aI (ad:Int) (RL.bD 0 j 1 zr mg fun w j=>?_)
  refine RL.nt (RC.bs (RL.bU zr kK (RL.aV 0 j zr ee fY ?_)))
  obtain⟨ao,aw,o⟩:=bd o
  refine RL.cs BQ (jU N (p0:=aa.Name) j aw) fun w j=>(RL.not ao (bY (!ao) (RL.nt (dX o (fun o=>?_) fun o=>?_))))
  ·refine RC.sr (aI 5 (RL.nt (RC.rb (dx (aO ?_)))))
   obtain rfl:=oi o
   exact⟨rfl,bC ⟨rfl,j.drop 4⟩⟩
  refine RC.sr (RL.bU rfl pO (RL.aV 0 j rfl gO iy (ic aa.Kind 1 (jG (decide (aa.Kind<1)) (RL.gs true (decide (aa.Kind<1)) (vp af 1) rfl rfl rfl (kj pO) (RL.gs true (decide (aa.Kind<1)) (vi aa.Kind) rfl rfl rfl (fA 0 rfl j (fun h=>by exact(pF h:cv (true&&((decide (aa.Kind<1))==false)) (vp af 1)= (vp af 1))) rfl gO iy) (RL.g1 (vb (decide (aa.Kind>7))) rfl rfl (vB .gtr) (RL.pick (b:=(decide (aa.Kind<1))) (v:=(vb ((decide (aa.Kind<1))||(decide (aa.Kind>7))))) trivial rfl rfl (sq true rfl) ?_))))))))
  refine bY ((decide (aa.Kind<1))||(decide (aa.Kind>7))) (RL.nt (dX o (fun o=>?_) fun o=>?_))
  ·refine RC.sr (aI 4 (RL.nt (RC.rb (dx (aO ?_)))))
   obtain rfl:=oi o
   exact⟨rfl,bC ⟨rfl,j.drop 4⟩⟩
  refine RC.sr (RL.bU rfl jT (RL.aV 0 j rfl dC iy (ic aa.aW 0 (jG (decide (aa.aW<0)) (RL.gs true (decide (aa.aW<0)) (vp af 2) rfl rfl rfl (kj jT) (RL.gs true (decide (aa.aW<0)) (vi aa.aW) rfl rfl rfl (fA 0 rfl j (fun h=>by exact(pF h:cv (true&&((decide (aa.aW<0))==false)) (vp af 2)= (vp af 2))) rfl dC iy) (RL.g1 (vb (decide (aa.aW>200))) rfl rfl (vB .gtr) (RL.pick (b:=(decide (aa.aW<0))) (v:=(vb ((decide (aa.aW<0))||(decide (aa.aW>200))))) trivial rfl rfl (sq true rfl) ?_))))))))
  refine bY ((decide (aa.aW<0))||(decide (aa.aW>200))) (RL.nt (dX o (fun o=>?_) fun o=>?_))
  ·refine RC.sr (aI 1 (RL.nt (RC.rb (dx (aO ?_)))))
   obtain rfl:=oi o
   exact⟨rfl,bC ⟨rfl,j.drop 4⟩⟩
  refine RC.seq ?_
  obtain⟨ak,hj,o⟩:=bd o
  refine RC.jn (fun(ak:Bool)=>SH E V [(0,v0),(13,v0),(14,vi p0.length),(15,vi ad),(43,vb ak)] [rd v0 p0]) ak ?_ ?_
  ·refine RC.v7 mixed ?_
   have j:=j.drew
   refine RO.go (aX (ad:Int) (RO.nx (ic ((ad:Int)) 0 (RO.nx (jG (decide ((ad:Int)>0)) (iW hj (fun ab hj=>?_) fun ab hj=>?_))))))
   rotate_left
   ·refine RO.nx (bS ab (RO.nx (bS ab (RO.nx (bS ab (RO.nx (bS ab (RO.nx ?_))))))))
    refine bS ab (RO.nx (bS ab (RO.nx (bS ab (RO.nx (bS ab (RO.nx (bS ab ?_))))))))
    refine RO.nx (iQ ab (vb false) (RO.nx (bY false (RO.last ?_))))
    obtain rfl:=oi hj
    exact⟨rfl,j.sp 4 [3]⟩
   refine RO.nx (RL.bU (hg:=(cg ab)) zr kK (RO.nx (RL.aV (hg:=(cg ab)) 0 j zr ee fY (RO.nx (RL.move v0 (cg ab) (RO.nx (RL.move (vi ad) (cg ab) (RO.nx ?_))))))))
   refine RL.gq (hg:=(cg ab)) (ad:Int) 1 (RO.nx ?_)
   obtain⟨ag,ax,hj⟩:=bd hj
   refine RL.bK (hg:=(cg ab)) 3 j mf ax fun a4 j=>(RO.nx (RL.gS 0 (cg ab) j zr kK ee fun a5 j=>(RO.nx (RL.bX (hg:=(cg ab)) ag.Name 0 j fY (RO.nx (RL.lR aa.Name ag.Name (cg ab) (RO.nx (iQ ab (vb (aa.Name.ks ag.Name||aa.Name.iM ag.Name)) ?_))))))))
   refine RO.nx (bY (aa.Name.ks ag.Name||aa.Name.iM ag.Name) (RO.last ?_))
   obtain rfl:=oi hj
   exact⟨rfl,j.sp 6 [5]⟩
  rintro _ w ⟨O,rfl,j⟩
  refine aF (dX o (fun o=>?_) fun o=>?_)
  rotate_left
  ·refine RC.skip (bF (bF (aF (RC.region (RL.inc hk hm (aX ((ad+1:Nat):Int) (RL.nil ?_)))))))
   obtain rfl:=oi o
   exact⟨rfl,j.sp 1 [0]⟩
  refine RC.sr (aI 8 (RL.nt (RC.rb (dx (aO ?_)))))
  obtain rfl:=oi o
  exact⟨rfl,bC ⟨rfl,j.drop 1⟩⟩
 ·intro r U w o hK
  refine aO ?_
  obtain rfl:=oi o
  exact hK
 rintro an _ w o ⟨O,rfl,j⟩
 refine aF (RC.seq (RC.sr (mv v0 (RL.bG 0 p0 j pN (aX 0 (RL.nt (RC.r0 E V (fun(aq:Unit)=>[rd v0 p0]) (fun _=>[]) (fun ah _=>[(0,v0),(58,v0),(59,vi p0.length),(60,vi ah)]) (kR E V) o ?_ ?_ ?_ ?_)))))))
 ·exact j.sp 1 [0]
 ·rintro hm ah aq fl _ w hk ⟨O,rfl,j⟩ o
  refine RC.seq (RC.bs (aX (ah:Int) ?_))
  obtain⟨ay,az,o⟩:=bd o
  refine RL.bK 0 j mf az fun a6 j=>(RL.aZ 0 ay j mg fun a7 j=>(RL.alloc j tw.z fun ar w j=>?_))
  refine aI (ah:Int) (RL.bD 0 j 1 zr mg fun w j=>?_)
  refine RL.ns (mv v0 (aX (ah:Int) ?_))
  obtain⟨a8,a0,o⟩:=bd o
  refine RL.cut 3 zr j zr zr mf (.inr ⟨rfl,zr⟩) a0 fun a9 j=>?_
  have j:=j.jv (i:=1) rfl
  refine RL.makeFunc zr [(vp ar 0)] zr ?_
  obtain⟨ba,a1,o⟩:=bd o
  refine RL.cs Dv (kg N (i0:=0) j rfl ⟨82,[(vp ar 0)],rfl,Du,fun w Γl v y0 r i j hi hr=>by exact eg (mB N (i0:=i) (i1:=Γl.length+1) j hi qV hr) fun _ _ h=>h⟩ a1) fun w j=>(RL.nt (dX o (fun o=>?_) fun o=>?_))
  rotate_left
  ·refine RC.skip (bF (aF (RC.region (RL.inc hk hm (aX ((ah+1:Nat):Int) (RL.nil ?_))))))
   obtain rfl:=oi o
   exact⟨rfl,j.sp 5 [4]⟩
  refine RC.sr (aI 12 (RL.nt (RC.rb (aO ?_))))
  obtain rfl:=oi o
  exact⟨rfl,bC ⟨rfl,j.drop 5⟩⟩
 ·intro r U w o hK
  refine aO ?_
  obtain rfl:=oi o
  exact hK
 rintro aq _ w o ⟨O,rfl,j⟩
 refine aF (RC.sr (aI 0 (RL.nt (RC.ret ?_))))
 obtain rfl:=oi o
 exact bC ⟨rfl,j.drop 1⟩
def oo (E:World) (V:List HP) (r:Int) (U:Nat->Value) (w:World):Prop:=gR bE 40 Tryz.f14 (aC E V r) .ret U w
theorem nM {p0: (List aD)} (j:Holds E w V) (h0:V[i0]? =some (rd v0 p0)) (o:fM N p0=some res):
    Calls bE 14 [v0].toArray w (eT (aC E V res)):=by
 unfold fM at o
 refine enter Tryz.func14 zr zr ?_
 have j:=j.dup (i0+0) h0
 refine RC.sr (aI 0 (RL.nq (RC.sr (mv v0 (RL.bG 0 p0 j yG (ic ((p0.length:Int)) 200 (RL.nt (dX o (fun o=>?_) fun o=>?_))))))))
 ·refine RC.sr (aI 2 (RL.nt (RC.rt ?_)))
  obtain rfl:=oi o
  exact bC ⟨rfl,j.drop 1⟩
 refine RC.ss (RC.sr (mv v0 (RL.bG 0 p0 j yG (aX 0 (RL.nt (RC.r0 E V (fun(ai:Unit)=>[rd v0 p0]) (fun _=>[]) (fun ab _=>[(0,v0),(9,v0),(10,vi p0.length),(11,vi ab)]) (oo E V) o ?_ ?_ ?_ ?_))))))
 ·exact j.sp 1 [0]
 ·rintro hm ab ai fl _ w hk ⟨O,rfl,j⟩ o
  refine RC.seq (RC.bs (aX (ab:Int) ?_))
  obtain⟨ae,al,o⟩:=bd o
  refine RL.bK 0 j qA al fun aw j=>(RL.aZ 0 ae j lT fun ax j=>(RL.alloc j xu.z fun ay w j=>?_))
  refine aI (ab:Int) (RL.bD 0 j 1 zr lT fun w j=>?_)
  refine RL.nq (RC.sr (RL.bU zr oa (RL.aV 0 j zr fD fY ?_)))
  obtain⟨an,ao,o⟩:=bd o
  refine RL.cs BQ (jU N (p0:=ae.Name) j ao) fun w j=>(RL.not an (RL.nt (dX o (fun o=>?_) fun o=>?_)))
  ·refine RC.sr (aI 5 (RL.nt (RC.rt (dx (aO ?_)))))
   obtain rfl:=oi o
   exact⟨rfl,bC ⟨rfl,j.drop 4⟩⟩
  refine RC.ss (RC.sr (RL.bU zr iC (RL.bI 0 j zr cF ob fun az j=>?_)))
  obtain⟨af,aq,o⟩:=bd o
  refine RL.cs Dw (om N (i0:=0) j zr aq) fun w j=>(aI af (RL.ns (aX af (ic af 0 (RL.nt (dX o (fun o=>?_) fun o=>?_))))))
  ·refine RC.sr (aX af (aI af (RL.nt (RC.rt (dx (aO ?_))))))
   obtain rfl:=oi o
   exact⟨rfl,bC ⟨rfl,j.drop 5⟩⟩
  refine RC.ss ?_
  obtain⟨ah,hj,o⟩:=bd o
  refine RC.jn (fun(ah:Bool)=>SH E V [(0,v0),(9,v0),(10,vi p0.length),(11,vi ab),(38,vb ah)] [rd v0 p0]) ah ?_ ?_
  ·refine RC.v7 mixed ?_
   have j:=j.drew
   refine RO.go (aX (ab:Int) (RO.nx (ic ((ab:Int)) 0 (RO.nx (jG (decide ((ab:Int)>0)) (iW hj (fun aa hj=>?_) fun aa hj=>?_))))))
   rotate_left
   ·refine RO.nx (bS aa (RO.nx (bS aa (RO.nx (bS aa (RO.nx (bS aa (RO.nx ?_))))))))
    refine bS aa (RO.nx (bS aa (RO.nx (bS aa (RO.nx (bS aa (RO.nx (bS aa ?_))))))))
    refine RO.nx (iQ aa (vb false) (RO.last ?_))
    obtain rfl:=oi hj
    exact⟨rfl,j.sp 5 [4]⟩
   refine RO.nx (RL.bU (hg:=(cg aa)) zr oa (RO.nx (RL.aV (hg:=(cg aa)) 1 j zr fD fY (RO.nx (RL.move v0 (cg aa) (RO.nx (RL.move (vi ab) (cg aa) (RO.nx ?_))))))))
   refine RL.gq (hg:=(cg aa)) (ab:Int) 1 (RO.nx ?_)
   obtain⟨ag,ar,hj⟩:=bd hj
   refine RL.bK (hg:=(cg aa)) 4 j qA ar fun a0 j=>(RO.nx (RL.gS 0 (cg aa) j zr oa fD fun a1 j=>(RO.nx (RL.bX (hg:=(cg aa)) ag.Name 0 j fY (RO.nx (RL.lR ae.Name ag.Name (cg aa) (RO.nx (iQ aa (vb (ae.Name.ks ag.Name||ae.Name.iM ag.Name)) ?_))))))))
   refine RO.last ?_
   obtain rfl:=oi hj
   exact⟨rfl,j.sp 7 [6]⟩
  rintro _ w ⟨O,rfl,j⟩
  refine aF (dX o (fun o=>?_) fun o=>?_)
  rotate_left
  ·refine RC.skip (bF (aF (RC.region (RL.inc hk hm (aX ((ab+1:Nat):Int) (RL.nil ?_))))))
   obtain rfl:=oi o
   exact⟨rfl,j.sp 1 [0]⟩
  refine RC.sr (aI 8 (RL.nt (RC.rb (aO ?_))))
  obtain rfl:=oi o
  exact⟨rfl,bC ⟨rfl,j.drop 1⟩⟩
 ·intro r U w o hK
  refine aO ?_
  obtain rfl:=oi o
  exact hK
 rintro ai _ w o ⟨O,rfl,j⟩
 refine aF (RC.sr (aI 0 (RL.nt (RC.ret ?_))))
 obtain rfl:=oi o
 exact bC ⟨rfl,j.drop 1⟩
theorem gP {p0: (List aD)} {p1:aT} {p2:aD->aT->Option Int} {res:Int×Bool} (o:Holds E w V) (h0:V[i0]? =some (rd v0 p0)) (h2:zD bE E V v2 p2 (fun(r:Int)=>Value.int .i64 r)) (hb:cM N p0 p1 p2=some res):
    Calls bE 44 [v0,(str p1),v2].toArray w (eT (bZ E V res)):=by
 unfold cM at hb
 refine enter Tryz.func44 zr zr ?_
 have o:=o.dup (i0+0) h0
 refine RC.sr (aI 0 (bY false (RL.ns (mv v0 (RL.bG 0 p0 o yG (aI (p0.length:Int) (RL.ns (aX (p0.length:Int) ?_))))))))
 refine aI 0 (aI (p0.length:Int) (RL.nq (RC.e0 E V (fun(j:Int×Int)=>[rd v0 p0]) (fun j=>[(0,v0),(1,(str p1)),(2,v2),(8,vi p0.length),(9,vi j.1)]) (fun j=>[(10,vi j.2)]) hb ?_ ?_ ?_)))
 ·exact o.sp 1 [0]
 ·rintro j fl _ w ⟨O,rfl,o⟩ hb
  refine RC.seq (RC.sr (aX j.1 (aX j.2 (ic j.1 j.2 (RL.nt (dX hb (fun hb=>?_) fun hb=>?_))))))
  rotate_left
  ·refine RC.ex ?_
   obtain rfl:=oi hb
   exact⟨rfl,o.sp 1 [0]⟩
  refine RC.sn (RC.bs (aX j.1 (aX j.2 (RL.gq j.1 j.2 (RL.conv (IntKind.wrap .i64 (j.1+j.2)) ⟨_,zV⟩ pz (RL.bin (.int .u64 (IntKind.wrap .u64 (IntKind.wrap .i64 (j.1+j.2)))) (.int .u64 1) (.int .u64 (Int.fdiv (IntKind.wrap .u64 (IntKind.wrap .i64 (j.1+j.2))) 2)) zt zr zr zr (RL.conv (Int.fdiv (IntKind.wrap .u64 (IntKind.wrap .i64 (j.1+j.2))) 2) ⟨_,pz⟩ zV (aI (IntKind.wrap .i64 (Int.fdiv (IntKind.wrap .u64 (IntKind.wrap .i64 (j.1+j.2))) 2)) ?_))))))))
  refine RL.ns (mv v2 (mv v0 (aX (IntKind.wrap .i64 (Int.fdiv (IntKind.wrap .u64 (IntKind.wrap .i64 (j.1+j.2))) 2)) ?_)))
  obtain⟨ah,ai,hb⟩:=bd hb
  refine RL.bK 0 o qA ai fun ar o=>(RL.aZ 0 ah o lT fun au o=>(mv (str p1) ?_))
  have o:=o.sc aT p1
  obtain⟨aj,ak,hb⟩:=bd hb
  refine RL.jL 1 0 o h2 4 ak fun w o=>(ic aj 0 (RL.nt ?_))
  obtain⟨ae,hj,hb⟩:=bd hb
  refine RC.jn (fun(ae:Int×Int)=>SH E V [(0,v0),(1,(str p1)),(2,v2),(8,vi p0.length),(9,vi ae.1),(10,vi ae.2)] [rd v0 p0]) ae ?_ ?_
  ·refine dX hj (fun hj=>?_) fun hj=>?_
   rotate_left
   ·refine RC.region (aX (IntKind.wrap .i64 (Int.fdiv (IntKind.wrap .u64 (IntKind.wrap .i64 (j.1+j.2))) 2)) (aI (IntKind.wrap .i64 (Int.fdiv (IntKind.wrap .u64 (IntKind.wrap .i64 (j.1+j.2))) 2)) (RL.nil ?_)))
    obtain rfl:=oi hj
    exact⟨rfl,o.sp 4 [3]⟩
   refine RC.region (aX (IntKind.wrap .i64 (Int.fdiv (IntKind.wrap .u64 (IntKind.wrap .i64 (j.1+j.2))) 2)) (RL.gq (IntKind.wrap .i64 (Int.fdiv (IntKind.wrap .u64 (IntKind.wrap .i64 (j.1+j.2))) 2)) 1 (aI (IntKind.wrap .i64 ((IntKind.wrap .i64 (Int.fdiv (IntKind.wrap .u64 (IntKind.wrap .i64 (j.1+j.2))) 2))+1)) (RL.nil ?_))))
   obtain rfl:=oi hj
   exact⟨rfl,o.sp 4 [3]⟩
  rintro _ w ⟨O,rfl,o⟩
  refine bF ?_
  obtain rfl:=oi hb
  exact⟨rfl,o.sp 1 [0]⟩
 rintro j _ w hb ⟨O,rfl,o⟩
 refine aF (RC.seq ?_)
 obtain⟨af,hj,hb⟩:=bd hb
 refine RC.jn (fun(af:Bool)=>SH E V [(6,vi j.1),(7,vb af)] []) af ?_ ?_
 ·refine RC.region (aX j.1 (aX j.1 (aX (p0.length:Int) (ic j.1 ((p0.length:Int)) (jG (decide (j.1< (p0.length:Int))) (iW hj (fun aa hj=>?_) fun aa hj=>?_))))))
  rotate_left
  ·refine bS aa (bS aa (bS aa (bS aa (bS aa (bS aa (bS aa (bS aa (iQ aa (vb false) ?_))))))))
   refine aI j.1 (bY false (RL.nil ?_))
   obtain rfl:=oi hj
   exact⟨rfl,o.sp 1 []⟩
  refine RL.move v2 (cg aa) (RL.move v0 (cg aa) (RL.move (vi j.1) (cg aa) ?_))
  obtain⟨al,an,hj⟩:=bd hj
  refine RL.bK (hg:=(cg aa)) 0 o qA an fun av o=>(RL.aZ (hg:=(cg aa)) 0 al o lT fun aw o=>(RL.move (str p1) (cg aa) ?_))
  have o:=o.sc aT p1
  obtain⟨ag,ao,hj⟩:=bd hj
  refine RL.jL (hg:=(cg aa)) 1 0 o h2 4 ao fun w o=>(RL.kr ag 0 (cg aa) (iQ aa (vb (ag==0)) (aI j.1 (bY (ag==0) (RL.nil ?_)))))
  obtain rfl:=oi hj
  exact⟨rfl,o.sp 4 []⟩
 rintro _ w ⟨O,rfl,o⟩
 refine aF (RC.ret ?_)
 obtain rfl:=oi hb
 exact rR ⟨rfl,o.drop 0⟩
theorem mi {p0 p1:aT} (o:Holds E w V) (j:ib N p0 p1=some res):
    Calls bE 53 [(str p0),(str p1)].toArray w (eT (aC E V res)):=by
 unfold ib at j
 refine enter Tryz.func53 zr zr (RC.sr (aI 0 (RL.ns (mv (str p0) (mv (str p1) (RL.n2 (vi (Lib.compareBytes p0.bQ p1.bQ)) zr [(str p0),(str p1)] zr (Cb p0 p1 w) (aI (Lib.compareBytes p0.bQ p1.bQ) (RL.nt ?_))))))))
 refine RC.ret ?_
 obtain rfl:=oi j
 exact bC ⟨rfl,o.drop 0⟩
theorem dS {p0 p1:aT} (o:Holds E w V) (j:dy N p0 p1=some res):
    Calls bE 24 [(str p0),(str p1)].toArray w (eT (aC E V res)):=by
 unfold dy at j
 refine enter Tryz.func24 zr zr (RC.sr (aI 0 (RL.ns (mv (str p0) (mv (str p1) ?_)))))
 obtain⟨aa,ab,j⟩:=bd j
 refine RL.cs Dy (mi N (p0:=p0) (p1:=p1) o ab) fun w o=>(aI aa (RL.nt (RC.ret ?_)))
 obtain rfl:=oi j
 exact bC ⟨rfl,o.drop 0⟩
theorem oq {p0:aD} {p1:aT} (j:Holds E w V) (h0:V[i0]? =some (rd v0 p0)) (o:ff N p0 p1=some res):
    Calls bE 45 [v0,(str p1)].toArray w (eT (aC E V res)):=by
 unfold ff at o
 refine enter Tryz.func45 zr zr ?_
 have j:=j.dup (i0+0) h0
 refine RC.sr (RL.cW 0 v0 j zr fun ad w j=>?_)
 refine aI 0 (RL.ns (RL.bU zr oa (RL.aV 0 j zr fD fY (mv (str p1) ?_))))
 obtain⟨aa,ab,o⟩:=bd o
 refine RL.cs wi (dS N (p0:=p0.Name) (p1:=p1) j ab) fun w j=>(aI aa (RL.nt (RC.ret ?_)))
 obtain rfl:=oi o
 exact bC ⟨rfl,j.drop 2⟩
theorem iv {p0: (List aD)} {p1:aT} (hw:Holds E w V) (h0:V[i0]? =some (rd v0 p0)) (hb:eZ N p0 p1=some res):
    Calls bE 21 [v0,(str p1)].toArray w (eT (aC E V res)):=by
 unfold eZ at hb
 refine enter Tryz.func21 zr zr ?_
 have hw:=hw.dup (i0+0) h0
 refine RC.sr (aI 0 (RL.ns (mv v0 (mv (str p1) ?_))))
 obtain⟨o,ad,hb⟩:=bd hb
 refine RL.cs DA (gP N (p1:=p1) (i0:=0) hw rfl ⟨45,[],rfl,Dz,fun w Γl v v' y0 y1 r i j hw hi hj hr=>by obtain rfl:=hw.pG (γ:=aT) hj;exact eg (oq N (p1:=y1) (i0:=i) hw hi hr) fun _ _ h=>h⟩ ad) fun w hw=>(mv (.tuple #[(vi o.1),(vb o.2)]) (RL.extract (vi o.1) (RL.extract (vb o.2) (aI o.1 (bY o.2 (RL.nq (RC.sr (jG o.2 ?_))))))))
 refine RL.not o.2 (RL.nt (dX hb (fun hb=>?_) fun hb=>?_))
 ·refine RC.sr (aI (-1) (RL.nt (RC.rt ?_)))
  obtain rfl:=oi hb
  exact bC ⟨rfl,hw.drop 1⟩
 refine RC.sx (aX o.1 (aI o.1 (RL.nt (RC.ret ?_))))
 obtain rfl:=oi hb
 exact bC ⟨rfl,hw.drop 1⟩
def ot (E:World) (V:List HP) (r:Int) (U:Nat->Value) (w:World):Prop:=gR bE 46 Tryz.f15 (aC E V r) .ret U w
theorem nO {p0: (List aD)} {p1: (List Part)} {p2:aT->Option Bool} (j:Holds E w V) (h0:V[i0]? =some (rd v0 p0)) (h1:V[i1]? =some (rd v1 p1)) (h2:Ay bE E V v2 p2 (fun(r:Bool)=>Value.bool r)) (o:fN N p0 p1 p2=some res):
    Calls bE 15 [v0,v1,v2].toArray w (eT (aC E V res)):=by
 unfold fN at o
 refine enter Tryz.func15 zr zr ?_
 have j:=(j.dup (i0+0) h0).dup (i1+1) h1
 refine RC.sr (aI 0 (RL.nq (RC.sr (mv v1 (RL.bG 0 p1 j rW (ic ((p1.length:Int)) 1000 (RL.nt (dX o (fun o=>?_) fun o=>?_))))))))
 ·refine RC.sr (aI 2 (RL.nt (RC.rt ?_)))
  obtain rfl:=oi o
  exact bC ⟨rfl,j.drop 2⟩
 refine RC.ss (RC.sr (mv v1 (RL.bG 0 p1 j rW (aX 0 (RL.nt (RC.r0 E V (fun(ah:Unit)=>[rd v0 p0,rd v1 p1]) (fun _=>[]) (fun ab _=>[(0,v0),(1,v1),(2,v2),(12,v1),(13,vi p1.length),(14,vi ab)]) (ot E V) o ?_ ?_ ?_ ?_))))))
 ·exact j.sp 2 [1,0]
 ·rintro hm ab ah fl _ w hk ⟨O,rfl,j⟩ o
  refine RC.seq (RC.bs (aX (ab:Int) ?_))
  obtain⟨ad,an,o⟩:=bd o
  refine RL.bK 1 j o4 an fun aw j=>(RL.aZ 0 ad j m1 fun ax j=>(RL.alloc j uW.z fun ay w j=>?_))
  refine aI (ab:Int) (RL.bD 0 j 1 zr m1 fun w j=>?_)
  refine RL.nt (RC.bs (mv v2 (RL.bU zr lr (RL.aV 0 j zr gA fY ?_))))
  have j:=j.sc aT ad.Name
  obtain⟨ai,ao,o⟩:=bd o
  refine RL.uD 0 zr j zr h2 6 zr zr zr ao fun w j=>(RL.not ai (bY (!ai) (RL.nt (dX o (fun o=>?_) fun o=>?_))))
  ·refine RC.sr (aI 5 (RL.nt (RC.rb (dx (aO ?_)))))
   obtain rfl:=oi o
   exact⟨rfl,bC ⟨rfl,j.drop 6⟩⟩
  refine RC.sr (mv v0 (RL.bU zr lu (RL.aV 1 j zr gB fY ?_)))
  obtain⟨aj,aq,o⟩:=bd o
  refine RL.cs AX (iv N (p1:=ad.cE) (i0:=4) j zr aq) fun w j=>(ic aj 0 (bY (decide (aj<0)) (RL.nt (dX o (fun o=>?_) fun o=>?_))))
  ·refine RC.sr (aI 9 (RL.nt (RC.rb (dx (aO ?_)))))
   obtain rfl:=oi o
   exact⟨rfl,bC ⟨rfl,j.drop 6⟩⟩
  refine RC.seq ?_
  obtain⟨ag,hj,o⟩:=bd o
  refine RC.jn (fun(ag:Bool)=>SH E V [(0,v0),(1,v1),(2,v2),(12,v1),(13,vi p1.length),(14,vi ab),(31,vb ag)] [rd v0 p0,rd v1 p1]) ag ?_ ?_
  ·refine RC.v7 mixed ?_
   have j:=j.drew
   refine RO.go (aX (ab:Int) (RO.nx (ic ((ab:Int)) 0 (RO.nx (jG (decide ((ab:Int)>0)) (iW hj (fun aa hj=>?_) fun aa hj=>?_))))))
   rotate_left
   ·refine RO.nx (bS aa (RO.nx (bS aa (RO.nx (bS aa (RO.nx (bS aa (RO.nx ?_))))))))
    refine bS aa (RO.nx (bS aa (RO.nx (bS aa (RO.nx (bS aa (RO.nx (bS aa ?_))))))))
    refine RO.nx (iQ aa (vb false) (RO.nx (bY false (RO.last ?_))))
    obtain rfl:=oi hj
    exact⟨rfl,j.sp 6 [4,5]⟩
   refine RO.nx (RL.bU (hg:=(cg aa)) zr lr (RO.nx (RL.aV (hg:=(cg aa)) 1 j zr gA fY (RO.nx (RL.move v1 (cg aa) (RO.nx (RL.move (vi ab) (cg aa) (RO.nx ?_))))))))
   refine RL.gq (hg:=(cg aa)) (ab:Int) 1 (RO.nx ?_)
   obtain⟨af,ar,hj⟩:=bd hj
   refine RL.bK (hg:=(cg aa)) 5 j o4 ar fun az j=>(RO.nx (RL.gS 0 (cg aa) j zr lr gA fun a0 j=>(RO.nx (RL.bX (hg:=(cg aa)) af.Name 0 j fY (RO.nx (RL.lR ad.Name af.Name (cg aa) (RO.nx (iQ aa (vb (ad.Name.ks af.Name||ad.Name.iM af.Name)) ?_))))))))
   refine RO.nx (bY (ad.Name.ks af.Name||ad.Name.iM af.Name) (RO.last ?_))
   obtain rfl:=oi hj
   exact⟨rfl,j.sp 8 [6,7]⟩
  rintro _ w ⟨O,rfl,j⟩
  refine aF (dX o (fun o=>?_) fun o=>?_)
  rotate_left
  ·refine RC.skip (bF (bF (aF (RC.region (RL.inc hk hm (aX ((ab+1:Nat):Int) (RL.nil ?_)))))))
   obtain rfl:=oi o
   exact⟨rfl,j.sp 2 [0,1]⟩
  refine RC.sr (aI 8 (RL.nt (RC.rb (dx (aO ?_)))))
  obtain rfl:=oi o
  exact⟨rfl,bC ⟨rfl,j.drop 2⟩⟩
 ·intro r U w o hK
  refine aO ?_
  obtain rfl:=oi o
  exact hK
 rintro ah _ w o ⟨O,rfl,j⟩
 refine aF (RC.sr (aI 0 (RL.nt (RC.ret ?_))))
 obtain rfl:=oi o
 exact bC ⟨rfl,j.drop 2⟩
theorem ou {p0 p1:aT} (o:Holds E w V) (j:gb N p0 p1=some res):
    Calls bE 153 [(str p0),(str p1)].toArray w (eT (aC E V res)):=by
 unfold gb at j
 refine enter Tryz.func153 zr zr (RC.sr (aI 0 (RL.ns (mv (str p1) (RL.lens p1 rV (aI (p1.bQ.length:Int) (RL.nq (RC.bs ?_))))))))
 refine aX (p1.bQ.length:Int) (ic ((p1.bQ.length:Int)) 0 (jG ((p1.bQ.length:Int)==0) (RL.g1 (str p1) zr zr se (RL.g1 (str p0) zr zr se (RL.g1 (vb (p1.iM p0)) zr zr (Dt .eql) (RL.pick (b:=((p1.bQ.length:Int)==0)) (v:=(vb (((p1.bQ.length:Int)==0)||(p1.iM p0)))) zt zr zr (sq true zr) (bY (((p1.bQ.length:Int)==0)||(p1.iM p0)) (RL.nt ?_))))))))
 refine dX j (fun j=>?_) fun j=>?_
 ·refine RC.sr (aI 0 (RL.nt (RC.rb (aO ?_))))
  obtain rfl:=oi j
  exact bC ⟨rfl,o.drop 0⟩
 refine RC.sr (aX (p1.bQ.length:Int) (ic ((p1.bQ.length:Int)) 1 (bY ((p1.bQ.length:Int)==1) (RL.nt (dX j (fun j=>?_) fun j=>?_)))))
 ·refine RC.sr (mv (str p0) (mv (str p1) ?_))
  obtain⟨aa,ab,j⟩:=bd j
  refine RL.idxs p1 0 aa zr zr zr rV ab ?_
  obtain⟨ad,ae,j⟩:=bd j
  refine RL.cs Bq (i9 N (p0:=p0) (p1:=(aa.toNat:Int)) o ae) fun w o=>(aI ad (RL.nt (RC.rb (aO ?_))))
  obtain rfl:=oi j
  exact bC ⟨rfl,o.drop 0⟩
 refine RC.sr (aX (p1.bQ.length:Int) (mv (str p0) (RL.lens p0 rV (ic ((p1.bQ.length:Int)) ((p0.bQ.length:Int)) (bY (decide ((p1.bQ.length:Int)>=(p0.bQ.length:Int))) (RL.nt (dX j (fun j=>?_) fun j=>?_)))))))
 rotate_left
 ·cases j
 refine RC.sr (aI (-1) (RL.nt (RC.rb (aO ?_))))
 obtain rfl:=oi j
 exact bC ⟨rfl,o.drop 0⟩
theorem mC {p0 p1:aT} (o:Holds E w V) (j:g0 N p0 p1=some res):
    Calls bE 108 [(str p0),(str p1)].toArray w (eT (aC E V res)):=by
 unfold g0 at j
 refine enter Tryz.func108 zr zr (RC.sr (aI 0 (RL.ns (mv (str p0) (mv (str p1) ?_)))))
 obtain⟨aa,ab,j⟩:=bd j
 refine RL.cs Cz (ou N (p0:=p0) (p1:=p1) o ab) fun w o=>(aI aa (RL.nt (RC.ret ?_)))
 obtain rfl:=oi j
 exact bC ⟨rfl,o.drop 0⟩
def r3 (E:World) (V:List HP) (r:Int) (U:Nat->Value) (w:World):Prop:=gR bE 34 Tryz.f107 (aC E V r) .ret U w
theorem rk {p0 p1:aT} (hw:Holds E w V) (j:i3 N p0 p1=some res):
    Calls bE 107 [(str p0),(str p1)].toArray w (eT (aC E V res)):=by
 unfold i3 at j
 refine enter Tryz.func107 zr zr (RC.sr (aI 0 (RL.nq (RC.sr (mv (str p1) (RL.lens p1 rV (ic ((p1.bQ.length:Int)) 0 (RL.nt ?_))))))))
 refine dX j (fun j=>?_) fun j=>?_
 ·cases j
 refine RC.ss (RC.sr (mv (str p1) (RL.lens p1 rV (ic ((p1.bQ.length:Int)) 1 (RL.nt (dX j (fun j=>?_) fun j=>?_))))))
 ·refine RC.sr (mv (str p0) (mv (str p1) ?_))
  obtain⟨ab,ae,j⟩:=bd j
  refine RL.idxs p1 0 ab zr zr zr rV ae (RL.n2 (vi ((Lib.countByte p0.bQ (Int.toNat (ab.toNat:Int)).toUInt8:Nat):Int)) zr [(str p0),(.int .u8 (ab.toNat:Int))] zr (tq p0 (ab.toNat:Int) w) (aI ((Lib.countByte p0.bQ (Int.toNat (ab.toNat:Int)).toUInt8:Nat):Int) (RL.nt (RC.rt ?_))))
  obtain rfl:=oi j
  exact bC ⟨rfl,hw.drop 0⟩
 refine RC.sx (aI 0 (RL.nt (RC.i0 E V (fun(o:aT×Int)=>[]) (fun _=>[(4,vi 0)]) (fun o=>[(0,(str o.1)),(1,(str p1)),(5,vi o.2)]) (r3 E V) j ?_ ?_ ?_ ?_)))
 ·exact hw.sp 0 []
 ·rintro o fl _ w ⟨O,rfl,hw⟩ j
  refine RC.bs (mv (str o.1) (mv (str p1) ?_))
  obtain⟨ad,af,j⟩:=bd j
  refine RL.cs Bs (mC N (p0:=o.1) (p1:=p1) hw af) fun w hw=>(aI ad (RL.nq (RC.sr (aX ad (ic ad ((-1)) (RL.nt (dX j (fun j=>?_) fun j=>?_)))))))
  ·refine RC.sr (aX o.2 (aI o.2 (RL.nt (RC.rt (dx ?_)))))
   obtain rfl:=oi j
   exact⟨rfl,bC ⟨rfl,hw.drop 0⟩⟩
  refine RC.sx (aX o.2 (RL.gq o.2 1 (aI (IntKind.wrap .i64 (o.2+1)) (RL.nt (RC.region (mv (str o.1) (aX ad (mv (str p1) ?_))))))))
  refine RL.lens p1 rV (RL.gq ad (p1.bQ.length:Int) ?_)
  obtain⟨ag,ah,j⟩:=bd j
  refine RL.pI o.1 zr zr rV (.inl zr) (.inr ⟨rfl,zr⟩) ah (cT (str ag) (RL.nil (bF ?_)))
  obtain rfl:=oi j
  exact⟨rfl,hw.sp 0 []⟩
 ·intro r U w j hK
  obtain rfl:=oi j
  exact hK
 rintro o _ w j ⟨O,rfl,hw⟩
 obtain rfl:=oi j
 refine zv ?_
 exact bC ⟨rfl,hw.drop 0⟩
theorem o7 {p0 p1:aT} {res: (List aT)} (o:Holds E w V) (j:iO N p0 p1 p2 p3=some res):
    Calls bE 84 [(str p0),(str p1),(vi p2),(vi p3)].toArray w (eT (dQ E V res)):=by
 unfold iO at j
 refine enter Tryz.func84 zr zr (RC.sr (cT (.slice none 0 0) (RL.nq (RC.sr (aX p3 (ic p3 0 (RL.nt (dX j (fun j=>?_) fun j=>?_))))))))
 ·refine RC.sr (cT (.slice none 0 0) (RL.nt (RC.rt ?_)))
  obtain rfl:=oi j
  have o:=o.dV aT 9
  exact bC (o.pk 1 [0])
 refine RC.ss (RC.sr (mv (str p1) (RL.lR p1 ⟨[]⟩ zt (RL.nt (dX j (fun j=>?_) fun j=>?_)))))
 ·cases j
 refine RC.ss (RC.sr (aX p3 (ic p3 0 (RL.nt ?_))))
 obtain⟨aa,hj,j⟩:=bd j
 refine RC.jn (fun(aa:Int)=>SH E V [(0,(str p0)),(1,(str p1)),(2,vi p2),(3,vi aa)] []) aa ?_ ?_
 ·refine dX hj (fun hj=>?_) fun hj=>?_
  rotate_left
  ·refine RC.skip ?_
   obtain rfl:=oi hj
   exact⟨rfl,o.sp 0 []⟩
  refine RC.region (mv (str p0) (mv (str p1) ?_))
  obtain⟨ag,aj,hj⟩:=bd hj
  refine RL.cs CA (rk N (p0:=p0) (p1:=p1) o aj) fun w o=>(RL.gq ag 1 (aI (IntKind.wrap .i64 (ag+1)) (RL.nil ?_)))
  obtain rfl:=oi hj
  exact⟨rfl,o.sp 0 []⟩
 rintro _ w ⟨O,rfl,o⟩
 refine aF (RC.sr (aX aa (mv (str p0) (RL.lens p0 rV (RL.gq (p0.bQ.length:Int) 1 (RL.min aa (IntKind.wrap .i64 ((p0.bQ.length:Int)+1)) zt zr zr zr (aI (if (IntKind.wrap .i64 ((p0.bQ.length:Int)+1))<aa then (IntKind.wrap .i64 ((p0.bQ.length:Int)+1)) else aa) (RL.ns ?_))))))))
 refine aX (if (IntKind.wrap .i64 ((p0.bQ.length:Int)+1))<aa then (IntKind.wrap .i64 ((p0.bQ.length:Int)+1)) else aa) ?_
 obtain⟨aw,ak,j⟩:=bd j
 refine RL.mk (if (IntKind.wrap .i64 ((p0.bQ.length:Int)+1))<aa then (IntKind.wrap .i64 ((p0.bQ.length:Int)+1)) else aa) zr o zr zr yH DB ak fun af w o=>?_
 refine cT af (RL.ns (aX (if (IntKind.wrap .i64 ((p0.bQ.length:Int)+1))<aa then (IntKind.wrap .i64 ((p0.bQ.length:Int)+1)) else aa) (RL.gq (if (IntKind.wrap .i64 ((p0.bQ.length:Int)+1))<aa then (IntKind.wrap .i64 ((p0.bQ.length:Int)+1)) else aa) 1 (aI (IntKind.wrap .i64 ((if (IntKind.wrap .i64 ((p0.bQ.length:Int)+1))<aa then (IntKind.wrap .i64 ((p0.bQ.length:Int)+1)) else aa) - 1)) (RL.ns (aI 0 (RL.nq (RC.e0 E V (fun(ab:aT×(List aT)×Int)=>[own 9 af ab.2.1]) (fun ab=>[(0,(str ab.1)),(9,af),(10,vi ab.2.2)]) (fun _=>[(1,(str p1)),(2,vi p2),(3,(vi (IntKind.wrap .i64 ((if (IntKind.wrap .i64 ((p0.bQ.length:Int)+1))<aa then (IntKind.wrap .i64 ((p0.bQ.length:Int)+1)) else aa) - 1))))]) j ?_ ?_ ?_))))))))
 ·exact o.sp 1 [0]
 ·rintro ab fl _ w ⟨O,rfl,o⟩ j
  refine RC.seq (RC.sr (aX ab.2.2 (aX (IntKind.wrap .i64 ((if (IntKind.wrap .i64 ((p0.bQ.length:Int)+1))<aa then (IntKind.wrap .i64 ((p0.bQ.length:Int)+1)) else aa) - 1)) (ic ab.2.2 ((IntKind.wrap .i64 ((if (IntKind.wrap .i64 ((p0.bQ.length:Int)+1))<aa then (IntKind.wrap .i64 ((p0.bQ.length:Int)+1)) else aa) - 1))) (RL.nt (dX j (fun j=>?_) fun j=>?_))))))
  rotate_left
  ·refine RC.ex ?_
   obtain rfl:=oi j
   exact⟨rfl,o.sp 1 [0]⟩
  refine RC.sn (RC.bs (mv (str ab.1) (mv (str p1) ?_)))
  obtain⟨ae,al,j⟩:=bd j
  refine RL.cs Bs (mC N (p0:=ab.1) (p1:=p1) o al) fun w o=>(aI ae (RL.nq (RC.sr (aX ae (ic ae 0 (RL.nt (dX j (fun j=>?_) fun j=>?_)))))))
  ·refine RC.ex (BG (by decide) ?_)
   obtain rfl:=oi j
   exact⟨rfl,o.sp 1 [0]⟩
  refine RC.sx (mv af (aX ab.2.2 (mv (str ab.1) (aX ae (aX p2 (RL.gq ae p2 ?_))))))
  obtain⟨an,ao,j⟩:=bd j
  refine RL.pI ab.1 zr zr rV (.inr ⟨rfl,zr⟩) (.inl zr) ao ?_
  obtain⟨ay,ah,j⟩:=bd j
  refine RL.cO 0 o zr zr jD ah ?_
  have o:=o.sc aT an
  refine RL.s1 1 0 o ah fY fun w o=>?_
  refine RL.ns (mv (str ab.1) (aX ae (mv (str p1) (RL.lens p1 rV (RL.gq ae (p1.bQ.length:Int) ?_)))))
  obtain⟨aq,ar,j⟩:=bd j
  refine RL.pI ab.1 zr zr rV (.inl zr) (.inr ⟨rfl,zr⟩) ar (cT (str aq) (RL.nt (RC.region (aX ab.2.2 (RL.gq ab.2.2 1 (aI (IntKind.wrap .i64 (ab.2.2+1)) (RL.nil (bF ?_))))))))
  obtain rfl:=oi j
  exact⟨rfl,o.sp 2 [1]⟩
 rintro ab _ w j ⟨O,rfl,o⟩
 refine aF (RC.sr (mv af (aX ab.2.2 (mv (str ab.1) ?_))))
 obtain⟨az,ai,j⟩:=bd j
 refine RL.cO 0 o zr zr jD ai ?_
 have o:=o.sc aT ab.1
 refine RL.s1 1 0 o ai fY fun w o=>?_
 refine RL.ns (mv af (aX ab.2.2 (RL.gq ab.2.2 1 ?_)))
 obtain⟨a0,au,j⟩:=bd j
 refine RL.oM 1 o jD (.inr ⟨rfl,zr⟩) au fun av o=>(cT av (RL.nt (RC.ret ?_)))
 obtain rfl:=oi j
 exact bC (o.pk 2 [1])
theorem mD {p0 p1:aT} {res: (List aT)} (o:Holds E w V) (j:g8 N p0 p1=some res):
    Calls bE 39 [(str p0),(str p1)].toArray w (eT (dQ E V res)):=by
 unfold g8 at j
 refine enter Tryz.func39 zr zr (RC.sr (cT (.slice none 0 0) (RL.ns (mv (str p0) (mv (str p1) ?_)))))
 obtain⟨ad,aa,j⟩:=bd j
 refine RL.cl DC (o7 N (p0:=p0) (p1:=p1) (p2:=0) (p3:=(-1)) o aa) fun ab w o=>(cT ab (RL.nt (RC.ret ?_)))
 obtain rfl:=oi j
 exact bC (o.pk 1 [0])
def lV (E:World) (V:List HP) (r:Int) (U:Nat->Value) (w:World):Prop:=gR bE 19 Tryz.f83 (aC E V r) .ret U w
theorem lz {p0: (List aT)} {p1:aT->Option Bool} (j:Holds E w V) (h0:V[i0]? =some (rd v0 p0)) (h1:Ay bE E V v1 p1 (fun(r:Bool)=>Value.bool r)) (o:gz N p0 p1=some res):
    Calls bE 83 [v0,v1].toArray w (eT (aC E V res)):=by
 unfold gz at o
 refine enter Tryz.func83 zr zr ?_
 have j:=j.dup (i0+0) h0
 refine RC.sr (aI 0 (RL.nq (RC.sr (mv v0 (RL.bG 0 p0 j o5 (aX 0 (RL.nt (RC.r0 E V (fun(ab:Unit)=>[rd v0 p0]) (fun _=>[]) (fun aa _=>[(0,v0),(1,v1),(7,vi p0.length),(8,vi aa)]) (lV E V) o ?_ ?_ ?_ ?_))))))))
 ·exact j.sp 1 [0]
 ·rintro hm aa ab fl _ w hk ⟨O,rfl,j⟩ o
  refine RC.seq (RC.bs (aX (aa:Int) (aI (aa:Int) (RL.ns (mv v1 (mv v0 (aX (aa:Int) ?_)))))))
  obtain⟨ad,ag,o⟩:=bd o
  refine RL.bK 0 j jD ag fun ak j=>(RL.bX ad 0 j fY ?_)
  have j:=j.sc aT ad
  obtain⟨al,ah,o⟩:=bd o
  refine RL.uD 0 zr j zr h1 3 zr zr zr ah fun w j=>(RL.nt (dX o (fun o=>?_) fun o=>?_))
  rotate_left
  ·refine RC.skip (bF (aF (RC.region (RL.inc hk hm (aX ((aa+1:Nat):Int) (RL.nil ?_))))))
   obtain rfl:=oi o
   exact⟨rfl,j.sp 3 [2]⟩
  refine RC.sr (aX (aa:Int) (aI (aa:Int) (RL.nt (RC.rb (aO ?_)))))
  obtain rfl:=oi o
  exact⟨rfl,bC ⟨rfl,j.drop 3⟩⟩
 ·intro r U w o hK
  refine aO ?_
  obtain rfl:=oi o
  exact hK
 rintro ab _ w o ⟨O,rfl,j⟩
 refine aF (RC.sr (aI (-1) (RL.nt (RC.ret ?_))))
 obtain rfl:=oi o
 exact bC ⟨rfl,j.drop 1⟩
theorem kC {p0: (List aT)} {p1:aT->Option Bool} {res:Bool} (j:Holds E w V) (h0:V[i0]? =some (rd v0 p0)) (h1:Ay bE E V v1 p1 (fun(r:Bool)=>Value.bool r)) (o:eF N p0 p1=some res):
    Calls bE 38 [v0,v1].toArray w (eT (bA E V res)):=by
 unfold eF at o
 refine enter Tryz.func38 zr zr ?_
 have j:=j.dup (i0+0) h0
 refine RC.sr (bY false (RL.ns (mv v0 (mv v1 ?_))))
 obtain⟨aa,ab,o⟩:=bd o
 refine RL.cs DD (lz N (i0:=0) j zr (h1.lift 1 zr) ab) fun w j=>(ic aa 0 (bY (decide (aa>=0)) (RL.nt (RC.ret ?_))))
 obtain rfl:=oi o
 exact bC ⟨rfl,j.drop 1⟩
theorem ov {p0:aT} {res:Bool} (o:Holds E w V) (j:eG N p0=some res):
    Calls bE 40 [(str p0)].toArray w (eT (bA E V res)):=by
 unfold eG at j
 refine enter Tryz.func40 zr zr (RC.sr (bY false (RL.ns (mv (str p0) ?_))))
 obtain⟨aa,ab,j⟩:=bd j
 refine RL.cs BQ (jU N (p0:=p0) o ab) fun w o=>(RL.not aa (bY (!aa) (RL.nt (RC.ret ?_))))
 obtain rfl:=oi j
 exact bC ⟨rfl,o.drop 0⟩
theorem l8 {p0:aT} {res:Bool} (j:Holds E w V) (hb:fO N p0=some res):
    Calls bE 16 [(str p0)].toArray w (eT (bA E V res)):=by
 unfold fO at hb
 refine enter Tryz.func16 zr zr (RC.sr (bY false (RL.nq ?_)))
 obtain⟨ad,hj,hb⟩:=bd hb
 refine RC.jn (fun(ad:Bool)=>SH E V [(2,vb ad)] []) ad ?_ ?_
 ·refine RC.region (mv (str p0) (RL.lens p0 rV (ic ((p0.bQ.length:Int)) 200 (jG (decide ((p0.bQ.length:Int)<=200)) (iW hj (fun o hj=>?_) fun o hj=>?_)))))
  rotate_left
  ·refine bS o (bS o (bS o (bS o (iQ o (vb false) (bY false (RL.nil ?_))))))
   obtain rfl:=oi hj
   exact⟨rfl,j.sp 0 []⟩
  refine RL.move (str p0) (cg o) ?_
  obtain⟨ah,af,hj⟩:=bd hj
  refine RL.cl (hg:=(cg o)) CB (mD N (p0:=p0) (p1:=⟨[47]⟩) j af) fun ai w j=>?_
  have j:=j.freeze 0
  obtain⟨ae,ag,hj⟩:=bd hj
  refine RL.cs (hg:=(cg o)) DF (kC N (i0:=0) j rfl ⟨40,[],rfl,DE,fun w Γl v y0 r i j hi hr=>by obtain rfl:=j.pG (γ:=aT) hi;exact eg (ov N (p0:=y0) j hr) fun _ _ h=>h⟩ ag) fun w j=>(RL.not (hg:=(cg o)) ae (iQ o (vb (!ae)) (bY (!ae) (RL.nil ?_))))
  obtain rfl:=oi hj
  exact⟨rfl,j.sp 1 []⟩
 rintro _ w ⟨O,rfl,j⟩
 refine aF (RC.ret ?_)
 obtain rfl:=oi hb
 exact bC ⟨rfl,j.drop 0⟩
theorem iF {p0: (List Part)} {p1:aT} {p2:Part->aT->Option Int} {res:Int×Bool} (o:Holds E w V) (h0:V[i0]? =some (rd v0 p0)) (h2:zD bE E V v2 p2 (fun(r:Int)=>Value.int .i64 r)) (hb:cZ N p0 p1 p2=some res):
    Calls bE 85 [v0,(str p1),v2].toArray w (eT (bZ E V res)):=by
 unfold cZ at hb
 refine enter Tryz.func85 zr zr ?_
 have o:=o.dup (i0+0) h0
 refine RC.sr (aI 0 (bY false (RL.ns (mv v0 (RL.bG 0 p0 o rW (aI (p0.length:Int) (RL.ns (aX (p0.length:Int) ?_))))))))
 refine aI 0 (aI (p0.length:Int) (RL.nq (RC.e0 E V (fun(j:Int×Int)=>[rd v0 p0]) (fun j=>[(0,v0),(1,(str p1)),(2,v2),(8,vi p0.length),(9,vi j.1)]) (fun j=>[(10,vi j.2)]) hb ?_ ?_ ?_)))
 ·exact o.sp 1 [0]
 ·rintro j fl _ w ⟨O,rfl,o⟩ hb
  refine RC.seq (RC.sr (aX j.1 (aX j.2 (ic j.1 j.2 (RL.nt (dX hb (fun hb=>?_) fun hb=>?_))))))
  rotate_left
  ·refine RC.ex ?_
   obtain rfl:=oi hb
   exact⟨rfl,o.sp 1 [0]⟩
  refine RC.sn (RC.bs (aX j.1 (aX j.2 (RL.gq j.1 j.2 (RL.conv (IntKind.wrap .i64 (j.1+j.2)) ⟨_,zV⟩ pz (RL.bin (.int .u64 (IntKind.wrap .u64 (IntKind.wrap .i64 (j.1+j.2)))) (.int .u64 1) (.int .u64 (Int.fdiv (IntKind.wrap .u64 (IntKind.wrap .i64 (j.1+j.2))) 2)) zt zr zr zr (RL.conv (Int.fdiv (IntKind.wrap .u64 (IntKind.wrap .i64 (j.1+j.2))) 2) ⟨_,pz⟩ zV (aI (IntKind.wrap .i64 (Int.fdiv (IntKind.wrap .u64 (IntKind.wrap .i64 (j.1+j.2))) 2)) ?_))))))))
  refine RL.ns (mv v2 (mv v0 (aX (IntKind.wrap .i64 (Int.fdiv (IntKind.wrap .u64 (IntKind.wrap .i64 (j.1+j.2))) 2)) ?_)))
  obtain⟨ah,ai,hb⟩:=bd hb
  refine RL.bK 0 o o4 ai fun ar o=>(RL.aZ 0 ah o m1 fun au o=>(mv (str p1) ?_))
  have o:=o.sc aT p1
  obtain⟨aj,ak,hb⟩:=bd hb
  refine RL.jL 1 0 o h2 4 ak fun w o=>(ic aj 0 (RL.nt ?_))
  obtain⟨ae,hj,hb⟩:=bd hb
  refine RC.jn (fun(ae:Int×Int)=>SH E V [(0,v0),(1,(str p1)),(2,v2),(8,vi p0.length),(9,vi ae.1),(10,vi ae.2)] [rd v0 p0]) ae ?_ ?_
  ·refine dX hj (fun hj=>?_) fun hj=>?_
   rotate_left
   ·refine RC.region (aX (IntKind.wrap .i64 (Int.fdiv (IntKind.wrap .u64 (IntKind.wrap .i64 (j.1+j.2))) 2)) (aI (IntKind.wrap .i64 (Int.fdiv (IntKind.wrap .u64 (IntKind.wrap .i64 (j.1+j.2))) 2)) (RL.nil ?_)))
    obtain rfl:=oi hj
    exact⟨rfl,o.sp 4 [3]⟩
   refine RC.region (aX (IntKind.wrap .i64 (Int.fdiv (IntKind.wrap .u64 (IntKind.wrap .i64 (j.1+j.2))) 2)) (RL.gq (IntKind.wrap .i64 (Int.fdiv (IntKind.wrap .u64 (IntKind.wrap .i64 (j.1+j.2))) 2)) 1 (aI (IntKind.wrap .i64 ((IntKind.wrap .i64 (Int.fdiv (IntKind.wrap .u64 (IntKind.wrap .i64 (j.1+j.2))) 2))+1)) (RL.nil ?_))))
   obtain rfl:=oi hj
   exact⟨rfl,o.sp 4 [3]⟩
  rintro _ w ⟨O,rfl,o⟩
  refine bF ?_
  obtain rfl:=oi hb
  exact⟨rfl,o.sp 1 [0]⟩
 rintro j _ w hb ⟨O,rfl,o⟩
 refine aF (RC.seq ?_)
 obtain⟨af,hj,hb⟩:=bd hb
 refine RC.jn (fun(af:Bool)=>SH E V [(6,vi j.1),(7,vb af)] []) af ?_ ?_
 ·refine RC.region (aX j.1 (aX j.1 (aX (p0.length:Int) (ic j.1 ((p0.length:Int)) (jG (decide (j.1< (p0.length:Int))) (iW hj (fun aa hj=>?_) fun aa hj=>?_))))))
  rotate_left
  ·refine bS aa (bS aa (bS aa (bS aa (bS aa (bS aa (bS aa (bS aa (iQ aa (vb false) ?_))))))))
   refine aI j.1 (bY false (RL.nil ?_))
   obtain rfl:=oi hj
   exact⟨rfl,o.sp 1 []⟩
  refine RL.move v2 (cg aa) (RL.move v0 (cg aa) (RL.move (vi j.1) (cg aa) ?_))
  obtain⟨al,an,hj⟩:=bd hj
  refine RL.bK (hg:=(cg aa)) 0 o o4 an fun av o=>(RL.aZ (hg:=(cg aa)) 0 al o m1 fun aw o=>(RL.move (str p1) (cg aa) ?_))
  have o:=o.sc aT p1
  obtain⟨ag,ao,hj⟩:=bd hj
  refine RL.jL (hg:=(cg aa)) 1 0 o h2 4 ao fun w o=>(RL.kr ag 0 (cg aa) (iQ aa (vb (ag==0)) (aI j.1 (bY (ag==0) (RL.nil ?_)))))
  obtain rfl:=oi hj
  exact⟨rfl,o.sp 4 []⟩
 rintro _ w ⟨O,rfl,o⟩
 refine aF (RC.ret ?_)
 obtain rfl:=oi hb
 exact rR ⟨rfl,o.drop 0⟩
theorem ow {p0:Part} {p1:aT} (j:Holds E w V) (h0:V[i0]? =some (rd v0 p0)) (o:fg N p0 p1=some res):
    Calls bE 86 [v0,(str p1)].toArray w (eT (aC E V res)):=by
 unfold fg at o
 refine enter Tryz.func86 zr zr ?_
 have j:=j.dup (i0+0) h0
 refine RC.sr (RL.cW 0 v0 j zr fun ad w j=>?_)
 refine aI 0 (RL.ns (RL.bU zr lr (RL.aV 0 j zr gA fY (mv (str p1) ?_))))
 obtain⟨aa,ab,o⟩:=bd o
 refine RL.cs wi (dS N (p0:=p0.Name) (p1:=p1) j ab) fun w j=>(aI aa (RL.nt (RC.ret ?_)))
 obtain rfl:=oi o
 exact bC ⟨rfl,j.drop 2⟩
theorem qG {p0: (List Part)} {p1:aT} (hw:Holds E w V) (h0:V[i0]? =some (rd v0 p0)) (hb:iB N p0 p1=some res):
    Calls bE 42 [v0,(str p1)].toArray w (eT (aC E V res)):=by
 unfold iB at hb
 refine enter Tryz.func42 zr zr ?_
 have hw:=hw.dup (i0+0) h0
 refine RC.sr (aI 0 (RL.ns (mv v0 (mv (str p1) ?_))))
 obtain⟨o,ad,hb⟩:=bd hb
 refine RL.cs DI (iF N (p1:=p1) (i0:=0) hw rfl ⟨86,[],rfl,DH,fun w Γl v v' y0 y1 r i j hw hi hj hr=>by obtain rfl:=hw.pG (γ:=aT) hj;exact eg (ow N (p1:=y1) (i0:=i) hw hi hr) fun _ _ h=>h⟩ ad) fun w hw=>(mv (.tuple #[(vi o.1),(vb o.2)]) (RL.extract (vi o.1) (RL.extract (vb o.2) (aI o.1 (bY o.2 (RL.nq (RC.sr (jG o.2 ?_))))))))
 refine RL.not o.2 (RL.nt (dX hb (fun hb=>?_) fun hb=>?_))
 ·refine RC.sr (aI (-1) (RL.nt (RC.rt ?_)))
  obtain rfl:=oi hb
  exact bC ⟨rfl,hw.drop 1⟩
 refine RC.sx (aX o.1 (aI o.1 (RL.nt (RC.ret ?_))))
 obtain rfl:=oi hb
 exact bC ⟨rfl,hw.drop 1⟩
theorem gV {p0: (List aU)} {p1:aT} {p2:aU->aT->Option Int} {res:Int×Bool} (o:Holds E w V) (h0:V[i0]? =some (rd v0 p0)) (h2:zD bE E V v2 p2 (fun(r:Int)=>Value.int .i64 r)) (hb:cP N p0 p1 p2=some res):
    Calls bE 87 [v0,(str p1),v2].toArray w (eT (bZ E V res)):=by
 unfold cP at hb
 refine enter Tryz.func87 zr zr ?_
 have o:=o.dup (i0+0) h0
 refine RC.sr (aI 0 (bY false (RL.ns (mv v0 (RL.bG 0 p0 o pN (aI (p0.length:Int) (RL.ns (aX (p0.length:Int) ?_))))))))
 refine aI 0 (aI (p0.length:Int) (RL.nq (RC.e0 E V (fun(j:Int×Int)=>[rd v0 p0]) (fun j=>[(0,v0),(1,(str p1)),(2,v2),(8,vi p0.length),(9,vi j.1)]) (fun j=>[(10,vi j.2)]) hb ?_ ?_ ?_)))
 ·exact o.sp 1 [0]
 ·rintro j fl _ w ⟨O,rfl,o⟩ hb
  refine RC.seq (RC.sr (aX j.1 (aX j.2 (ic j.1 j.2 (RL.nt (dX hb (fun hb=>?_) fun hb=>?_))))))
  rotate_left
  ·refine RC.ex ?_
   obtain rfl:=oi hb
   exact⟨rfl,o.sp 1 [0]⟩
  refine RC.sn (RC.bs (aX j.1 (aX j.2 (RL.gq j.1 j.2 (RL.conv (IntKind.wrap .i64 (j.1+j.2)) ⟨_,zV⟩ pz (RL.bin (.int .u64 (IntKind.wrap .u64 (IntKind.wrap .i64 (j.1+j.2)))) (.int .u64 1) (.int .u64 (Int.fdiv (IntKind.wrap .u64 (IntKind.wrap .i64 (j.1+j.2))) 2)) zt zr zr zr (RL.conv (Int.fdiv (IntKind.wrap .u64 (IntKind.wrap .i64 (j.1+j.2))) 2) ⟨_,pz⟩ zV (aI (IntKind.wrap .i64 (Int.fdiv (IntKind.wrap .u64 (IntKind.wrap .i64 (j.1+j.2))) 2)) ?_))))))))
  refine RL.ns (mv v2 (mv v0 (aX (IntKind.wrap .i64 (Int.fdiv (IntKind.wrap .u64 (IntKind.wrap .i64 (j.1+j.2))) 2)) ?_)))
  obtain⟨ah,ai,hb⟩:=bd hb
  refine RL.bK 0 o mf ai fun ar o=>(RL.aZ 0 ah o mg fun au o=>(mv (str p1) ?_))
  have o:=o.sc aT p1
  obtain⟨aj,ak,hb⟩:=bd hb
  refine RL.jL 1 0 o h2 4 ak fun w o=>(ic aj 0 (RL.nt ?_))
  obtain⟨ae,hj,hb⟩:=bd hb
  refine RC.jn (fun(ae:Int×Int)=>SH E V [(0,v0),(1,(str p1)),(2,v2),(8,vi p0.length),(9,vi ae.1),(10,vi ae.2)] [rd v0 p0]) ae ?_ ?_
  ·refine dX hj (fun hj=>?_) fun hj=>?_
   rotate_left
   ·refine RC.region (aX (IntKind.wrap .i64 (Int.fdiv (IntKind.wrap .u64 (IntKind.wrap .i64 (j.1+j.2))) 2)) (aI (IntKind.wrap .i64 (Int.fdiv (IntKind.wrap .u64 (IntKind.wrap .i64 (j.1+j.2))) 2)) (RL.nil ?_)))
    obtain rfl:=oi hj
    exact⟨rfl,o.sp 4 [3]⟩
   refine RC.region (aX (IntKind.wrap .i64 (Int.fdiv (IntKind.wrap .u64 (IntKind.wrap .i64 (j.1+j.2))) 2)) (RL.gq (IntKind.wrap .i64 (Int.fdiv (IntKind.wrap .u64 (IntKind.wrap .i64 (j.1+j.2))) 2)) 1 (aI (IntKind.wrap .i64 ((IntKind.wrap .i64 (Int.fdiv (IntKind.wrap .u64 (IntKind.wrap .i64 (j.1+j.2))) 2))+1)) (RL.nil ?_))))
   obtain rfl:=oi hj
   exact⟨rfl,o.sp 4 [3]⟩
  rintro _ w ⟨O,rfl,o⟩
  refine bF ?_
  obtain rfl:=oi hb
  exact⟨rfl,o.sp 1 [0]⟩
 rintro j _ w hb ⟨O,rfl,o⟩
 refine aF (RC.seq ?_)
 obtain⟨af,hj,hb⟩:=bd hb
 refine RC.jn (fun(af:Bool)=>SH E V [(6,vi j.1),(7,vb af)] []) af ?_ ?_
 ·refine RC.region (aX j.1 (aX j.1 (aX (p0.length:Int) (ic j.1 ((p0.length:Int)) (jG (decide (j.1< (p0.length:Int))) (iW hj (fun aa hj=>?_) fun aa hj=>?_))))))
  rotate_left
  ·refine bS aa (bS aa (bS aa (bS aa (bS aa (bS aa (bS aa (bS aa (iQ aa (vb false) ?_))))))))
   refine aI j.1 (bY false (RL.nil ?_))
   obtain rfl:=oi hj
   exact⟨rfl,o.sp 1 []⟩
  refine RL.move v2 (cg aa) (RL.move v0 (cg aa) (RL.move (vi j.1) (cg aa) ?_))
  obtain⟨al,an,hj⟩:=bd hj
  refine RL.bK (hg:=(cg aa)) 0 o mf an fun av o=>(RL.aZ (hg:=(cg aa)) 0 al o mg fun aw o=>(RL.move (str p1) (cg aa) ?_))
  have o:=o.sc aT p1
  obtain⟨ag,ao,hj⟩:=bd hj
  refine RL.jL (hg:=(cg aa)) 1 0 o h2 4 ao fun w o=>(RL.kr ag 0 (cg aa) (iQ aa (vb (ag==0)) (aI j.1 (bY (ag==0) (RL.nil ?_)))))
  obtain rfl:=oi hj
  exact⟨rfl,o.sp 4 []⟩
 rintro _ w ⟨O,rfl,o⟩
 refine aF (RC.ret ?_)
 obtain rfl:=oi hb
 exact rR ⟨rfl,o.drop 0⟩
theorem o8 {p0:aU} {p1:aT} (j:Holds E w V) (h0:V[i0]? =some (rd v0 p0)) (o:fG N p0 p1=some res):
    Calls bE 88 [v0,(str p1)].toArray w (eT (aC E V res)):=by
 unfold fG at o
 refine enter Tryz.func88 zr zr ?_
 have j:=j.dup (i0+0) h0
 refine RC.sr (RL.cW 0 v0 j zr fun ad w j=>?_)
 refine aI 0 (RL.ns (RL.bU zr kK (RL.aV 0 j zr ee fY (mv (str p1) ?_))))
 obtain⟨aa,ab,o⟩:=bd o
 refine RL.cs wi (dS N (p0:=p0.Name) (p1:=p1) j ab) fun w j=>(aI aa (RL.nt (RC.ret ?_)))
 obtain rfl:=oi o
 exact bC ⟨rfl,j.drop 2⟩
theorem mE {p0:aD} {p1:aT} (o:Holds E w V) (h0:V[i0]? =some (rd v0 p0)) (hb:g9 N p0 p1=some res):
    Calls bE 43 [v0,(str p1)].toArray w (eT (aC E V res)):=by
 unfold g9 at hb
 refine enter Tryz.func43 zr zr ?_
 have o:=o.dup (i0+0) h0
 refine RC.sr (RL.cW 0 v0 o zr fun af w o=>?_)
 refine aI 0 (RL.ns (RL.bU zr iC (RL.bI 0 o zr cF ob fun ag o=>(mv (str p1) ?_))))
 obtain⟨aa,ad,hb⟩:=bd hb
 refine RL.cs DL (gV N (p1:=p1) (i0:=0) o rfl ⟨88,[],rfl,DK,fun w Γl v v' y0 y1 r i j o hi hj hr=>by obtain rfl:=o.pG (γ:=aT) hj;exact eg (o8 N (p1:=y1) (i0:=i) o hi hr) fun _ _ h=>h⟩ ad) fun w o=>(mv (.tuple #[(vi aa.1),(vb aa.2)]) (RL.extract (vi aa.1) (RL.extract (vb aa.2) (aI aa.1 (bY aa.2 (RL.nq (RC.sr (jG aa.2 ?_))))))))
 refine RL.not aa.2 (RL.nt (dX hb (fun hb=>?_) fun hb=>?_))
 ·refine RC.sr (aI (-1) (RL.nt (RC.rt ?_)))
  obtain rfl:=oi hb
  exact bC ⟨rfl,o.drop 3⟩
 refine RC.sx (aX aa.1 (aI aa.1 (RL.nt (RC.ret ?_))))
 obtain rfl:=oi hb
 exact bC ⟨rfl,o.drop 3⟩
theorem qH {p0: (List aD)} {p1: (List Part)} {p2:bT} {res:Bool} (j:Holds E w V) (h0:V[i0]? =some (rd v0 p0)) (h1:V[i1]? =some (rd v1 p1)) (h2:V[i2]? =some (rd v2 p2)) (hb:jN N p0 p1 p2=some res):
    Calls bE 19 [v0,v1,v2].toArray w (eT (bA E V res)):=by
 unfold jN at hb
 refine enter Tryz.func19 zr zr ?_
 have j:=((j.dup (i0+0) h0).dup (i1+1) h1).dup (i2+2) h2
 refine RC.sr (RL.cW 0 v2 j zr fun ag w j=>?_)
 refine bY false (RL.ns (mv v1 (RL.bU zr m5 (RL.aV 0 j zr jR fY ?_))))
 obtain⟨ad,ai,hb⟩:=bd hb
 refine RL.cs DJ (qG N (p1:=p2.Part) (i0:=2) j zr ai) fun w j=>(aI ad (RL.nq ?_))
 obtain⟨ae,hj,hb⟩:=bd hb
 refine RC.jn (fun(ae:Bool)=>SH E V [(6,vb ae)] []) ae ?_ ?_
 ·have j:=j.drew
  refine RC.zT (fun w=>Holds E w ([bx 59 ag p2]++V)) mixed zr [0,0,0,1,0,0,0,0,0,0,2,0,0,1,1,2,0,0,0] [0,1,2,3,4,5,6,7,8,9,13,14,10,11,12,15,16,17,18] (j.pk 4 [0]) (DP.e0 zr zr (aX ad (eM zr (ic ad 0 (eM zr (jG (decide (ad>=0)) (DP.d0 (iW hj (fun o hj=>?_) fun o hj=>?_))))))))
  rotate_left
  ·refine DP.e1 undef zr (fun w=>bS o DP.d1) (DP.e0 zr zr (bS o (eM zr (bS o (eM zr (bS o (eM zr (bS o ?_))))))))
   refine eM zr (bS o (eM zr (bS o (DP.d0 (DP.e1 undef zr (fun w=>bS o DP.d1) (DP.e1 undef zr (fun w=>bS o DP.d1) (DP.e2 zr zr (bS o ?_))))))))
   refine DP.d2 (j.pk 4 [0]) (DP.e0 zr zr (bS o (eM zr (bS o (wg zr (bS o (DP.d2 (j.pk 4 [0]) (DP.e0 zr zr ?_))))))))
   refine bS o (eM zr (iQ o (vb false) (eM zr (bY false (DP.d0 (DP.z ?_))))))
   obtain rfl:=oi hj
   exact⟨rfl,j.sp 4 []⟩
  refine DP.e1 v0 zr (fun w=>RL.move v0 (cg o) DP.d1) (DP.e0 zr zr (RL.move v0 (cg o) (eM zr (RL.move v1 (cg o) (eM zr (RL.move (vi ad) (cg o) (eM zr ?_)))))))
  obtain⟨ah,aj,hj⟩:=bd hj
  refine RL.bK (hg:=(cg o)) 2 j o4 aj fun aq j=>(eM zr (RL.gS 0 (cg o) j zr lu gB fun ar j=>(eM zr (RL.bX (hg:=(cg o)) ah.cE 0 j fY (DP.d0 (DP.e1 (vp ag 1) zr (fun w=>RL.bU (hg:=(cg o)) zr pP DP.d1) (DP.Cs (str p2.bT) zr zr (fun w j=>RL.aV (hg:=(cg o)) 0 j zr ln fY DP.d1) (DP.e2 zr zr ?_))))))))
  obtain⟨au,ak,hj⟩:=bd hj
  refine RL.cs (hg:=(cg o)) AX (iv N (p1:=ah.cE) (i0:=5) j zr ak) fun w j=>(DP.d2 (j.pk 6 [2]) (DP.e0 zr zr ?_))
  obtain⟨al,an,hj⟩:=bd hj
  refine RL.bK (hg:=(cg o)) 5 j qA an fun av j=>(eM zr (RL.aZ (hg:=(cg o)) 0 al j lT fun aw j=>(wg zr ?_)))
  obtain⟨af,ao,hj⟩:=bd hj
  refine RL.cs (hg:=(cg o)) CD (mE N (p1:=p2.bT) (i0:=0) j zr ao) fun w j=>(DP.d2 (j.pk 8 [4]) (DP.e0 zr zr (RL.kr af 0 (cg o) (eM zr (iQ o (vb (decide (af>=0))) (eM zr (bY (decide (af>=0)) (DP.d0 ?_))))))))
  refine DP.z ?_
  obtain rfl:=oi hj
  exact⟨rfl,j.sp 8 []⟩
 rintro _ w ⟨O,rfl,j⟩
 refine aF (RC.ret ?_)
 obtain rfl:=oi hb
 exact bC ⟨rfl,j.drop 0⟩
theorem mF {p0:bT} {p1: (List aD)} {p2:aH} {res:Bool} (j:Holds E w V) (h0:V[i0]? =some (rd v0 p0)) (h1:V[i1]? =some (pt v1 p1)) (h2:V[i2]? =some (pt v2 p2)) (o:gh N p0 p1 p2=some res):
    Calls bE 18 [v0,v1,v2].toArray w (eT (bA E V res)):=by
 unfold gh at o
 refine enter Tryz.func18 zr zr ?_
 have j:=((j.dup (i0+0) h0).qW (i:=i1+1) h1).qW (i:=i2+2) h2
 refine RC.sr (RL.cW 2 v0 j zr fun ad w j=>?_)
 refine bY false (RL.ns (RL.aZ 2 p1 j xt fun ae j=>(RL.gS 2 zt j zr iX cU fun af j=>(RL.aZ 0 p2.aK j oZ fun ag j=>(RL.b1 3 j zr jm fun ah j=>?_)))))
 obtain⟨aa,ab,o⟩:=bd o
 refine RL.cs DM (qH N (i0:=3) (i1:=1) (i2:=0) j zr zr zr ab) fun w j=>(bY aa (RL.nt (RC.ret ?_)))
 obtain rfl:=oi o
 exact bC ⟨rfl,j.drop 8⟩
theorem m7 {p0 p1:bT} (j:Holds E w V) (h0:V[i0]? =some (rd v0 p0)) (h1:V[i1]? =some (rd v1 p1)) (o:gr N p0 p1=some res):
    Calls bE 41 [v0,v1].toArray w (eT (aC E V res)):=by
 unfold gr at o
 refine enter Tryz.func41 zr zr ?_
 have j:=(j.dup (i0+0) h0).dup (i1+1) h1
 refine RC.sr (RL.cW 1 v0 j zr fun af w j=>?_)
 refine RL.cW 1 v1 j zr fun ag w j=>?_
 refine aI 0 (RL.nq (RC.sr (RL.bU zr m5 (RL.aV 1 j zr jR fY (RL.bU zr m5 (RL.aV 0 j zr jR fY ?_))))))
 obtain⟨aa,ab,o⟩:=bd o
 refine RL.cs wi (dS N (p0:=p0.Part) (p1:=p1.Part) j ab) fun w j=>(aI aa (RL.ns (aX aa (ic aa 0 (RL.nt (dX o (fun o=>?_) fun o=>?_))))))
 ·refine RC.sr (aX aa (aI aa (RL.nt (RC.rt ?_))))
  obtain rfl:=oi o
  exact bC ⟨rfl,j.drop 4⟩
 refine RC.sx (RL.bU zr pP (RL.aV 1 j zr ln fY (RL.bU zr pP (RL.aV 0 j zr ln fY ?_))))
 obtain⟨ad,ae,o⟩:=bd o
 refine RL.cs wi (dS N (p0:=p0.bT) (p1:=p1.bT) j ae) fun w j=>(aI ad (RL.nt (RC.ret ?_)))
 obtain rfl:=oi o
 exact bC ⟨rfl,j.drop 4⟩
def jV (E:World) (V:List HP) (v2:Value) (res:Int×(List (bT×Bool))) (v:Value) (w:World):Prop:=v= (vi res.1)/\Holds E w ([mp v2 res.2]++V)
def m8 (E:World) (V:List HP) (v2:Value) (r:Int×(List (bT×Bool))) (U:Nat->Value) (w:World):Prop:=gR bE 53 Tryz.f17 (jV E V v2 r) .ret U w
theorem mG {p0: (List bT)} {p1:bT->Option Bool} {p2: (List (bT×Bool))} {res:Int×(List (bT×Bool))} (o:Holds E w (mp v2 p2::V)) (h0:V[i0]? =some (rd v0 p0)) (h1:Ay bE E V v1 p1 (fun(r:Bool)=>Value.bool r)) (hb:fa N p0 p1 p2=some res):
    Calls bE 17 [v0,v1,v2].toArray w (eT (jV E V v2 res)):=by
 unfold fa at hb
 refine enter Tryz.func17 zr zr ?_
 have o:=o.dup (i0+1) h0
 refine RC.sr (aI 0 (RL.nq (RC.sr (mv v0 (RL.bG 0 p0 o rX (ic ((p0.length:Int)) 500 (RL.nt (dX hb (fun hb=>?_) fun hb=>?_))))))))
 ·refine RC.sr (aI 2 (RL.nt (RC.rt ?_)))
  obtain rfl:=oi hb
  exact bC ⟨rfl,o.pk 2 [1]⟩
 refine RC.ss (RC.sr (mv v0 (RL.bG 0 p0 o rX (aX 0 (RL.nt (RC.r0 E V (fun(an:Unit)=>[rd v0 p0,mp v2 p2]) (fun _=>[(0,v0),(2,v2)]) (fun ad _=>[(1,v1),(14,v0),(15,vi p0.length),(16,vi ad)]) (m8 E V v2) hb ?_ ?_ ?_ ?_))))))
 ·exact o.sp 2 [0,1]
 ·rintro hm ad an fl _ w hk ⟨O,rfl,o⟩ hb
  refine RC.seq (RC.bs (aX (ad:Int) ?_))
  obtain⟨af,au,hb⟩:=bd hb
  refine RL.bK 0 o rY au fun a2 o=>(RL.aZ 0 af o jm fun a3 o=>(RL.alloc o wj.z fun ao w o=>?_))
  refine aI (ad:Int) (RL.bD 0 o 1 zr jm fun w o=>?_)
  refine RL.nt (RC.bs (mv v1 (RL.b1 0 o zr jm fun a4 o=>?_)))
  obtain⟨aq,av,hb⟩:=bd hb
  refine RL.uD 0 zr o zr h1 6 zr zr zr av fun w o=>(RL.not aq (bY (!aq) (RL.nt (dX hb (fun hb=>?_) fun hb=>?_))))
  ·refine RC.sr (aI 9 (RL.nt (RC.rb (dx (aO ?_)))))
   obtain rfl:=oi hb
   exact⟨rfl,bC ⟨rfl,o.pk 6 [5]⟩⟩
  refine RC.seq ?_
  obtain⟨ai,hj,hb⟩:=bd hb
  refine RC.jn (fun(ai:Bool)=>SH E V [(0,v0),(1,v1),(2,v2),(8,vp ao 0),(14,v0),(15,vi p0.length),(16,vi ad),(26,vb ai)] [rd v0 p0,mp v2 p2,bx 59 ao af]) ai ?_ ?_
  ·refine RC.Bo mixed [0,0,0,0,0,0,0,0,0,2,0,0,0] [0,1,2,3,4,5,6,7,8,9,10,11,12] ?_
   have o:=o.drew
   refine DP.e0 zr zr (aX (ad:Int) (eM zr (ic ((ad:Int)) 0 (eM zr (jG (decide ((ad:Int)>0)) (DP.d0 (iW hj (fun ab hj=>?_) fun ab hj=>?_)))))))
   rotate_left
   ·refine DP.e0 zr zr (bS ab (eM zr (bS ab (eM zr (bS ab (eM zr (bS ab (eM zr ?_))))))))
    refine bS ab (eM zr (bS ab (wg zr (bS ab (Bp zr (bS ab (eM zr (iQ ab (vb false) ?_))))))))
    refine eM zr (bY false (DP.d0 (DP.z ?_)))
    obtain rfl:=oi hj
    exact⟨rfl,o.sp 6 [4,5,1]⟩
   refine DP.e0 zr zr (RL.b1 (hg:=(cg ab)) 1 o zr jm fun a5 o=>(eM zr (RL.move v0 (cg ab) (eM zr (RL.move (vi ad) (cg ab) (eM zr (RL.gq (hg:=(cg ab)) (ad:Int) 1 (eM zr ?_))))))))
   obtain⟨aw,ax,hj⟩:=bd hj
   refine RL.bK (hg:=(cg ab)) 5 o rY ax fun a6 o=>(eM zr (RL.aZ (hg:=(cg ab)) 0 aw o jm fun a7 o=>(wg zr ?_)))
   obtain⟨aj,ay,hj⟩:=bd hj
   refine RL.cs (hg:=(cg ab)) DN (m7 N (i0:=2) (i1:=0) o zr zr ay) fun w o=>(Bp zr (RL.kr aj 0 (cg ab) (eM zr (iQ ab (vb (decide (aj<=0))) (eM zr (bY (decide (aj<=0)) (DP.d0 (DP.z ?_))))))))
   obtain rfl:=oi hj
   exact⟨rfl,o.sp 9 [7,8,4]⟩
  rintro _ w ⟨O,rfl,o⟩
  refine aF (dX hb (fun hb=>?_) fun hb=>?_)
  ·refine RC.sr (aI 8 (RL.nt (RC.rb (dx (aO ?_)))))
   obtain rfl:=oi hb
   exact⟨rfl,bC ⟨rfl,o.pk 3 [1]⟩⟩
  refine RC.sr (mv v2 (RL.b1 2 o zr jm fun a8 o=>(RL.zF (i:=2) (k:=af) zt zr o zr (pK 0 o zr) zr CE (bY (ia p2 af (false:Bool)) (RL.nt (dX hb (fun hb=>?_) fun hb=>?_))))))
  rotate_left
  ·refine RC.skip (bF (bF (aF (RC.region (RL.inc hk hm (aX ((ad+1:Nat):Int) (RL.nil ?_)))))))
   obtain rfl:=oi hb
   exact⟨rfl,o.sp 4 [1,2]⟩
  refine RC.sr (aI 7 (RL.nt (RC.rb (dx (aO ?_)))))
  obtain rfl:=oi hb
  exact⟨rfl,bC ⟨rfl,o.pk 4 [2]⟩⟩
 ·intro r U w hb hK
  refine aO ?_
  obtain rfl:=oi hb
  exact hK
 rintro an _ w hb ⟨O,rfl,o⟩
 refine aF (RC.seq (RC.sr (mv v0 (RL.bG 0 p0 o rX (aX 0 (RL.nt (RC.f0 E V (fun(ak: (List (bT×Bool)))=>[mp v2 ak,rd v0 p0]) (fun _=>[(2,v2)]) (fun al _=>[(44,v0),(45,vi p0.length),(46,vi al)]) hb ?_ ?_ ?_)))))))
 ·exact o.sp 2 [1,0]
 ·rintro hm al ak s' _ w hk ⟨O,rfl,o⟩ hb
  refine RC.seq (RC.bs ?_)
  obtain⟨ar,a0,hb⟩:=bd hb
  refine RL.bK 1 o rY a0 fun a9 o=>(RL.aZ 0 ar o jm fun ba o=>(RL.alloc o wj.z fun bb w o=>?_))
  refine RL.bD 0 o 1 zr jm fun w o=>?_
  refine RL.nt (RC.region (mv v2 (RL.b1 0 o zr jm fun bc o=>?_)))
  have o:=o.sc Bool true
  refine RL.mapUpdate (i:=5) (j:=0) (k:=ar) zt o zr (pK 1 o zr) zr zr zr CE fun w o=>(RL.nil (bF (aF (RC.region (RL.inc hk hm (aX ((al+1:Nat):Int) (RL.nil ?_)))))))
  obtain rfl:=oi hb
  exact⟨rfl,o.sp 7 [5,6]⟩
 rintro ak _ w hb ⟨O,rfl,o⟩
 refine aF (RC.sr (aI 0 (RL.nt (RC.ret ?_))))
 obtain rfl:=oi hb
 exact bC ⟨rfl,o.pk 2 [0]⟩
end Go.Gk
