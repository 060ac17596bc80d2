/-
  Printed texts: Go functions as plain functions, and that they are. No statement of the seed is proved here.
-/
import Derived.Test.YteaabmconboleaaDoorProg
import Derived.Test.YteaabmconboleaaDoorE1
import Derived.Test.YteaabmconboleaaDoorA1
import Derived.Test.YteaabmconboleaaDoorRows
set_option linter.unusedVariables false
set_option linter.unusedSimpArgs false
set_option linter.unusedSectionVars false
set_option maxRecDepth 100000
set_option maxHeartbeats 40000000
namespace Go.Gk
open Go IntKind Go.Proofs
noncomputable abbrev aV:=Tryd.prog
abbrev c_(f:Nat)(l:List Value)(w:World)(R:Value->World->Prop):Prop:=Calls aV f l.toArray w (dK R)
def gS(x:Part):=(x.Name,x.cI)
instance instGTPart:GT Part:=GT.via gS
instance instKVPart:KV Part:=instKVvia (λ(x:Part)=>(x.Name,x.cI))
theorem d3:Fd 0 (λx:Part=>x.Name):= .v gS<|.fst .self
theorem lO:Fs 0 aH (λ(x:Part)y=>{x with Name:=y}):= .v gS<|.fst .self
theorem fo:Fd 1 (λx:Part=>x.cI):= .v gS<|.snd<|.self
theorem lP:Fs 1 aH (λ(x:Part)y=>{x with cI:=y}):= .v gS<|.snd<|.self
def iT(x:bM):=(x.Part,x.bM)
instance instGTPin:GT bM:=GT.via iT
instance instKVPin:KV bM:=instKVvia (λ(x:bM)=>(x.Part,x.bM))
theorem ga:Fd 0 (λx:bM=>x.Part):= .v iT<|.fst .self
theorem k5:Fs 0 aH (λ(x:bM)y=>{x with Part:=y}):= .v iT<|.fst .self
theorem gb:Fd 1 (λx:bM=>x.bM):= .v iT<|.snd<|.self
theorem k6:Fs 1 aH (λ(x:bM)y=>{x with bM:=y}):= .v iT<|.snd<|.self
def kF(x:Net):=(x.Name,x.bC,x.du)
instance instGTNet:GT Net:=GT.via kF
theorem eT:Fd 0 (λx:Net=>x.Name):= .v kF<|.fst .self
theorem gf:Fd 1 (λx:Net=>x.bC):= .v kF<|.snd<|.fst .self
theorem jK:Fd 2 (λx:Net=>x.du):= .v kF<|.snd<|.snd<|.self
def gv(x:aQ):=(x.aO,x.aM)
instance instGTNetlist:GT aQ:=GT.via gv
theorem dk:Fd 0 (λx:aQ=>x.aO):= .v gv<|.fst .self
theorem md:Fs 0 (List Part) (λ(x:aQ)y=>{x with aO:=y}):= .v gv<|.fst .self
theorem bS:Fd 1 (λx:aQ=>x.aM):= .v gv<|.snd<|.self
def ez(x:aS):=(x.Name,x.Kind,x.cy)
instance instGTPinType:GT aS:=GT.via ez
instance instKVPinType:KV aS:=instKVvia (λ(x:aS)=>(x.Name,x.Kind,x.cy))
theorem eU:Fd 0 (λx:aS=>x.Name):= .v ez<|.fst .self
theorem me:Fs 0 aH (λ(x:aS)y=>{x with Name:=y}):= .v ez<|.fst .self
theorem fO:Fd 1 (λx:aS=>x.Kind):= .v ez<|.snd<|.fst .self
theorem mf:Fs 1 Int (λ(x:aS)y=>{x with Kind:=y}):= .v ez<|.snd<|.fst .self
theorem eV:Fd 2 (λx:aS=>x.cy):= .v ez<|.snd<|.snd<|.self
def eW(x:aL):=(x.Name,x.bC)
instance instGTPartType:GT aL:=GT.via eW
theorem fz:Fd 0 (λx:aL=>x.Name):= .v eW<|.fst .self
theorem lx:Fs 0 aH (λ(x:aL)y=>{x with Name:=y}):= .v eW<|.fst .self
theorem gI:Fd 1 (λx:aL=>x.bC):= .v eW<|.snd<|.self
theorem ly:Fs 1 (List aS) (λ(x:aL)y=>{x with bC:=y}):= .v eW<|.snd<|.self
theorem oA(M:bK):GT.ok M (#[n_,n_]:Array Value).toList (⟨[],[]⟩:aQ):=⟨[n_],[n_],rfl,(show GT.ok M [n_] ([]:List Part)from⟨_,rfl,none,0,0,rfl,rfl,cz _,by simp[maxLen],λ_ _ h=>by simp at h⟩),(show GT.ok M [n_] ([]:List Net)from⟨_,rfl,none,0,0,rfl,rfl,cz _,by simp[maxLen],λ_ _ h=>by simp at h⟩)⟩
theorem po(M:bK):GT.ok M (#[(.string ⟨#[]⟩),(.string ⟨#[]⟩)]:Array Value).toList (⟨⟨[]⟩,⟨[]⟩⟩:Part):=⟨[(.string ⟨#[]⟩)],[(.string ⟨#[]⟩)],rfl,(show GT.ok M [(.string ⟨#[]⟩)] (⟨[]⟩:aH)from rfl),(show GT.ok M [(.string ⟨#[]⟩)] (⟨[]⟩:aH)from rfl)⟩
theorem pq(M:bK):GT.ok M (#[(.string ⟨#[]⟩),(.string ⟨#[]⟩)]:Array Value).toList (⟨⟨[]⟩,⟨[]⟩⟩:bM):=⟨[(.string ⟨#[]⟩)],[(.string ⟨#[]⟩)],rfl,(show GT.ok M [(.string ⟨#[]⟩)] (⟨[]⟩:aH)from rfl),(show GT.ok M [(.string ⟨#[]⟩)] (⟨[]⟩:aH)from rfl)⟩
theorem oB(M:bK):GT.ok M (#[(.string ⟨#[]⟩),(.int .i64 0),(.int .i64 0)]:Array Value).toList (⟨⟨[]⟩,0,0⟩:aS):=⟨[(.string ⟨#[]⟩)],[(.int .i64 0),(.int .i64 0)],rfl,(show GT.ok M [(.string ⟨#[]⟩)] (⟨[]⟩:aH)from rfl),⟨[(.int .i64 0)],[(.int .i64 0)],rfl,(show GT.ok M [(.int .i64 0)] (0:Int)from rfl),(show GT.ok M [(.int .i64 0)] (0:Int)from rfl)⟩⟩
theorem nR(M:bK):GT.ok M (#[(.string ⟨#[]⟩),n_]:Array Value).toList (⟨⟨[]⟩,[]⟩:aL):=⟨[(.string ⟨#[]⟩)],[n_],rfl,(show GT.ok M [(.string ⟨#[]⟩)] (⟨[]⟩:aH)from rfl),(show GT.ok M [n_] ([]:List aS)from⟨_,rfl,none,0,0,rfl,rfl,cz _,by simp[maxLen],λ_ _ h=>by simp at h⟩)⟩
theorem jr:gN aV 25 true 2:=nB
theorem sg:r3 aV 41 [.pointer none, .slice none 0 0]:=⟨(.agg #[.pointer none, .slice none 0 0]),λ_=>by kernel_rfl,rfl⟩
theorem hG:lC aV 25 0 0:=nA
theorem mg:gN aV 22 false 1:=nB
theorem mh:Tryd.prog.underlying 22=some (.slice 43):=by kernel_rfl
theorem kr:nw aV 22 43 2:=rl
theorem j3:gN aV 43 true 2:=nB
theorem oC:qC aV 43 2:=rm<|.agg #[(.string ⟨#[]⟩),(.string ⟨#[]⟩)]
theorem hL:lC aV 43 0 0:=nA
theorem dJ:gN aV 9 false 1:=nB
theorem i7:Tryd.prog.underlying 9=some (.string):=by kernel_rfl
theorem tU:Tryd.prog.underlying 4=some (.bool):=by kernel_rfl
theorem pZ:d9 aV 9:=eR Tryd.func9
theorem jt:lC aV 43 1 1:=nA
theorem nS:lC aV 41 0 0:=nA
theorem qW:gN aV 38 false 1:=nB
theorem qG:Tryd.prog.underlying 38=some (.pointer<|Tryd.prog.pointee 38):=by kernel_rfl
theorem k7:lC aV 41 1 1:=nA
theorem pr:gN aV 39 false 1:=nB
theorem qX:mM aV 39 5 1 1:=mM.of (.int .u8 0) rfl
theorem mixed:Tryd.prog.follows .mixedOrders=true:=by kernel_rfl
theorem pw{E w:World}{V:List HP}{b:Nat}{c v:Value}(hc:c=Value.pointer none\/c = .pointer (some ⟨b,0,none⟩))(hw:Holds E w (bc 41 b [c,v]::V)):
    Calls aV 22 [vp b 0].toArray w (dK λu w'=>Holds E w'<|bc 41 b [vp b 0,v]::V):=by
 have hT0:(Tryd.prog.info? 41).map (·.size)=some 2:=by kernel_rfl
 have hT:∃j,Tryd.prog.info? 41=some j/\j.size≠0:=by
  obtain⟨j,h1,h2⟩:=Option.map_eq_some_iff.1 hT0
  exact⟨j,h1,by rw[h2];decide⟩
 have hu:Tryd.prog.underlying 75=some .unsafePointer:=by kernel_rfl
 have hp:Tryd.prog.underlying 38=some (.pointer 41):=by kernel_rfl
 refine enter Tryd.func22 rfl rfl ?_
 refine h_ ?_
 refine mv (vp b 0) ?_
 refine uQ trivial rfl rfl ?_
 refine l_ rfl nS ?_
 refine uY 0 c hw rfl qW ?_
 rcases hc with rfl|rfl
 ·refine wc true trivial rfl rfl rfl qG rfl ?_
  refine i_ ?_
  refine vh (b:=true) rfl (λ_=>?_) (λh=>by cases h)
  refine m_ ?_
  refine mv (vp b 0) ?_
  refine mv (vp b 0) ?_
  refine wN (i:=0) trivial rfl hw rfl rfl hp hu hT (Nat.zero_lt_succ 1) ?_
  refine wP trivial rfl rfl Tryd.func28 (by kernel_rfl) (by kernel_rfl) (by kernel_rfl) (by kernel_rfl) ?_
  refine wO (i:=0) trivial rfl hw rfl rfl hu hp hT (by kernel_rfl) ?_
  refine uQ trivial rfl rfl ?_
  refine l_ rfl nS ?_
  refine vt (v':= .pointer none) 0 (vp b 0) hw rfl rfl rfl rfl rfl qW λw hw=>?_
  refine k_ ?_
  exact oV<|ru rfl hw
 ·refine wc false trivial rfl rfl rfl qG rfl ?_
  refine i_ ?_
  refine vh (b:=false) rfl (λh=>by cases h)<|λ_=>?_
  refine h_ ?_
  refine mv (vp b 0) ?_
  refine uQ trivial rfl rfl ?_
  refine l_ rfl nS ?_
  refine uY 0 (vp b 0) hw rfl qW ?_
  refine mv (vp b 0) ?_
  refine wQ trivial rfl rfl rfl hp hT ?_
  refine i_ ?_
  refine vh (b:=false) rfl (λh=>by cases h)<|λ_=>?_
  refine uA ?_
  exact oV<|ru rfl hw
theorem jL{E w:World}{V:List HP}{b:Nat}{l l':List UInt8}{s:aH}(hw:Holds E w (oz 41 5 b l::V))(hb:app 1 l s.aN=some l'):Calls aV 10 [vp b 0,str s].toArray w (dK λu w'=>Holds E w'<|oz 41 5 b l'::V):=by
 have hstr:Tryd.prog.underlying 9=some .string:=by kernel_rfl
 obtain⟨c,v,hc,ho,hw⟩:=hw.k4 (i:=0) rfl;have hw:=hw.pick 2 [1,0] (Γ0:=V) (new:=[bc 41 b [c,v],own 5 v l]) rfl rfl (by decide) (by decide);refine enter Tryd.func10 rfl rfl<|h_<|dF (vi 0)<|dF .nilIface<|p_<|mv (vp b 0)<|vR trivial rfl (eR Tryd.func22) [vp b 0] rfl<|cU (pw hc hw) ?_;intro u w hw;refine p_<|mv (vp b 0)<|mv (vp b 0)<|uQ trivial rfl rfl<|l_ rfl k7<|uY 0 v hw rfl pr<|mv (str s)<|wM (i:=1) trivial rfl hw rfl rfl rfl qX hstr hb λv' w ho' hw=>?_;refine uQ trivial rfl rfl<|l_ rfl k7<|vt (v':=v) 0 v' hw rfl rfl rfl rfl (kE 1 hw rfl) pr λw hw=>?_;have hw:=hw.pick 2 [1,0] (Γ0:=V) (new:=[own 5 v' l',bc 41 b [vp b 0,v']]) rfl rfl (by decide) (by decide);have hw:=hw.j2 (i:=0) rfl (.inr rfl)<|ho' ho;exact p_<|mv (str s)<|uM s hstr<|dF _<|dF .nilIface<|i_<|t_<|i3 hw
theorem px{E w:World}{V:List HP}{b:Nat}{l:List UInt8}(hw:Holds E w (oz 41 5 b l::V)):Calls aV 11 [vp b 0].toArray w (dK λu w'=>u=vi ((l.length:Nat):Int)/\Holds E w' (oz 41 5 b l::V)):=by
 obtain⟨c,v,hc,ho,hw⟩:=hw.k4 (i:=0) rfl;obtain⟨a,cap,hv⟩:=hw.gO (i:=0) rfl;refine enter Tryd.func11 rfl rfl<|h_<|dF (vi 0)<|p_<|mv (vp b 0)<|uQ trivial rfl rfl<|l_ rfl k7<|uY 1 v hw rfl pr<|vl 0 l trivial hw qX.kn<|dF (vi ((l.length:Nat):Int)) ?_;exact i_<|t_<|aX ⟨rfl,hw.j2 (i:=0) rfl hc ho⟩
theorem py{E w:World}{V:List HP}{b:Nat}{l:List UInt8}(hw:Holds E w (oz 41 5 b l::V)):Calls aV 12 [vp b 0].toArray w (dK λu w'=>u=str ⟨l⟩/\Holds E w' V):=by
 have hpb:Tryd.prog.underlying 70=some (.pointer 5):=by kernel_rfl
 have hce:Tryd.prog.cellsOf 5=1:=by kernel_rfl
 obtain⟨c,v,hc,ho,hw⟩:=hw.k4 (i:=0) rfl;obtain⟨a,cap,hve⟩:=hw.gO (i:=0) rfl;have hw:=hw.pick 2 [1,0] (Γ0:=V) (new:=[bc 41 b [c,v],own 5 v l]) rfl rfl (by decide) (by decide);refine enter Tryd.func12 rfl rfl<|h_<|dF (str ⟨[]⟩)<|i_<|s_<|vG mixed rfl (λ(D:Nat->Bool)(U:Nat->Value)(w:World)=>cW D U [(0,3,vp b 0),(1,4,vp b 0),(2,5,vp b 1),(3,6,v),(4,7,qV v),(5,8,vp b 0),(6,9,vp b 0),(7,10,vp b 1),(8,11,v),(9,12,vi ((l.length:Nat):Int)),(10,13,str ⟨l⟩),(11,2,str ⟨l⟩)]/\agree U [(0,vp b 0)]/\Holds E w (bc 41 b [c,v]::(bif D 10 then kJ else own 5 v l)::V)) ?_ ⟨?_,?_,?_,?_,?_,?_,?_,?_,?_,?_,?_,?_,trivial⟩ ?_;exact⟨cW.none,⟨rfl,trivial⟩,hw.drew⟩;rintro D U w hD hdep hcl⟨hv,ha,hw⟩;exact mv (hx:=ha.at 0 rfl) (vp b 0)<|k_ ⟨rfl,hv.put 0 rfl rfl,ha.up rfl,hw⟩;rintro D U w hD hdep hcl⟨hv,ha,hw⟩;exact uQ trivial rfl (hv.at 0 rfl<|hdep.1 rfl)<|k_ ⟨rfl,hv.put 1 rfl rfl,ha.up rfl,hw⟩;rintro D U w hD hdep hcl⟨hv,ha,hw⟩;exact l_ (hv.at 1 rfl<|hdep.1 rfl) k7<|k_ ⟨rfl,hv.put 2 rfl rfl,ha.up rfl,hw⟩;rintro D U w hD hdep hcl⟨hv,ha,hw⟩;exact uY 0 v hw (hv.at 2 rfl<|hdep.1 rfl) pr<|k_ ⟨rfl,hv.put 3 rfl rfl,ha.up rfl,hw⟩;rintro D U w hD hdep hcl⟨hv,ha,hw⟩;exact wR trivial rfl (hv.at 3 rfl<|hdep.1 rfl) ho ⟨_,_,_,hve⟩<|k_ ⟨rfl,hv.put 4 rfl rfl,ha.up rfl,hw⟩;rintro D U w hD hdep hcl⟨hv,ha,hw⟩;exact mv (hx:=ha.at 0 rfl) (vp b 0)<|k_ ⟨rfl,hv.put 5 rfl rfl,ha.up rfl,hw⟩;rintro D U w hD hdep hcl⟨hv,ha,hw⟩;exact uQ trivial rfl (hv.at 5 rfl<|hdep.1 rfl)<|k_ ⟨rfl,hv.put 6 rfl rfl,ha.up rfl,hw⟩;rintro D U w hD hdep hcl⟨hv,ha,hw⟩;exact l_ (hv.at 6 rfl<|hdep.1 rfl) k7<|k_ ⟨rfl,hv.put 7 rfl rfl,ha.up rfl,hw⟩;rintro D U w hD hdep hcl⟨hv,ha,hw⟩;exact uY 0 v hw (hv.at 7 rfl<|hdep.1 rfl) pr<|k_ ⟨rfl,hv.put 8 rfl rfl,ha.up rfl,hw⟩;rintro D U w hD hdep hcl⟨hv,ha,hw⟩;exact wS (m:=l.length) trivial rfl ((hv.at 8 rfl<|hdep.1 rfl).trans hve) qX.kn<|k_ ⟨rfl,hv.put 9 rfl rfl,ha.up rfl,hw⟩;rintro D U w hD hdep hcl⟨hv,ha,hw⟩;rw[hD,cw]at hw;refine wT (i:=1) trivial rfl hw (hv.at 4 rfl<|hdep.1 rfl) (hv.at 9 rfl<|hdep.2.1 rfl) rfl ho hpb hce λw hw=>?_;exact k_ ⟨rfl,hv.put 10 rfl rfl,ha.up rfl,hw⟩;rintro D U w hD hdep hcl⟨hv,ha,hw⟩;exact dF (hx:=hv.at 10 rfl<|hdep.1 rfl) (str ⟨l⟩)<|k_ ⟨rfl,hv.put 11 rfl rfl,ha.up rfl,hw⟩;intro D U w hall ⟨hv,ha,hw⟩;have h2:U 2=str ⟨l⟩:=hv.at 11 rfl<|hall 11 (by decide);exact aC<|t_<|aX (hv:=h2) ⟨rfl,hw.drop 2 rfl⟩
theorem qj:d9 aV 10:=eR Tryd.func10
theorem dS:lC aV 25 1 1:=nA
theorem iB:gN aV 23 false 1:=nB
theorem lz:Tryd.prog.underlying 23=some (.slice 33):=by kernel_rfl
theorem k8:nw aV 23 33 3:=rl
theorem ks:gN aV 33 true 3:=nB
theorem oD:qC aV 33 3:=rm<|.agg #[(.string ⟨#[]⟩),n_,n_]
theorem hO:lC aV 33 0 0:=nA
theorem hP:lC aV 33 1 1:=nA
theorem mi:gN aV 30 false 1:=nB
theorem ku:Tryd.prog.underlying 30=some (.slice 50):=by kernel_rfl
theorem j4:nw aV 30 50 2:=rl
theorem fP:gN aV 50 true 2:=nB
theorem mj:qC aV 50 2:=rm<|.agg #[(.string ⟨#[]⟩),(.string ⟨#[]⟩)]
theorem ju:lC aV 50 0 0:=nA
theorem jv:lC aV 50 1 1:=nA
theorem pz:d9 aV 13:=eR Tryd.func13
theorem sy:ny aV 54 [(0,1),(1,1),(2,1)] #[(.string ⟨#[]⟩),(.int .i64 0),(.int .i64 0)]:=ny.of (.agg #[(.string ⟨#[]⟩),(.int .i64 0),(.int .i64 0)]) Tryd.underlying54
theorem ml:nw aV 55 54 3:=rl
theorem ql:qC aV 54 3:=rm<|.agg #[(.string ⟨#[]⟩),(.int .i64 0),(.int .i64 0)]
theorem sA:ny aV 57 [(0,1),(1,1)] #[(.string ⟨#[]⟩),n_]:=ny.of (.agg #[(.string ⟨#[]⟩),n_]) Tryd.underlying57
theorem nT:nw aV 58 57 2:=rl
theorem rK:qC aV 57 2:=rm<|.agg #[(.string ⟨#[]⟩),n_]
theorem rL:ny aV 43 [(0,1),(1,1)] #[(.string ⟨#[]⟩),(.string ⟨#[]⟩)]:=ny.of (.agg #[(.string ⟨#[]⟩),(.string ⟨#[]⟩)]) Tryd.underlying43
theorem qY:ny aV 25 [(0,1),(1,1)] #[n_,n_]:=ny.of (.agg #[n_,n_]) Tryd.underlying25
theorem qZ:gN aV 58 false 1:=nB
theorem q3:Tryd.prog.underlying 58=some (.slice 57):=by kernel_rfl
theorem pA:gN aV 57 true 2:=nB
theorem mm:lC aV 57 0 0:=nA
theorem r4(a:aH)(b:Int)(w:World):(callFunc 66 [str a,(.int .u8 b)].toArray).run aV w = .ok (.value<|vi<|Lib.indexByte a.aN (Int.toNat b).toUInt8) w:=kQ Extern.BytealgIndexByte.indexByte Tryd.func66<|Lib.run_indexByteString _ _ w
theorem rM:d9 aV 48:=eR Tryd.func48
theorem q4:d9 aV 40:=eR Tryd.func40
theorem nU:lC aV 57 1 1:=nA
theorem q5:gN aV 55 false 1:=nB
theorem nV:Tryd.prog.underlying 55=some (.slice 54):=by kernel_rfl
theorem mn:gN aV 54 true 3:=nB
theorem k9:lC aV 54 0 0:=nA
theorem mo:lC aV 54 1 1:=nA
theorem qm:gN aV 3 false 1:=nB
theorem la:lC aV 54 2 2:=nA
theorem rn:Tryd.prog.underlying 3=some (.int .i64):=by kernel_rfl
theorem oE:Tryd.prog.underlying 98=some (.int .u64):=by kernel_rfl
theorem rk(a b:aH)(w:World):(callFunc 74 [str a,str b].toArray).run aV w = .ok (.value<|vi<|Lib.compareBytes a.aN b.aN) w:=kQ Extern.BytealgCompare.compare Tryd.func74<|Lib.run_compareString _ _ w
theorem pB:d9 aV 60:=eR Tryd.func60
theorem q6:d9 aV 42:=eR Tryd.func42
theorem kX(a:aH)(b:Int)(w:World):(callFunc 70 [str a,(.int .u8 b)].toArray).run aV w = .ok (.value<|vi ((Lib.countByte a.aN (Int.toNat b).toUInt8:Nat):Int)) w:=kQ Extern.BytealgCount.count Tryd.func70<|Lib.run_countString _ _ w
theorem rN:d9 aV 37:=eR Tryd.func37
theorem rO:d9 aV 54:=eR Tryd.func54
theorem sL:mM aV 31 9 1 16:=mM.of (.string ⟨#[]⟩) rfl
theorem tX:rz aV 9 (⟨[]⟩:aH):=rz.of (Z:=(.string ⟨#[]⟩)) (by kernel_rfl)<|λM=>rfl
theorem i9:nw aV 31 9 1:=rl
theorem rP:d9 aV 26:=eR Tryd.func26
theorem mq:Tryd.prog.underlying 31=some (.slice 9):=by kernel_rfl
theorem rQ:d9 aV 31:=eR Tryd.func31
theorem pC:ri aV 50 bM:=⟨λM cs ds a b w ha hb=>by
  obtain⟨_,_,rfl,rfl,rfl⟩:=ha
  obtain⟨_,_,rfl,rfl,rfl⟩:=hb
  refine(gQ 9999 Tryd.underlying50<|pY.cons (by decide) (dx dJ rfl _) (dx dJ rfl _) (fV i7 _ _ w)<|pY.cons (by decide) (dx dJ rfl _) (dx dJ rfl _) (fV i7 _ _ w) pY.nil).trans ?_
  congr 1
  cases a;cases b;unfold iT
  rw[Bool.eq_iff_iff]
  simp,by kernel_rfl⟩
theorem qH:kR aV 50 bM:=kR.struct Tryd.underlying50 rfl pC (λk=>(qE.cons (by decide) (dx dJ rfl) (λb w=>MapKept.run_checkKey i7 (k:=Gk.str k.Part) trivial b 9998) (qE.cons (by decide) (dx dJ rfl) (λb w=>MapKept.run_checkKey i7 (k:=Gk.str k.bM) trivial b 9998) qE.nil))) (λk x hx=>by
  have hx:x∈[Sc.toV k.Part,Sc.toV k.bM]:=hx
  simp only[ej,List.not_mem_nil,or_false]at hx
  rcases hx with rfl|rfl
  · exact MapKept.sameBits_self (d:= .string) (k:=Gk.str k.Part) trivial _
  · exact MapKept.sameBits_self (d:= .string) (k:=Gk.str k.bM) trivial _)
theorem rR:nN aV 79 50 4 bM Bool (false:Bool):=⟨by kernel_rfl,qH,oe (.bool false)<|λM=>⟨_,rfl,rfl⟩⟩
theorem mu:lC aV 33 2 2:=nA
theorem qn:gN aV 31 false 1:=nB
theorem rS:nN aV 83 50 3 bM Int (0:Int):=⟨by kernel_rfl,qH,oe (.int .i64 0)<|λM=>⟨_,rfl,rfl⟩⟩
theorem q7:ny aV 50 [(0,1),(1,1)] #[(.string ⟨#[]⟩),(.string ⟨#[]⟩)]:=ny.of (.agg #[(.string ⟨#[]⟩),(.string ⟨#[]⟩)]) Tryd.underlying50
theorem q8:mM aV 30 50 2 32:=mM.of (.agg #[(.string ⟨#[]⟩),(.string ⟨#[]⟩)]) rfl
theorem rT:qC aV 25 2:=rm<|.agg #[n_,n_]
theorem td:r3 aV 25 [n_,n_]:=⟨(.agg #[n_,n_]),λ_=>by kernel_rfl,rfl⟩
theorem rU:d9 aV 15:=eR Tryd.func15
theorem tg:mM aV 22 43 2 32:=mM.of (.agg #[(.string ⟨#[]⟩),(.string ⟨#[]⟩)]) rfl
theorem th:ny aV 33 [(0,1),(1,1),(2,1)] #[(.string ⟨#[]⟩),n_,n_]:=ny.of (.agg #[(.string ⟨#[]⟩),n_,n_]) Tryd.underlying33
theorem ti:r3 aV 33 [(.string ⟨#[]⟩),n_,n_]:=⟨(.agg #[(.string ⟨#[]⟩),n_,n_]),λ_=>by kernel_rfl,rfl⟩
theorem tj:mM aV 23 33 3 64:=mM.of (.agg #[(.string ⟨#[]⟩),n_,n_]) rfl
theorem rV:ri aV 43 Part:=⟨λM cs ds a b w ha hb=>by
  obtain⟨_,_,rfl,rfl,rfl⟩:=ha
  obtain⟨_,_,rfl,rfl,rfl⟩:=hb
  refine(gQ 9999 Tryd.underlying43<|pY.cons (by decide) (dx dJ rfl _) (dx dJ rfl _) (fV i7 _ _ w)<|pY.cons (by decide) (dx dJ rfl _) (dx dJ rfl _) (fV i7 _ _ w) pY.nil).trans ?_
  congr 1
  cases a;cases b;unfold gS
  rw[Bool.eq_iff_iff]
  simp,by kernel_rfl⟩
def aA(E:World)(V:List HP)(res:Int)(v:Value)(w:World):Prop:=v= vi res/\Holds E w V
def aB(E:World)(V:List HP)(res:Bool)(v:Value)(w:World):Prop:=v= vb res/\Holds E w V
def eX(E:World)(V:List HP)(res:aH×Int)(v:Value)(w:World):Prop:=v = .tuple #[str res.1,vi res.2]/\Holds E w V
def bQ(E:World)(V:List HP)(res:Int×Bool)(v:Value)(w:World):Prop:=v = .tuple #[vi res.1,vb res.2]/\Holds E w V
def gh(E:World)(V:List HP)(res:List aH)(v:Value)(w:World):Prop:=Holds E w<|[own 9 v res]++V
def gT(E:World)(V:List HP)(res:List bM)(v:Value)(w:World):Prop:=Holds E w<|[own 50 v res]++V
def gw(E:World)(V:List HP)(res:aH×aH×Bool)(v:Value)(w:World):Prop:=v = .tuple #[str res.1,str res.2.1,vb res.2.2]/\Holds E w V
def nC(H:Type)(d:DataW H):Nat:=YteaabmconboleaaDoor.Rows.uptoBulk d
def rX(H:Type)(d:List (DataW H)):Nat:=YteaabmconboleaaDoor.Rows.uptoBulkAll d
theorem fk:UB nC rX where
  str:=λH b=>by simp[nC,YteaabmconboleaaDoor.Rows.uptoBulk]
  pos:=λH d=>by
    unfold nC
    cases d with
    |lit l=>cases l <;> simp[YteaabmconboleaaDoor.Rows.uptoBulk]
    |nil=>simp[YteaabmconboleaaDoor.Rows.uptoBulk]
    |ptr d=>simp[YteaabmconboleaaDoor.Rows.uptoBulk]
    |slice elems spare=>simp[YteaabmconboleaaDoor.Rows.uptoBulk]
    |agg parts=>simp[YteaabmconboleaaDoor.Rows.uptoBulk]
    |iface t d=>simp[YteaabmconboleaaDoor.Rows.uptoBulk]
    |map entries=>simp[YteaabmconboleaaDoor.Rows.uptoBulk]
    |held h=>simp[YteaabmconboleaaDoor.Rows.uptoBulk]
  sl:=λH e s=>by simp[nC,rX,YteaabmconboleaaDoor.Rows.uptoBulk]
  ag:=λH l=>by simp[nC,rX,YteaabmconboleaaDoor.Rows.uptoBulk]
  nil:=λH=>by simp[rX,YteaabmconboleaaDoor.Rows.uptoBulkAll]
  cons:=λH x l=>by simp[nC,rX,YteaabmconboleaaDoor.Rows.uptoBulkAll]
theorem rp:eY nC Tryd.prog 9 aH:=oG fk (by kernel_rfl)
theorem tq:eY nC Tryd.prog 43 Part:=fQ fk (λ(x:Part)=>(x.Name,x.cI)) (λb=>⟨b.1,b.2⟩) (λb=>rfl) Tryd.underlying43 (gj fk rp rfl rfl<|iW fk rp rfl) (λb=>by simp only[mz];omega)
theorem tr:eY nC Tryd.prog 22 (List Part):=hQ (e:=43) fk tq
theorem tt:eY nC Tryd.prog 50 bM:=fQ fk (λ(x:bM)=>(x.Part,x.bM)) (λb=>⟨b.1,b.2⟩) (λb=>rfl) Tryd.underlying50 (gj fk rp rfl rfl<|iW fk rp rfl) (λb=>by simp only[n0];omega)
theorem tu:eY nC Tryd.prog 30 (List bM):=hQ (e:=50) fk tt
theorem tv:eY nC Tryd.prog 31 (List aH):=hQ (e:=9) fk rp
theorem tw:eY nC Tryd.prog 33 Net:=fQ fk (λ(x:Net)=>(x.Name,x.bC,x.du)) (λb=>⟨b.1,b.2.1,b.2.2⟩) (λb=>rfl) Tryd.underlying33 (gj fk rp rfl rfl<|gj fk tu rfl rfl<|iW fk tv rfl) (λb=>by simp only[n1];omega)
theorem tx:eY nC Tryd.prog 23 (List Net):=hQ (e:=33) fk tw
theorem tz:eY nC Tryd.prog 25 aQ:=fQ fk (λ(x:aQ)=>(x.aO,x.aM)) (λb=>⟨b.1,b.2⟩) (λb=>rfl) Tryd.underlying25 (gj fk tr rfl rfl<|iW fk tx rfl) (λb=>by simp only[eu];omega)
variable (N:Nat){E w:World}{i0 i1:Nat}{p0 p1 p2 p3 res:Int}{v0 v1 v2:Value}{V:List HP}
theorem iC{p0:aH}{p1:o9->Option Bool}{p2:Bool}(o:Holds E w V)(h1:ov aV E V v1 p1 (λ(r:Bool)=>Value.bool r))(j:cX N p0 p1 p2=some res):
    c_ 39 [str p0,v1,vb p2] w<|aA E V res:=by
 unfold cX at j
 refine enter Tryd.func39 zr zr<|h_<|aG 0<|o_<|h_<|mv (str p0)<|wB (s:=p0) zt zr o zr i7 λad w o=>i_<|vN E V (λ(aa:Nat)=>[it ad p0 aa]) (λ_=>[]) (λ_=>[(1,v1),(2,vb p2),(10,vp ad 0)]) (λr=>ff aV 21 Tryd.f39 (aA E V r) .ret) j ?_ ?_ ?_ ?_
 ·exact o.sp 1 [0]
 ·rintro aa fl _ w⟨O,rfl,o⟩j
  refine h_ ?_
  rcases Bool.eq_false_or_eq_true (decide<|aa<p0.aN.length)with ab|ab
  rotate_left
  ·replace j:=cF ab j
   refine wD (i:=0) (s:=p0) (p:=aa) zt zr o zr zr ab<|uq (vb false)<|o_<|vF zr<|uZ ?_
   obtain rfl:=oi j
   exact⟨rfl,o.sp 1 [0]⟩
  replace j:=cT ab j
  refine wC (i:=0) (s:=p0) (p:=aa) zt zr o zr zr ab λw o=>uq (vb true)<|o_<|vE zr<|uN<|uj<|uq (vi aa)<|uq (.int .i32 (((Utf8.decode (bs p0) aa).1:Nat):Int))<|aG (aa:Int) ?_
  refine dF (.int .i32 (((Utf8.decode (bs p0) aa).1:Nat):Int))<|p_<|mv v1<|mv (.int .i32 (((Utf8.decode (bs p0) aa).1:Nat):Int)) ?_
  have o:=o.sc o9 ⟨(((Utf8.decode (bs p0) aa).1:Nat):Int)⟩
  obtain⟨ae,af,j⟩:=bd j
  refine vq 0 zr o zr h1 2 zr zr zr af λw o=>fe p2<|wm (a:=ae) (b:=p2) zt zr zr zr tU<|i_<|df j (λj=>?_) λj=>?_
  rotate_left
  ·refine uA<|bP ?_
   obtain rfl:=oi j
   exact⟨rfl,o.sp 2 [1]⟩
  refine h_<|bI (aa:Int)<|aG (aa:Int)<|i_<|uv ?_
  obtain rfl:=oi j
  exact⟨rfl,aX ⟨rfl,o.drop 2⟩⟩
 ·intro r U w j hK
  refine aI ?_
  obtain rfl:=oi j
  exact hK
 rintro aa _ w j⟨O,rfl,o⟩
 refine aC<|h_<|aG (-1)<|i_<|t_ ?_
 obtain rfl:=oi j
 exact aX ⟨rfl,o.drop 1⟩
theorem iD{p0:aH}{p1:o9->Option Bool}(o:Holds E w V)(h1:ov aV E V v1 p1 (λ(r:Bool)=>Value.bool r))(j:dG N p0 p1=some res):c_ 27 [str p0,v1] w<|aA E V res:=by
 unfold dG at j;exact enter Tryd.func27 zr zr<|h_<|aG 0<|p_<|mv (str p0)<|mv v1<|q_ j λaa ab j=>r_ (eR Tryd.func39) (iC N (p0:=p0) (p2:=true) o (h1.lift 0 zr) ab) λw o=>aG aa<|i_<|t_<|oi j▸aX ⟨rfl,o.drop 0⟩
theorem gU{p0:aH}{p1:o9->Option Bool}{res:Bool}(o:Holds E w V)(h1:ov aV E V v1 p1 (λ(r:Bool)=>Value.bool r))(j:cY N p0 p1=some res):c_ 20 [str p0,v1] w<|aB E V res:=by
 unfold cY at j;refine enter Tryd.func20 zr zr<|h_<|aY false<|p_<|mv (str p0)<|mv v1<|q_ j λaa ab j=>r_ (eR Tryd.func27) (iD N (p0:=p0) o (h1.lift 0 zr) ab) λw o=>ic aa 0<|aY (decide<|aa>=0)<|i_<|t_ ?_;exact oi j▸aX ⟨rfl,o.drop 0⟩
theorem ig{res:Bool}(o:Holds E w V)(j:cx N p0=some res):c_ 21 [(.int .i32 p0)] w<|aB E V res:=by
 unfold cx at j;refine enter Tryd.func21 rfl rfl<|h_<|aY false<|p_<|mv (.int .i32 p0)<|ic p0 33<|fe (decide<|p0<33)<|uk true (decide<|p0<33) (.int .i32 p0) rfl rfl rfl di<|uk true (decide<|p0<33) (vb<|decide<|p0>126) rfl rfl rfl (eG .gtr .i32 p0 126 rfl (by exact z_ (.int .i32 p0)) (λ_=>rfl) rfl) ?_;refine uG (b:=decide<|p0<33) (v:=vb<|decide (p0<33)||decide (p0>126)) trivial rfl rfl (jD true rfl)<|fe (decide (p0<33)||decide (p0>126))<|uk true (decide (p0<33)||decide (p0>126)) (.int .i32 p0) rfl rfl rfl di<|uk true (decide (p0<33)||decide (p0>126)) (vb<|p0==46) rfl rfl rfl (eG .eql .i32 p0 46 rfl (by exact z_ (.int .i32 p0)) (λ_=>rfl) rfl)<|uG (b:=decide (p0<33)||decide (p0>126)) (v:=vb<|(decide (p0<33)||decide (p0>126))||(p0==46)) trivial rfl rfl (jD true rfl)<|aY ((decide (p0<33)||decide (p0>126))||(p0==46))<|i_<|t_ ?_;exact oi j▸aX ⟨rfl,o.drop 0⟩
theorem bJ{p0:aH}{res:Bool}(j:Holds E w V)(hb:aZ N p0=some res):c_ 9 [str p0] w<|aB E V res:=by
 unfold aZ at hb;refine enter Tryd.func9 zr zr<|h_<|aY false<|o_<|q_ hb λad hj hb=>um (λ(ad:Bool)=>SH E V [(2,vb ad)] []) ad ?_ ?_;refine m_<|mv (str p0)<|uT p0 ⟨[]⟩<|fe (!p0.fi (⟨[]⟩))<|dZ hj (λo hj=>?_) λo hj=>?_;refine ud (str p0) (cg o) ?_;refine q_ hj λae af hj=>r_ (hg:=cg o) (eR Tryd.func20) (gU N (p0:=p0) j ⟨21,[],rfl,(eR Tryd.func21),λw Γl v y0 r i j hi hr=>by obtain rfl:=j.ln (γ:=o9) hi;exact cU (ig N (p0:=y0.n) j hr) λ_ _ h=>h⟩ af) λw j=>uo (hg:=cg o) ae<|d5 o (vb<|!ae)<|aY (!ae)<|k_ ?_;exact oi hj▸⟨rfl,j.sp 0 []⟩;exact bB o<|bB o<|bB o<|d5 o (vb false)<|aY false<|k_<|oi hj▸⟨rfl,j.sp 0 []⟩;rintro _ w⟨O,rfl,j⟩;exact aC<|t_<|oi hb▸aX ⟨rfl,j.drop 0⟩
def gk(E:World)(V:List HP)(r:aH×Int)(U:Nat->Value)(w:World):Prop:=ff aV 84 Tryd.f4 (eX E V r) .ret U w
theorem kx{p0:aQ}{res:aH×Int}(j:Holds E w V)(h0:V[i0]? =some (rd v0 p0))(o:eI N p0=some res):c_ 4 [v0] w<|eX E V res:=by
 unfold eI at o;refine enter Tryd.func4 zr zr ?_;have j:=j.dup (i0+0) h0;refine h_<|uE 0 v0 j zr λaq w j=>?_;refine dF (str ⟨[]⟩)<|aG 0<|p_<|vI zr j sg zr λae w j=>?_;have j:=j.qi (e:=5);refine o_<|h_<|l_ zr hG<|ur 1 j zr dk mg λar j=>uh 0 p0.aO j mh<|bI 0<|i_<|uD E V (λ(au:List UInt8)=>[bx 25 aq p0,oz 41 5 ae au,rd ar p0.aO]) (λ_=>[(1,vp aq 0),(4,vp ae 0)]) (λav _=>[(12,ar),(13,vi p0.aO.length),(14,vi av)]) (gk E V) o ?_ ?_ ?_ ?_;exact j.sp 4 [2,1,0];rintro hm av au fl _ w hk⟨O,rfl,j⟩o;refine s_<|uj<|q_ o λag a8 o=>ug 2 j kr a8 λb5 j=>uf 0 ag j j3 λb6 j=>uB j oC.z λa2 w j=>?_;refine uy 0 j 1 zr j3 λw j=>?_;refine o_<|s_<|q_ o λaz hj o=>um (λ(az:Bool)=>SH E V [(1,vp aq 0),(4,vp ae 0),(6,vp a2 0),(12,ar),(13,vi p0.aO.length),(14,vi av),(27,vb az)] [bx 25 aq p0,oz 41 5 ae au,bx 43 a2 ag,rd ar p0.aO]) az ?_ ?_;refine m_<|l_ zr hL<|ue 0 j zr d3 dJ<|q_ hj λa3 a9 hj=>r_ pZ (bJ N (p0:=ag.Name) j a9) λw j=>uo a3<|fe (!a3)<|dZ hj (λab hj=>?_) λab hj=>?_;exact bB ab<|bB ab<|bB ab<|bB ab<|d5 ab (vb true)<|k_<|oi hj▸⟨rfl,j.sp 6 [3,4,0,5]⟩;exact l_ (hg:=cg ab) zr jt<|ue (hg:=cg ab) 0 j zr fo dJ<|q_ hj λa4 ba hj=>r_ (hg:=cg ab) pZ (bJ N (p0:=ag.cI) j ba) λw j=>uo (hg:=cg ab) a4<|d5 ab (vb<|!a4)<|k_<|oi hj▸⟨rfl,j.sp 6 [3,4,0,5]⟩;rintro _ w⟨O,rfl,j⟩;refine aC<|df o (λo=>?_) λo=>?_;exact h_<|dF (str ⟨[]⟩)<|aG 3<|i_<|ui<|cC<|aI<|oi o▸⟨rfl,i3 ⟨rfl,j.drop 4⟩⟩;refine uN<|m_<|l_ zr hL<|ue 2 j zr d3 dJ<|q_ o λbb bc o=>uF ⟨[112,97,114,116,32]⟩ ag.Name bc<|q_ o λbf bg o=>uF bb ⟨[32]⟩ bg<|l_ zr jt<|ue 2 j zr fo dJ<|q_ o λbh bj o=>uF bf ag.cI bj<|q_ o λb7 bk o=>uF bh ⟨[10]⟩ bk ?_;have j:=j.pull 1;refine q_ o λb8 bl o=>uP qj (jL j bl) ?_;intro b9 w j;exact k_<|bP<|aC<|m_<|uu hk hm<|bI ((av+1:Nat):Int)<|k_<|oi o▸⟨rfl,j.sp 5 [1,0,4]⟩;intro r U w o hK;exact aI<|oi o▸hK;rintro au _ w o⟨O,rfl,j⟩;refine aC<|s_<|h_<|l_ zr dS<|ur 0 j zr bS iB λah j=>uh 0 p0.aM j lz<|bI 0<|i_<|uD E V (λ(an:List UInt8)=>[oz 41 5 ae an,rd ah p0.aM]) (λ_=>[(4,vp ae 0)]) (λao _=>[(39,ah),(40,vi p0.aM.length),(41,vi ao)]) (gk E V) o ?_ ?_ ?_ ?_;exact j.sp 4 [2,0];rintro hm ao an fl _ w hk⟨O,rfl,j⟩o;refine s_<|uj<|q_ o λaf bm o=>ug 1 j k8 bm λca j=>uf 0 af j ks λcb j=>uB j oD.z λcc w j=>?_;refine uy 0 j 1 zr ks λw j=>?_;refine o_<|h_<|l_ zr hO<|ue 0 j zr eT dJ<|q_ o λbn bo o=>r_ pZ (bJ N (p0:=af.Name) j bo) λw j=>uo bn<|i_<|df o (λo=>?_) λo=>?_;exact h_<|dF (str ⟨[]⟩)<|aG 3<|i_<|ui<|cC<|aI<|oi o▸⟨rfl,i3 ⟨rfl,j.drop 5⟩⟩;refine uO<|l_ zr hO<|ue 0 j zr eT dJ<|q_ o λcd bp o=>uF ⟨[110,101,116,32]⟩ af.Name bp ?_;have j:=j.pull 3;refine q_ o λcf bq o=>uP qj (jL j bq) ?_;intro ch w j;refine o_<|h_<|l_ zr hP<|ur 1 j zr gf mi λaw j=>uh 0 af.bC j ku<|bI 0<|i_<|uD E V (λ(ax:List UInt8)=>[oz 41 5 ae ax,rd ah p0.aM,rd aw af.bC]) (λ_=>[(4,vp ae 0),(39,ah),(40,vi p0.aM.length),(41,vi ao)]) (λay _=>[(54,aw),(55,vi af.bC.length),(56,vi ay)]) (gk E V) o ?_ ?_ ?_ ?_;exact j.sp 7 [1,6,0];rintro hm ay ax fl _ w hk⟨O,rfl,j⟩o;refine s_<|uj<|q_ o λai br o=>ug 2 j j4 br λcj j=>uf 0 ai j fP λck j=>uB j mj.z λa5 w j=>?_;refine uy 0 j 1 zr fP λw j=>?_;refine o_<|s_<|q_ o λa0 hj o=>um (λ(a0:Bool)=>SH E V [(4,vp ae 0),(10,vp a5 0),(39,ah),(40,vi p0.aM.length),(41,vi ao),(54,aw),(55,vi af.bC.length),(56,vi ay),(69,vb a0)] [oz 41 5 ae ax,bx 50 a5 ai,rd ah p0.aM,rd aw af.bC]) a0 ?_ ?_;refine m_<|l_ zr ju<|ue 0 j zr ga dJ<|q_ hj λa6 bt hj=>r_ pZ (bJ N (p0:=ai.Part) j bt) λw j=>uo a6<|fe (!a6)<|dZ hj (λad hj=>?_) λad hj=>?_;exact bB ad<|bB ad<|bB ad<|bB ad<|d5 ad (vb true)<|k_<|oi hj▸⟨rfl,j.sp 6 [3,0,4,5]⟩;exact l_ (hg:=cg ad) zr jv<|ue (hg:=cg ad) 0 j zr gb dJ<|q_ hj λa7 bu hj=>r_ (hg:=cg ad) pZ (bJ N (p0:=ai.bM) j bu) λw j=>uo (hg:=cg ad) a7<|d5 ad (vb<|!a7)<|k_<|oi hj▸⟨rfl,j.sp 6 [3,0,4,5]⟩;rintro _ w⟨O,rfl,j⟩;refine aC<|df o (λo=>?_) λo=>?_;exact h_<|dF (str ⟨[]⟩)<|aG 3<|i_<|ui<|cC<|aI<|oi o▸⟨rfl,i3 ⟨rfl,j.drop 4⟩⟩;refine uN<|m_<|l_ zr ju<|ue 1 j zr ga dJ<|q_ o λbw bz o=>uF ⟨[32]⟩ ai.Part bz<|q_ o λb0 b1 o=>uF bw ⟨[46]⟩ b1<|l_ zr jv<|ue 1 j zr gb dJ<|q_ o λcm b2 o=>uF b0 ai.bM b2 ?_;have j:=j.pull 0;refine q_ o λcn b3 o=>uP qj (jL j b3) ?_;intro cp w j;exact k_<|bP<|aC<|m_<|uu hk hm<|bI ((ay+1:Nat):Int)<|k_<|oi o▸⟨rfl,j.sp 5 [0,3,4]⟩;intro r U w o hK;exact aI<|cC<|aI<|oi o▸⟨rfl,hK⟩;rintro ax _ w o⟨O,rfl,j⟩;refine aC<|m_ ?_;have j:=j.pull 0;refine q_ o λcq b4 o=>uP qj (jL j b4) ?_;intro cr w j;exact k_<|bP<|aC<|m_<|uu hk hm<|bI ((ao+1:Nat):Int)<|k_<|oi o▸⟨rfl,j.sp 4 [0,2]⟩;intro r U w o hK;exact aI<|oi o▸hK;rintro an _ w o⟨O,rfl,j⟩;refine aC<|s_<|h_ ?_;have j:=j.pull 0;refine r_ (eR Tryd.func11) (px j) λw j=>ic ((an.length:Int)) 2000000<|i_<|df o (λo=>?_) λo=>?_;exact h_<|dF (str ⟨[]⟩)<|aG 2<|i_<|ui<|oi o▸i3 ⟨rfl,j.drop 3⟩;refine uO ?_;have j:=j.pull 0;exact r_ (eR Tryd.func12) (py j) λw j=>dF (str (⟨an⟩:aH))<|aG 0<|i_<|t_<|oi o▸i3 ⟨rfl,j.drop 3⟩
theorem bT{p0:aH}{res:Bool}(hw:Holds E w V)(o:aU N p0=some res):c_ 13 [str p0] w<|aB E V res:=by
 unfold aU at o;refine enter Tryd.func13 zr zr<|h_<|aY false<|o_<|h_<|mv (str p0)<|uM p0 i7<|bI 0<|i_<|uD E V (λ(aj:Unit)=>[]) (λ_=>[(0,str p0)]) (λaa _=>[(5,vi p0.aN.length),(6,vi aa)]) (λr=>ff aV 28 Tryd.f13 (aB E V r) .ret) o ?_ ?_ ?_ ?_;exact hw.sp 0 [];rintro hm aa aj fl _ w hk⟨O,rfl,hw⟩o;refine s_<|uj<|bI (aa:Int)<|aG (aa:Int)<|o_<|q_ o λag j o=>um (λ(ag:Bool)=>SH E V [(0,str p0),(5,vi p0.aN.length),(6,vi aa),(24,vb ag)] []) ag ?_ ?_;refine m_<|mv (str p0)<|bI (aa:Int)<|q_ j λah an j=>vk p0 (aa:Int) ah zt i7 an<|ic ((ah.toNat:Int)) 33<|fe (decide<|(ah.toNat:Int)<33)<|dZ j (λab j=>?_) λab j=>?_;refine bB ab<|bB ab<|bB ab<|bB ab<|d5 ab (vb true)<|fe true<|i5<|i5<|i5<|i5<|uG (b:=true) (v:=vb true) zt zr zr zr<|k_ ?_;exact oi j▸⟨rfl,hw.sp 0 []⟩;refine ud (str p0) (cg ab)<|ud (vi aa) (cg ab)<|q_ j λaf ao j=>vk p0 (aa:Int) af (cg ab) i7 ao<|uK (af.toNat:Int) 126 (cg ab)<|d5 ab (vb<|decide<|(af.toNat:Int)>126)<|fe (decide<|(af.toNat:Int)>126)<|dZ j (λad j=>?_) λad j=>?_;exact bB ad<|bB ad<|bB ad<|bB ad<|d5 ad (vb true)<|k_<|oi j▸⟨rfl,hw.sp 0 []⟩;refine ud (str p0) (cg ad)<|ud (vi aa) (cg ad)<|q_ j λai aq j=>vk p0 (aa:Int) ai (cg ad) i7 aq<|uK (ai.toNat:Int) 46 (cg ad)<|d5 ad (vb<|(ai.toNat:Int)==46)<|k_ ?_;exact oi j▸⟨rfl,hw.sp 0 []⟩;rintro _ w⟨O,rfl,hw⟩;refine aC<|df o (λo=>?_) λo=>?_;exact h_<|aY false<|i_<|uv<|aI<|oi o▸⟨rfl,aX ⟨rfl,hw.drop 0⟩⟩;exact uA<|bP<|aC<|m_<|uu hk hm<|bI ((aa+1:Nat):Int)<|k_<|oi o▸⟨rfl,hw.sp 0 []⟩;intro r U w o hK;exact aI<|oi o▸hK;rintro aj _ w o⟨O,rfl,hw⟩;exact aC<|h_<|mv (str p0)<|uT p0 ⟨[]⟩<|aY (!p0.fi (⟨[]⟩))<|i_<|t_<|oi o▸aX ⟨rfl,hw.drop 0⟩
def dT(E:World)(V:List HP)(r:aH×Int)(U:Nat->Value)(w:World):Prop:=ff aV 89 Tryd.f5 (eX E V r) .ret U w
theorem ij{p0:aQ}{res:aH×Int}(j:Holds E w V)(h0:V[i0]? =some (rd v0 p0))(o:cN N p0=some res):c_ 5 [v0] w<|eX E V res:=by
 unfold cN at o;refine enter Tryd.func5 zr zr ?_;have j:=j.dup (i0+0) h0;refine h_<|uE 0 v0 j zr λar w j=>?_;refine dF (str ⟨[]⟩)<|aG 0<|p_<|dF (str ⟨[]⟩)<|o_<|h_<|l_ zr hG<|ur 0 j zr dk mg λau j=>uh 0 p0.aO j mh<|bI 0<|i_<|uD E V (λ(ah:aH)=>[bx 25 ar p0,rd au p0.aO]) (λah=>[(1,vp ar 0),(4,str ah)]) (λav _=>[(12,au),(13,vi p0.aO.length),(14,vi av)]) (dT E V) o ?_ ?_ ?_ ?_;exact j.sp 3 [1,0];rintro hm av ah fl _ w hk⟨O,rfl,j⟩o;refine s_<|uj<|q_ o λai a7 o=>ug 1 j kr a7 λcb j=>uf 0 ai j j3 λcc j=>uB j oC.z λa1 w j=>?_;refine uy 0 j 1 zr j3 λw j=>?_;refine o_<|s_<|q_ o λay hj o=>um (λ(ay:Bool)=>SH E V [(1,vp ar 0),(4,str ah),(6,vp a1 0),(12,au),(13,vi p0.aO.length),(14,vi av),(27,vb ay)] [bx 25 ar p0,bx 43 a1 ai,rd au p0.aO]) ay ?_ ?_;refine m_<|l_ zr hL<|ue 0 j zr d3 dJ<|q_ hj λa2 a8 hj=>r_ pz (bT N (p0:=ai.Name) j a8) λw j=>uo a2<|fe (!a2)<|dZ hj (λab hj=>?_) λab hj=>?_;exact bB ab<|bB ab<|bB ab<|bB ab<|d5 ab (vb true)<|k_<|oi hj▸⟨rfl,j.sp 5 [3,0,4]⟩;exact l_ (hg:=cg ab) zr jt<|ue (hg:=cg ab) 0 j zr fo dJ<|q_ hj λa3 a9 hj=>r_ (hg:=cg ab) pz (bT N (p0:=ai.cI) j a9) λw j=>uo (hg:=cg ab) a3<|d5 ab (vb<|!a3)<|k_<|oi hj▸⟨rfl,j.sp 5 [3,0,4]⟩;rintro _ w⟨O,rfl,j⟩;refine aC<|df o (λo=>?_) λo=>?_;exact h_<|dF (str ⟨[]⟩)<|aG 3<|i_<|ui<|cC<|aI<|oi o▸⟨rfl,i3 ⟨rfl,j.drop 3⟩⟩;refine uN<|m_<|mv (str ah)<|l_ zr hL<|ue 1 j zr d3 dJ<|q_ o λba bb o=>uF ⟨[112,97,114,116,32]⟩ ai.Name bb<|q_ o λbc bf o=>uF ba ⟨[32]⟩ bf<|l_ zr jt<|ue 1 j zr fo dJ<|q_ o λbg bh o=>uF bc ai.cI bh ?_;refine q_ o λbj bk o=>uF bg ⟨[10]⟩ bk<|q_ o λbl bm o=>uF ah bj bm<|dF (str bl)<|k_<|bP<|aC<|m_<|uu hk hm<|bI ((av+1:Nat):Int)<|k_ ?_;exact oi o▸⟨rfl,j.sp 3 [0,2]⟩;intro r U w o hK;exact aI<|oi o▸hK;rintro ah _ w o⟨O,rfl,j⟩;refine aC<|s_<|h_<|l_ zr dS<|ur 0 j zr bS iB λaj j=>uh 0 p0.aM j lz<|bI 0<|i_<|uD E V (λ(ad:aH)=>[rd aj p0.aM]) (λad=>[(4,str ad)]) (λaq _=>[(40,aj),(41,vi p0.aM.length),(42,vi aq)]) (dT E V) o ?_ ?_ ?_ ?_;exact j.sp 3 [0];rintro hm aq ad fl _ w hk⟨O,rfl,j⟩o;refine s_<|uj<|q_ o λag bn o=>ug 0 j k8 bn λcd j=>uf 0 ag j ks λcf j=>uB j oD.z λch w j=>?_;refine uy 0 j 1 zr ks λw j=>?_;refine o_<|h_<|l_ zr hO<|ue 0 j zr eT dJ<|q_ o λbo bp o=>r_ pz (bT N (p0:=ag.Name) j bp) λw j=>uo bo<|i_<|df o (λo=>?_) λo=>?_;exact h_<|dF (str ⟨[]⟩)<|aG 3<|i_<|ui<|cC<|aI<|oi o▸⟨rfl,i3 ⟨rfl,j.drop 4⟩⟩;refine uO<|mv (str ad)<|l_ zr hO<|ue 0 j zr eT dJ<|q_ o λbq br o=>uF ⟨[110,101,116,32]⟩ ag.Name br<|q_ o λbt bu o=>uF ad bq bu<|dF (str bt)<|o_<|h_<|l_ zr hP<|ur 0 j zr gf mi λaw j=>uh 0 ag.bC j ku<|bI 0<|i_ ?_;refine uD E V (λ(af:aH)=>[rd aj p0.aM,rd aw ag.bC]) (λaf=>[(4,str af),(40,aj),(41,vi p0.aM.length),(42,vi aq)]) (λax _=>[(56,aw),(57,vi ag.bC.length),(58,vi ax)]) (dT E V) o ?_ ?_ ?_ ?_;exact j.sp 5 [4,0];rintro hm ax af fl _ w hk⟨O,rfl,j⟩o;refine s_<|uj<|q_ o λak bw o=>ug 1 j j4 bw λcj j=>uf 0 ak j fP λck j=>uB j mj.z λa4 w j=>?_;refine uy 0 j 1 zr fP λw j=>?_;refine o_<|s_<|q_ o λaz hj o=>um (λ(az:Bool)=>SH E V [(4,str af),(10,vp a4 0),(40,aj),(41,vi p0.aM.length),(42,vi aq),(56,aw),(57,vi ag.bC.length),(58,vi ax),(71,vb az)] [bx 50 a4 ak,rd aj p0.aM,rd aw ag.bC]) az ?_ ?_;refine m_<|l_ zr ju<|ue 0 j zr ga dJ<|q_ hj λa5 bz hj=>r_ pz (bT N (p0:=ak.Part) j bz) λw j=>uo a5<|fe (!a5)<|dZ hj (λae hj=>?_) λae hj=>?_;exact bB ae<|bB ae<|bB ae<|bB ae<|d5 ae (vb true)<|k_<|oi hj▸⟨rfl,j.sp 5 [0,3,4]⟩;exact l_ (hg:=cg ae) zr jv<|ue (hg:=cg ae) 0 j zr gb dJ<|q_ hj λa6 b0 hj=>r_ (hg:=cg ae) pz (bT N (p0:=ak.bM) j b0) λw j=>uo (hg:=cg ae) a6<|d5 ae (vb<|!a6)<|k_<|oi hj▸⟨rfl,j.sp 5 [0,3,4]⟩;rintro _ w⟨O,rfl,j⟩;refine aC<|df o (λo=>?_) λo=>?_;exact h_<|dF (str ⟨[]⟩)<|aG 3<|i_<|ui<|cC<|aI<|oi o▸⟨rfl,i3 ⟨rfl,j.drop 3⟩⟩;refine uN<|m_<|mv (str af)<|l_ zr ju<|ue 0 j zr ga dJ<|q_ o λb1 b2 o=>uF ⟨[32]⟩ ak.Part b2<|q_ o λb3 b4 o=>uF b1 ⟨[46]⟩ b4<|l_ zr jv<|ue 0 j zr gb dJ<|q_ o λb5 b6 o=>uF b3 ak.bM b6 ?_;exact q_ o λb7 b8 o=>uF af b5 b8<|dF (str b7)<|k_<|bP<|aC<|m_<|uu hk hm<|bI ((ax+1:Nat):Int)<|k_<|oi o▸⟨rfl,j.sp 3 [1,2]⟩;intro r U w o hK;exact aI<|cC<|aI<|oi o▸⟨rfl,hK⟩;rintro af _ w o⟨O,rfl,j⟩;refine aC<|m_<|mv (str af)<|q_ o λb9 ca o=>uF af ⟨[10]⟩ ca<|dF (str b9)<|k_<|bP<|aC<|m_<|uu hk hm<|bI ((aq+1:Nat):Int)<|k_ ?_;exact oi o▸⟨rfl,j.sp 2 [0]⟩;intro r U w o hK;exact aI<|oi o▸hK;rintro ad _ w o⟨O,rfl,j⟩;refine aC<|s_<|h_<|mv (str ad)<|uM ad i7<|ic ((ad.aN.length:Int)) 2000000<|i_<|df o (λo=>?_) λo=>?_;exact h_<|dF (str ⟨[]⟩)<|aG 2<|i_<|ui<|oi o▸i3 ⟨rfl,j.drop 1⟩;exact uO<|mv (str ad)<|dF (str ad)<|aG 0<|i_<|t_<|oi o▸i3 ⟨rfl,j.drop 1⟩
theorem ef{p0:aH}(o:Holds E w V)(j:cD N p0 p1=some res):c_ 48 [str p0,(.int .u8 p1)] w<|aA E V res:=by
 unfold cD at j;refine enter Tryd.func48 zr zr<|h_<|aG 0<|p_<|mv (str p0)<|mv (.int .u8 p1)<|vH (vi<|Lib.indexByte p0.aN (Int.toNat p1).toUInt8) zr [str p0,(.int .u8 p1)] zr (r4 p0 p1 w)<|aG (Lib.indexByte p0.aN (Int.toNat p1).toUInt8)<|i_ ?_;exact t_<|oi j▸aX ⟨rfl,o.drop 0⟩
theorem iE{p0:aH}(o:Holds E w V)(j:cZ N p0 p1=some res):c_ 55 [str p0,(.int .u8 p1)] w<|aA E V res:=by
 unfold cZ at j;exact enter Tryd.func55 zr zr<|h_<|aG 0<|p_<|mv (str p0)<|mv (.int .u8 p1)<|q_ j λaa ab j=>r_ rM (ef N (p0:=p0) (p1:=p1) o ab) λw o=>aG aa<|i_<|t_<|oi j▸aX ⟨rfl,o.drop 0⟩
theorem eZ{p0:aH}{res:Bool}(hw:Holds E w V)(o:dM N p0=some res):c_ 40 [str p0] w<|aB E V res:=by
 unfold dM at o;refine enter Tryd.func40 zr zr<|h_<|aY false<|o_<|h_<|mv (str p0)<|uM p0 i7<|bI 0<|i_<|uD E V (λ(ag:Unit)=>[]) (λ_=>[(0,str p0)]) (λad _=>[(6,vi p0.aN.length),(7,vi ad)]) (λr=>ff aV 49 Tryd.f40 (aB E V r) .ret) o ?_ ?_ ?_ ?_;exact hw.sp 0 [];rintro hm ad ag fl _ w hk⟨O,rfl,hw⟩o;refine s_<|uj<|bI (ad:Int)<|aG (ad:Int)<|p_<|mv (str p0)<|bI (ad:Int)<|q_ o λj ak o=>vk p0 (ad:Int) j zt i7 ak<|dF (.int .u8 (j.toNat:Int))<|o_ ?_;refine q_ o λaf hj o=>um (λ(af:Bool)=>SH E V [(0,str p0),(6,vi p0.aN.length),(7,vi ad),(39,vb af)] []) af ?_ ?_;refine m_<|mv (.int .u8 (j.toNat:Int))<|ic ((j.toNat:Int)) 65<|fe (decide<|(j.toNat:Int)<65)<|uk true (decide<|(j.toNat:Int)<65) (.int .u8 (j.toNat:Int)) rfl rfl rfl di<|uk true (decide<|(j.toNat:Int)<65) (vb<|decide<|(j.toNat:Int)>90) rfl rfl rfl (eG .gtr .u8 (j.toNat:Int) 90 rfl (by exact z_ (.int .u8 (j.toNat:Int))) (λ_=>rfl) rfl)<|uG (b:=decide<|(j.toNat:Int)<65) (v:=vb<|decide ((j.toNat:Int)<65)||decide ((j.toNat:Int)>90)) trivial rfl rfl (jD true rfl)<|fe (decide ((j.toNat:Int)<65)||decide ((j.toNat:Int)>90))<|uk true (decide ((j.toNat:Int)<65)||decide ((j.toNat:Int)>90)) (.int .u8 (j.toNat:Int)) rfl rfl rfl di ?_;refine uk true (decide ((j.toNat:Int)<65)||decide ((j.toNat:Int)>90)) (vb<|decide<|(j.toNat:Int)<97) rfl rfl rfl (eG .lss .u8 (j.toNat:Int) 97 rfl (by exact z_ (.int .u8 (j.toNat:Int))) (λ_=>rfl) rfl)<|uk true (decide ((j.toNat:Int)<65)||decide ((j.toNat:Int)>90)) (vb<|decide<|(j.toNat:Int)<97) rfl rfl rfl (di (hx:=λh=>by exact(fT h:cv (true&&((decide ((j.toNat:Int)<65)||decide ((j.toNat:Int)>90))==true)) (vb<|decide<|(j.toNat:Int)<97)= vb (decide<|(j.toNat:Int)<97))))<|uk (true&&((decide ((j.toNat:Int)<65)||decide ((j.toNat:Int)>90))==true)) (decide<|(j.toNat:Int)<97) (.int .u8 (j.toNat:Int)) rfl rfl rfl di<|uk (true&&((decide ((j.toNat:Int)<65)||decide ((j.toNat:Int)>90))==true)) (decide<|(j.toNat:Int)<97) (vb<|decide<|(j.toNat:Int)>122) rfl rfl rfl (eG .gtr .u8 (j.toNat:Int) 122 rfl (by exact z_ (.int .u8 (j.toNat:Int))) (λ_=>rfl) rfl)<|uk true (decide ((j.toNat:Int)<65)||decide ((j.toNat:Int)>90)) (vb<|decide ((j.toNat:Int)<97)||decide ((j.toNat:Int)>122)) rfl rfl rfl (n8 (decide<|(j.toNat:Int)<97) rfl (by exact z_ (vb<|decide<|(j.toNat:Int)<97)) (λh=>by exact jD (true&&((decide ((j.toNat:Int)<65)||decide ((j.toNat:Int)>90))==true)) h))<|uG (b:=decide ((j.toNat:Int)<65)||decide ((j.toNat:Int)>90)) (v:=vb<|(decide ((j.toNat:Int)<65)||decide ((j.toNat:Int)>90))&&(decide ((j.toNat:Int)<97)||decide ((j.toNat:Int)>122))) trivial rfl rfl (lX true rfl)<|fe ((decide ((j.toNat:Int)<65)||decide ((j.toNat:Int)>90))&&(decide ((j.toNat:Int)<97)||decide ((j.toNat:Int)>122)))<|uk true ((decide ((j.toNat:Int)<65)||decide ((j.toNat:Int)>90))&&(decide ((j.toNat:Int)<97)||decide ((j.toNat:Int)>122))) (.int .u8 (j.toNat:Int)) rfl rfl rfl di<|uk true ((decide ((j.toNat:Int)<65)||decide ((j.toNat:Int)>90))&&(decide ((j.toNat:Int)<97)||decide ((j.toNat:Int)>122))) (vb<|decide<|(j.toNat:Int)<48) rfl rfl rfl (eG .lss .u8 (j.toNat:Int) 48 rfl (by exact z_ (.int .u8 (j.toNat:Int))) (λ_=>rfl) rfl) ?_;refine uk true ((decide ((j.toNat:Int)<65)||decide ((j.toNat:Int)>90))&&(decide ((j.toNat:Int)<97)||decide ((j.toNat:Int)>122))) (vb<|decide<|(j.toNat:Int)<48) rfl rfl rfl (di (hx:=λh=>by exact(fT h:cv (true&&(((decide ((j.toNat:Int)<65)||decide ((j.toNat:Int)>90))&&(decide ((j.toNat:Int)<97)||decide ((j.toNat:Int)>122)))==true)) (vb<|decide<|(j.toNat:Int)<48)= vb (decide<|(j.toNat:Int)<48))))<|uk (true&&(((decide ((j.toNat:Int)<65)||decide ((j.toNat:Int)>90))&&(decide ((j.toNat:Int)<97)||decide ((j.toNat:Int)>122)))==true)) (decide<|(j.toNat:Int)<48) (.int .u8 (j.toNat:Int)) rfl rfl rfl di<|uk (true&&(((decide ((j.toNat:Int)<65)||decide ((j.toNat:Int)>90))&&(decide ((j.toNat:Int)<97)||decide ((j.toNat:Int)>122)))==true)) (decide<|(j.toNat:Int)<48) (vb<|decide<|(j.toNat:Int)>57) rfl rfl rfl (eG .gtr .u8 (j.toNat:Int) 57 rfl (by exact z_ (.int .u8 (j.toNat:Int))) (λ_=>rfl) rfl)<|uk true ((decide ((j.toNat:Int)<65)||decide ((j.toNat:Int)>90))&&(decide ((j.toNat:Int)<97)||decide ((j.toNat:Int)>122))) (vb<|decide ((j.toNat:Int)<48)||decide ((j.toNat:Int)>57)) rfl rfl rfl (n8 (decide<|(j.toNat:Int)<48) rfl (by exact z_ (vb<|decide<|(j.toNat:Int)<48)) (λh=>by exact jD (true&&(((decide ((j.toNat:Int)<65)||decide ((j.toNat:Int)>90))&&(decide ((j.toNat:Int)<97)||decide ((j.toNat:Int)>122)))==true)) h))<|uG (b:=(decide ((j.toNat:Int)<65)||decide ((j.toNat:Int)>90))&&(decide ((j.toNat:Int)<97)||decide ((j.toNat:Int)>122))) (v:=vb<|((decide ((j.toNat:Int)<65)||decide ((j.toNat:Int)>90))&&(decide ((j.toNat:Int)<97)||decide ((j.toNat:Int)>122)))&&(decide ((j.toNat:Int)<48)||decide ((j.toNat:Int)>57))) trivial rfl rfl (lX true rfl)<|fe (((decide ((j.toNat:Int)<65)||decide ((j.toNat:Int)>90))&&(decide ((j.toNat:Int)<97)||decide ((j.toNat:Int)>122)))&&(decide ((j.toNat:Int)<48)||decide ((j.toNat:Int)>57)))<|dZ hj (λab hj=>?_) λab hj=>?_;refine ud (.int .u8 (j.toNat:Int)) (cg ab)<|q_ hj λah al hj=>r_ (hg:=cg ab) (eR Tryd.func55) (iE N (p0:=⟨[95,43,45,35]⟩) (p1:=(j.toNat:Int)) hw al) λw hw=>uK ah 0 (cg ab)<|d5 ab (vb<|decide<|ah<0)<|k_ ?_;exact oi hj▸⟨rfl,hw.sp 0 []⟩;exact bB ab<|bB ab<|bB ab<|d5 ab (vb false)<|k_<|oi hj▸⟨rfl,hw.sp 0 []⟩;rintro _ w⟨O,rfl,hw⟩;refine aC<|df o (λo=>?_) λo=>?_;exact h_<|aY false<|i_<|uv<|aI<|oi o▸⟨rfl,aX ⟨rfl,hw.drop 0⟩⟩;exact uA<|bP<|aC<|m_<|uu hk hm<|bI ((ad+1:Nat):Int)<|k_<|oi o▸⟨rfl,hw.sp 0 []⟩;intro r U w o hK;exact aI<|oi o▸hK;rintro ag _ w o⟨O,rfl,hw⟩;refine aC<|h_<|mv (str p0)<|uM p0 i7<|ic ((p0.aN.length:Int)) 1<|fe (decide<|(p0.aN.length:Int)>=1)<|uk true (decide<|(p0.aN.length:Int)>=1) (str p0) rfl rfl rfl di<|uk true (decide<|(p0.aN.length:Int)>=1) (vi p0.aN.length) rfl rfl rfl (p6 (s:=p0) rfl (by exact z_ (str p0)) i7)<|uk true (decide<|(p0.aN.length:Int)>=1) (vb<|decide<|(p0.aN.length:Int)<=40) rfl rfl rfl (eG .leq .i64 (p0.aN.length:Int) 40 rfl (by exact z_ (vi p0.aN.length)) (λ_=>rfl) rfl) ?_;exact uG (b:=decide<|(p0.aN.length:Int)>=1) (v:=vb<|decide ((p0.aN.length:Int)>=1)&&decide ((p0.aN.length:Int)<=40)) zt zr zr (lX true zr)<|aY (decide ((p0.aN.length:Int)>=1)&&decide ((p0.aN.length:Int)<=40))<|i_<|t_<|oi o▸aX ⟨rfl,hw.drop 0⟩
theorem gV{p0 p1:aS}{res:Bool}(j:Holds E w V)(h0:V[i0]? =some (rd v0 p0))(h1:V[i1]? =some (pt v1 p1))(hb:dN N p0 p1=some res):c_ 57 [v0,v1] w<|aB E V res:=by
 unfold dN at hb;refine enter Tryd.func57 zr zr ?_;have j:=(j.dup (i0+0) h0).nK (i:=i1+1) h1;refine h_<|uE 1 v0 j zr λaf w j=>?_;refine aY false<|o_<|q_ hb λae hj hb=>um (λ(ae:Bool)=>SH E V [(3,vb ae)] []) ae ?_ ?_;refine m_<|uH 1 zt j zr la eV λag j=>uU p1.cy 0 zt j qm<|ic p1.cy 0<|fe (decide<|p1.cy>0)<|dZ hj (λo hj=>?_) λo hj=>?_;refine l_ (hg:=cg o) zr la<|ue (hg:=cg o) 1 j zr eV qm<|uH 2 (cg o) j zr la eV λah j=>uU p1.cy 0 (cg o) j qm<|uK p0.cy p1.cy (cg o)<|d5 o (vb<|p0.cy==p1.cy)<|fe (p0.cy==p1.cy)<|dZ hj (λaa hj=>?_) λaa hj=>?_;refine l_ (hg:=cg aa) zr mo<|ue (hg:=cg aa) 2 j zr fO qm<|uH 3 (cg aa) j zr mo fO λai j=>uU p1.Kind 0 (cg aa) j qm<|uK p0.Kind p1.Kind (cg aa)<|d5 aa (vb<|p0.Kind != p1.Kind)<|aY (p0.Kind != p1.Kind)<|k_ ?_;exact oi hj▸⟨rfl,j.sp 6 []⟩;exact bB aa<|bB aa<|bB aa<|bB aa<|bB aa<|d5 aa (vb false)<|aY false<|k_<|oi hj▸⟨rfl,j.sp 5 []⟩;refine bB o<|bB o<|bB o<|bB o<|bB o<|d5 o (vb false)<|fe false<|i5<|i5<|i5<|i5<|i5<|uG (b:=false) (v:=vb false) zt zr zr zr<|aY false<|k_ ?_;exact oi hj▸⟨rfl,j.sp 4 []⟩;rintro _ w⟨O,rfl,j⟩;exact aC<|t_<|oi hb▸aX ⟨rfl,j.drop 0⟩
theorem fR{p0:List aS}{p1:aS->Option Bool}(o:Holds E w V)(h0:V[i0]? =some (rd v0 p0))(h1:ov aV E V v1 p1 (λ(r:Bool)=>Value.bool r))(j:c7 N p0 p1=some res):c_ 71 [v0,v1] w<|aA E V res:=by
 unfold c7 at j;refine enter Tryd.func71 zr zr ?_;have o:=o.dup (i0+0) h0;refine h_<|aG 0<|o_<|h_<|mv v0<|uh 0 p0 o nV<|bI 0<|i_<|uD E V (λ(ab:Unit)=>[rd v0 p0]) (λ_=>[]) (λaa _=>[(0,v0),(1,v1),(7,vi p0.length),(8,vi aa)]) (λr=>ff aV 19 Tryd.f71 (aA E V r) .ret) j ?_ ?_ ?_ ?_;exact o.sp 1 [0];rintro hm aa ab fl _ w hk⟨O,rfl,o⟩j;refine s_<|uj<|bI (aa:Int)<|aG (aa:Int)<|p_<|mv v1<|mv v0<|bI (aa:Int)<|q_ j λaf ag j=>ug 0 o ml ag λak o=>uf 0 af o mn λal o=>?_;refine q_ j λan ah j=>vq 0 zr o zr h1 3 zr zr zr ah λw o=>i_<|df j (λj=>?_) λj=>?_;exact h_<|bI (aa:Int)<|aG (aa:Int)<|i_<|uv<|aI<|oi j▸⟨rfl,aX ⟨rfl,o.drop 3⟩⟩;exact uA<|bP<|aC<|m_<|uu hk hm<|bI ((aa+1:Nat):Int)<|k_<|oi j▸⟨rfl,o.sp 3 [2]⟩;intro r U w j hK;exact aI<|oi j▸hK;rintro ab _ w j⟨O,rfl,o⟩;exact aC<|h_<|aG (-1)<|i_<|t_<|oi j▸aX ⟨rfl,o.drop 1⟩
theorem fq{p0:List aS}{p1:aS->Option Bool}{res:Bool}(j:Holds E w V)(h0:V[i0]? =some (rd v0 p0))(h1:ov aV E V v1 p1 (λ(r:Bool)=>Value.bool r))(o:cL N p0 p1=some res):c_ 56 [v0,v1] w<|aB E V res:=by
 unfold cL at o;refine enter Tryd.func56 zr zr ?_;have j:=j.dup (i0+0) h0;refine h_<|aY false<|p_<|mv v0<|mv v1<|q_ o λaa ab o=>r_ (eR Tryd.func71) (fR N (i0:=0) j zr (h1.lift 1 zr) ab) λw j=>ic aa 0<|aY (decide<|aa>=0)<|i_<|t_ ?_;exact oi o▸aX ⟨rfl,j.drop 1⟩
def fF(E:World)(V:List HP)(r:Int)(U:Nat->Value)(w:World):Prop:=ff aV 71 Tryd.f41 (aA E V r) .ret U w
theorem iF{p0:List aS}(j:Holds E w V)(h0:V[i0]? =some (rd v0 p0))(o:eJ N p0=some res):c_ 41 [v0] w<|aA E V res:=by
 unfold eJ at o;refine enter Tryd.func41 zr zr ?_;have j:=j.dup (i0+0) h0;refine h_<|aG 0<|o_<|h_<|mv v0<|uh 0 p0 j nV<|ic ((p0.length:Int)) 0<|i_<|df o (λo=>?_) λo=>?_;exact h_<|aG 9<|i_<|ui<|oi o▸aX ⟨rfl,j.drop 1⟩;refine uz<|h_<|mv v0<|uh 0 p0 j nV<|ic ((p0.length:Int)) 200<|i_<|df o (λo=>?_) λo=>?_;exact h_<|aG 2<|i_<|ui<|oi o▸aX ⟨rfl,j.drop 1⟩;refine uz<|h_<|mv v0<|uh 0 p0 j nV<|bI 0<|i_<|uD E V (λ(an:Unit)=>[rd v0 p0]) (λ_=>[(0,v0)]) (λad _=>[(13,v0),(14,vi p0.length),(15,vi ad)]) (fF E V) o ?_ ?_ ?_ ?_;exact j.sp 1 [0];rintro hm ad an fl _ w hk⟨O,rfl,j⟩o;refine s_<|uj<|bI (ad:Int)<|q_ o λaa av o=>ug 0 j ml av λa2 j=>uf 0 aa j mn λa3 j=>uB j ql.z λaf w j=>?_;refine aG (ad:Int)<|uy 0 j 1 zr mn λw j=>?_;refine i_<|uj<|l_ zr k9<|ue 0 j zr eU dJ<|q_ o λao aw o=>r_ q4 (eZ N (p0:=aa.Name) j aw) λw j=>uo ao<|aY (!ao)<|i_<|df o (λo=>?_) λo=>?_;exact h_<|aG 5<|i_<|uv<|cC<|aI<|oi o▸⟨rfl,aX ⟨rfl,j.drop 4⟩⟩;refine h_<|l_ rfl mo<|ue 0 j rfl fO qm<|ic aa.Kind 1<|fe (decide<|aa.Kind<1)<|uk true (decide<|aa.Kind<1) (vp af 1) rfl rfl rfl (n9 rfl mo)<|uk true (decide<|aa.Kind<1) (vi aa.Kind) rfl rfl rfl (kg 0 rfl j (by exact z_ (vp af 1)) rfl fO qm)<|uk true (decide<|aa.Kind<1) (vb<|decide<|aa.Kind>7) rfl rfl rfl (eG .gtr .i64 aa.Kind 7 rfl (by exact z_ (vi aa.Kind)) (λ_=>rfl) rfl)<|uG (b:=decide<|aa.Kind<1) (v:=vb<|decide (aa.Kind<1)||decide (aa.Kind>7)) trivial rfl rfl (jD true rfl) ?_;refine aY (decide (aa.Kind<1)||decide (aa.Kind>7))<|i_<|df o (λo=>?_) λo=>?_;exact h_<|aG 4<|i_<|uv<|cC<|aI<|oi o▸⟨rfl,aX ⟨rfl,j.drop 4⟩⟩;refine h_<|l_ rfl la<|ue 0 j rfl eV qm<|ic aa.cy 0<|fe (decide<|aa.cy<0)<|uk true (decide<|aa.cy<0) (vp af 2) rfl rfl rfl (n9 rfl la)<|uk true (decide<|aa.cy<0) (vi aa.cy) rfl rfl rfl (kg 0 rfl j (by exact z_ (vp af 2)) rfl eV qm)<|uk true (decide<|aa.cy<0) (vb<|decide<|aa.cy>200) rfl rfl rfl (eG .gtr .i64 aa.cy 200 rfl (by exact z_ (vi aa.cy)) (λ_=>rfl) rfl)<|uG (b:=decide<|aa.cy<0) (v:=vb<|decide (aa.cy<0)||decide (aa.cy>200)) trivial rfl rfl (jD true rfl) ?_;refine aY (decide (aa.cy<0)||decide (aa.cy>200))<|i_<|df o (λo=>?_) λo=>?_;exact h_<|aG 1<|i_<|uv<|cC<|aI<|oi o▸⟨rfl,aX ⟨rfl,j.drop 4⟩⟩;refine s_<|q_ o λak hj o=>um (λ(ak:Bool)=>SH E V [(0,v0),(13,v0),(14,vi p0.length),(15,vi ad),(43,vb ak)] [rd v0 p0]) ak ?_ ?_;refine u9 mixed ?_;have j:=j.drew;refine u7<|bI (ad:Int)<|j_<|ic ((ad:Int)) 0<|j_<|fe (decide<|(ad:Int)>0)<|dZ hj (λab hj=>?_) λab hj=>?_;refine j_<|l_ (hg:=cg ab) zr k9<|j_<|ue (hg:=cg ab) 0 j zr eU dJ<|j_<|ud v0 (cg ab)<|j_<|ud (vi ad) (cg ab)<|j_<|ux (hg:=cg ab) (ad:Int) 1<|j_ ?_;refine q_ hj λag ax hj=>ug (hg:=cg ab) 3 j ml ax λa4 j=>j_<|uH 0 (cg ab) j zr k9 eU λa5 j=>j_<|uU ag.Name 0 (cg ab) j dJ<|j_<|uT (hg:=cg ab) aa.Name ag.Name<|j_<|d5 ab (vb<|aa.Name.lD ag.Name||aa.Name.fi ag.Name)<|j_<|aY (aa.Name.lD ag.Name||aa.Name.fi ag.Name)<|uW ?_;exact oi hj▸⟨rfl,j.sp 6 [5]⟩;refine j_<|bB ab<|j_<|bB ab<|j_<|bB ab<|j_<|bB ab<|j_<|bB ab<|j_<|bB ab<|j_<|bB ab<|j_<|bB ab<|j_<|bB ab ?_;exact j_<|d5 ab (vb false)<|j_<|aY false<|uW<|oi hj▸⟨rfl,j.sp 4 [3]⟩;rintro _ w⟨O,rfl,j⟩;refine aC<|df o (λo=>?_) λo=>?_;exact h_<|aG 8<|i_<|uv<|cC<|aI<|oi o▸⟨rfl,aX ⟨rfl,j.drop 1⟩⟩;exact uA<|bP<|bP<|aC<|m_<|uu hk hm<|bI ((ad+1:Nat):Int)<|k_<|oi o▸⟨rfl,j.sp 1 [0]⟩;intro r U w o hK;exact aI<|oi o▸hK;rintro an _ w o⟨O,rfl,j⟩;refine aC<|s_<|h_<|mv v0<|uh 0 p0 j nV<|bI 0<|i_<|uD E V (λ(aq:Unit)=>[rd v0 p0]) (λ_=>[]) (λah _=>[(0,v0),(58,v0),(59,vi p0.length),(60,vi ah)]) (fF E V) o ?_ ?_ ?_ ?_;exact j.sp 1 [0];rintro hm ah aq fl _ w hk⟨O,rfl,j⟩o;refine s_<|uj<|bI (ah:Int)<|q_ o λay az o=>ug 0 j ml az λa6 j=>uf 0 ay j mn λa7 j=>uB j ql.z λar w j=>?_;refine aG (ah:Int)<|uy 0 j 1 zr mn λw j=>?_;refine p_<|mv v0<|bI (ah:Int)<|q_ o λa8 a0 o=>wk (i:=3) zt zr j zr zr ml (.inr ⟨rfl,zr⟩) (.inl zr) a0 λa9 j=>?_;have j:=j.jY (i:=1) rfl;refine v3 zt zr [vp ar 0] zr ?_;refine q_ o λba a1 o=>r_ (eR Tryd.func56) (fq N (i0:=0) j rfl ⟨57,[vp ar 0],rfl,(eR Tryd.func57),λw Γl v y0 r i j hi hr=>by exact cU (gV N (i0:=i) (i1:=Γl.length+1) j hi (nH rfl) hr) λ_ _ h=>h⟩ a1) λw j=>i_<|df o (λo=>?_) λo=>?_;exact h_<|aG 12<|i_<|uv<|aI<|oi o▸⟨rfl,aX ⟨rfl,j.drop 5⟩⟩;exact uA<|bP<|aC<|m_<|uu hk hm<|bI ((ah+1:Nat):Int)<|k_<|oi o▸⟨rfl,j.sp 5 [4]⟩;intro r U w o hK;exact aI<|oi o▸hK;rintro aq _ w o⟨O,rfl,j⟩;exact aC<|h_<|aG 0<|i_<|t_<|oi o▸aX ⟨rfl,j.drop 1⟩
theorem ik{p0:List aL}(j:Holds E w V)(h0:V[i0]? =some (rd v0 p0))(o:ep N p0=some res):c_ 29 [v0] w<|aA E V res:=by
 unfold ep at o;refine enter Tryd.func29 zr zr ?_;have j:=j.dup (i0+0) h0;refine h_<|aG 0<|o_<|h_<|mv v0<|uh 0 p0 j q3<|ic ((p0.length:Int)) 200<|i_<|df o (λo=>?_) λo=>?_;exact h_<|aG 2<|i_<|ui<|oi o▸aX ⟨rfl,j.drop 1⟩;refine uz<|h_<|mv v0<|uh 0 p0 j q3<|bI 0<|i_<|uD E V (λ(ai:Unit)=>[rd v0 p0]) (λ_=>[]) (λab _=>[(0,v0),(9,v0),(10,vi p0.length),(11,vi ab)]) (λr=>ff aV 40 Tryd.f29 (aA E V r) .ret) o ?_ ?_ ?_ ?_;exact j.sp 1 [0];rintro hm ab ai fl _ w hk⟨O,rfl,j⟩o;refine s_<|uj<|bI (ab:Int)<|q_ o λae al o=>ug 0 j nT al λaw j=>uf 0 ae j pA λax j=>uB j rK.z λay w j=>?_;refine aG (ab:Int)<|uy 0 j 1 zr pA λw j=>?_;refine o_<|h_<|l_ zr mm<|ue 0 j zr fz dJ<|q_ o λan ao o=>r_ q4 (eZ N (p0:=ae.Name) j ao) λw j=>uo an<|i_<|df o (λo=>?_) λo=>?_;exact h_<|aG 5<|i_<|ui<|cC<|aI<|oi o▸⟨rfl,aX ⟨rfl,j.drop 4⟩⟩;refine uz<|h_<|l_ zr nU<|ur 0 j zr gI q5 λaz j=>?_;refine q_ o λaf aq o=>r_ (eR Tryd.func41) (iF N (i0:=0) j zr aq) λw j=>aG af<|p_<|bI af<|ic af 0<|i_<|df o (λo=>?_) λo=>?_;exact h_<|bI af<|aG af<|i_<|ui<|cC<|aI<|oi o▸⟨rfl,aX ⟨rfl,j.drop 5⟩⟩;refine uz<|q_ o λah hj o=>um (λ(ah:Bool)=>SH E V [(0,v0),(9,v0),(10,vi p0.length),(11,vi ab),(38,vb ah)] [rd v0 p0]) ah ?_ ?_;refine u9 mixed ?_;have j:=j.drew;refine u7<|bI (ab:Int)<|j_<|ic ((ab:Int)) 0<|j_<|fe (decide<|(ab:Int)>0)<|dZ hj (λaa hj=>?_) λaa hj=>?_;refine j_<|l_ (hg:=cg aa) zr mm<|j_<|ue (hg:=cg aa) 1 j zr fz dJ<|j_<|ud v0 (cg aa)<|j_<|ud (vi ab) (cg aa)<|j_<|ux (hg:=cg aa) (ab:Int) 1<|j_ ?_;refine q_ hj λag ar hj=>ug (hg:=cg aa) 4 j nT ar λa0 j=>j_<|uH 0 (cg aa) j zr mm fz λa1 j=>j_<|uU ag.Name 0 (cg aa) j dJ<|j_<|uT (hg:=cg aa) ae.Name ag.Name<|j_<|d5 aa (vb<|ae.Name.lD ag.Name||ae.Name.fi ag.Name)<|uW ?_;exact oi hj▸⟨rfl,j.sp 7 [6]⟩;refine j_<|bB aa<|j_<|bB aa<|j_<|bB aa<|j_<|bB aa<|j_<|bB aa<|j_<|bB aa<|j_<|bB aa<|j_<|bB aa<|j_<|bB aa ?_;exact j_<|d5 aa (vb false)<|uW<|oi hj▸⟨rfl,j.sp 5 [4]⟩;rintro _ w⟨O,rfl,j⟩;refine aC<|df o (λo=>?_) λo=>?_;exact h_<|aG 8<|i_<|uv<|aI<|oi o▸⟨rfl,aX ⟨rfl,j.drop 1⟩⟩;exact uA<|bP<|aC<|m_<|uu hk hm<|bI ((ab+1:Nat):Int)<|k_<|oi o▸⟨rfl,j.sp 1 [0]⟩;intro r U w o hK;exact aI<|oi o▸hK;rintro ai _ w o⟨O,rfl,j⟩;exact aC<|h_<|aG 0<|i_<|t_<|oi o▸aX ⟨rfl,j.drop 1⟩
theorem dn{p0:List aL}{p1:aH}{p2:aL->aH->Option Int}{res:Int×Bool}(o:Holds E w V)(h0:V[i0]? =some (rd v0 p0))(h2:qN aV E V v2 p2 (λ(r:Int)=>Value.int .i64 r))(hb:bU N p0 p1 p2=some res):c_ 58 [v0,str p1,v2] w<|bQ E V res:=by
 unfold bU at hb;refine enter Tryd.func58 zr zr ?_;have o:=o.dup (i0+0) h0;refine h_<|aG 0<|aY false<|p_<|mv v0<|uh 0 p0 o q3<|aG (p0.length:Int)<|p_<|bI (p0.length:Int)<|aG 0<|aG (p0.length:Int)<|o_<|vA E V (λ(j:Int×Int)=>[rd v0 p0]) (λj=>[(0,v0),(1,str p1),(2,v2),(8,vi p0.length),(9,vi j.1)]) (λj=>[(10,vi j.2)]) hb ?_ ?_ ?_;exact o.sp 1 [0];rintro j fl _ w⟨O,rfl,o⟩hb;refine s_<|h_<|bI j.1<|bI j.2<|ic j.1 j.2<|i_<|df hb (λhb=>?_) λhb=>?_;refine uN<|uj<|bI j.1<|bI j.2<|ux j.1 j.2<|vm (wrap .i64<|j.1+j.2) ⟨_,rn⟩ oE<|ve (v:=(.int .u64<|wrap .u64<|wrap .i64<|j.1+j.2)) (v':=(.int .u64 1)) (u:=(.int .u64<|Int.fdiv (wrap .u64<|wrap .i64<|j.1+j.2) 2)) zt zr zr zr (λ_=>zr) (λ_=>zr)<|vm (Int.fdiv (wrap .u64<|wrap .i64<|j.1+j.2) 2) ⟨_,oE⟩ rn<|aG (wrap .i64<|Int.fdiv (wrap .u64<|wrap .i64<|j.1+j.2) 2) ?_;refine p_<|mv v2<|mv v0<|bI (wrap .i64<|Int.fdiv (wrap .u64<|wrap .i64<|j.1+j.2) 2)<|q_ hb λah ai hb=>ug 0 o nT ai λar o=>uf 0 ah o pA λau o=>mv (str p1) ?_;have o:=o.sc aH p1;refine q_ hb λaj ak hb=>vn 1 0 zt o h2 4 ak λw o=>ic aj 0<|i_<|q_ hb λae hj hb=>um (λ(ae:Int×Int)=>SH E V [(0,v0),(1,str p1),(2,v2),(8,vi p0.length),(9,vi ae.1),(10,vi ae.2)] [rd v0 p0]) ae ?_ ?_;refine df hj (λhj=>?_) λhj=>?_;refine m_<|bI (wrap .i64<|Int.fdiv (wrap .u64<|wrap .i64<|j.1+j.2) 2)<|ux (wrap .i64<|Int.fdiv (wrap .u64<|wrap .i64<|j.1+j.2) 2) 1<|aG (wrap .i64<|wrap .i64 (Int.fdiv (wrap .u64<|wrap .i64<|j.1+j.2) 2)+1)<|k_ ?_;exact oi hj▸⟨rfl,o.sp 4 [3]⟩;refine m_<|bI (wrap .i64<|Int.fdiv (wrap .u64<|wrap .i64<|j.1+j.2) 2)<|aG (wrap .i64<|Int.fdiv (wrap .u64<|wrap .i64<|j.1+j.2) 2)<|k_ ?_;exact oi hj▸⟨rfl,o.sp 4 [3]⟩;rintro _ w⟨O,rfl,o⟩;exact bP<|oi hb▸⟨rfl,o.sp 1 [0]⟩;exact uZ<|oi hb▸⟨rfl,o.sp 1 [0]⟩;rintro j _ w hb⟨O,rfl,o⟩;refine aC<|s_<|q_ hb λaf hj hb=>um (λ(af:Bool)=>SH E V [(6,vi j.1),(7,vb af)] []) af ?_ ?_;refine m_<|bI j.1<|bI j.1<|bI (p0.length:Int)<|ic j.1 ((p0.length:Int))<|fe (decide<|j.1<(p0.length:Int))<|dZ hj (λaa hj=>?_) λaa hj=>?_;refine ud v2 (cg aa)<|ud v0 (cg aa)<|ud (vi j.1) (cg aa)<|q_ hj λal an hj=>ug (hg:=cg aa) 0 o nT an λav o=>uf (hg:=cg aa) 0 al o pA λaw o=>ud (str p1) (cg aa) ?_;have o:=o.sc aH p1;refine q_ hj λag ao hj=>vn 1 0 (cg aa) o h2 4 ao λw o=>uK ag 0 (cg aa)<|d5 aa (vb<|ag==0)<|aG j.1<|aY (ag==0)<|k_ ?_;exact oi hj▸⟨rfl,o.sp 4 []⟩;refine bB aa<|bB aa<|bB aa<|bB aa<|bB aa<|bB aa<|bB aa<|bB aa<|d5 aa (vb false)<|aG j.1<|aY false<|k_ ?_;exact oi hj▸⟨rfl,o.sp 1 []⟩;rintro _ w⟨O,rfl,o⟩;exact aC<|t_<|oi hb▸i3 ⟨rfl,o.drop 0⟩
theorem gK{p0 p1:aH}(o:Holds E w V)(j:dA N p0 p1=some res):c_ 72 [str p0,str p1] w<|aA E V res:=by
 unfold dA at j;refine enter Tryd.func72 zr zr<|h_<|aG 0<|p_<|mv (str p0)<|mv (str p1)<|vH (vi<|Lib.compareBytes p0.aN p1.aN) zr [str p0,str p1] zr (rk p0 p1 w)<|aG (Lib.compareBytes p0.aN p1.aN)<|i_ ?_;exact t_<|oi j▸aX ⟨rfl,o.drop 0⟩
theorem cP{p0 p1:aH}(o:Holds E w V)(j:cJ N p0 p1=some res):c_ 60 [str p0,str p1] w<|aA E V res:=by
 unfold cJ at j;exact enter Tryd.func60 zr zr<|h_<|aG 0<|p_<|mv (str p0)<|mv (str p1)<|q_ j λaa ab j=>r_ (eR Tryd.func72) (gK N (p0:=p0) (p1:=p1) o ab) λw o=>aG aa<|i_<|t_<|oi j▸aX ⟨rfl,o.drop 0⟩
theorem iH{p0:aL}{p1:aH}(j:Holds E w V)(h0:V[i0]? =some (rd v0 p0))(o:eK N p0 p1=some res):c_ 59 [v0,str p1] w<|aA E V res:=by
 unfold eK at o;refine enter Tryd.func59 zr zr ?_;have j:=j.dup (i0+0) h0;refine h_<|uE 0 v0 j zr λad w j=>?_;exact aG 0<|p_<|l_ zr mm<|ue 0 j zr fz dJ<|mv (str p1)<|q_ o λaa ab o=>r_ pB (cP N (p0:=p0.Name) (p1:=p1) j ab) λw j=>aG aa<|i_<|t_<|oi o▸aX ⟨rfl,j.drop 2⟩
theorem fa{p0:List aL}{p1:aH}(hw:Holds E w V)(h0:V[i0]? =some (rd v0 p0))(hb:dO N p0 p1=some res):c_ 42 [v0,str p1] w<|aA E V res:=by
 unfold dO at hb;refine enter Tryd.func42 zr zr ?_;have hw:=hw.dup (i0+0) h0;refine h_<|aG 0<|p_<|mv v0<|mv (str p1) ?_;refine q_ hb λo ad hb=>r_ (eR Tryd.func58) (dn N (p1:=p1) (i0:=0) hw rfl ⟨59,[],rfl,(eR Tryd.func59),λw Γl v v' y0 y1 r i j hw hi hj hr=>by obtain rfl:=hw.ln (γ:=aH) hj;exact cU (iH N (p1:=y1) (i0:=i) hw hi hr) λ_ _ h=>h⟩ ad) λw hw=>mv (.tuple #[vi o.1,vb o.2])<|uq (vi o.1)<|uq (vb o.2)<|aG o.1<|aY o.2<|o_<|h_<|fe o.2 ?_;refine uo o.2<|i_<|df hb (λhb=>?_) λhb=>?_;exact h_<|aG (-1)<|i_<|ui<|oi hb▸aX ⟨rfl,hw.drop 1⟩;exact uO<|bI o.1<|aG o.1<|i_<|t_<|oi hb▸aX ⟨rfl,hw.drop 1⟩
theorem il{p0:List aL}{p1:List Part}{p2:aH->Option Bool}(j:Holds E w V)(h0:V[i0]? =some (rd v0 p0))(h1:V[i1]? =some (rd v1 p1))(h2:ov aV E V v2 p2 (λ(r:Bool)=>Value.bool r))(o:er N p0 p1 p2=some res):c_ 30 [v0,v1,v2] w<|aA E V res:=by
 unfold er at o;refine enter Tryd.func30 zr zr ?_;have j:=(j.dup (i0+0) h0).dup (i1+1) h1;refine h_<|aG 0<|o_<|h_<|mv v1<|uh 0 p1 j mh<|ic ((p1.length:Int)) 1000<|i_<|df o (λo=>?_) λo=>?_;exact h_<|aG 2<|i_<|ui<|oi o▸aX ⟨rfl,j.drop 2⟩;refine uz<|h_<|mv v1<|uh 0 p1 j mh<|bI 0<|i_<|uD E V (λ(ah:Unit)=>[rd v0 p0,rd v1 p1]) (λ_=>[]) (λab _=>[(0,v0),(1,v1),(2,v2),(12,v1),(13,vi p1.length),(14,vi ab)]) (λr=>ff aV 46 Tryd.f30 (aA E V r) .ret) o ?_ ?_ ?_ ?_;exact j.sp 2 [1,0];rintro hm ab ah fl _ w hk⟨O,rfl,j⟩o;refine s_<|uj<|bI (ab:Int)<|q_ o λad an o=>ug 1 j kr an λaw j=>uf 0 ad j j3 λax j=>uB j oC.z λay w j=>?_;refine aG (ab:Int)<|uy 0 j 1 zr j3 λw j=>?_;refine i_<|uj<|mv v2<|l_ zr hL<|ue 0 j zr d3 dJ ?_;have j:=j.sc aH ad.Name;refine q_ o λai ao o=>vq 0 zr j zr h2 6 zr zr zr ao λw j=>uo ai<|aY (!ai)<|i_<|df o (λo=>?_) λo=>?_;exact h_<|aG 5<|i_<|uv<|cC<|aI<|oi o▸⟨rfl,aX ⟨rfl,j.drop 6⟩⟩;refine h_<|mv v0<|l_ zr jt<|ue 1 j zr fo dJ<|q_ o λaj aq o=>r_ q6 (fa N (p1:=ad.cI) (i0:=4) j zr aq) λw j=>ic aj 0<|aY (decide<|aj<0)<|i_<|df o (λo=>?_) λo=>?_;exact h_<|aG 9<|i_<|uv<|cC<|aI<|oi o▸⟨rfl,aX ⟨rfl,j.drop 6⟩⟩;refine s_<|q_ o λag hj o=>um (λ(ag:Bool)=>SH E V [(0,v0),(1,v1),(2,v2),(12,v1),(13,vi p1.length),(14,vi ab),(31,vb ag)] [rd v0 p0,rd v1 p1]) ag ?_ ?_;refine u9 mixed ?_;have j:=j.drew;refine u7<|bI (ab:Int)<|j_<|ic ((ab:Int)) 0<|j_<|fe (decide<|(ab:Int)>0)<|dZ hj (λaa hj=>?_) λaa hj=>?_;refine j_<|l_ (hg:=cg aa) zr hL<|j_<|ue (hg:=cg aa) 1 j zr d3 dJ<|j_<|ud v1 (cg aa)<|j_<|ud (vi ab) (cg aa)<|j_<|ux (hg:=cg aa) (ab:Int) 1<|j_ ?_;refine q_ hj λaf ar hj=>ug (hg:=cg aa) 5 j kr ar λaz j=>j_<|uH 0 (cg aa) j zr hL d3 λa0 j=>j_<|uU af.Name 0 (cg aa) j dJ<|j_<|uT (hg:=cg aa) ad.Name af.Name<|j_<|d5 aa (vb<|ad.Name.lD af.Name||ad.Name.fi af.Name)<|j_<|aY (ad.Name.lD af.Name||ad.Name.fi af.Name)<|uW ?_;exact oi hj▸⟨rfl,j.sp 8 [6,7]⟩;refine j_<|bB aa<|j_<|bB aa<|j_<|bB aa<|j_<|bB aa<|j_<|bB aa<|j_<|bB aa<|j_<|bB aa<|j_<|bB aa<|j_<|bB aa ?_;exact j_<|d5 aa (vb false)<|j_<|aY false<|uW<|oi hj▸⟨rfl,j.sp 6 [4,5]⟩;rintro _ w⟨O,rfl,j⟩;refine aC<|df o (λo=>?_) λo=>?_;exact h_<|aG 8<|i_<|uv<|cC<|aI<|oi o▸⟨rfl,aX ⟨rfl,j.drop 2⟩⟩;exact uA<|bP<|bP<|aC<|m_<|uu hk hm<|bI ((ab+1:Nat):Int)<|k_<|oi o▸⟨rfl,j.sp 2 [0,1]⟩;intro r U w o hK;exact aI<|oi o▸hK;rintro ah _ w o⟨O,rfl,j⟩;exact aC<|h_<|aG 0<|i_<|t_<|oi o▸aX ⟨rfl,j.drop 2⟩
theorem fC{p0 p1:aH}(o:Holds E w V)(j:ct N p0 p1=some res):c_ 37 [str p0,str p1] w<|aA E V res:=by
 unfold ct at j;refine enter Tryd.func37 zr zr<|h_<|aG 0<|p_<|mv (str p1)<|uM p1 i7<|aG (p1.aN.length:Int)<|o_<|uj ?_;refine bI (p1.aN.length:Int)<|ic ((p1.aN.length:Int)) 0<|fe ((p1.aN.length:Int)==0)<|uk true ((p1.aN.length:Int)==0) (str p1) rfl rfl rfl di<|uk true ((p1.aN.length:Int)==0) (str p0) rfl rfl rfl di<|uk true ((p1.aN.length:Int)==0) (vb<|p1.fi p0) rfl rfl rfl (n7 (bop:= .eql) p1 p0 rfl (by exact z_ (str p1)) (by exact z_ (str p0)) rfl)<|uG (b:=(p1.aN.length:Int)==0) (v:=vb<|((p1.aN.length:Int)==0)||p1.fi p0) trivial rfl rfl (jD true rfl)<|aY (((p1.aN.length:Int)==0)||p1.fi p0)<|i_ ?_;refine df j (λj=>?_) λj=>?_;exact h_<|aG 0<|i_<|uv<|aI<|oi j▸aX ⟨rfl,o.drop 0⟩;refine h_<|bI (p1.aN.length:Int)<|ic ((p1.aN.length:Int)) 1<|aY ((p1.aN.length:Int)==1)<|i_<|df j (λj=>?_) λj=>?_;refine h_<|mv (str p0)<|mv (str p1)<|q_ j λaa ab j=>vk p1 0 aa zt i7 ab<|q_ j λad ae j=>r_ rM (ef N (p0:=p0) (p1:=(aa.toNat:Int)) o ae) λw o=>aG ad<|i_<|uv<|aI ?_;exact oi j▸aX ⟨rfl,o.drop 0⟩;refine h_<|bI (p1.aN.length:Int)<|mv (str p0)<|uM p0 i7<|ic ((p1.aN.length:Int)) ((p0.aN.length:Int))<|aY (decide<|(p1.aN.length:Int)>=(p0.aN.length:Int))<|i_<|df j (λj=>?_) λj=>?_;exact h_<|aG (-1)<|i_<|uv<|aI<|oi j▸aX ⟨rfl,o.drop 0⟩;cases j
theorem gW{p0 p1:aH}(o:Holds E w V)(j:c8 N p0 p1=some res):c_ 54 [str p0,str p1] w<|aA E V res:=by
 unfold c8 at j;exact enter Tryd.func54 zr zr<|h_<|aG 0<|p_<|mv (str p0)<|mv (str p1)<|q_ j λaa ab j=>r_ rN (fC N (p0:=p0) (p1:=p1) o ab) λw o=>aG aa<|i_<|t_<|oi j▸aX ⟨rfl,o.drop 0⟩
theorem j9{p0 p1:aH}(hw:Holds E w V)(j:ee N p0 p1=some res):c_ 53 [str p0,str p1] w<|aA E V res:=by
 unfold ee at j;refine enter Tryd.func53 zr zr<|h_<|aG 0<|o_<|h_<|mv (str p1)<|uM p1 i7<|ic ((p1.aN.length:Int)) 0<|i_<|df j (λj=>?_) λj=>?_;cases j;refine uz<|h_<|mv (str p1)<|uM p1 i7<|ic ((p1.aN.length:Int)) 1<|i_<|df j (λj=>?_) λj=>?_;refine h_<|mv (str p0)<|mv (str p1)<|q_ j λab ae j=>vk p1 0 ab zt i7 ae<|vH (vi ((Lib.countByte p0.aN (Int.toNat (ab.toNat:Int)).toUInt8:Nat):Int)) zr [str p0,(.int .u8 (ab.toNat:Int))] zr (kX p0 (ab.toNat:Int) w)<|aG ((Lib.countByte p0.aN (Int.toNat (ab.toNat:Int)).toUInt8:Nat):Int)<|i_<|ui ?_;exact oi j▸aX ⟨rfl,hw.drop 0⟩;refine uO<|aG 0<|i_<|vN E V (λ(o:aH×Int)=>[]) (λ_=>[(4,vi 0)]) (λo=>[(0,str o.1),(1,str p1),(5,vi o.2)]) (λr=>ff aV 34 Tryd.f53 (aA E V r) .ret) j ?_ ?_ ?_ ?_;exact hw.sp 0 [];rintro o fl _ w⟨O,rfl,hw⟩j;refine uj<|mv (str o.1)<|mv (str p1)<|q_ j λad af j=>r_ rO (gW N (p0:=o.1) (p1:=p1) hw af) λw hw=>aG ad<|o_<|h_<|bI ad<|ic ad ((-1))<|i_<|df j (λj=>?_) λj=>?_;exact h_<|bI o.2<|aG o.2<|i_<|ui<|cC<|oi j▸⟨rfl,aX ⟨rfl,hw.drop 0⟩⟩;refine uO<|bI o.2<|ux o.2 1<|aG (wrap .i64<|o.2+1)<|i_<|m_<|mv (str o.1)<|bI ad<|mv (str p1) ?_;refine uM p1 i7<|ux ad (p1.aN.length:Int)<|q_ j λag ah j=>vr o.1 zr zr i7 (.inl zr) (.inr ⟨rfl,zr⟩) ah<|dF (str ag)<|k_<|bP ?_;exact oi j▸⟨rfl,hw.sp 0 []⟩;intro r U w j hK;exact oi j▸hK;rintro o _ w j⟨O,rfl,hw⟩;obtain rfl:=oi j;exact oV<|aX ⟨rfl,hw.drop 0⟩
theorem jc{p0 p1:aH}{res:List aH}(o:Holds E w V)(j:dX N p0 p1 p2 p3=some res):c_ 38 [str p0,str p1,vi p2,vi p3] w<|gh E V res:=by
 unfold dX at j;refine enter Tryd.func38 zr zr<|h_<|dF n_<|o_<|h_<|bI p3<|ic p3 0<|i_<|df j (λj=>?_) λj=>?_;refine h_<|dF n_<|i_<|ui ?_;obtain rfl:=oi j;have o:=o.fx aH 9;exact aX<|o.pk 1 [0];refine uz<|h_<|mv (str p1)<|uT p1 ⟨[]⟩<|i_<|df j (λj=>?_) λj=>?_;cases j;refine uz<|h_<|bI p3<|ic p3 0<|i_<|q_ j λaa hj j=>um (λ(aa:Int)=>SH E V [(0,str p0),(1,str p1),(2,vi p2),(3,vi aa)] []) aa ?_ ?_;refine df hj (λhj=>?_) λhj=>?_;refine m_<|mv (str p0)<|mv (str p1)<|q_ hj λag aj hj=>r_ (eR Tryd.func53) (j9 N (p0:=p0) (p1:=p1) o aj) λw o=>ux ag 1<|aG (wrap .i64<|ag+1)<|k_ ?_;exact oi hj▸⟨rfl,o.sp 0 []⟩;exact uA<|oi hj▸⟨rfl,o.sp 0 []⟩;rintro _ w⟨O,rfl,o⟩;refine aC<|h_<|bI aa<|mv (str p0)<|uM p0 i7<|ux (p0.aN.length:Int) 1<|wA (a:=aa) (b:=wrap .i64<|(p0.aN.length:Int)+1) zt zr zr zr<|aG (if wrap .i64 ((p0.aN.length:Int)+1)<aa then wrap .i64 ((p0.aN.length:Int)+1)else aa)<|p_ ?_;refine bI (if wrap .i64 ((p0.aN.length:Int)+1)<aa then wrap .i64 ((p0.aN.length:Int)+1)else aa)<|q_ j λaw ak j=>wu (k:=(if wrap .i64 ((p0.aN.length:Int)+1)<aa then wrap .i64 ((p0.aN.length:Int)+1)else aa)) zt zr o zr zr sL tX ak λaf w o=>?_;refine dF af<|p_<|bI (if wrap .i64 ((p0.aN.length:Int)+1)<aa then wrap .i64 ((p0.aN.length:Int)+1)else aa)<|ux (if wrap .i64 ((p0.aN.length:Int)+1)<aa then wrap .i64 ((p0.aN.length:Int)+1)else aa) 1<|aG (wrap .i64<|(if wrap .i64 ((p0.aN.length:Int)+1)<aa then wrap .i64 ((p0.aN.length:Int)+1)else aa) - 1)<|p_<|aG 0<|o_<|vA E V (λ(ab:aH×List aH×Int)=>[own 9 af ab.2.1]) (λab=>[(0,str ab.1),(9,af),(10,vi ab.2.2)]) (λ_=>[(1,str p1),(2,vi p2),(3,vi<|wrap .i64<|(if wrap .i64 ((p0.aN.length:Int)+1)<aa then wrap .i64 ((p0.aN.length:Int)+1)else aa) - 1)]) j ?_ ?_ ?_;exact o.sp 1 [0];rintro ab fl _ w⟨O,rfl,o⟩j;refine s_<|h_<|bI ab.2.2<|bI (wrap .i64<|(if wrap .i64 ((p0.aN.length:Int)+1)<aa then wrap .i64 ((p0.aN.length:Int)+1)else aa) - 1)<|ic ab.2.2 (wrap .i64<|(if wrap .i64 ((p0.aN.length:Int)+1)<aa then wrap .i64 ((p0.aN.length:Int)+1)else aa) - 1)<|i_<|df j (λj=>?_) λj=>?_;refine uN<|uj<|mv (str ab.1)<|mv (str p1)<|q_ j λae al j=>r_ rO (gW N (p0:=ab.1) (p1:=p1) o al) λw o=>aG ae<|o_<|h_<|bI ae<|ic ae 0<|i_<|df j (λj=>?_) λj=>?_;refine uZ<|qM (by decide) ?_;exact oi j▸⟨rfl,o.sp 1 [0]⟩;refine uO<|mv af<|bI ab.2.2<|mv (str ab.1)<|bI ae<|bI p2<|ux ae p2<|q_ j λan ao j=>vr ab.1 zr zr i7 (.inr ⟨rfl,zr⟩) (.inl zr) ao<|q_ j λay ah j=>uV 0 o zr zr i9 ah ?_;have o:=o.sc aH an;refine wb 1 0 o ah dJ λw o=>?_;refine p_<|mv (str ab.1)<|bI ae<|mv (str p1)<|uM p1 i7<|ux ae (p1.aN.length:Int)<|q_ j λaq ar j=>vr ab.1 zr zr i7 (.inl zr) (.inr ⟨rfl,zr⟩) ar<|dF (str aq)<|i_<|m_<|bI ab.2.2<|ux ab.2.2 1<|aG (wrap .i64<|ab.2.2+1)<|k_<|bP ?_;exact oi j▸⟨rfl,o.sp 2 [1]⟩;exact uZ<|oi j▸⟨rfl,o.sp 1 [0]⟩;rintro ab _ w j⟨O,rfl,o⟩;refine aC<|h_<|mv af<|bI ab.2.2<|mv (str ab.1)<|q_ j λaz ai j=>uV 0 o zr zr i9 ai ?_;have o:=o.sc aH ab.1;refine wb 1 0 o ai dJ λw o=>?_;refine p_<|mv af<|bI ab.2.2<|ux ab.2.2 1<|q_ j λa0 au j=>wt (i:=1) zt zr o zr zr i9 (.inr ⟨rfl,zr⟩) (.inl zr) au λav o=>dF av<|i_<|t_ ?_;obtain rfl:=oi j;exact aX<|o.pk 2 [1]
end Go.Gk
