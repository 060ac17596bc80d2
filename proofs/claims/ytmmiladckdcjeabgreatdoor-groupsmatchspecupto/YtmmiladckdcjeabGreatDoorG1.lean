/-
  Printed texts: Go functions as plain functions, and that they are. No statement of the seed is proved here.
-/
import Derived.Test.YtmmiladckdcjeabGreatDoorProg
import Derived.Test.YtmmiladckdcjeabGreatDoorE1
import Derived.Test.YtmmiladckdcjeabGreatDoorA1
import Derived.Test.YtmmiladckdcjeabGreatDoorA2
import Derived.Test.YtmmiladckdcjeabGreatDoorRows
import Derived.Shelf.SlGeneric
import Derived.Ground.SlsfProg
import Derived.Ground.SlgmProg
set_option linter.unusedVariables false
set_option linter.unusedSimpArgs false
set_option linter.unusedSectionVars false
set_option maxRecDepth 100000
set_option maxHeartbeats 4000000
namespace Go.Gk
open Go Go.Proofs
noncomputable abbrev bN:=Tryz.prog
def nK (x:aI):=(x.X0,x.Y0,x.X1,x.Y1)
instance instGTRect:GT aI:=GT.via nK
instance instKVRect:KV aI:=instKVvia (fun(x:aI)=>(x.X0,x.Y0,x.X1,x.Y1))
theorem dQ:Fd 0 (fun x:aI=>x.X0):= .v nK (.fst .self)
theorem pf:Fs 0 Int (fun(x:aI) y=>{x with X0:=y}):= .v nK (.fst .self)
theorem dH:Fd 1 (fun x:aI=>x.Y0):= .v nK (.snd (.fst .self))
theorem qC:Fs 1 Int (fun(x:aI) y=>{x with Y0:=y}):= .v nK (.snd (.fst .self))
theorem eJ:Fd 2 (fun x:aI=>x.X1):= .v nK (.snd (.snd (.fst .self)))
theorem pg:Fs 2 Int (fun(x:aI) y=>{x with X1:=y}):= .v nK (.snd (.snd (.fst .self)))
theorem fJ:Fd 3 (fun x:aI=>x.Y1):= .v nK (.snd (.snd (.snd (.self))))
theorem qD:Fs 3 Int (fun(x:aI) y=>{x with Y1:=y}):= .v nK (.snd (.snd (.snd (.self))))
def yE (x:jw):=(x.X,x.Y)
instance instGTPoint:GT jw:=GT.via yE
instance instKVPoint:KV jw:=instKVvia (fun(x:jw)=>(x.X,x.Y))
theorem nZ:Fd 0 (fun x:jw=>x.X):= .v yE (.fst .self)
theorem n0:Fd 1 (fun x:jw=>x.Y):= .v yE (.snd (.self))
def qN (x:cA):=(x.At,x.dG,x.cO,x.To,x.fY)
instance instGTBore:GT cA:=GT.via qN
theorem qE:Fd 0 (fun x:cA=>x.At):= .v qN (.fst .self)
theorem mb:Fd 2 (fun x:cA=>x.dG):= .v qN (.snd (.fst .self))
theorem Gs:Fs 2 Int (fun(x:cA) y=>{x with dG:=y}):= .v qN (.snd (.fst .self))
theorem kF:Fd 3 (fun x:cA=>x.cO):= .v qN (.snd (.snd (.fst .self)))
theorem mc:Fd 4 (fun x:cA=>x.To):= .v qN (.snd (.snd (.snd (.fst .self))))
theorem qF:Fd 5 (fun x:cA=>x.fY):= .v qN (.snd (.snd (.snd (.snd (.self)))))
def uU (x:eQ):=(x.Part,x.dB,x.cU,x.At)
instance instGTLand:GT eQ:=GT.via uU
theorem nn:Fd 0 (fun x:eQ=>x.Part):= .v uU (.fst .self)
theorem ph:Fd 1 (fun x:eQ=>x.dB):= .v uU (.snd (.fst .self))
theorem qG:Fd 2 (fun x:eQ=>x.cU):= .v uU (.snd (.snd (.fst .self)))
theorem qH:Fd 3 (fun x:eQ=>x.At):= .v uU (.snd (.snd (.snd (.self))))
def xG (x:kY):=(x.aJ,x.cI,x.aN,x.bM)
instance instGTArt:GT kY:=GT.via xG
theorem jf:Fd 0 (fun x:kY=>x.aJ):= .v xG (.fst .self)
theorem sF:Fd 1 (fun x:kY=>x.cI):= .v xG (.snd (.fst .self))
theorem gM:Fd 2 (fun x:kY=>x.aN):= .v xG (.snd (.snd (.fst .self)))
theorem lu:Fd 3 (fun x:kY=>x.bM):= .v xG (.snd (.snd (.snd (.self))))
def kl (x:aA):=(x.Y0,x.Y1,x.Xs)
instance instGTshape_Band:GT aA:=GT.via kl
theorem ik:Fd 0 (fun x:aA=>x.Y0):= .v kl (.fst .self)
theorem ui:Fs 0 Int (fun(x:aA) y=>{x with Y0:=y}):= .v kl (.fst .self)
theorem fS:Fd 1 (fun x:aA=>x.Y1):= .v kl (.snd (.fst .self))
theorem pX:Fs 1 Int (fun(x:aA) y=>{x with Y1:=y}):= .v kl (.snd (.fst .self))
theorem eC:Fd 2 (fun x:aA=>x.Xs):= .v kl (.snd (.snd (.self)))
theorem uj:Fs 2 (List Int) (fun(x:aA) y=>{x with Xs:=y}):= .v kl (.snd (.snd (.self)))
def vD (x:dB):=(x.Part,x.dB)
instance instGTPin:GT dB:=GT.via vD
instance instKVPin:KV dB:=instKVvia (fun(x:dB)=>(x.Part,x.dB))
theorem DR:Fd 0 (fun x:dB=>x.Part):= .v vD (.fst .self)
theorem Ar:Fs 0 eI (fun(x:dB) y=>{x with Part:=y}):= .v vD (.fst .self)
theorem DS:Fd 1 (fun x:dB=>x.dB):= .v vD (.snd (.self))
theorem As:Fs 1 eI (fun(x:dB) y=>{x with dB:=y}):= .v vD (.snd (.self))
def kd (x:aK):=(x.cU,x.Set,x.iQ)
instance instGTcopper_Piece:GT aK:=GT.via kd
theorem rP:Fd 0 (fun x:aK=>x.cU):= .v kd (.fst .self)
theorem xH:Fs 0 Int (fun(x:aK) y=>{x with cU:=y}):= .v kd (.fst .self)
theorem xI:Fs 1 (List aA) (fun(x:aK) y=>{x with Set:=y}):= .v kd (.snd (.fst .self))
theorem rQ:Fd 2 (fun x:aK=>x.iQ):= .v kd (.snd (.snd (.self)))
theorem xJ:Fs 2 (List aI) (fun(x:aK) y=>{x with iQ:=y}):= .v kd (.snd (.snd (.self)))
def vE (x:bQ):=(x.gN,x.aN,x.eE)
instance instGTGroup:GT bQ:=GT.via vE
theorem tE:Fd 0 (fun x:bQ=>x.gN):= .v vE (.fst .self)
theorem wN:Fd 1 (fun x:bQ=>x.aN):= .v vE (.snd (.fst .self))
theorem pj:Fd 2 (fun x:bQ=>x.eE):= .v vE (.snd (.snd (.self)))
def xK (x:ka):=(x.cA,x.Number)
instance instGTHop:GT ka:=GT.via xK
instance instKVHop:KV ka:=instKVvia (fun(x:ka)=>(x.cA,x.Number))
theorem qO:Fd 0 (fun x:ka=>x.cA):= .v xK (.fst .self)
theorem DT:Fs 0 Bool (fun(x:ka) y=>{x with cA:=y}):= .v xK (.fst .self)
theorem pF:Fd 1 (fun x:ka=>x.Number):= .v xK (.snd (.self))
theorem xL:Fs 1 Int (fun(x:ka) y=>{x with Number:=y}):= .v xK (.snd (.self))
def gI (x:aG):=(x.from_,x.to)
instance instGTetchhouseref1_span:GT aG:=GT.via gI
instance instKVetchhouseref1_span:KV aG:=instKVvia (fun(x:aG)=>(x.from_,x.to))
theorem eK:Fd 0 (fun x:aG=>x.from_):= .v gI (.fst .self)
theorem lv:Fs 0 Int (fun(x:aG) y=>{x with from_:=y}):= .v gI (.fst .self)
theorem eL:Fd 1 (fun x:aG=>x.to):= .v gI (.snd (.self))
theorem lz:Fs 1 Int (fun(x:aG) y=>{x with to:=y}):= .v gI (.snd (.self))
def fQ (x:aL):=(x.from_,x.to,x.ja)
instance instGTetchhouseref1_band:GT aL:=GT.via fQ
theorem om:Fd 0 (fun x:aL=>x.from_):= .v fQ (.fst .self)
theorem oq:Fs 0 Int (fun(x:aL) y=>{x with from_:=y}):= .v fQ (.fst .self)
theorem lA:Fd 1 (fun x:aL=>x.to):= .v fQ (.snd (.fst .self))
theorem lB:Fs 1 Int (fun(x:aL) y=>{x with to:=y}):= .v fQ (.snd (.fst .self))
theorem gp:Fd 2 (fun x:aL=>x.ja):= .v fQ (.snd (.snd (.self)))
theorem ot:Fs 2 (List aG) (fun(x:aL) y=>{x with ja:=y}):= .v fQ (.snd (.snd (.self)))
theorem HB (M:eO):GT.ok M (#[(.string ⟨#[]⟩),(.string ⟨#[]⟩)]:Array Value).toList (⟨⟨[]⟩,⟨[]⟩⟩:dB):=⟨[(.string ⟨#[]⟩)],[(.string ⟨#[]⟩)],rfl,(show GT.ok M [(.string ⟨#[]⟩)] (⟨[]⟩:eI) from rfl),(show GT.ok M [(.string ⟨#[]⟩)] (⟨[]⟩:eI) from rfl)⟩
theorem tF (M:eO):GT.ok M (#[(.int .i64 0),(.int .i64 0),(.int .i64 0),(.int .i64 0)]:Array Value).toList (⟨0,0,0,0⟩:aI):=⟨[(.int .i64 0)],[(.int .i64 0),(.int .i64 0),(.int .i64 0)],rfl,(show GT.ok M [(.int .i64 0)] (0:Int) from rfl),⟨[(.int .i64 0)],[(.int .i64 0),(.int .i64 0)],rfl,(show GT.ok M [(.int .i64 0)] (0:Int) from rfl),⟨[(.int .i64 0)],[(.int .i64 0)],rfl,(show GT.ok M [(.int .i64 0)] (0:Int) from rfl),(show GT.ok M [(.int .i64 0)] (0:Int) from rfl)⟩⟩⟩
theorem IY (M:eO):GT.ok M (#[(.int .i64 0),(.int .i64 0)]:Array Value).toList (⟨0,0⟩:jw):=⟨[(.int .i64 0)],[(.int .i64 0)],rfl,(show GT.ok M [(.int .i64 0)] (0:Int) from rfl),(show GT.ok M [(.int .i64 0)] (0:Int) from rfl)⟩
theorem Kd (M:eO):GT.ok M (#[(.int .i64 0),(.int .i64 0),(.int .i64 0),(.int .i64 0),(.int .i64 0),(.bool false)]:Array Value).toList (⟨⟨0,0⟩,0,0,0,false⟩:cA):=⟨[(.int .i64 0),(.int .i64 0)],[(.int .i64 0),(.int .i64 0),(.int .i64 0),(.bool false)],rfl,(show GT.ok M [(.int .i64 0),(.int .i64 0)] (⟨0,0⟩:jw) from IY M),⟨[(.int .i64 0)],[(.int .i64 0),(.int .i64 0),(.bool false)],rfl,(show GT.ok M [(.int .i64 0)] (0:Int) from rfl),⟨[(.int .i64 0)],[(.int .i64 0),(.bool false)],rfl,(show GT.ok M [(.int .i64 0)] (0:Int) from rfl),⟨[(.int .i64 0)],[(.bool false)],rfl,(show GT.ok M [(.int .i64 0)] (0:Int) from rfl),(show GT.ok M [(.bool false)] (false:Bool) from rfl)⟩⟩⟩⟩
theorem B6 (M:eO):GT.ok M (#[(.bool false),(.int .i64 0)]:Array Value).toList (⟨false,0⟩:ka):=⟨[(.bool false)],[(.int .i64 0)],rfl,(show GT.ok M [(.bool false)] (false:Bool) from rfl),(show GT.ok M [(.int .i64 0)] (0:Int) from rfl)⟩
theorem Au (M:eO):GT.ok M (#[(.int .i64 0),(.slice none 0 0),(.slice none 0 0)]:Array Value).toList (⟨0,[],[]⟩:aK):=⟨[(.int .i64 0)],[(.slice none 0 0),(.slice none 0 0)],rfl,(show GT.ok M [(.int .i64 0)] (0:Int) from rfl),⟨[(.slice none 0 0)],[(.slice none 0 0)],rfl,(show GT.ok M [(.slice none 0 0)] ([]: (List aA)) from ⟨_,rfl,none,0,0,rfl,rfl,bW _,by simp [maxLen],fun _ _ h=>by simp at h⟩),(show GT.ok M [(.slice none 0 0)] ([]: (List aI)) from ⟨_,rfl,none,0,0,rfl,rfl,bW _,by simp [maxLen],fun _ _ h=>by simp at h⟩)⟩⟩
theorem xM (M:eO):GT.ok M (#[(.int .i64 0),(.int .i64 0),(.slice none 0 0)]:Array Value).toList (⟨0,0,[]⟩:aA):=⟨[(.int .i64 0)],[(.int .i64 0),(.slice none 0 0)],rfl,(show GT.ok M [(.int .i64 0)] (0:Int) from rfl),⟨[(.int .i64 0)],[(.slice none 0 0)],rfl,(show GT.ok M [(.int .i64 0)] (0:Int) from rfl),(show GT.ok M [(.slice none 0 0)] ([]: (List Int)) from ⟨_,rfl,none,0,0,rfl,rfl,bW _,by simp [maxLen],fun _ _ h=>by simp at h⟩)⟩⟩
theorem pG (M:eO):GT.ok M (#[(.int .i64 0),(.int .i64 0),(.slice none 0 0)]:Array Value).toList (⟨0,0,[]⟩:aL):=⟨[(.int .i64 0)],[(.int .i64 0),(.slice none 0 0)],rfl,(show GT.ok M [(.int .i64 0)] (0:Int) from rfl),⟨[(.int .i64 0)],[(.slice none 0 0)],rfl,(show GT.ok M [(.int .i64 0)] (0:Int) from rfl),(show GT.ok M [(.slice none 0 0)] ([]: (List aG)) from ⟨_,rfl,none,0,0,rfl,rfl,bW _,by simp [maxLen],fun _ _ h=>by simp at h⟩)⟩⟩
theorem pH (M:eO):GT.ok M (#[(.int .i64 0),(.int .i64 0)]:Array Value).toList (⟨0,0⟩:aG):=⟨[(.int .i64 0)],[(.int .i64 0)],rfl,(show GT.ok M [(.int .i64 0)] (0:Int) from rfl),(show GT.ok M [(.int .i64 0)] (0:Int) from rfl)⟩
structure aT where
  gN: (List Int)
  aN: (List Int)
  eE:RV
  deriving Inhabited
def oQ (x:aT):=(x.gN,x.aN,x.eE)
instance instGTGroup_r2:GT aT:=GT.via oQ
theorem wk:Fd 0 (fun x:aT=>x.gN):= .v oQ (.fst .self)
theorem BH:Fd 1 (fun x:aT=>x.aN):= .v oQ (.snd (.fst .self))
theorem BJ:Fd 2 (fun x:aT=>x.eE):= .v oQ (.snd (.snd (.self)))
theorem BK:Fs 2 RV (fun(x:aT) y=>{x with eE:=y}):= .v oQ (.snd (.snd (.self)))
def aV:XT aT bQ:=⟨fun u x=>u.gN=x.gN/\u.aN=x.aN,fun M h u x=>(u.gN=x.gN/\u.aN=x.aN)/\wG 64 M h u.eE.v x.eE,fun{M M' h u x} hk hh=>⟨hh.1,(own 64 u.eE.v x.eE).mono hk hh.2⟩,fun h=>h.1⟩
theorem ou:XO aV 64 2 (fun u=>u.eE) (fun u r=>{u with eE:=r}) (fun x=>x.eE) (fun x y=>{x with eE:=y}):=⟨BJ,BK,by decide,fun h=>h.2,fun hr ho=>⟨hr,ho⟩⟩
theorem xN (M h:eO) (u:aT) (x:bQ) (cs:List Value) (hd: ∀b o,h b=some o->M b=none) (hx:aV.ok M h u x) (hc:GT.ok M cs u):GT.ok (rA M h) cs x:=by
  obtain⟨⟨e0,e1⟩,ho⟩:=hx
  obtain⟨c0,d0,hd0,a0,c1,d1,hd1,a1,a2⟩:=hc
  exact⟨c0,d0,hd0,GT.mono (vB M h) (show GT.ok M c0 x.gN from e0▸(show GT.ok M c0 u.gN from a0)),⟨c1,d1,hd1,GT.mono (vB M h) (show GT.ok M c1 x.aN from e1▸(show GT.ok M c1 u.aN from a1)),⟨u.eE.v,a2,wG.sl hd ho⟩⟩⟩
theorem ux:oH bN 27 true 4:=yw
theorem mL:oK bN 27 0 0:=pW
theorem pY:oH bN 22 false 1:=yw
theorem qP:Tryz.prog.underlying 22=some (.slice 23):=by kernel_rfl
theorem CI:oK bN 27 1 1:=pW
theorem uy:oH bN 23 false 1:=yw
theorem nC:Tryz.prog.underlying 23=some (.slice 69):=by kernel_rfl
theorem uV:wH bN 22 23 1:=DQ
theorem jm:wH bN 23 69 4:=DQ
theorem iK:oH bN 69 true 4:=yw
theorem oR:Dn bN 69 4:=E4 (.agg #[(.int .i64 0),(.int .i64 0),(.int .i64 0),(.int .i64 0)])
theorem iw:oK bN 69 0 0:=pW
theorem cL:oH bN 3 false 1:=yw
theorem K0:hU bN 111:=iP Tryz.func111
theorem Gt:hU bN 74:=iP Tryz.func74
theorem g8:oK bN 69 1 1:=pW
theorem jo:oK bN 69 2 2:=pW
theorem kA:oK bN 69 3 3:=pW
theorem K1:hU bN 84:=iP Tryz.func84
theorem Mu:hU bN 44:=iP Tryz.func44
theorem mixed:Tryz.prog.follows .mixedOrders=true:=by kernel_rfl
theorem Av:ug bN 23 69 4 32:=ug.of (.agg #[(.int .i64 0),(.int .i64 0),(.int .i64 0),(.int .i64 0)])
theorem Mv:hU bN 75:=iP Tryz.func75
theorem Mw:hU bN 77:=iP Tryz.func77
theorem K2:hU bN 76:=iP Tryz.func76
theorem K3:Mp bN 36 [(.slice none 0 0)]:=⟨(.slice none 0 0),fun _=>by kernel_rfl,rfl⟩
theorem eV:oH bN 36 false 1:=yw
theorem eF:wH bN 36 3 1:=DQ
theorem Dd:Dn bN 3 1:=E4 (.int .i64 0)
theorem rC:ug bN 36 3 1 8:=ug.of (.int .i64 0)
theorem Mx:hU bN 78:=iP Tryz.func78
theorem mB:Tryz.prog.underlying 36=some (.slice 3):=by kernel_rfl
theorem K4:Hc bN 3 (0:Int):=Hc.of (.int .i64 0) (fun M=>rfl)
theorem My:hU bN 79:=iP Tryz.func79
theorem K5:hU bN 94:=iP Tryz.func94
theorem Mz:Hc bN 69 (⟨0,0,0,0⟩:aI):=Hc.of (.agg #[(.int .i64 0),(.int .i64 0),(.int .i64 0),(.int .i64 0)]) (fun M=>(tF M))
theorem MA:hU bN 81:=iP Tryz.func81
theorem MB:hU bN 80:=iP Tryz.func80
theorem K6:hU bN 115:=iP Tryz.func115
theorem MC:hU bN 83:=iP Tryz.func83
theorem Jy:xt bN 126 [(0,1),(1,1),(2,1)] #[(.int .i64 0),(.int .i64 0),(.slice none 0 0)]:=xt.of (.agg #[(.int .i64 0),(.int .i64 0),(.slice none 0 0)]) Tryz.underlying126
theorem mq:oK bN 126 2 2:=pW
theorem nU:oK bN 126 1 1:=pW
theorem ql:oK bN 126 0 0:=pW
theorem vW:Tryz.prog.underlying 91=some (.slice 126):=by kernel_rfl
theorem pZ:wH bN 91 126 3:=DQ
theorem Ke:hU bN 18:=iP Tryz.func18
theorem xO:oH bN 126 true 3:=yw
theorem DU:Dn bN 126 3:=E4 (.agg #[(.int .i64 0),(.int .i64 0),(.slice none 0 0)])
theorem MD:ug bN 91 126 3 40:=ug.of (.agg #[(.int .i64 0),(.int .i64 0),(.slice none 0 0)])
theorem K7:hU bN 82:=iP Tryz.func82
theorem HC:hU bN 42:=iP Tryz.func42
theorem DV:xt bN 69 [(0,1),(1,1),(2,1),(3,1)] #[(.int .i64 0),(.int .i64 0),(.int .i64 0),(.int .i64 0)]:=xt.of (.agg #[(.int .i64 0),(.int .i64 0),(.int .i64 0),(.int .i64 0)]) Tryz.underlying69
theorem Kf:hU bN 46:=iP Tryz.func46
theorem Kg:Tryz.prog.underlying 3=some (.int .i64):=by kernel_rfl
theorem HD:J3 bN 69 aI:=⟨fun M cs ds a b w ha hb=>by
  obtain⟨_,_,rfl,rfl,⟨_,_,rfl,rfl,⟨_,_,rfl,rfl,rfl⟩⟩⟩:=ha
  obtain⟨_,_,rfl,rfl,⟨_,_,rfl,rfl,⟨_,_,rfl,rfl,rfl⟩⟩⟩:=hb
  refine(pd 9999 Tryz.underlying69 (ES.cons (by decide) (i6 cL _) (i6 cL _) (nX Kg _ _ w) (ES.cons (by decide) (i6 cL _) (i6 cL _) (nX Kg _ _ w) (ES.cons (by decide) (i6 cL _) (i6 cL _) (nX Kg _ _ w) (ES.cons (by decide) (i6 cL _) (i6 cL _) (nX Kg _ _ w) ES.nil))))).trans ?_
  congr 1
  cases a;cases b;unfold nK
  rw [eX]
  simp,by kernel_rfl⟩
theorem ME:hU bN 45:=iP Tryz.func45
theorem K8:hU bN 21:=iP Tryz.func21
theorem iz:oK bN 27 2 2:=pW
theorem n7:oH bN 24 false 1:=yw
theorem wO:Tryz.prog.underlying 24=some (.slice 73):=by kernel_rfl
theorem qQ:wH bN 24 73 6:=DQ
theorem mj:oH bN 73 true 6:=yw
theorem E5:Dn bN 73 6:=E4 (.agg #[(.int .i64 0),(.int .i64 0),(.int .i64 0),(.int .i64 0),(.int .i64 0),(.bool false)])
theorem r6:oK bN 73 1 2:=pW
theorem IZ:hU bN 40:=iP Tryz.func40
theorem yF:oK bN 73 0 0:=pW
theorem DW:oH bN 60 true 2:=yw
theorem wP:oK bN 60 0 0:=pW
theorem wQ:oK bN 60 1 1:=pW
theorem K9:hU bN 41:=iP Tryz.func41
theorem Gu:hU bN 25:=iP Tryz.func25
theorem MF:hU bN 85:=iP Tryz.func85
theorem MG:hU bN 43:=iP Tryz.func43
theorem Lb:hU bN 20:=iP Tryz.func20
theorem p4:oK bN 73 2 3:=pW
theorem r7:oK bN 73 3 4:=pW
theorem MH:hU bN 22:=iP Tryz.func22
theorem n8:oK bN 27 3 3:=pW
theorem wR:oH bN 25 false 1:=yw
theorem DX:Tryz.prog.underlying 25=some (.slice 62):=by kernel_rfl
theorem BL:wH bN 25 62 5:=DQ
theorem r8:oH bN 62 true 5:=yw
theorem Gv:Dn bN 62 5:=E4 (.agg #[(.string ⟨#[]⟩),(.string ⟨#[]⟩),(.int .i64 0),(.int .i64 0),(.int .i64 0)])
theorem tG:oK bN 62 0 0:=pW
theorem yx:oH bN 9 false 1:=yw
theorem Aw:Tryz.prog.underlying 9=some (.string):=by kernel_rfl
theorem xz (a:eI) (b:Int) (w:World): (callFunc 163 [(str a),(.int .u8 b)].toArray).run bN w = .ok (.value (vi ((Lib.countByte a.cY (Int.toNat b).toUInt8:Nat):Int))) w:=Aj Extern.BytealgCount.count Tryz.func163 (Lib.run_countString _ _ w)
theorem uR (a:eI) (b:Int) (w:World): (callFunc 150 [(str a),(.int .u8 b)].toArray).run bN w = .ok (.value (vi (Lib.indexByte a.cY (Int.toNat b).toUInt8))) w:=Aj Extern.BytealgIndexByte.indexByte Tryz.func150 (Lib.run_indexByteString _ _ w)
theorem Jz:hU bN 118:=iP Tryz.func118
theorem Lc:hU bN 164:=iP Tryz.func164
theorem JA:hU bN 149:=iP Tryz.func149
theorem Ld:hU bN 148:=iP Tryz.func148
theorem Le:ug bN 129 9 1 16:=ug.of (.string ⟨#[]⟩)
theorem NR:Hc bN 9 (⟨[]⟩:eI):=Hc.of (.string ⟨#[]⟩) (fun M=>rfl)
theorem DY:wH bN 129 9 1:=DQ
theorem Lg:hU bN 117:=iP Tryz.func117
theorem Lh:hU bN 87:=iP Tryz.func87
theorem JB:Tryz.prog.underlying 129=some (.slice 9):=by kernel_rfl
theorem Li:hU bN 116:=iP Tryz.func116
theorem Lj:hU bN 89:=iP Tryz.func89
theorem Ll:hU bN 48:=iP Tryz.func48
theorem MI:hU bN 88:=iP Tryz.func88
theorem MJ:hU bN 86:=iP Tryz.func86
theorem MK:hU bN 47:=iP Tryz.func47
theorem wS:oK bN 62 1 1:=pW
theorem yG:oK bN 62 2 2:=pW
theorem yH:oK bN 62 3 3:=pW
theorem HE:Dn bN 64 2:=E4 (.agg #[(.string ⟨#[]⟩),(.string ⟨#[]⟩)])
theorem Kh:xt bN 64 [(0,1),(1,1)] #[(.string ⟨#[]⟩),(.string ⟨#[]⟩)]:=xt.of (.agg #[(.string ⟨#[]⟩),(.string ⟨#[]⟩)]) Tryz.underlying64
theorem I0:oH bN 64 true 2:=yw
theorem I1:hU bN 16:=iP Tryz.func16
theorem HF:oK bN 64 0 0:=pW
theorem Hx (a b:eI) (w:World): (callFunc 151 [(str a),(str b)].toArray).run bN w = .ok (.value (vi (Lib.compareBytes a.cY b.cY))) w:=Aj Extern.BytealgCompare.compare Tryz.func151 (Lib.run_compareString _ _ w)
theorem Lm:hU bN 119:=iP Tryz.func119
theorem Ln:hU bN 90:=iP Tryz.func90
theorem HG:oK bN 64 1 1:=pW
theorem ML:hU bN 49:=iP Tryz.func49
theorem MM:hU bN 23:=iP Tryz.func23
theorem Lo:hU bN 50:=iP Tryz.func50
theorem MN:hU bN 24:=iP Tryz.func24
theorem MO:xt bN 53 [(0,4),(4,1),(5,1),(6,1),(7,1),(8,1),(9,1),(10,1),(11,1)] #[(.slice none 0 0),(.slice none 0 0),(.slice none 0 0),(.slice none 0 0),(.slice none 0 0),(.slice none 0 0),(.slice none 0 0),(.slice none 0 0),(.slice none 0 0),(.slice none 0 0),(.slice none 0 0),(.slice none 0 0)]:=xt.of (.agg #[(.slice none 0 0),(.slice none 0 0),(.slice none 0 0),(.slice none 0 0),(.slice none 0 0),(.slice none 0 0),(.slice none 0 0),(.slice none 0 0),(.slice none 0 0),(.slice none 0 0),(.slice none 0 0),(.slice none 0 0)]) Tryz.underlying53
theorem tH:oK bN 53 0 0:=pW
theorem Ki:hU bN 51:=iP Tryz.func51
theorem HH:wH bN 48 91 1:=DQ
theorem Kj:Dn bN 91 1:=E4 (.slice none 0 0)
theorem Lp:Tryz.prog.underlying 48=some (.slice 91):=by kernel_rfl
theorem Lq:oH bN 91 false 1:=yw
theorem JC:hU bN 120:=iP Tryz.func120
theorem NS:Tryz.prog.underlying 4=some (.bool):=by kernel_rfl
theorem Lr:hU bN 121:=iP Tryz.func121
theorem MP:hU bN 92:=iP Tryz.func92
theorem MQ:hU bN 91:=iP Tryz.func91
theorem MR:hU bN 52:=iP Tryz.func52
theorem MS:hU bN 53:=iP Tryz.func53
theorem HI:oK bN 53 1 4:=pW
theorem Ls:oH bN 48 false 1:=yw
theorem Lt:ug bN 48 91 1 24:=ug.of (.slice none 0 0)
theorem Kk:hU bN 93:=iP Tryz.func93
theorem DZ:Gn bN 136 3 3 Int Int (0:Int):=⟨by kernel_rfl,(BF.int Kg),IM (Z:=(.int .i64 0)) (by kernel_rfl) (fun M=>⟨_,rfl,rfl⟩)⟩
theorem Kl:Dn bN 23 1:=E4 (.slice none 0 0)
theorem HJ:ug bN 22 23 1 24:=ug.of (.slice none 0 0)
theorem MT:hU bN 54:=iP Tryz.func54
theorem yI:oK bN 53 2 5:=pW
theorem Gw:oH bN 49 false 1:=yw
theorem Lu:xt bN 102 [(0,1),(1,1),(2,1)] #[(.int .i64 0),(.slice none 0 0),(.slice none 0 0)]:=xt.of (.agg #[(.int .i64 0),(.slice none 0 0),(.slice none 0 0)]) Tryz.underlying102
theorem Km:wH bN 49 102 3:=DQ
theorem HK:Dn bN 102 3:=E4 (.agg #[(.int .i64 0),(.slice none 0 0),(.slice none 0 0)])
theorem MU:ug bN 49 102 3 56:=ug.of (.agg #[(.int .i64 0),(.slice none 0 0),(.slice none 0 0)])
theorem I2:Tryz.prog.underlying 49=some (.slice 102):=by kernel_rfl
theorem MV:hU bN 26:=iP Tryz.func26
theorem MW:hU bN 57:=iP Tryz.func57
theorem FQ:oH bN 102 true 3:=yw
theorem yJ:oK bN 73 4 5:=pW
theorem Ax:oH bN 4 false 1:=yw
theorem FR:oK bN 102 0 0:=pW
theorem FT:oK bN 102 2 2:=pW
theorem MX:hU bN 56:=iP Tryz.func56
theorem Lv:hU bN 55:=iP Tryz.func55
theorem E6:oK bN 53 3 6:=pW
theorem zU:oH bN 50 false 1:=yw
theorem Ay:wH bN 50 36 1:=DQ
theorem Kn:Dn bN 36 1:=E4 (.slice none 0 0)
theorem Ko:ug bN 50 36 1 24:=ug.of (.slice none 0 0)
theorem MY:hU bN 27:=iP Tryz.func27
theorem Lw:xt bN 140 [(0,1)] #[(.slice none 0 0)]:=xt.of (.agg #[(.slice none 0 0)]) Tryz.underlying140
theorem qm:oK bN 140 0 0:=pW
theorem MZ:hU bN 58:=iP Tryz.func58
theorem Gx:Tryz.prog.underlying 50=some (.slice 36):=by kernel_rfl
theorem Kp:hU bN 95:=iP Tryz.func95
theorem M1:hU bN 59:=iP Tryz.func59
theorem E7:oK bN 53 5 8:=pW
theorem CJ:oK bN 53 6 9:=pW
theorem M3:hU bN 60:=iP Tryz.func60
theorem Kq:Mp bN 39 [(.slice none 0 0),(.slice none 0 0),(.slice none 0 0)]:=⟨(.agg #[(.slice none 0 0),(.slice none 0 0),(.slice none 0 0)]),fun _=>by kernel_rfl,rfl⟩
theorem uW:oK bN 53 4 7:=pW
theorem pI:oH bN 28 false 1:=yw
theorem CK:Tryz.prog.underlying 28=some (.slice 39):=by kernel_rfl
theorem qR:oK bN 39 0 0:=pW
theorem tI:oK bN 39 1 1:=pW
theorem yK:oH bN 39 true 3:=yw
theorem uz:wH bN 28 39 3:=DQ
theorem Gy:Dn bN 39 3:=E4 (.agg #[(.slice none 0 0),(.slice none 0 0),(.slice none 0 0)])
theorem Kr:ug bN 28 39 3 72:=ug.of (.agg #[(.slice none 0 0),(.slice none 0 0),(.slice none 0 0)])
theorem Gz:Dn bN 84 2:=E4 (.agg #[(.bool false),(.int .i64 0)])
theorem Lx:hU bN 122:=iP Tryz.func122
theorem Ly:hU bN 96:=iP Tryz.func96
theorem GA:xt bN 84 [(0,1),(1,1)] #[(.bool false),(.int .i64 0)]:=xt.of (.agg #[(.bool false),(.int .i64 0)]) Tryz.underlying84
theorem tJ:oH bN 84 true 2:=yw
theorem M4:hU bN 61:=iP Tryz.func61
theorem wT:oK bN 84 0 0:=pW
theorem uX:oK bN 84 1 1:=pW
theorem M5:hU bN 62:=iP Tryz.func62
theorem r9:oK bN 39 2 2:=pW
theorem zV:oH bN 37 false 1:=yw
theorem GC:wH bN 37 64 2:=DQ
theorem Lz:ug bN 37 64 2 32:=ug.of (.agg #[(.string ⟨#[]⟩),(.string ⟨#[]⟩)])
theorem E8:oK bN 53 7 10:=pW
theorem HL:oK bN 53 8 11:=pW
theorem LA:oH bN 51 false 1:=yw
theorem M6:wH bN 51 84 2:=DQ
theorem M7:ug bN 51 84 2 16:=ug.of (.agg #[(.bool false),(.int .i64 0)])
theorem M8:hU bN 28:=iP Tryz.func28
theorem LB:hU bN 13:=iP Tryz.func13
theorem NT:hU bN 4:=iP Tryz.func4
theorem LC:hU bN 123:=iP Tryz.func123
theorem wm:hU bN 101:=iP Tryz.func101
theorem M9:hU bN 97:=iP Tryz.func97
theorem LD:hU bN 98:=iP Tryz.func98
theorem B7:hU bN 125:=iP Tryz.func125
theorem JD:hU bN 105:=iP Tryz.func105
theorem JE:xt bN 164 [(0,1),(1,1)] #[(.int .i64 0),(.int .i64 0)]:=xt.of (.agg #[(.int .i64 0),(.int .i64 0)]) Tryz.underlying164
theorem wo:Tryz.prog.underlying 144=some (.slice 164):=by kernel_rfl
theorem o7:wH bN 144 164 2:=DQ
theorem qo:oK bN 164 1 1:=pW
theorem qp:oK bN 164 0 0:=pW
theorem FU:oH bN 164 true 2:=yw
theorem JF:Dn bN 164 2:=E4 (.agg #[(.int .i64 0),(.int .i64 0)])
theorem HM:ug bN 144 164 2 16:=ug.of (.agg #[(.int .i64 0),(.int .i64 0)])
theorem JG:hU bN 127:=iP Tryz.func127
theorem FV:hU bN 107:=iP Tryz.func107
theorem JH:xt bN 147 [(0,1),(1,1),(2,1)] #[(.int .i64 0),(.int .i64 0),(.slice none 0 0)]:=xt.of (.agg #[(.int .i64 0),(.int .i64 0),(.slice none 0 0)]) Tryz.underlying147
theorem vF:oK bN 147 2 2:=pW
theorem B8:oH bN 144 false 1:=yw
theorem JI:Tryz.prog.underlying 142=some (.slice 147):=by kernel_rfl
theorem xP:wH bN 142 147 3:=DQ
theorem Ab:oK bN 147 1 1:=pW
theorem FW:oK bN 147 0 0:=pW
theorem Ks:J3 bN 164 aG:=⟨fun M cs ds a b w ha hb=>by
  obtain⟨_,_,rfl,rfl,rfl⟩:=ha
  obtain⟨_,_,rfl,rfl,rfl⟩:=hb
  refine(pd 9999 Tryz.underlying164 (ES.cons (by decide) (i6 cL _) (i6 cL _) (nX Kg _ _ w) (ES.cons (by decide) (i6 cL _) (i6 cL _) (nX Kg _ _ w) ES.nil))).trans ?_
  congr 1
  cases a;cases b;unfold gI
  rw [eX]
  simp,by kernel_rfl⟩
theorem LF:hU bN 126:=iP Tryz.func126
theorem LG:oH bN 147 true 3:=yw
theorem LH:Dn bN 147 3:=E4 (.agg #[(.int .i64 0),(.int .i64 0),(.slice none 0 0)])
theorem LI:ug bN 142 147 3 40:=ug.of (.agg #[(.int .i64 0),(.int .i64 0),(.slice none 0 0)])
theorem JJ:hU bN 106:=iP Tryz.func106
theorem JK:hU bN 108:=iP Tryz.func108
theorem Kt:hU bN 68:=iP Tryz.func68
theorem Na:hU bN 99:=iP Tryz.func99
theorem LJ:hU bN 63:=iP Tryz.func63
theorem HN:hU bN 65:=iP Tryz.func65
theorem JL:hU bN 100:=iP Tryz.func100
theorem GD:hU bN 32:=iP Tryz.func32
theorem Nb:hU bN 64:=iP Tryz.func64
theorem JM:hU bN 103:=iP Tryz.func103
theorem LK:hU bN 102:=iP Tryz.func102
theorem Nc:hU bN 66:=iP Tryz.func66
theorem Nd:hU bN 29:=iP Tryz.func29
theorem Nf:hU bN 30:=iP Tryz.func30
theorem Ng:hU bN 31:=iP Tryz.func31
theorem I3:hU bN 35:=iP Tryz.func35
theorem HO:hU bN 110:=iP Tryz.func110
theorem LL:hU bN 124:=iP Tryz.func124
theorem LM:hU bN 104:=iP Tryz.func104
theorem Nh:hU bN 67:=iP Tryz.func67
theorem LN:hU bN 33:=iP Tryz.func33
theorem HQ:ug bN 113 4 1 1:=ug.of (.bool false)
theorem Ni:Hc bN 4 (false:Bool):=Hc.of (.bool false) (fun M=>rfl)
theorem wq:wH bN 113 4 1:=DQ
theorem Nj:hU bN 69:=iP Tryz.func69
theorem Nk:hU bN 70:=iP Tryz.func70
theorem LO:hU bN 34:=iP Tryz.func34
theorem LP:hU bN 14:=iP Tryz.func14
theorem Nl:xt bN 56 [(0,4),(4,1),(5,1),(6,1),(7,1)] #[(.slice none 0 0),(.slice none 0 0),(.slice none 0 0),(.slice none 0 0),(.slice none 0 0),(.slice none 0 0),(.slice none 0 0),(.slice none 0 0)]:=xt.of (.agg #[(.slice none 0 0),(.slice none 0 0),(.slice none 0 0),(.slice none 0 0),(.slice none 0 0),(.slice none 0 0),(.slice none 0 0),(.slice none 0 0)]) Tryz.underlying56
theorem Az:oK bN 56 1 4:=pW
theorem uY:oK bN 56 2 5:=pW
theorem Nm:hU bN 36:=iP Tryz.func36
theorem tK:oK bN 56 4 7:=pW
theorem ml:oK bN 56 3 6:=pW
theorem LQ:xt bN 39 [(0,1),(1,1),(2,1)] #[(.slice none 0 0),(.slice none 0 0),(.slice none 0 0)]:=xt.of (.agg #[(.slice none 0 0),(.slice none 0 0),(.slice none 0 0)]) Tryz.underlying39
theorem E9:hU bN 73:=iP Tryz.func73
theorem JN:hU bN 109:=iP Tryz.func109
theorem Nn:hU bN 71:=iP Tryz.func71
theorem wU:oK bN 56 0 0:=pW
theorem LR:hU bN 72:=iP Tryz.func72
theorem LS:hU bN 38:=iP Tryz.func38
theorem LU:hU bN 39:=iP Tryz.func39
theorem LV:hU bN 17:=iP Tryz.func17
theorem Np:hU bN 37:=iP Tryz.func37
theorem LW:hU bN 15:=iP Tryz.func15
theorem NU:hU bN 5:=iP Tryz.func5
theorem HR:Tryz.prog.underlying 37=some (.slice 64):=by kernel_rfl
theorem GF:wH bN 32 37 1:=DQ
theorem I4:Dn bN 37 1:=E4 (.slice none 0 0)
theorem I5:ug bN 32 37 1 24:=ug.of (.slice none 0 0)
theorem NV:hU bN 6:=iP Tryz.func6
theorem NW:hU bN 7:=iP Tryz.func7
theorem LX:J3 bN 64 dB:=⟨fun M cs ds a b w ha hb=>by
  obtain⟨_,_,rfl,rfl,rfl⟩:=ha
  obtain⟨_,_,rfl,rfl,rfl⟩:=hb
  refine(pd 9999 Tryz.underlying64 (ES.cons (by decide) (i6 yx _) (i6 yx _) (wI Aw _ _ w) (ES.cons (by decide) (i6 yx _) (i6 yx _) (wI Aw _ _ w) ES.nil))).trans ?_
  congr 1
  cases a;cases b;unfold vD
  rw [eX]
  simp,by kernel_rfl⟩
theorem LY:hU bN 19:=iP Tryz.func19
theorem NX:hU bN 9:=iP Tryz.func9
theorem NY:hU bN 8:=iP Tryz.func8
theorem Ku:Tryz.prog.underlying 32=some (.slice 37):=by kernel_rfl
theorem Nq:hU bN 11:=iP Tryz.func11
theorem Nr:hU bN 10:=iP Tryz.func10
theorem Ns:xt bN 73 [(0,2),(2,1),(3,1),(4,1),(5,1)] #[(.int .i64 0),(.int .i64 0),(.int .i64 0),(.int .i64 0),(.int .i64 0),(.bool false)]:=xt.of (.agg #[(.int .i64 0),(.int .i64 0),(.int .i64 0),(.int .i64 0),(.int .i64 0),(.bool false)]) Tryz.underlying73
theorem Nt:hU bN 12:=iP Tryz.func12
def nD (E:World) (V:List HP) (res: (List Int)) (v:Value) (w:World):Prop:=Holds E w ([rd v res]++V)
def lP (E:World) (V:List HP) (res: (List aG)) (v:Value) (w:World):Prop:=Holds E w ([own 164 v res]++V)
def wu (E:World) (V:List HP) (res: (List (List dB))×Int) (v:Value) (w:World):Prop:=∃u0:Value,v = .tuple #[u0,(vi res.2)]/\Holds E w ([own 37 u0 res.1]++V)
def iX (E:World) (V:List HP) (b0:Nat) (v0_0 v0_1:Value) (v0_2 v0_3:Value) (v0_4 v0_5:Value) (v0_6 v0_7:Value) (res:Int) (v:Value) (w:World):Prop:=v= (vi res)/\Holds E w ([bc 56 b0 [v0_0,v0_1,v0_2,v0_3,v0_4,v0_5,v0_6,v0_7]]++V)
def aU (E:World) (V:List HP) (res:Bool) (v:Value) (w:World):Prop:=v= (vb res)/\Holds E w V
def aY (E:World) (V:List HP) (res:Int) (v:Value) (w:World):Prop:=v= (vi res)/\Holds E w V
def fX (E:World) (V:List HP) (res: (List aI)) (v:Value) (w:World):Prop:=Holds E w ([own 69 v res]++V)
def mM (E:World) (V:List HP) (res: (List Int)) (v:Value) (w:World):Prop:=Holds E w ([own 3 v res]++V)
def np (E:World) (V:List HP) (res: (List aA)) (v:Value) (w:World):Prop:=Holds E w ([own 126 v res]++V)
def oS (E:World) (V:List HP) (res:aI) (v:Value) (w:World):Prop:=Holds E w ([rd v res]++V)
def qS (E:World) (V:List HP) (res: (List eI)) (v:Value) (w:World):Prop:=Holds E w ([own 9 v res]++V)
def gA (E:World) (V:List HP) (b0:Nat) (v0_0 v0_1:Value) (v0_2 v0_3:Value) (v0_4 v0_5 v0_6:Value) (us0_6:List aT) (p0_6: (List bQ)) (v0_7:Value) (res:Int) (v:Value) (w:World):Prop:=v= (vi res)/\Holds E w ([bc 56 b0 [v0_0,v0_1,v0_2,v0_3,v0_4,v0_5,v0_6,v0_7],own 39 v0_6 us0_6,iA aV us0_6 p0_6 none]++V)
def uk (E:World) (V:List HP) (res: (List bQ)×Int) (v:Value) (w:World):Prop:=∃u0:Value,v = .tuple #[u0,(vi res.2)]/\Holds E w ([own 39 u0 res.1]++V)
def oT (E:World) (V:List HP) (res: (List (List aI))) (v:Value) (w:World):Prop:=Holds E w ([own 23 v res]++V)
end Go.Gk
namespace Go.Gk
open Go Go.Proofs
def CO (H:Type) (d:DataW H):Nat:=YtmmiladckdcjeabGreatDoor.Rows.uptoBulk d
def L2 (H:Type) (d:List (DataW H)):Nat:=YtmmiladckdcjeabGreatDoor.Rows.uptoBulkAll d
theorem km:UB CO L2 where
  str:=fun H b=>by simp [CO,YtmmiladckdcjeabGreatDoor.Rows.uptoBulk]
  pos:=fun H d=>by
    unfold CO
    cases d with
    | lit l=>cases l <;> simp [YtmmiladckdcjeabGreatDoor.Rows.uptoBulk]
    | nil=>simp [YtmmiladckdcjeabGreatDoor.Rows.uptoBulk]
    | ptr d=>simp [YtmmiladckdcjeabGreatDoor.Rows.uptoBulk]
    | slice elems spare=>simp [YtmmiladckdcjeabGreatDoor.Rows.uptoBulk]
    | agg parts=>simp [YtmmiladckdcjeabGreatDoor.Rows.uptoBulk]
    | iface t d=>simp [YtmmiladckdcjeabGreatDoor.Rows.uptoBulk]
    | map entries=>simp [YtmmiladckdcjeabGreatDoor.Rows.uptoBulk]
    | held h=>simp [YtmmiladckdcjeabGreatDoor.Rows.uptoBulk]
  sl:=fun H e s=>by simp [CO,L2,YtmmiladckdcjeabGreatDoor.Rows.uptoBulk]
  ag:=fun H l=>by simp [CO,L2,YtmmiladckdcjeabGreatDoor.Rows.uptoBulk]
  nil:=fun H=>by simp [L2,YtmmiladckdcjeabGreatDoor.Rows.uptoBulkAll]
  cons:=fun H x l=>by simp [CO,L2,YtmmiladckdcjeabGreatDoor.Rows.uptoBulkAll]
theorem IA:mu CO Tryz.prog 3 Int:=GI km (by kernel_rfl)
theorem Nu:mu CO Tryz.prog 69 aI:=oU km (fun(x:aI)=>(x.X0,x.Y0,x.X1,x.Y1)) (fun b=>⟨b.1,b.2.1,b.2.2.1,b.2.2.2⟩) (fun b=>rfl) Tryz.underlying69 (iY km IA (iY km IA (iY km IA (sI km IA rfl)))) (fun b=>by simp only [Ja];omega)
theorem L3:mu CO Tryz.prog 23 (List aI):=tM (e:=69) km Nu
theorem Nv:mu CO Tryz.prog 22 (List (List aI)):=tM (e:=23) km L3
theorem L4:mu CO Tryz.prog 60 jw:=oU km (fun(x:jw)=>(x.X,x.Y)) (fun b=>⟨b.1,b.2⟩) (fun b=>rfl) Tryz.underlying60 (iY km IA (sI km IA rfl)) (fun b=>by simp only [HW];omega)
theorem NZ:mu CO Tryz.prog 4 Bool:=Fe km (by kernel_rfl)
theorem Nw:mu CO Tryz.prog 73 cA:=oU km (fun(x:cA)=>(x.At,x.dG,x.cO,x.To,x.fY)) (fun b=>⟨b.1,b.2.1,b.2.2.1,b.2.2.2.1,b.2.2.2.2⟩) (fun b=>rfl) Tryz.underlying73 (iY km L4 (iY km IA (iY km IA (iY km IA (sI km NZ rfl))))) (fun b=>by simp only [Jb];omega)
theorem Ny:mu CO Tryz.prog 24 (List cA):=tM (e:=73) km Nw
theorem NK:mu CO Tryz.prog 9 eI:=GJ km (by kernel_rfl)
theorem Nz:mu CO Tryz.prog 62 eQ:=oU km (fun(x:eQ)=>(x.Part,x.dB,x.cU,x.At)) (fun b=>⟨b.1,b.2.1,b.2.2.1,b.2.2.2⟩) (fun b=>rfl) Tryz.underlying62 (iY km NK (iY km NK (iY km IA (sI km L4 rfl)))) (fun b=>by simp only [FY];omega)
theorem NA:mu CO Tryz.prog 25 (List eQ):=tM (e:=62) km Nz
theorem NB:mu CO Tryz.prog 27 kY:=oU km (fun(x:kY)=>(x.aJ,x.cI,x.aN,x.bM)) (fun b=>⟨b.1,b.2.1,b.2.2.1,b.2.2.2⟩) (fun b=>rfl) Tryz.underlying27 (iY km Nv (iY km L3 (iY km Ny (sI km NA rfl)))) (fun b=>by simp only [HX];omega)
end Go.Gk
namespace Go.Proofs
open Go.Shelf Go.RowKit Go.Lib Go.Sort
def Tryz.lay76_ren : Go.Shelf.Ren := ⟨fun | 6 => 76 | 15 => 113 | 14 => 112 | 28 => 136 | 29 => 137 | 20 => 128 | 21 => 129 | 22 => 130 | 23 => 131 | 24 => 132 | 25 => 133 | 26 => 134 | 27 => 135 | 46 => 152 | 47 => 153 | 48 => 154 | 49 => 155 | 50 => 156 | 57 => 165 | n => n, fun | 22 => 23 | 24 => 69 | 25 => 75 | 3 => 3 | 39 => 153 | 0 => 0 | 53 => 173 | 55 => 175 | 4 => 4 | 46 => 167 | 45 => 166 | 50 => 137 | 5 => 5 | 9 => 9 | 66 => 183 | 70 => 187 | 76 => 194 | 77 => 195 | n => n, fun | n => n⟩
theorem Tryz.lay76 : Go.Proofs.SlLaysF0.n6 Tryz.prog Tryz.lay76_ren := {
  mixed := by kernel_rfl
  f6 := ⟨Tryz.f76.name, by decide, Tryz.func76.trans (congrArg some (by kernel_rfl))⟩
  f14 := ⟨Tryz.f112.name, by decide, Tryz.func112.trans (congrArg some (by kernel_rfl))⟩
  f15 := Tryz.func113.trans (congrArg some (by kernel_rfl))
  f20 := ⟨Tryz.f128.name, by decide, Tryz.func128.trans (congrArg some (by kernel_rfl))⟩
  f21 := ⟨Tryz.f129.name, by decide, Tryz.func129.trans (congrArg some (by kernel_rfl))⟩
  f22 := ⟨Tryz.f130.name, by decide, Tryz.func130.trans (congrArg some (by kernel_rfl))⟩
  f23 := ⟨Tryz.f131.name, by decide, Tryz.func131.trans (congrArg some (by kernel_rfl))⟩
  f24 := ⟨Tryz.f132.name, by decide, Tryz.func132.trans (congrArg some (by kernel_rfl))⟩
  f25 := ⟨Tryz.f133.name, by decide, Tryz.func133.trans (congrArg some (by kernel_rfl))⟩
  f26 := ⟨Tryz.f134.name, by decide, Tryz.func134.trans (congrArg some (by kernel_rfl))⟩
  f27 := ⟨Tryz.f135.name, by decide, Tryz.func135.trans (congrArg some (by kernel_rfl))⟩
  f28 := Tryz.func136.trans (congrArg some (by kernel_rfl))
  f29 := Tryz.func137.trans (congrArg some (by kernel_rfl))
  f46 := ⟨Tryz.f152.name, by decide, Tryz.func152.trans (congrArg some (by kernel_rfl))⟩
  f47 := Tryz.func153.trans (congrArg some (by kernel_rfl))
  f48 := Tryz.func154.trans (congrArg some (by kernel_rfl))
  f49 := ⟨Tryz.f155.name, by decide, Tryz.func155.trans (congrArg some (by kernel_rfl))⟩
  f50 := ⟨Tryz.f156.name, by decide, Tryz.func156.trans (congrArg some (by kernel_rfl))⟩
  f57 := ⟨Tryz.f165.name, by decide, Tryz.func165.trans (congrArg some (by kernel_rfl))⟩
  t0 := Tryz.underlying0
  a0 := Tryz.isAgg0
  z0 := Tryz.sizeOf0
  v0 := Tryz.zeroValue0
  t3 := Tryz.underlying3
  a3 := Tryz.isAgg3
  z3 := Tryz.sizeOf3
  v3 := Tryz.zeroValue3
  t4 := Tryz.underlying4
  a4 := Tryz.isAgg4
  z4 := Tryz.sizeOf4
  v4 := Tryz.zeroValue4
  t5 := Tryz.underlying5
  a5 := Tryz.isAgg5
  z5 := Tryz.sizeOf5
  v5 := Tryz.zeroValue5
  t9 := Tryz.underlying9
  a9 := Tryz.isAgg9
  z9 := Tryz.sizeOf9
  v9 := Tryz.zeroValue9
  t22 := Tryz.underlying23
  a22 := Tryz.isAgg23
  z22 := Tryz.sizeOf23
  v22 := Tryz.zeroValue23
  t25 := Tryz.underlying75
  a25 := Tryz.isAgg75
  z25 := Tryz.sizeOf75
  v25 := Tryz.zeroValue75
  t39 := Tryz.underlying153
  a39 := Tryz.isAgg153
  z39 := Tryz.sizeOf153
  v39 := Tryz.zeroValue153
  t45 := Tryz.underlying166
  a45 := Tryz.isAgg166
  z45 := Tryz.sizeOf166
  v45 := Tryz.zeroValue166
  t46 := Tryz.underlying167
  a46 := Tryz.isAgg167
  z46 := Tryz.sizeOf167
  v46 := Tryz.zeroValue167
  t50 := Tryz.underlying137
  a50 := Tryz.isAgg137
  z50 := Tryz.sizeOf137
  v50 := Tryz.zeroValue137
  t53 := Tryz.underlying173
  a53 := Tryz.isAgg173
  z53 := Tryz.sizeOf173
  v53 := Tryz.zeroValue173
  t55 := Tryz.underlying175
  a55 := Tryz.isAgg175
  z55 := Tryz.sizeOf175
  v55 := Tryz.zeroValue175
  t66 := Tryz.underlying183
  a66 := Tryz.isAgg183
  z66 := Tryz.sizeOf183
  v66 := Tryz.zeroValue183
  t70 := Tryz.underlying187
  a70 := Tryz.isAgg187
  z70 := Tryz.sizeOf187
  v70 := Tryz.zeroValue187
  t76 := Tryz.underlying194
  a76 := Tryz.isAgg194
  z76 := Tryz.sizeOf194
  v76 := Tryz.zeroValue194
  t77 := Tryz.underlying195
  a77 := Tryz.isAgg195
  z77 := Tryz.sizeOf195
  v77 := Tryz.zeroValue195 }
def Tryz.lay78_ren : Go.Shelf.Ren := ⟨fun | 5 => 78 | 8 => 113 | 7 => 114 | 19 => 136 | 20 => 137 | 10 => 138 | 11 => 139 | 12 => 140 | 13 => 141 | 14 => 142 | 15 => 143 | 16 => 144 | 17 => 145 | 18 => 146 | 30 => 157 | 31 => 153 | 32 => 154 | 33 => 158 | 34 => 159 | 35 => 160 | 40 => 166 | n => n, fun | 23 => 36 | 25 => 3 | 3 => 3 | 32 => 153 | 22 => 36 | 0 => 0 | 44 => 173 | 46 => 175 | 4 => 4 | 36 => 167 | 35 => 166 | 41 => 137 | 5 => 5 | 9 => 9 | 53 => 183 | 57 => 187 | 63 => 194 | 64 => 195 | n => n, fun | n => n⟩
theorem Tryz.lay78 : Go.Proofs.SlLaysM.n5 Tryz.prog Tryz.lay78_ren := {
  mixed := by kernel_rfl
  f5 := ⟨Tryz.f78.name, by decide, Tryz.func78.trans (congrArg some (by kernel_rfl))⟩
  f7 := ⟨Tryz.f114.name, by decide, Tryz.func114.trans (congrArg some (by kernel_rfl))⟩
  f8 := Tryz.func113.trans (congrArg some (by kernel_rfl))
  f10 := ⟨Tryz.f138.name, by decide, Tryz.func138.trans (congrArg some (by kernel_rfl))⟩
  f11 := ⟨Tryz.f139.name, by decide, Tryz.func139.trans (congrArg some (by kernel_rfl))⟩
  f12 := ⟨Tryz.f140.name, by decide, Tryz.func140.trans (congrArg some (by kernel_rfl))⟩
  f13 := ⟨Tryz.f141.name, by decide, Tryz.func141.trans (congrArg some (by kernel_rfl))⟩
  f14 := ⟨Tryz.f142.name, by decide, Tryz.func142.trans (congrArg some (by kernel_rfl))⟩
  f15 := ⟨Tryz.f143.name, by decide, Tryz.func143.trans (congrArg some (by kernel_rfl))⟩
  f16 := ⟨Tryz.f144.name, by decide, Tryz.func144.trans (congrArg some (by kernel_rfl))⟩
  f17 := ⟨Tryz.f145.name, by decide, Tryz.func145.trans (congrArg some (by kernel_rfl))⟩
  f18 := ⟨Tryz.f146.name, by decide, Tryz.func146.trans (congrArg some (by kernel_rfl))⟩
  f19 := Tryz.func136.trans (congrArg some (by kernel_rfl))
  f20 := Tryz.func137.trans (congrArg some (by kernel_rfl))
  f30 := ⟨Tryz.f157.name, by decide, Tryz.func157.trans (congrArg some (by kernel_rfl))⟩
  f31 := Tryz.func153.trans (congrArg some (by kernel_rfl))
  f32 := Tryz.func154.trans (congrArg some (by kernel_rfl))
  f33 := ⟨Tryz.f158.name, by decide, Tryz.func158.trans (congrArg some (by kernel_rfl))⟩
  f34 := ⟨Tryz.f159.name, by decide, Tryz.func159.trans (congrArg some (by kernel_rfl))⟩
  f35 := ⟨Tryz.f160.name, by decide, Tryz.func160.trans (congrArg some (by kernel_rfl))⟩
  f40 := ⟨Tryz.f166.name, by decide, Tryz.func166.trans (congrArg some (by kernel_rfl))⟩
  t0 := Tryz.underlying0
  a0 := Tryz.isAgg0
  z0 := Tryz.sizeOf0
  v0 := Tryz.zeroValue0
  t3 := Tryz.underlying3
  a3 := Tryz.isAgg3
  z3 := Tryz.sizeOf3
  v3 := Tryz.zeroValue3
  t4 := Tryz.underlying4
  a4 := Tryz.isAgg4
  z4 := Tryz.sizeOf4
  v4 := Tryz.zeroValue4
  t5 := Tryz.underlying5
  a5 := Tryz.isAgg5
  z5 := Tryz.sizeOf5
  v5 := Tryz.zeroValue5
  t9 := Tryz.underlying9
  a9 := Tryz.isAgg9
  z9 := Tryz.sizeOf9
  v9 := Tryz.zeroValue9
  t22 := Tryz.underlying36
  a22 := Tryz.isAgg36
  z22 := Tryz.sizeOf36
  v22 := Tryz.zeroValue36
  t23 := Tryz.underlying36
  a23 := Tryz.isAgg36
  z23 := Tryz.sizeOf36
  v23 := Tryz.zeroValue36
  t25 := Tryz.underlying3
  a25 := Tryz.isAgg3
  z25 := Tryz.sizeOf3
  v25 := Tryz.zeroValue3
  t32 := Tryz.underlying153
  a32 := Tryz.isAgg153
  z32 := Tryz.sizeOf153
  v32 := Tryz.zeroValue153
  t35 := Tryz.underlying166
  a35 := Tryz.isAgg166
  z35 := Tryz.sizeOf166
  v35 := Tryz.zeroValue166
  t36 := Tryz.underlying167
  a36 := Tryz.isAgg167
  z36 := Tryz.sizeOf167
  v36 := Tryz.zeroValue167
  t41 := Tryz.underlying137
  a41 := Tryz.isAgg137
  z41 := Tryz.sizeOf137
  v41 := Tryz.zeroValue137
  t44 := Tryz.underlying173
  a44 := Tryz.isAgg173
  z44 := Tryz.sizeOf173
  v44 := Tryz.zeroValue173
  t46 := Tryz.underlying175
  a46 := Tryz.isAgg175
  z46 := Tryz.sizeOf175
  v46 := Tryz.zeroValue175
  t53 := Tryz.underlying183
  a53 := Tryz.isAgg183
  z53 := Tryz.sizeOf183
  v53 := Tryz.zeroValue183
  t57 := Tryz.underlying187
  a57 := Tryz.isAgg187
  z57 := Tryz.sizeOf187
  v57 := Tryz.zeroValue187
  t63 := Tryz.underlying194
  a63 := Tryz.isAgg194
  z63 := Tryz.sizeOf194
  v63 := Tryz.zeroValue194
  t64 := Tryz.underlying195
  a64 := Tryz.isAgg195
  z64 := Tryz.sizeOf195
  v64 := Tryz.zeroValue195 }
end Go.Proofs
namespace Go.Gk
open Go Go.Proofs
variable (N:Nat) {E w:World} {i0 i1 i2:Nat} {p0 p1 p2 res:Int} {v0 v1 v2:Value} {V:List HP}
theorem zW {res:Bool} (o:Holds E w V) (j:tA N p0 p1 p2=some res):
    Calls bN 111 [(vi p0),(vi p1),(vi p2)].toArray w (gJ (aU E V res)):=by
 unfold tA at j
 refine enter Tryz.func111 zr zr (RC.sr (aP (vb false) (RL.ns (mv (vi p0) (mv (vi p1) (ic p0 p1 (mv (vb (decide (p0>=p1))) (RL.gs true (decide (p0>=p1)) (vi p0) zr zr zr cH ?_))))))))
 refine RL.gs true (decide (p0>=p1)) (vi p2) rfl rfl rfl cH (RL.gs true (decide (p0>=p1)) (vb (decide (p0<=p2))) rfl rfl rfl (dK .leq .i64 p0 p2 rfl (fun h=>by exact(cM h:cv (true&&((decide (p0>=p1))==true)) (vi p0)= (vi p0))) (fun h=>by exact(cM h:cv (true&&((decide (p0>=p1))==true)) (vi p2)= (vi p2))) rfl) (RL.pick (decide (p0>=p1)) (vb ((decide (p0>=p1))&&(decide (p0<=p2)))) (gr true rfl) (aP (vb ((decide (p0>=p1))&&(decide (p0<=p2)))) (RL.nt (RC.ret ?_)))))
 obtain rfl:=oi j
 exact bY ⟨rfl,o.drop 0⟩
theorem me {res:Bool} (o:Holds E w V) (j:lM N p0=some res):
    Calls bN 74 [(vi p0)].toArray w (gJ (aU E V res)):=by
 unfold lM at j
 refine enter Tryz.func74 zr zr (RC.sr (aP (vb false) (RL.ns (mv (vi p0) ?_))))
 obtain⟨aa,ab,j⟩:=bd j
 refine RL.call zt zr K0 [(vi p0),(vi (-1000000)),(vi 1000000)] zr (aD (zW N (p0:=p0) (p1:=(-1000000)) (p2:=1000000) o ab) ?_)
 rintro _ w ⟨rfl,o⟩
 refine aP (vb aa) (RL.nt (RC.ret ?_))
 obtain rfl:=oi j
 exact bY ⟨rfl,o.drop 0⟩
theorem um {p0:aI} {res:Bool} (j:Holds E w V) (h0:V[i0]? =some (rd v0 p0)) (hb:ng N p0=some res):
    Calls bN 84 [v0].toArray w (gJ (aU E V res)):=by
 unfold ng at hb
 refine enter Tryz.func84 zr zr ?_
 have j:=j.dup (i0+0) h0
 refine RC.sr (RL.dD 0 v0 j zr fun aq w j=>?_)
 refine aP (vb false) (RL.nq ?_)
 obtain⟨af,o,hb⟩:=bd hb
 refine RC.jn (fun(af:Bool)=>SH E V [(2,vb af)] []) af ?_ ?_
 ·refine RC.region (RL.aX zr iw (RL.aM 0 j zr dQ cL ?_))
  obtain⟨aj,ak,o⟩:=bd o
  refine RL.call zt zr Gt [(vi p0.X0)] zr (aD (me N (p0:=p0.X0) j ak) ?_)
  rintro _ w ⟨rfl,j⟩
  refine mv (vb aj) (fA o (fun aa o=>?_) fun aa o=>?_)
  rotate_left
  ·refine bC aa (bC aa (bC aa (fB aa (vb false) (mv (vb false) (kc (kc (kc (RL.pick false (vb false) zr ?_))))))))
   refine mv (vb false) (kc (kc (kc (RL.pick false (vb false) zr (aP (vb false) (RL.nil ?_))))))
   obtain rfl:=oi o
   exact⟨rfl,j.sp 2 []⟩
  refine RL.aX (hg:=(cg aa)) zr g8 (RL.aM (hg:=(cg aa)) 0 j zr dH cL ?_)
  obtain⟨ag,al,o⟩:=bd o
  refine RL.call (cg aa) zr Gt [(vi p0.Y0)] zr (aD (me N (p0:=p0.Y0) j al) ?_)
  rintro _ w ⟨rfl,j⟩
  refine fB aa (vb ag) (mv (vb ag) (fA o (fun ab o=>?_) fun ab o=>?_))
  rotate_left
  ·refine bC ab (bC ab (bC ab (fB ab (vb false) (mv (vb false) (kc (kc (kc (RL.pick false (vb false) zr ?_))))))))
   refine aP (vb false) (RL.nil ?_)
   obtain rfl:=oi o
   exact⟨rfl,j.sp 2 []⟩
  refine RL.aX (hg:=(cg ab)) zr jo (RL.aM (hg:=(cg ab)) 0 j zr eJ cL ?_)
  obtain⟨ah,an,o⟩:=bd o
  refine RL.call (cg ab) zr Gt [(vi p0.X1)] zr (aD (me N (p0:=p0.X1) j an) ?_)
  rintro _ w ⟨rfl,j⟩
  refine fB ab (vb ah) (mv (vb ah) (fA o (fun ad o=>?_) fun ad o=>?_))
  rotate_left
  ·refine bC ad (bC ad (bC ad (fB ad (vb false) (aP (vb false) (RL.nil ?_)))))
   obtain rfl:=oi o
   exact⟨rfl,j.sp 2 []⟩
  refine RL.aX (hg:=(cg ad)) zr kA (RL.aM (hg:=(cg ad)) 0 j zr fJ cL ?_)
  obtain⟨ai,ao,o⟩:=bd o
  refine RL.call (cg ad) zr Gt [(vi p0.Y1)] zr (aD (me N (p0:=p0.Y1) j ao) ?_)
  rintro _ w ⟨rfl,j⟩
  refine fB ad (vb ai) (aP (vb ai) (RL.nil ?_))
  obtain rfl:=oi o
  exact⟨rfl,j.sp 2 []⟩
 rintro _ w ⟨O,rfl,j⟩
 refine aH (RC.ret ?_)
 obtain rfl:=oi hb
 exact bY ⟨rfl,j.drop 0⟩
def wX (E:World) (V:List HP) (r:Int) (U:Nat->Value) (w:World):Prop:=lG bN 30 Tryz.f44 (aY E V r) .ret U w
theorem vY {p0: (List aI)} (o:Holds E w V) (h0:V[i0]? =some (rd v0 p0)) (hb:lj N p0=some res):
    Calls bN 44 [v0].toArray w (gJ (aY E V res)):=by
 unfold lj at hb
 refine enter Tryz.func44 zr zr ?_
 have o:=o.dup (i0+0) h0
 refine RC.sr (aP (vi 0) (RL.nq (RC.sr (mv v0 (RL.bB 0 p0 o nC (ic ((p0.length:Int)) 2000 (RL.nt (dT hb (fun hc hb=>?_) fun hc hb=>?_))))))))
 ·refine RC.sr (aP (vi 2) (RL.nt (RC.rt ?_)))
  obtain rfl:=oi hb
  exact bY ⟨rfl,o.drop 1⟩
 refine RC.ss (RC.sr (mv v0 (RL.bB 0 p0 o nC (mv (vi 0) (RL.nt ?_)))))
 obtain⟨aq,hN,hb⟩:=bd hb
 refine RC.range (fun(ae:Nat) (af:Unit)=>SH E V [(8,v0),(9,vi p0.length),(10,vi ae)] [rd v0 p0]) (fun(af:Unit)=>SH E V [] [rd v0 p0]) (wX E V) hN ?_ ?_ ?_ ?_ ?_
 ·exact o.sp 1 [0]
 ·rintro hm af _ w ⟨O,rfl,o⟩
  refine RC.sr (ic ((p0.length:Int)) ((p0.length:Int)) (RL.nq (RC.fu sA (RC.ex ?_))))
  exact⟨rfl,o.sp 1 [0]⟩
 ·rintro hm ae af fl _ w hk ⟨O,rfl,o⟩ hb
  refine RC.sr (ic ((ae:Int)) ((p0.length:Int)) (RL.nq (RC.eZ (sw hk) (RC.ss (RC.bs ?_)))))
  obtain⟨j,aj,hb⟩:=bd hb
  refine RL.bO 0 o jm aj fun au o=>(RL.bJ 0 j o iK fun av o=>(RL.alloc o oR.z fun ab w o=>?_))
  refine RL.bZ 0 o 1 zr iK fun w o=>?_
  refine RL.nq (RC.sr (RL.aZ (f:=(fun x=>x)) 0 o zr Fd.self iK fun ak o=>?_))
  obtain⟨al,an,hb⟩:=bd hb
  refine RL.call zt zr K1 [ak] zr (aD (um N (i0:=0) o zr an) ?_)
  rintro _ w ⟨rfl,o⟩
  refine RL.not al (RL.nt (dT hb (fun hc hb=>?_) fun hc hb=>?_))
  ·refine RC.sr (aP (vi 1) (RL.nt (RC.rt (oL (bR ?_)))))
   obtain rfl:=oi hb
   exact⟨rfl,bY ⟨rfl,o.drop 5⟩⟩
  refine RC.sx (RL.aX rfl jo (RL.aM 1 o rfl eJ cL (RL.aX rfl iw (RL.aM 1 o rfl dQ cL (ic j.X1 j.X0 (mv (vb (decide (j.X1<=j.X0))) (RL.gs true (decide (j.X1<=j.X0)) (vp ab 3) rfl rfl rfl (eB kA) (RL.gs true (decide (j.X1<=j.X0)) (vi j.Y1) rfl rfl rfl (cC 1 rfl o (fun h=>by exact(cM h:cv (true&&((decide (j.X1<=j.X0))==false)) (vp ab 3)= (vp ab 3))) rfl fJ cL) ?_))))))))
  refine RL.gs true (decide (j.X1<=j.X0)) (vp ab 1) rfl rfl rfl (eB g8) (RL.gs true (decide (j.X1<=j.X0)) (vi j.Y0) rfl rfl rfl (cC 1 rfl o (fun h=>by exact(cM h:cv (true&&((decide (j.X1<=j.X0))==false)) (vp ab 1)= (vp ab 1))) rfl dH cL) (RL.gs true (decide (j.X1<=j.X0)) (vb (decide (j.Y1<=j.Y0))) rfl rfl rfl (dK .leq .i64 j.Y1 j.Y0 rfl (fun h=>by exact(cM h:cv (true&&((decide (j.X1<=j.X0))==false)) (vi j.Y1)= (vi j.Y1))) (fun h=>by exact(cM h:cv (true&&((decide (j.X1<=j.X0))==false)) (vi j.Y0)= (vi j.Y0))) rfl) (RL.pick (decide (j.X1<=j.X0)) (vb ((decide (j.X1<=j.X0))||(decide (j.Y1<=j.Y0)))) (oh true) (RL.nt (dT hb (fun hc hb=>?_) fun hc hb=>?_)))))
  rotate_left
  ·refine RC.skip (bP (aH (RC.region (RL.inc hk hm (mv (vi ((ae+1:Nat):Int)) (RL.nil ?_))))))
   obtain rfl:=oi hb
   exact⟨rfl,o.sp 5 [4]⟩
  refine RC.sr (aP (vi 13) (RL.nt (RC.rb (bR ?_))))
  obtain rfl:=oi hb
  exact⟨rfl,bY ⟨rfl,o.drop 5⟩⟩
 ·intro r U w e hK
  subst e
  refine bR ?_
  obtain rfl:=oi hb
  exact hK
 rintro af _ w rfl ⟨O,rfl,o⟩
 rw [Fo.cZ] at hb
 refine aH (RC.sr (aP (vi 0) (RL.nt (RC.ret ?_))))
 obtain rfl:=oi hb
 exact bY ⟨rfl,o.drop 1⟩
theorem uZ {p0: (List aI)} {res: (List aI)} (j:Holds E w V) (h0:V[i0]? =some (rd v0 p0)) (o:jN N p0=some res):
    Calls bN 75 [v0].toArray w (gJ (fX E V res)):=by
 unfold jN at o
 refine enter Tryz.func75 zr zr ?_
 have j:=j.dup (i0+0) h0
 refine RC.sr (aP (.slice none 0 0) (RL.nq (RC.sr (mv v0 (RL.KO (i:=0) zt zr j zr zr zr nC (RL.nt (RC.cond (b:=(IP v0)) zr (fun hc=>?_) (fun hc=>?_))))))))
 ·have hx:=j.Mq (i:=0) rfl hc
  rw [hx] at o
  replace o:some ([]: (List aI))=_:=o
  refine RC.sr (aP (.slice none 0 0) (RL.nt (RC.rt ?_)))
  obtain rfl:=oi o
  have j:=j.cP aI 69
  exact bY (j.pk 2 [0])
 refine RC.sx (RL.dN ([]: (List aI)) j [] jm oR (fun M hs g=>zt) fun ae w j=>(mv v0 ?_))
 obtain⟨af,ab,o⟩:=bd o
 refine RL.app 0 1 j Av ab fun ad w j=>?_
 refine aP ad (RL.nt (RC.ret ?_))
 obtain rfl:=oi o
 exact bY (j.pk 2 [0])
theorem xR {p0 p1:aI} (j:Holds E w V) (h0:V[i0]? =some (rd v0 p0)) (h1:V[i1]? =some (rd v1 p1)) (o:kf N p0 p1=some res):
    Calls bN 77 [v0,v1].toArray w (gJ (aY E V res)):=by
 unfold kf at o
 refine enter Tryz.func77 zr zr ?_
 have j:=(j.dup (i0+0) h0).dup (i1+1) h1
 refine RC.sr (RL.dD 1 v0 j zr fun aa w j=>?_)
 refine RL.dD 1 v1 j zr fun ab w j=>?_
 refine aP (vi 0) (RL.ns (RL.aX zr g8 (RL.aM 1 j zr dH cL (RL.aX zr g8 (RL.aM 0 j zr dH cL (RL.gk p0.Y0 p1.Y0 (aP (vi (IntKind.wrap .i64 (p0.Y0 - p1.Y0))) (RL.nt ?_))))))))
 refine RC.ret ?_
 obtain rfl:=oi o
 exact bY ⟨rfl,j.drop 4⟩
def u3 (E:World) (V:List HP) (r: (List Int)) (U:Nat->Value) (w:World):Prop:=lG bN 61 Tryz.f79 (mM E V r) .ret U w
theorem uA {p0: (List Int)} {res: (List Int)} (j:Holds E w (own 3 v0 p0::V)) (o:il N p0=some res):
    Calls bN 79 [v0].toArray w (gJ (mM E V res)):=by
 unfold il at o
 refine enter Tryz.func79 zr zr (RC.sr (aP (.slice none 0 0) (RL.nq (RC.sr (mv v0 (RL.fL 0 p0 j mB (ic ((p0.length:Int)) 2 (RL.nt ?_))))))))
 refine dT o (fun hc o=>?_) fun hc o=>?_
 ·refine RC.sr (mv v0 (aP v0 (RL.nt (RC.rt ?_))))
  obtain rfl:=oi o
  exact bY (j.pk 1 [0])
 refine RC.ss (RC.sr (aP (vi 1) (RL.nt ?_)))
 obtain⟨a1,hN,o⟩:=bd o
 refine RC.iter (fun(ab:Int)=>SH E V [(0,v0),(3,vi ab)] [own 3 v0 p0]) (fun(ab:Int)=>SH E V [(0,v0)] [own 3 v0 p0]) (u3 E V) hN ?_ ?_ ?_ ?_
 ·exact j.sp 1 [0]
 ·rintro ab fl _ w ⟨O,rfl,j⟩ o
  refine RC.seq (RC.sr (mv (vi ab) (mv v0 (RL.fL 0 p0 j mB (ic ab ((p0.length:Int)) (RL.nt (dT o (fun hc o=>?_) fun hc o=>?_)))))))
  rotate_left
  ·refine RC.ex ?_
   obtain rfl:=oi o
   exact⟨rfl,j.sp 1 [0]⟩
  refine RC.ss (RC.block (RC.seq (RC.zm mixed ?_)))
  have j:=j.drew
  refine RO.go (mv v0 (RO.nx (mv (vi ab) (RO.nx ?_))))
  obtain⟨au,al,o⟩:=bd o
  refine RL.bT 0 j zr zr eF al (RO.nx (RL.dR (f:=(fun x=>x)) 0 j (jz 0 j al 0) (bH al).2.1 Fd.self cL (RO.nx (mv v0 (RO.nx (mv (vi ab) (RO.nx (RL.gk ab 1 ?_))))))))
  refine RO.nx ?_
  obtain⟨uR,an,o⟩:=bd o
  refine RL.bT 0 j zr zr eF an (RO.nx (RL.dR (f:=(fun x=>x)) 0 j (jz 0 j an 0) (bH an).2.1 Fd.self cL (RO.nx (ic au uR (RO.last (aH (dT o (fun hc o=>?_) fun hc o=>?_)))))))
  rotate_left
  ·refine RC.skip (bP (aH (RC.region (mv (vi ab) (RL.gk ab 1 (aP (vi (IntKind.wrap .i64 (ab+1))) (RL.nil ?_)))))))
   obtain rfl:=oi o
   exact⟨rfl,j.sp 1 [0]⟩
  refine RC.sr (mv v0 (mv (vi ab) ?_))
  obtain⟨a2,af,o⟩:=bd o
  refine RL.view 0 ab zr j zr zr eF af (aP (vw v0 (Int.toNat ab) 1) (RL.nq (RC.sr (aP (vi 1) (RL.nt ?_)))))
  obtain⟨a3,hN,o⟩:=bd o
  refine RC.iter (fun(aa: (List Int)×Int×Int)=>SH E V [(0,v0),(3,vi aa.2.1),(4,(vw v0 (Int.toNat ab) 1)),(5,vi aa.2.2)] [own 3 v0 aa.1]) (fun(aa: (List Int)×Int×Int)=>SH E V [(0,v0),(3,vi aa.2.1)] [own 3 v0 aa.1]) (fun(r:Empty) _ _=>r.elim) hN ?_ ?_ ?_ ?_
  ·exact j.sp 1 [0]
  ·rintro aa fl _ w ⟨O,rfl,j⟩ o
   refine RC.seq (RC.sr (mv (vi aa.2.2) (mv (vw v0 (Int.toNat ab) 1) (RL.J6 (i:=0) (l:=aa.1) zt zr j zr zr mB (ic aa.2.2 ((((aa.1.length - Int.toNat ab):Nat):Int)) (RL.nt (dT o (fun hc o=>?_) fun hc o=>?_)))))))
   rotate_left
   ·refine RC.ex ?_
    obtain rfl:=oi o
    exact⟨rfl,j.sp 1 [0]⟩
   refine RC.ss (RC.block (RC.seq (RC.zm mixed ?_)))
   have j:=j.drew
   refine RO.go (mv (vw v0 (Int.toNat ab) 1) (RO.nx (mv (vi aa.2.2) (RO.nx ?_))))
   obtain⟨av,ag,o⟩:=bd o
   refine RL.Hp 0 ab zr j zr zr zr eF (EX af) (kD ag).1 (kD ag).2 (RO.nx (RL.dR (f:=(fun x=>x)) 0 j (jz 0 j (kD ag).2 0) (bH (kD ag).2).2.1 Fd.self cL (RO.nx (mv (vw v0 (Int.toNat ab) 1) (RO.nx (mv (vi aa.2.2) (RO.nx (RL.gk aa.2.2 1 ?_))))))))
   refine RO.nx ?_
   obtain⟨aw,ah,o⟩:=bd o
   refine RL.Hp 0 ab zr j zr zr zr eF (EX af) (kD ah).1 (kD ah).2 (RO.nx (RL.dR (f:=(fun x=>x)) 0 j (jz 0 j (kD ah).2 0) (bH (kD ah).2).2.1 Fd.self cL (RO.nx (ic av aw (RO.last (aH ?_))))))
   obtain⟨ai,hj,o⟩:=bd o
   refine RC.jn (fun(ai: (List Int)×Int)=>SH E V [(0,v0),(3,vi ai.2),(4,(vw v0 (Int.toNat ab) 1)),(5,vi aa.2.2)] [own 3 v0 ai.1]) ai ?_ ?_
   ·refine dT hj (fun hc hj=>?_) fun hc hj=>?_
    rotate_left
    ·refine RC.skip ?_
     obtain rfl:=oi hj
     exact⟨rfl,j.sp 1 [0]⟩
    refine RC.sr (mv v0 (mv (vi aa.2.1) (mv (vw v0 (Int.toNat ab) 1) (mv (vi aa.2.2) ?_))))
    obtain⟨ax,aj,hj⟩:=bd hj
    refine RL.Hp 0 ab zr j zr zr zr eF (EX af) (kD aj).1 (kD aj).2 (RL.dR (f:=(fun x=>x)) 0 j (jz 0 j (kD aj).2 0) (bH (kD aj).2).2.1 Fd.self cL ?_)
    obtain⟨a4,ao,hj⟩:=bd hj
    refine RL.bT 0 j zr zr eF ao ?_
    have j:=j.sc Int ax
    refine RL.gK (f:=(fun _ y=>y)) 1 0 j (jz 1 j ao 0) (bH ao).2.1 zr Fs.self cL fun w j=>?_
    refine RL.nt (RC.region (mv (vi aa.2.1) (RL.gk aa.2.1 1 (aP (vi (IntKind.wrap .i64 (aa.2.1+1))) (RL.nil ?_)))))
    obtain rfl:=oi hj
    exact⟨rfl,j.sp 2 [1]⟩
   rintro _ w ⟨O,rfl,j⟩
   refine bP (aH (RC.region (mv (vi aa.2.2) (RL.gk aa.2.2 1 (aP (vi (IntKind.wrap .i64 (aa.2.2+1))) (RL.nil ?_))))))
   obtain rfl:=oi o
   exact⟨rfl,j.sp 1 [0]⟩
  ·intro r _ _ _ _
   exact r.elim
  rintro aa _ w rfl ⟨O,rfl,j⟩
  rw [Fo.cZ] at o
  refine aH (RC.sr (mv v0 (mv (vi aa.2.1) ?_)))
  obtain⟨a5,aq,o⟩:=bd o
  refine RL.view 0 aa.2.1 zr j zr zr eF aq (RL.Dx 0 zt j zr zr rC K4 (Hq aq) fun w j=>(RL.ns (mv v0 (mv (vi aa.2.1) ?_))))
  obtain⟨a6,ay,o⟩:=bd o
  refine RL.Cy 0 zr j zr zr eF (.inr ⟨rfl,zr⟩) ay fun az j=>(aP az (RL.nt (RC.rb (bR ?_))))
  obtain rfl:=oi o
  exact⟨rfl,bY (j.pk 1 [0])⟩
 ·intro r U w e hK
  subst e
  refine bR ?_
  obtain rfl:=oi o
  exact hK
 rintro ab _ w rfl ⟨O,rfl,j⟩
 rw [Fo.cZ] at o
 refine aH (RC.sr (mv v0 (aP v0 (RL.nt (RC.ret ?_)))))
 obtain rfl:=oi o
 exact bY (j.pk 1 [0])
theorem xS {p0:aI} {p1: (List Int)} {res:Bool} (j:Holds E w V) (h0:V[i0]? =some (rd v0 p0)) (h1:V[i1]? =some (pt v1 p1)) (h2:V[i2]? =some (pt v2 p2)) (o:oM N p0 p1 p2=some res):
    Calls bN 81 [v0,v1,v2].toArray w (gJ (aU E V res)):=by
 unfold oM at o
 refine enter Tryz.func81 zr zr ?_
 have j:=((j.dup (i0+0) h0).Cx (i:=i1+1) h1).Cx (i:=i2+2) h2
 refine RC.sr (RL.dD 2 v0 j zr fun ad w j=>?_)
 refine aP (vb false) (RL.nq (RC.zm mixed ?_))
 have j:=j.drew
 refine RO.go (RL.aX zr kA (RO.nx (RL.aM 0 j zr fJ cL (RO.nx (RL.bJ 2 p1 j eV fun ae j=>(RO.nx (RL.bG p2 2 j cL (RO.nx ?_))))))))
 obtain⟨aa,ab,o⟩:=bd o
 refine RL.bO 0 j eF ab fun af j=>(RO.nx (RL.bG aa 0 j cL (RO.nx (ic p0.Y1 aa (RO.nx (aP (vb (decide (p0.Y1<=aa))) (RO.last (aH ?_))))))))
 refine RC.ret ?_
 obtain rfl:=oi o
 exact bY ⟨rfl,j.drop 6⟩
def sJ (E:World) (V:List HP) (r:Int) (U:Nat->Value) (w:World):Prop:=lG bN 19 Tryz.f94 (aY E V r) .ret U w
theorem sf {p0: (List aI)} {p1:aI->Option Bool} (j:Holds E w V) (h0:V[i0]? =some (rd v0 p0)) (h1:Iy bN E V v1 p1 (fun(r:Bool)=>Value.bool r)) (o:mh N p0 p1=some res):
    Calls bN 94 [v0,v1].toArray w (gJ (aY E V res)):=by
 unfold mh at o
 refine enter Tryz.func94 zr zr ?_
 have j:=j.dup (i0+0) h0
 refine RC.sr (aP (vi 0) (RL.nq (RC.sr (mv v0 (RL.bB 0 p0 j nC (mv (vi 0) (RL.nt ?_)))))))
 obtain⟨al,hN,o⟩:=bd o
 refine RC.range (fun(aa:Nat) (ab:Unit)=>SH E V [(0,v0),(1,v1),(7,vi p0.length),(8,vi aa)] [rd v0 p0]) (fun(ab:Unit)=>SH E V [] [rd v0 p0]) (sJ E V) hN ?_ ?_ ?_ ?_ ?_
 ·exact j.sp 1 [0]
 ·rintro hm ab _ w ⟨O,rfl,j⟩
  refine RC.sr (ic ((p0.length:Int)) ((p0.length:Int)) (RL.nq (RC.fu sA (RC.ex ?_))))
  exact⟨rfl,j.sp 1 [0]⟩
 ·rintro hm aa ab fl _ w hk ⟨O,rfl,j⟩ o
  refine RC.sr (ic ((aa:Int)) ((p0.length:Int)) (RL.nq (RC.eZ (sw hk) (RC.ss (RC.bs (mv (vi aa) (aP (vi aa) (RL.ns ?_))))))))
  refine mv v1 (mv v0 (mv (vi aa) ?_))
  obtain⟨ag,ah,o⟩:=bd o
  refine RL.bO 0 j jm ah fun ao j=>(RL.bJ 0 ag j iK fun aq j=>?_)
  obtain⟨ar,ai,o⟩:=bd o
  refine RL.Cw 0 zr j zr h1 3 zr zr zr ai fun w j=>(RL.nt (dT o (fun hc o=>?_) fun hc o=>?_))
  rotate_left
  ·refine RC.skip (bP (aH (RC.region (RL.inc hk hm (mv (vi ((aa+1:Nat):Int)) (RL.nil ?_))))))
   obtain rfl:=oi o
   exact⟨rfl,j.sp 3 [2]⟩
  refine RC.sr (mv (vi aa) (aP (vi aa) (RL.nt (RC.rb (bR ?_)))))
  obtain rfl:=oi o
  exact⟨rfl,bY ⟨rfl,j.drop 3⟩⟩
 ·intro r U w e hK
  subst e
  refine bR ?_
  obtain rfl:=oi o
  exact hK
 rintro ab _ w rfl ⟨O,rfl,j⟩
 rw [Fo.cZ] at o
 refine aH (RC.sr (aP (vi (-1)) (RL.nt (RC.ret ?_))))
 obtain rfl:=oi o
 exact bY ⟨rfl,j.drop 1⟩
def mN (E:World) (V:List HP) (v0:Value) (p0: (List aI)) (res:Int) (v:Value) (w:World):Prop:=v= (vi res)/\Holds E w ([own 69 v0 p0]++V)
def qU (E:World) (V:List HP) (v0:Value) (p0: (List aI)) (r:Int) (U:Nat->Value) (w:World):Prop:=lG bN 19 Tryz.f94 (mN E V v0 p0 r) .ret U w
theorem qq {p0: (List aI)} {p1:aI->Option Bool} (o:Holds E w (own 69 v0 p0::V)) (h1:Iy bN E V v1 p1 (fun(r:Bool)=>Value.bool r)) (j:kV N p0 p1=some res):
    Calls bN 94 [v0,v1].toArray w (gJ (mN E V v0 p0 res)):=by
 unfold kV at j
 refine enter Tryz.func94 zr zr (RC.sr (aP (vi 0) (RL.nq (RC.sr (mv v0 (RL.fL 0 p0 o nC (mv (vi 0) (RL.nt ?_))))))))
 obtain⟨ak,hN,j⟩:=bd j
 refine RC.range (fun(aa:Nat) (ab:Unit)=>SH E V [(0,v0),(1,v1),(7,vi p0.length),(8,vi aa)] [own 69 v0 p0]) (fun(ab:Unit)=>SH E V [(0,v0)] [own 69 v0 p0]) (qU E V v0 p0) hN ?_ ?_ ?_ ?_ ?_
 ·exact o.sp 1 [0]
 ·rintro hm ab _ w ⟨O,rfl,o⟩
  refine RC.sr (ic ((p0.length:Int)) ((p0.length:Int)) (RL.nq (RC.fu sA (RC.ex ?_))))
  exact⟨rfl,o.sp 1 [0]⟩
 ·rintro hm aa ab fl _ w hk ⟨O,rfl,o⟩ j
  refine RC.sr (ic ((aa:Int)) ((p0.length:Int)) (RL.nq (RC.eZ (sw hk) (RC.ss (RC.bs (mv (vi aa) (aP (vi aa) (RL.ns ?_))))))))
  refine mv v1 (mv v0 (mv (vi aa) ?_))
  obtain⟨an,ad,j⟩:=bd j
  refine RL.bT 0 o zr zr jm ad (RL.jM (f:=(fun x=>x)) 0 o (jz 0 o ad 0) (bH ad).2.1 Fd.self iK fun ao o=>?_)
  obtain⟨aq,ah,j⟩:=bd j
  refine RL.Cw 0 zr o zr h1 2 zr zr zr ah fun w o=>(RL.nt (dT j (fun hc j=>?_) fun hc j=>?_))
  rotate_left
  ·refine RC.skip (bP (aH (RC.region (RL.inc hk hm (mv (vi ((aa+1:Nat):Int)) (RL.nil ?_))))))
   obtain rfl:=oi j
   exact⟨rfl,o.sp 2 [1]⟩
  refine RC.sr (mv (vi aa) (aP (vi aa) (RL.nt (RC.rb (bR ?_)))))
  obtain rfl:=oi j
  exact⟨rfl,bY ⟨rfl,o.pk 2 [1]⟩⟩
 ·intro r U w e hK
  subst e
  refine bR ?_
  obtain rfl:=oi j
  exact hK
 rintro ab _ w rfl ⟨O,rfl,o⟩
 rw [Fo.cZ] at j
 refine aH (RC.sr (aP (vi (-1)) (RL.nt (RC.ret ?_))))
 obtain rfl:=oi j
 exact bY ⟨rfl,o.pk 1 [0]⟩
theorem rD {p0: (List aI)} {p1:aI->Option Bool} {res: (List aI)} (j:Holds E w (own 69 v0 p0::V)) (h1:Iy bN E V v1 p1 (fun(r:Bool)=>Value.bool r)) (o:iU N p0 p1=some res):
    Calls bN 80 [v0,v1].toArray w (gJ (fX E V res)):=by
 unfold iU at o
 refine enter Tryz.func80 zr zr (RC.sr (aP (.slice none 0 0) (RL.ns (mv v0 (mv v1 ?_)))))
 have j:=j.pull 0
 obtain⟨ad,aj,o⟩:=bd o
 refine RL.call zt zr K5 [v0,v1] zr (aD (qq N j (h1.lift 1 zr) aj) ?_)
 rintro _ w ⟨rfl,j⟩
 refine aP (vi ad) (RL.nq (RC.sr (mv (vi ad) (ic ad ((-1)) (RL.nt (dT o (fun hc o=>?_) fun hc o=>?_))))))
 ·refine RC.sr (mv v0 (aP v0 (RL.nt (RC.rt ?_))))
  obtain rfl:=oi o
  exact bY (j.pk 2 [0])
 refine RC.ss (RC.sr (mv (vi ad) (RL.gk ad 1 (aP (vi (IntKind.wrap .i64 (ad+1))) (RL.nt ?_)))))
 obtain⟨ar,hN,o⟩:=bd o
 refine RC.iter (fun(aa: (List aI)×Int×Int)=>SH E V [(0,v0),(1,v1),(5,vi aa.2.1),(6,vi aa.2.2)] [own 69 v0 aa.1]) (fun(aa: (List aI)×Int×Int)=>SH E V [(0,v0),(5,vi aa.2.1)] [own 69 v0 aa.1]) (fun(r:Empty) _ _=>r.elim) hN ?_ ?_ ?_ ?_
 ·exact j.sp 2 [0]
 ·rintro aa fl _ w ⟨O,rfl,j⟩ o
  refine RC.seq (RC.sr (mv (vi aa.2.2) (mv v0 (RL.fL 0 aa.1 j nC (ic aa.2.2 ((aa.1.length:Int)) (RL.nt (dT o (fun hc o=>?_) fun hc o=>?_)))))))
  rotate_left
  ·refine RC.ex ?_
   obtain rfl:=oi o
   exact⟨rfl,j.sp 1 [0]⟩
  refine RC.ss (RC.bs (mv v0 (mv (vi aa.2.2) ?_)))
  obtain⟨av,ag,o⟩:=bd o
  refine RL.bT 0 j zr zr jm ag (RL.jM (f:=(fun x=>x)) 0 j (jz 0 j ag 0) (bH ag).2.1 Fd.self iK fun aw j=>?_)
  refine RL.alloc j oR.z fun ax w j=>?_
  refine RL.bZ 0 j 1 zr iK fun w j=>?_
  refine RL.ns (mv v1 (RL.aZ (f:=(fun x=>x)) 0 j zr Fd.self iK fun ay j=>?_))
  obtain⟨al,an,o⟩:=bd o
  refine RL.Cw 0 zr j zr h1 4 zr zr zr an fun w j=>(RL.not al (RL.nt ?_))
  obtain⟨af,hj,o⟩:=bd o
  refine RC.jn (fun(af: (List aI)×Int)=>SH E V [(0,v0),(1,v1),(5,vi af.2),(6,vi aa.2.2)] [own 69 v0 af.1]) af ?_ ?_
  ·refine dT hj (fun hc hj=>?_) fun hc hj=>?_
   rotate_left
   ·refine RC.skip ?_
    obtain rfl:=oi hj
    exact⟨rfl,j.sp 4 [3]⟩
   refine RC.sr (mv v0 (mv (vi aa.2.1) (RL.aZ (f:=(fun x=>x)) 1 j zr Fd.self iK fun az j=>?_)))
   obtain⟨a0,ah,hj⟩:=bd hj
   refine RL.bT 4 j zr zr jm ah (RL.gK (f:=(fun _ y=>y)) 4 0 j (jz 4 j ah 0) (bH ah).2.1 zr Fs.self iK fun w j=>?_)
   refine RL.nt (RC.region (mv (vi aa.2.1) (RL.gk aa.2.1 1 (aP (vi (IntKind.wrap .i64 (aa.2.1+1))) (RL.nil ?_)))))
   obtain rfl:=oi hj
   exact⟨rfl,j.sp 5 [4]⟩
  rintro _ w ⟨O,rfl,j⟩
  refine bP (aH (RC.region (mv (vi aa.2.2) (RL.gk aa.2.2 1 (aP (vi (IntKind.wrap .i64 (aa.2.2+1))) (RL.nil ?_))))))
  obtain rfl:=oi o
  exact⟨rfl,j.sp 1 [0]⟩
 ·intro r _ _ _ _
  exact r.elim
 rintro aa _ w rfl ⟨O,rfl,j⟩
 rw [Fo.cZ] at o
 refine aH (RC.sr (mv v0 (mv (vi aa.2.1) ?_)))
 obtain⟨a1,ai,o⟩:=bd o
 refine RL.view 0 aa.2.1 zr j zr zr jm ai (RL.Dx 0 zt j zr zr Av Mz (Hq ai) fun w j=>(RL.ns (mv v0 (mv (vi aa.2.1) ?_))))
 obtain⟨a2,ao,o⟩:=bd o
 refine RL.Cy 0 zr j zr zr jm (.inr ⟨rfl,zr⟩) ao fun aq j=>(aP aq (RL.nt (RC.ret ?_)))
 obtain rfl:=oi o
 exact bY (j.pk 1 [0])
theorem uB {p0 p1:aI} (j:Holds E w V) (h0:V[i0]? =some (rd v0 p0)) (h1:V[i1]? =some (rd v1 p1)) (o:iq N p0 p1=some res):
    Calls bN 115 [v0,v1].toArray w (gJ (aY E V res)):=by
 unfold iq at o
 refine enter Tryz.func115 zr zr ?_
 have j:=(j.dup (i0+0) h0).dup (i1+1) h1
 refine RC.sr (RL.dD 1 v0 j zr fun aa w j=>?_)
 refine RL.dD 1 v1 j zr fun ab w j=>?_
 refine aP (vi 0) (RL.ns (RL.aX zr iw (RL.aM 1 j zr dQ cL (RL.aX zr iw (RL.aM 0 j zr dQ cL (RL.gk p0.X0 p1.X0 (aP (vi (IntKind.wrap .i64 (p0.X0 - p1.X0))) (RL.nt ?_))))))))
 refine RC.ret ?_
 obtain rfl:=oi o
 exact bY ⟨rfl,j.drop 4⟩
def xT (E:World) (V:List HP) (v0:Value) (res: (List Int)×(List aI)) (v:Value) (w:World):Prop:=Holds E w ([own 3 v res.1,own 69 v0 res.2]++V)
theorem wY {p0: (List aI)} {res: (List Int)×(List aI)} (j:Holds E w (own 69 v0 p0::V)) (hb:jT N p0=some res):
    Calls bN 83 [v0].toArray w (gJ (xT E V v0 res)):=by
 unfold jT at hb
 refine enter Tryz.func83 zr zr (RC.sr (aP (.slice none 0 0) (RL.ns (mv v0 ?_))))
 obtain⟨af,a1,hb⟩:=bd hb
 have j:=j.pull 0
 refine RL.call zt zr K2 [v0,(.func (.func 115) #[] #[])] zr (aD (FN Tryz.lay76 aI zr iK.Jr iK.sz K6 (fun j hi o hr=>uB N j hi o hr) j a1) ?_)
 rintro _ w ⟨rfl,j⟩
 refine RL.ns (aP (.slice none 0 0) (RL.nq (RC.sr (mv v0 (RL.fL 0 af j nC (mv (vi 0) (RL.nt ?_)))))))
 have j:=j.cP Int 3
 obtain⟨aa,hN,hb⟩:=bd hb
 refine RC.fold (fun(ah:Nat) (aa: (List Int)) U w=>∃av:Value,SH E V [(0,v0),(3,av),(9,v0),(10,vi af.length),(11,vi ah)] [own 69 v0 af,own 3 av aa] U w) (fun(aa: (List Int)) U w=>∃ai:Value,SH E V [(0,v0),(3,ai)] [own 69 v0 af,own 3 ai aa] U w) hN ?_ ?_ ?_ ?_
 ·exact⟨(.slice none 0 0),j.sp 3 [1,0]⟩
 ·rintro hm aa _ w ⟨a3,O,rfl,j⟩
  refine RC.sr (ic ((af.length:Int)) ((af.length:Int)) (RL.nq (RC.fu sA (RC.ex ?_))))
  exact⟨rfl,a3,j.sp 2 [0,1]⟩
 ·rintro hm ah aa s' _ w hk ⟨ag,O,rfl,j⟩ hb
  refine RC.sr (ic ((ah:Int)) ((af.length:Int)) (RL.nq (RC.eZ (sw hk) (RC.ss (RC.bs ?_)))))
  obtain⟨ae,ak,hb⟩:=bd hb
  refine RL.bT 0 j zr zr jm ak (RL.jM (f:=(fun x=>x)) 0 j (jz 0 j ak 0) (bH ak).2.1 Fd.self iK fun a6 j=>?_)
  refine RL.alloc j oR.z fun ay w j=>?_
  refine RL.bZ 0 j 1 zr iK fun w j=>?_
  refine RL.ns (mv ag (RL.fL 3 aa j mB (RL.gk (aa.length:Int) 1 (aP (vi (IntKind.wrap .i64 ((aa.length:Int) - 1))) (RL.nq ?_)))))
  obtain⟨al,o,hb⟩:=bd hb
  refine RC.jn (fun(al:Bool)=>SH E V [(0,v0),(3,ag),(5,vp ay 0),(6,(vi (IntKind.wrap .i64 ((aa.length:Int) - 1)))),(9,v0),(10,vi af.length),(11,vi ah),(28,vb al)] [own 69 v0 af,own 3 ag aa,bx 69 ay ae]) al ?_ ?_
  ·refine RC.zm mixed ?_
   have j:=j.drew
   refine RO.go (mv (vi (IntKind.wrap .i64 ((aa.length:Int) - 1))) (RO.nx (ic ((IntKind.wrap .i64 ((aa.length:Int) - 1))) 0 (RO.nx (mv (vb (decide ((IntKind.wrap .i64 ((aa.length:Int) - 1))>=0))) (fA o (fun ab o=>?_) fun ab o=>?_))))))
   rotate_left
   ·refine RO.nx (bC ab (RO.nx (bC ab (RO.nx (bC ab (RO.nx (bC ab (RO.nx ?_))))))))
    refine bC ab (RO.nx (bC ab (RO.nx (bC ab (RO.nx (fB ab (vb false) (RO.last ?_)))))))
    obtain rfl:=oi o
    exact⟨rfl,j.sp 4 [2,3,0]⟩
   refine RO.nx (RL.aX (hg:=(cg ab)) zr iw (RO.nx (RL.aM (hg:=(cg ab)) 0 j zr dQ cL (RO.nx (RL.move ag (cg ab) (RO.nx (RL.move (vi (IntKind.wrap .i64 ((aa.length:Int) - 1))) (cg ab) (RO.nx ?_))))))))
   obtain⟨az,an,o⟩:=bd o
   refine RL.bT (hg:=(cg ab)) 3 j zr zr eF an (RO.nx (RL.dR (hg:=(cg ab)) (f:=(fun x=>x)) 3 j (jz 3 j an 0) (bH an).2.1 Fd.self cL (RO.nx (RL.lh ae.X0 az (cg ab) (RO.nx (fB ab (vb (decide (ae.X0<=az))) (RO.last ?_)))))))
   obtain rfl:=oi o
   exact⟨rfl,j.sp 4 [2,3,0]⟩
  rintro _ w ⟨O,rfl,j⟩
  refine aH ?_
  obtain⟨ao,o,hb⟩:=bd hb
  refine RC.jn (fun(ao: (List Int)) U w=>∃aj:Value,SH E V [(0,v0),(3,aj),(9,v0),(10,vi af.length),(11,vi ah)] [own 69 v0 af,own 3 aj ao] U w) ao ?_ ?_
  ·refine dT o (fun hc o=>?_) fun hc o=>?_
   rotate_left
   ·refine RC.region (mv ag (RL.aX zr iw (RL.aM 2 j zr dQ cL (RL.aX zr jo (RL.aM 2 j zr eJ cL ?_)))))
    have j:=(j.sc Int ae.X0).sc Int ae.X1
    refine RL.dN ([ae.X0,ae.X1]: (List Int)) j [(vi ae.X0),(vi ae.X1)] eF Dd (fun M hs g=>⟨(g.sat 1 _ zr).1,⟨(g.sat 0 _ zr).1,zt⟩⟩) fun a7 w j=>?_
    have j:=j.freeze 0
    obtain⟨a8,a5,o⟩:=bd o
    refine RL.app 4 0 j rC a5 fun a0 w j=>?_
    refine aP a0 (RL.nil ?_)
    obtain rfl:=oi o
    exact⟨rfl,a0,j.sp 6 [3,4]⟩
   refine RC.vV mixed [0,0,0,0,0,0,0,0,0,0,2] [0,1,2,3,4,5,6,7,8,9,10] ?_
   have j:=j.drew
   refine DP.e0 zr (mv ag (aW zr (mv (vi (IntKind.wrap .i64 ((aa.length:Int) - 1))) (aW zr (mv ag (aW zr (mv (vi (IntKind.wrap .i64 ((aa.length:Int) - 1))) (aW zr ?_))))))))
   obtain⟨aq,ar,o⟩:=bd o
   refine RL.bT 1 j zr zr eF ar (aW zr (RL.dR (f:=(fun x=>x)) 1 j (jz 1 j ar 0) (bH ar).2.1 Fd.self cL (aW zr (RL.aX zr jo (aW zr (RL.aM 2 j zr eJ cL (aW zr (RL.max aq ae.X1 ?_))))))))
   refine aW zr ?_
   obtain⟨a9,au,o⟩:=bd o
   refine RL.bT 1 j zr zr eF au (oZ zr ?_)
   have j:=j.sc Int (if aq<ae.X1 then ae.X1 else aq)
   refine RL.gK (f:=(fun _ y=>y)) 2 0 j (jz 2 j au 0) (bH au).2.1 zr Fs.self cL fun w j=>?_
   refine DP.d2 zt (DP.z ?_)
   obtain rfl:=oi o
   exact⟨rfl,ag,j.sp 4 [1,2]⟩
  rintro _ w ⟨aj,O,rfl,j⟩
  refine bP (aH (RC.region (RL.inc hk hm (mv (vi ((ah+1:Nat):Int)) (RL.nil ?_)))))
  obtain rfl:=oi hb
  exact⟨rfl,aj,j.sp 2 [0,1]⟩
 rintro _ w ⟨ai,O,rfl,j⟩
 refine aH (RC.sr (mv ai (aP ai (RL.nt (RC.ret ?_)))))
 obtain rfl:=oi hb
 exact bY (j.pk 2 [1,0])
def wZ (E:World) (V:List HP) (r:Bool) (U:Nat->Value) (w:World):Prop:=lG bN 26 Tryz.f18 (aU E V r) .ret U w
theorem nE {p0: (List Int)} {p1: (List Int)} {res:Bool} (j:Holds E w V) (h0:V[i0]? =some (rd v0 p0)) (h1:V[i1]? =some (rd v1 p1)) (o:kb N p0 p1=some res):
    Calls bN 18 [v0,v1].toArray w (gJ (aU E V res)):=by
 unfold kb at o
 refine enter Tryz.func18 zr zr ?_
 have j:=(j.dup (i0+0) h0).dup (i1+1) h1
 refine RC.sr (aP (vb false) (RL.nq (RC.sr (mv v0 (RL.bB 1 p0 j mB (mv v1 (RL.bB 0 p1 j mB (ic ((p0.length:Int)) ((p1.length:Int)) ?_))))))))
 refine RL.nt (dT o (fun hc o=>?_) fun hc o=>?_)
 ·refine RC.sr (aP (vb false) (RL.nt (RC.rt ?_)))
  obtain rfl:=oi o
  exact bY ⟨rfl,j.drop 2⟩
 refine RC.ss (RC.sr (mv v0 (RL.bB 1 p0 j mB (mv (vi 0) (RL.nt ?_)))))
 obtain⟨an,hN,o⟩:=bd o
 refine RC.range (fun(aa:Nat) (ab:Unit)=>SH E V [(0,v0),(1,v1),(12,vi p0.length),(13,vi aa)] [rd v0 p0,rd v1 p1]) (fun(ab:Unit)=>SH E V [] [rd v0 p0,rd v1 p1]) (wZ E V) hN ?_ ?_ ?_ ?_ ?_
 ·exact j.sp 2 [1,0]
 ·rintro hm ab _ w ⟨O,rfl,j⟩
  refine RC.sr (ic ((p0.length:Int)) ((p0.length:Int)) (RL.nq (RC.fu sA (RC.ex ?_))))
  exact⟨rfl,j.sp 2 [0,1]⟩
 ·rintro hm aa ab fl _ w hk ⟨O,rfl,j⟩ o
  refine RC.sr (ic ((aa:Int)) ((p0.length:Int)) (RL.nq (RC.eZ (sw hk) (RC.ss (RC.bs (mv (vi aa) (aP (vi aa) (RL.nq ?_))))))))
  refine RC.zm mixed ?_
  have j:=j.drew
  refine RO.go (mv v0 (RO.nx (mv (vi aa) (RO.nx ?_))))
  obtain⟨ag,aj,o⟩:=bd o
  refine RL.bO 0 j eF aj fun aq j=>(RO.nx (RL.bG ag 0 j cL (RO.nx (mv v1 (RO.nx (mv (vi aa) (RO.nx ?_)))))))
  obtain⟨ah,ak,o⟩:=bd o
  refine RL.bO 2 j eF ak fun ar j=>(RO.nx (RL.bG ah 0 j cL (RO.nx (ic ag ah (RO.last (aH (dT o (fun hc o=>?_) fun hc o=>?_)))))))
  rotate_left
  ·refine RC.skip (bP (aH (RC.region (RL.inc hk hm (mv (vi ((aa+1:Nat):Int)) (RL.nil ?_))))))
   obtain rfl:=oi o
   exact⟨rfl,j.sp 4 [2,3]⟩
  refine RC.sr (aP (vb false) (RL.nt (RC.rb (bR ?_))))
  obtain rfl:=oi o
  exact⟨rfl,bY ⟨rfl,j.drop 4⟩⟩
 ·intro r U w e hK
  subst e
  refine bR ?_
  obtain rfl:=oi o
  exact hK
 rintro ab _ w rfl ⟨O,rfl,j⟩
 rw [Fo.cZ] at o
 refine aH (RC.sr (aP (vb true) (RL.nt (RC.ret ?_))))
 obtain rfl:=oi o
 exact bY ⟨rfl,j.drop 2⟩
theorem rS {p0: (List aA)} {p1:aA} {res: (List aA)} (j:Holds E w (own 126 v0 p0::V)) (h1:V[i1]? =some (rd v1 p1)) (hb:jD N p0 p1=some res):
    Calls bN 82 [v0,v1].toArray w (gJ (np E V res)):=by
 unfold jD at hb
 refine enter Tryz.func82 zr zr ?_
 have j:=j.dup (i1+1) h1
 refine RC.sr (RL.dD 0 v1 j zr fun ae w j=>?_)
 refine aP (.slice none 0 0) (RL.nq (RC.sr (RL.aX zr mq (RL.aZ 0 j zr eC eV fun aw j=>(RL.bB 0 p1.Xs j mB (ic ((p1.Xs.length:Int)) 0 (mv (vb ((p1.Xs.length:Int)==0)) (RL.gs true ((p1.Xs.length:Int)==0) (vp ae 1) zr zr zr (eB nU) ?_))))))))
 refine RL.gs true ((p1.Xs.length:Int)==0) (vi p1.Y1) rfl rfl rfl (cC 1 rfl j (fun h=>by exact(cM h:cv (true&&(((p1.Xs.length:Int)==0)==false)) (vp ae 1)= (vp ae 1))) rfl fS cL) (RL.gs true ((p1.Xs.length:Int)==0) (vp ae 0) rfl rfl rfl (eB ql) (RL.gs true ((p1.Xs.length:Int)==0) (vi p1.Y0) rfl rfl rfl (cC 1 rfl j (fun h=>by exact(cM h:cv (true&&(((p1.Xs.length:Int)==0)==false)) (vp ae 0)= (vp ae 0))) rfl ik cL) (RL.gs true ((p1.Xs.length:Int)==0) (vb (decide (p1.Y1<=p1.Y0))) rfl rfl rfl (dK .leq .i64 p1.Y1 p1.Y0 rfl (fun h=>by exact(cM h:cv (true&&(((p1.Xs.length:Int)==0)==false)) (vi p1.Y1)= (vi p1.Y1))) (fun h=>by exact(cM h:cv (true&&(((p1.Xs.length:Int)==0)==false)) (vi p1.Y0)= (vi p1.Y0))) rfl) (RL.pick ((p1.Xs.length:Int)==0) (vb (((p1.Xs.length:Int)==0)||(decide (p1.Y1<=p1.Y0)))) (oh true) (RL.nt (dT hb (fun hc hb=>?_) fun hc hb=>?_))))))
 ·refine RC.sr (mv v0 (aP v0 (RL.nt (RC.rt ?_))))
  obtain rfl:=oi hb
  exact bY (j.pk 4 [3])
 refine RC.ss (RC.sr (mv v0 (RL.fL 3 p0 j vW (RL.gk (p0.length:Int) 1 (aP (vi (IntKind.wrap .i64 ((p0.length:Int) - 1))) (RL.nq ?_))))))
 obtain⟨aj,hj,hb⟩:=bd hb
 refine RC.jn (fun(aj:Bool)=>SH E V [(0,v0),(3,vp ae 0),(5,(vi (IntKind.wrap .i64 ((p0.length:Int) - 1)))),(42,vb aj)] [own 126 v0 p0,bx 126 ae p1]) aj ?_ ?_
 ·refine RC.vV mixed [0,0,0,0,0,0,0,0,0,0,0,0,0,0,0,0,0,0,0,0,2,0] [0,1,2,3,4,5,6,7,8,9,10,11,12,13,14,15,16,17,18,19,20,21] ?_
  have j:=j.drew
  refine DP.e0 zr (mv (vi (IntKind.wrap .i64 ((p0.length:Int) - 1))) (aW zr (ic ((IntKind.wrap .i64 ((p0.length:Int) - 1))) 0 (aW zr (mv (vb (decide ((IntKind.wrap .i64 ((p0.length:Int) - 1))>=0))) (DP.d0 (fA hj (fun o hj=>?_) fun o hj=>?_)))))))
  rotate_left
  ·refine DP.e0 zr (bC o (aW zr (bC o (aW zr (bC o (aW zr (bC o (aW zr ?_))))))))
   refine bC o (aW zr (bC o (aW zr (bC o (aW zr (bC o (aW zr (fB o (vb false) ?_))))))))
   refine aW zr (mv (vb false) (aW zr (kc (aW zr (kc (aW zr (kc (aW zr ?_))))))))
   refine kc (aW zr (kc (aW zr (kc (aW zr (kc (oZ zr (kc ?_))))))))
   refine rB zr (RL.pick false (vb false) zr (DP.d0 (DP.z ?_)))
   obtain rfl:=oi hj
   exact⟨rfl,j.sp 4 [3,1]⟩
  refine DP.e0 zr (RL.move v0 (cg o) (aW zr (RL.move (vi (IntKind.wrap .i64 ((p0.length:Int) - 1))) (cg o) (aW zr ?_))))
  obtain⟨ak,af,hj⟩:=bd hj
  refine RL.bT (hg:=(cg o)) 3 j zr zr pZ af (aW zr (RL.kz (hg:=(cg o)) (α:=aA) (jz 3 j af 0) nU (aW zr (RL.dR (hg:=(cg o)) 3 j (jz 3 j af 1) (bH af).2.1 fS cL (aW zr (RL.aX (hg:=(cg o)) zr ql (aW zr (RL.aM (hg:=(cg o)) 1 j zr ik cL ?_))))))))
  refine aW zr (RL.lh ak.Y1 p1.Y0 (cg o) (aW zr (fB o (vb (ak.Y1==p1.Y0)) (aW zr (mv (vb (ak.Y1==p1.Y0)) (DP.d0 (fA hj (fun aa hj=>?_) fun aa hj=>?_)))))))
  rotate_left
  ·refine DP.e0 zr (bC aa (aW zr (bC aa (aW zr (bC aa (aW zr (bC aa (aW zr ?_))))))))
   refine bC aa (aW zr (bC aa (aW zr (bC aa (oZ zr (bC aa (rB zr (fB aa (vb false) ?_))))))))
   refine DP.d0 (DP.z ?_)
   obtain rfl:=oi hj
   exact⟨rfl,j.sp 4 [3,1]⟩
  refine DP.e0 zr (RL.move v0 (cg aa) (aW zr (RL.move (vi (IntKind.wrap .i64 ((p0.length:Int) - 1))) (cg aa) (aW zr ?_))))
  obtain⟨ax,ag,hj⟩:=bd hj
  refine RL.bT (hg:=(cg aa)) 3 j zr zr pZ ag (aW zr (RL.kz (hg:=(cg aa)) (α:=aA) (jz 3 j ag 0) mq (aW zr (RL.jM (hg:=(cg aa)) 3 j (jz 3 j ag 2) (bH ag).2.1 eC eV fun al j=>?_))))
  refine aW zr (RL.aX (hg:=(cg aa)) zr mq (aW zr (RL.aZ (hg:=(cg aa)) 2 j zr eC eV fun an j=>(oZ zr ?_))))
  obtain⟨ao,aq,hj⟩:=bd hj
  refine RL.call (cg aa) zr Ke [al,an] zr (aD (nE N (i0:=1) (i1:=0) j zr zr aq) ?_)
  rintro _ w ⟨rfl,j⟩
  refine rB zr (fB aa (vb ao) (DP.d0 (DP.z ?_)))
  obtain rfl:=oi hj
  exact⟨rfl,j.sp 6 [5,3]⟩
 rintro _ w ⟨O,rfl,j⟩
 refine aH (dT hb (fun hc hb=>?_) fun hc hb=>?_)
 rotate_left
 ·refine RC.sx (mv v0 (RL.aZ (f:=(fun x=>x)) 1 j zr Fd.self xO fun ar j=>(RL.dN ([p1]: (List aA)) j [ar] pZ DU (fun M hs g=>⟨(g.sat 0 _ zr).1,zt⟩) fun ay w j=>?_)))
  have j:=j.freeze 0
  obtain⟨az,au,hb⟩:=bd hb
  refine RL.app 2 0 j MD au fun av w j=>?_
  refine aP av (RL.nt (RC.ret ?_))
  obtain rfl:=oi hb
  exact bY (j.pk 4 [2])
 refine RC.sr (mv v0 (mv (vi (IntKind.wrap .i64 ((p0.length:Int) - 1))) (RL.aX zr nU (RL.aM 1 j zr fS cL ?_))))
 obtain⟨a0,ah,hb⟩:=bd hb
 refine RL.bT 0 j zr zr pZ ah (RL.kz (α:=aA) (jz 0 j ah 0) nU ?_)
 have j:=j.sc Int p1.Y1
 refine RL.gK 1 0 j (jz 1 j ah 1) (bH ah).2.1 zr pX cL fun w j=>?_
 refine RL.ns (mv v0 (aP v0 (RL.nt (RC.rt ?_))))
 obtain rfl:=oi hb
 exact bY (j.pk 3 [1])
theorem mO {p0: (List aI)} {res: (List aA)} (o:Holds E w V) (h0:V[i0]? =some (rd v0 p0)) (hb:iC N p0=some res):
    Calls bN 42 [v0].toArray w (gJ (np E V res)):=by
 unfold iC at hb
 refine enter Tryz.func42 zr zr ?_
 have o:=o.dup (i0+0) h0
 refine RC.sr (aP (.slice none 0 0) (RL.ns (mv v0 ?_)))
 obtain⟨cf,bn,hb⟩:=bd hb
 refine RL.call zt zr Mv [v0] zr (aD (uZ N (i0:=0) o zr bn) ?_)
 rintro ae w o
 refine aP ae (RL.ns (mv ae ?_))
 obtain⟨ah,bo,hb⟩:=bd hb
 have o:=o.pull 0
 refine RL.call zt zr K2 [ae,(.func (.func 77) #[] #[])] zr (aD (FN Tryz.lay76 aI zr iK.Jr iK.sz Mw (fun o hi hj hr=>xR N o hi hj hr) o bo) ?_)
 rintro _ w ⟨rfl,o⟩
 refine RL.ns (RL.uO zr o K3 zr fun ag w o=>?_)
 refine RL.nq (RC.sr (mv ae (RL.fL 1 ah o nC (mv (vi 0) (RL.nt ?_)))))
 obtain⟨ao,hN,hb⟩:=bd hb
 refine RC.fold (fun(aw:Nat) (ao: (List Int)) U w=>∃a6:Value,SH E V [(0,ae),(3,vp ag 0),(14,ae),(15,vi ah.length),(16,vi aw)] [own 69 ae ah,bc 36 ag [a6],own 3 a6 ao] U w) (fun(ao: (List Int)) U w=>∃an:Value,SH E V [(0,ae),(3,vp ag 0)] [own 69 ae ah,bc 36 ag [an],own 3 an ao] U w) hN ?_ ?_ ?_ ?_
 ·have o:=o.cP Int 3
  exact⟨(.slice none 0 0),o.sp 5 [2,1,0]⟩
 ·rintro hm ao _ w ⟨bp,O,rfl,o⟩
  refine RC.sr (ic ((ah.length:Int)) ((ah.length:Int)) (RL.nq (RC.fu sA (RC.ex ?_))))
  exact⟨rfl,bp,o.sp 3 [0,1,2]⟩
 ·rintro hm aw ao s' _ w hk ⟨bq,O,rfl,o⟩ hb
  refine RC.sr (ic ((aw:Int)) ((ah.length:Int)) (RL.nq (RC.eZ (sw hk) (RC.ss (RC.bs ?_)))))
  obtain⟨aq,a1,hb⟩:=bd hb
  refine RL.bT 0 o zr zr jm a1 (RL.jM (f:=(fun x=>x)) 0 o (jz 0 o a1 0) (bH a1).2.1 Fd.self iK fun ch o=>?_)
  refine RL.alloc o oR.z fun cj w o=>?_
  refine RL.bZ 0 o 1 zr iK fun w o=>?_
  refine RL.nt (RC.region (RL.bF 3 bq o eV (RL.aX zr g8 (RL.aM 0 o zr dH cL (RL.aX zr kA (RL.aM 0 o zr fJ cL ?_))))))
  have o:=(o.sc Int aq.Y0).sc Int aq.Y1
  refine RL.dN ([aq.Y0,aq.Y1]: (List Int)) o [(vi aq.Y0),(vi aq.Y1)] eF Dd (fun M hs g=>⟨(g.sat 1 _ zr).1,⟨(g.sat 0 _ zr).1,zt⟩⟩) fun ck w o=>?_
  have o:=o.freeze 0
  obtain⟨cl,br,hb⟩:=bd hb
  refine RL.app 7 0 o rC br fun a9 w o=>?_
  refine RL.iB 6 a9 o zr zr (iT 7 o) eV fun w o=>?_
  refine RL.nil (bP (aH (RC.region (RL.inc hk hm (mv (vi ((aw+1:Nat):Int)) (RL.nil ?_))))))
  obtain rfl:=oi hb
  exact⟨rfl,a9,o.sp 8 [5,6,7]⟩
 rintro _ w ⟨an,O,rfl,o⟩
 refine aH (RC.sr (RL.bF 1 an o eV ?_))
 obtain⟨cm,bt,hb⟩:=bd hb
 have o:=o.pull 2
 refine RL.call zt zr Mx [an] zr (aD (Hv Tryz.lay78 o bt) ?_)
 rintro _ w ⟨rfl,o⟩
 refine RL.ns (RL.bF 2 an o eV ?_)
 have o:=o.pull 0
 obtain⟨ai,bu,hb⟩:=bd hb
 refine RL.call zt zr My [an] zr (aD (uA N o bu) ?_)
 rintro bw w o
 refine RL.iB 3 bw o zr zr (iT 0 o) eV fun w o=>?_
 refine RL.ns (aP (.slice none 0 0) (RL.ns (aP (.slice none 0 0) (RL.ns (aP (vi 0) (RL.nq (RC.sr (RL.alloc o Dd.z fun bz w o=>?_))))))))
 have o:=o.sc Int 0
 refine RL.bZ 1 o 0 zr cL fun w o=>?_
 refine RL.nt ?_
 have o:=((((o.freeze 2).Ho (i:=5) (x:=ai) rfl (fun M hs g=>(rZ (g.sat 2 _ rfl).1))).l6 (i:=5) rfl).cP aA 126).cP aI 69
 obtain⟨cn,hN,hb⟩:=bd hb
 refine RC.iter (fun(ab: (List aA)×(List aI)×Int×Int) U w=>∃(ba bb:Value) (bf:Nat),SH E V [(0,ae),(3,vp ag 0),(6,ba),(7,bb),(8,vi ab.2.2.1),(9,vp bf 0)] [own 69 ae ah,pt (vp ag 0) ai,own 126 ba ab.1,own 69 bb ab.2.1,bx 3 bf ab.2.2.2] U w) (fun(ab: (List aA)×(List aI)×Int×Int) U w=>∃av:Value,SH E V [(6,av)] [own 69 ae ah,pt (vp ag 0) ai,own 126 av ab.1] U w) (fun(r:Empty) _ _=>r.elim) hN ?_ ?_ ?_ ?_
 ·exact⟨(.slice none 0 0),(.slice none 0 0),bz,o.sp 9 [6,7,1,0,3]⟩
 ·rintro ab fl _ w ⟨ak,bg,al,O,rfl,o⟩ hb
  refine RC.seq (RC.sr (RL.aM (f:=(fun x=>x)) 4 o zr Fd.self cL (RL.gk ab.2.2.2 1 (RL.bJ 1 ai o eV fun cp o=>(RL.bB 0 ai o mB (ic ((IntKind.wrap .i64 (ab.2.2.2+1))) ((ai.length:Int)) (RL.nt (dT hb (fun hc hb=>?_) fun hc hb=>?_))))))))
  rotate_left
  ·refine RC.ex ?_
   obtain rfl:=oi hb
   exact⟨rfl,ak,o.sp 6 [1,2,3]⟩
  refine RC.ss (RC.bs (mv bg ?_))
  have o:=o.l6 (i:=5) rfl
  refine RL.makeFunc zt zr [(vp ag 0),(vp al 0)] zr ?_
  have o:=o.pull 4
  obtain⟨cq,b1,hb⟩:=bd hb
  refine RL.call trivial rfl MB [bg,(.func (.func 81) #[] #[(vp ag 0),(vp al 0)])] rfl (aD (rD N o ⟨81,[(vp ag 0),(vp al 0)],rfl,MA,fun w Γl v y0 r i o hi hr=>by exact aD (xS N (i0:=i) (i1:=Γl.length+2) (i2:=Γl.length+5) o hi (Cv rfl) (Cv rfl) hr) fun _ _ h=>h⟩ b1) ?_)
  rintro bh w o
  refine aP bh (RL.nq ?_)
  obtain⟨cr,hN,hb⟩:=bd hb
  refine RC.iter (fun(af: (List aI)×Int) U w=>∃bj:Value,SH E V [(0,ae),(3,vp ag 0),(6,ak),(7,bj),(8,vi af.2),(9,vp al 0)] [own 69 ae ah,pt (vp ag 0) ai,own 126 ak ab.1,pt (vp al 0) ab.2.2.2,own 69 bj af.1] U w) (fun(af: (List aI)×Int) U w=>∃ar:Value,SH E V [(0,ae),(3,vp ag 0),(6,ak),(7,ar),(8,vi af.2),(9,vp al 0)] [own 69 ae ah,pt (vp ag 0) ai,own 126 ak ab.1,pt (vp al 0) ab.2.2.2,own 69 ar af.1] U w) (fun(r:Empty) _ _=>r.elim) hN ?_ ?_ ?_ ?_
  ·exact⟨bh,o.sp 7 [2,3,4,6,0]⟩
  ·rintro af fl _ w ⟨ax,O,rfl,o⟩ hb
   refine RC.seq (RC.seq ?_)
   obtain⟨a3,hj,hb⟩:=bd hb
   refine RC.jn (fun(a3:Bool)=>SH E V [(0,ae),(3,vp ag 0),(6,ak),(7,ax),(8,vi af.2),(9,vp al 0),(57,vb a3)] [own 69 ae ah,pt (vp ag 0) ai,own 126 ak ab.1,own 69 ax af.1,pt (vp al 0) ab.2.2.2]) a3 ?_ ?_
   ·refine RC.zm mixed ?_
    have o:=o.drew
    refine RO.go (mv (vi af.2) (RO.nx (mv ae (RO.nx (RL.fL 0 ah o nC (RO.nx (ic af.2 ((ah.length:Int)) (RO.nx ?_))))))))
    refine mv (vb (decide (af.2< (ah.length:Int)))) (fA hj (fun ad hj=>?_) fun ad hj=>?_)
    rotate_left
    ·refine RO.nx (bC ad (RO.nx (bC ad (RO.nx (bC ad (RO.nx (bC ad (RO.nx ?_))))))))
     refine bC ad (RO.nx (bC ad (RO.nx (bC ad (RO.nx (bC ad (RO.nx (bC ad ?_))))))))
     refine RO.nx (bC ad (RO.nx (fB ad (vb false) (RO.last ?_))))
     obtain rfl:=oi hj
     exact⟨rfl,o.sp 5 [0,1,2,4,3]⟩
    refine RO.nx (RL.move ae (cg ad) (RO.nx (RL.move (vi af.2) (cg ad) (RO.nx ?_))))
    obtain⟨bk,ay,hj⟩:=bd hj
    refine RL.bT (hg:=(cg ad)) 0 o zr zr jm ay (RO.nx (RL.kz (hg:=(cg ad)) (α:=aI) (jz 0 o ay 0) g8 (RO.nx (RL.dR (hg:=(cg ad)) 0 o (jz 0 o ay 1) (bH ay).2.1 dH cL (RO.nx (RL.bJ (hg:=(cg ad)) 1 ai o eV fun ct o=>?_))))))
    refine RO.nx (RL.bG (hg:=(cg ad)) ab.2.2.2 4 o cL (RO.nx ?_))
    obtain⟨a4,b2,hj⟩:=bd hj
    refine RL.bO (hg:=(cg ad)) 0 o eF b2 fun cu o=>(RO.nx (RL.bG (hg:=(cg ad)) a4 0 o cL (RO.nx (RL.lh bk.Y0 a4 (cg ad) (RO.nx (fB ad (vb (decide (bk.Y0<=a4))) (RO.last ?_)))))))
    obtain rfl:=oi hj
    exact⟨rfl,o.sp 7 [2,3,4,6,5]⟩
   rintro _ w ⟨O,rfl,o⟩
   refine aH (dT hb (fun hc hb=>?_) fun hc hb=>?_)
   rotate_left
   ·refine RC.ex ?_
    obtain rfl:=oi hb
    exact⟨rfl,ax,o.sp 5 [0,1,2,4,3]⟩
   refine RC.sn (RC.block (RC.region (mv ax (mv ae (mv (vi af.2) ?_)))))
   obtain⟨b3,a5,hb⟩:=bd hb
   refine RL.bT 0 o zr zr jm a5 (RL.jM (f:=(fun x=>x)) 0 o (jz 0 o a5 0) (bH a5).2.1 Fd.self iK fun b4 o=>?_)
   refine RL.dN ([b3]: (List aI)) o [b4] jm oR (fun M hs g=>⟨(g.sat 0 _ zr).1,zt⟩) fun cv w o=>?_
   have o:=o.freeze 0
   obtain⟨cw,b5,hb⟩:=bd hb
   refine RL.app 5 0 o Av b5 fun bl w o=>?_
   refine mv (vi af.2) (RL.gk af.2 1 (aP bl (aP (vi (IntKind.wrap .i64 (af.2+1))) (RL.nil (bP ?_)))))
   obtain rfl:=oi hb
   exact⟨rfl,bl,o.sp 7 [2,3,4,6,5]⟩
  ·intro r _ _ _ _
   exact r.elim
  rintro af _ w rfl ⟨ar,O,rfl,o⟩
  rw [Fo.cZ] at hb
  refine aH (RC.vV mixed [1,1,1,1,1,1,1,1,1,1,0,2,0,2,0] [0,1,2,3,4,5,6,7,8,9,10,11,12,13,14] ?_)
  have o:=o.drew
  refine DP.e1 ak zr (fun w=>RL.move ak zt DP.d1) (DP.zT ai 1 zr zt o eV fun cx a305 cy o=>(DP.rO ab.2.2.2 5 zr o cL fun a307 cz o=>?_))
  obtain⟨az,b6,hb⟩:=bd hb
  refine DP.wM 2 zr o eF b6 fun c0 o=>(DP.rO az 0 zr o cL fun a311 c1 o=>(DP.zT ai 6 zr zt o eV fun c2 a314 c3 o=>(DP.rO ab.2.2.2 10 zr o cL fun a316 c4 o=>(DP.e1 (vi (IntKind.wrap .i64 (ab.2.2.2+1))) zr (fun w=>RL.gk ab.2.2.2 1 DP.d1) ?_))))
  obtain⟨a0,b7,hb⟩:=bd hb
  refine DP.wM 2 zr o eF b7 fun c5 o=>(DP.rO a0 0 zr o cL fun a320 c6 o=>(DP.e0 zr (mv ar (oZ zr ?_))))
  have o:=o.pull 14
  obtain⟨b8,b9,hb⟩:=bd hb
  refine RL.call zt zr MC [ar] zr (aD (wY N o b9) ?_)
  rintro ca w o
  refine DP.d2 (⟨⟨⟨⟨⟨⟨zt,o.iv 10⟩,o.iv 9⟩,o.iv 7⟩,o.iv 5⟩,o.iv 4⟩,o.iv 2⟩) (DP.e0 zr ?_)
  have o:=((o.sc Int az).sc Int a0).freeze 2
  refine RL.build (⟨az,a0,b8.1⟩:aA) trivial rfl o [(0,vi az),(1,vi a0),(2,ca)] rfl Jy rfl (fun M hs g=>by have h:=xM M;exact cT.cons (f:=fun(x:aA) y=>{x with Y0:=y}) h ui (g.sat 1 _ rfl).1 fun _ h=>cT.cons (f:=fun(x:aA) y=>{x with Y1:=y}) h pX (g.sat 0 _ rfl).1 fun _ h=>cT.cons (f:=fun(x:aA) y=>{x with Xs:=y}) h uj (g.sat 2 _ rfl).1 fun _ h=>cT.nil h) fun cb o=>?_
  refine oZ zr ?_
  have o:=o.pull 17
  obtain⟨c7,cc,hb⟩:=bd hb
  refine RL.call zt zr K7 [ak,cb] zr (aD (rS N (i1:=0) o zr cc) ?_)
  rintro bm w o
  refine DP.d2 (⟨⟨⟨⟨⟨⟨zt,o.iv 14⟩,o.iv 13⟩,o.iv 11⟩,o.iv 9⟩,o.iv 8⟩,o.iv 6⟩) (DP.e0 zr (aP bm (DP.d0 ?_)))
  have o:=o.pl 21 [0,1,2,3,4,5,7,10,12,15,16,17,18,19,20]
  refine DP.z (bP (aH (RC.seq (RC.sr (RL.bG ab.2.2.2 13 o cL (RL.nt (RC.region (RL.alloc o Dd.z fun cd w o=>?_))))))))
  have o:=o.sc Int ab.2.2.2
  refine RL.bZ 1 o 0 zr cL fun w o=>?_
  refine RL.nt (RC.region (RL.aM (f:=(fun x=>x)) 1 o zr Fd.self cL (RL.gk ab.2.2.2 1 ?_)))
  have o:=o.sc Int (IntKind.wrap .i64 (ab.2.2.2+1))
  refine RL.Hg (i:=2) (j:=0) zt o zr zr zr zr cL fun w o=>?_
  refine RL.nil ?_
  obtain rfl:=oi hb
  exact⟨rfl,bm,ar,cd,o.sp 18 [13,14,3,8,2]⟩
 ·intro r _ _ _ _
  exact r.elim
 rintro ab _ w rfl ⟨av,O,rfl,o⟩
 rw [Fo.cZ] at hb
 refine aH (RC.sr (mv av (aP av (RL.nt (RC.ret ?_)))))
 obtain rfl:=oi hb
 exact bY (o.pk 3 [2])
theorem n9 {p0: (List aA)} {res: (List aI)} (j:Holds E w V) (h0:V[i0]? =some (rd v0 p0)) (o:jU N p0=some res):
    Calls bN 46 [v0].toArray w (gJ (fX E V res)):=by
 unfold jU at o
 refine enter Tryz.func46 zr zr ?_
 have j:=j.dup (i0+0) h0
 refine RC.sr (aP (.slice none 0 0) (RL.ns (aP (.slice none 0 0) (RL.nq (RC.sr (mv v0 (RL.bB 0 p0 j vW (mv (vi 0) ?_))))))))
 refine RL.nt ?_
 obtain⟨ad,hN,o⟩:=bd o
 refine RC.fold (fun(ae:Nat) (ad: (List aI)) U w=>∃al:Value,SH E V [(3,al),(7,v0),(8,vi p0.length),(9,vi ae)] [rd v0 p0,own 69 al ad] U w) (fun(ad: (List aI)) U w=>∃af:Value,SH E V [(3,af)] [rd v0 p0,own 69 af ad] U w) hN ?_ ?_ ?_ ?_
 ·have j:=j.cP aI 69
  exact⟨(.slice none 0 0),j.sp 2 [1,0]⟩
 ·rintro hm ad _ w ⟨au,O,rfl,j⟩
  refine RC.sr (ic ((p0.length:Int)) ((p0.length:Int)) (RL.nq (RC.fu sA (RC.ex ?_))))
  exact⟨rfl,au,j.sp 2 [0,1]⟩
 ·rintro hm ae ad s' _ w hk ⟨av,O,rfl,j⟩ o
  refine RC.sr (ic ((ae:Int)) ((p0.length:Int)) (RL.nq (RC.eZ (sw hk) (RC.ss (RC.bs ?_)))))
  obtain⟨ab,aw,o⟩:=bd o
  refine RL.bO 0 j pZ aw fun a2 j=>(RL.bJ 0 ab j xO fun a3 j=>(RL.alloc j DU.z fun aj w j=>?_))
  refine RL.bZ 0 j 1 zr xO fun w j=>?_
  refine RL.ns (aP (vi 0) (RL.nt ?_))
  obtain⟨a4,hN,o⟩:=bd o
  refine RC.iter (fun(aa: (List aI)×Int) U w=>∃aq:Value,SH E V [(3,aq),(5,vp aj 0),(6,vi aa.2),(7,v0),(8,vi p0.length),(9,vi ae)] [bx 126 aj ab,rd v0 p0,own 69 aq aa.1] U w) (fun(aa: (List aI)×Int) U w=>∃ah:Value,SH E V [(3,ah),(7,v0),(8,vi p0.length),(9,vi ae)] [bx 126 aj ab,rd v0 p0,own 69 ah aa.1] U w) (fun(r:Empty) _ _=>r.elim) hN ?_ ?_ ?_ ?_
  ·exact⟨av,j.sp 5 [0,3,4]⟩
  ·rintro aa fl _ w ⟨ak,O,rfl,j⟩ o
   refine RC.seq (RC.sr (mv (vi aa.2) (RL.aX zr mq (RL.aZ 0 j zr eC eV fun a6 j=>(RL.bB 0 ab.Xs j mB (ic aa.2 ((ab.Xs.length:Int)) (RL.nt (dT o (fun hc o=>?_) fun hc o=>?_))))))))
   rotate_left
   ·refine RC.ex ?_
    obtain rfl:=oi o
    exact⟨rfl,ak,j.sp 4 [1,2,3]⟩
   refine RC.ss (RC.block (RC.vV mixed [1,0,0,0,0,0,0,0,0,0,0,0,0,0,0,0,0,2,2,0] [0,1,2,3,4,5,6,7,8,9,10,11,12,13,14,15,16,17,18,19] ?_))
   have j:=j.drew
   refine DP.e1 ak zr (fun w=>RL.move ak zt DP.d1) (DP.e0 zr (RL.aX zr mq (aW zr (RL.aZ 1 j zr eC eV fun a7 j=>(aW zr (mv (vi aa.2) (aW zr ?_)))))))
   obtain⟨xz,ay,o⟩:=bd o
   refine RL.bO 0 j eF ay fun a8 j=>(aW zr (RL.bG xz 0 j cL (aW zr (RL.aX zr ql (aW zr (RL.aM 3 j zr ik cL (aW zr (RL.aX zr mq ?_))))))))
   refine aW zr (RL.aZ 3 j zr eC eV fun a9 j=>(aW zr (mv (vi aa.2) (aW zr (RL.gk aa.2 1 (aW zr ?_))))))
   obtain⟨ag,az,o⟩:=bd o
   refine RL.bO 0 j eF az fun ba j=>(aW zr (RL.bG ag 0 j cL (aW zr (RL.aX zr nU (aW zr (RL.aM 5 j zr fS cL (aW zr ?_)))))))
   have j:=(((j.sc Int xz).sc Int ab.Y0).sc Int ag).sc Int ab.Y1
   refine RL.build (⟨xz,ab.Y0,ag,ab.Y1⟩:aI) trivial rfl j [(0,vi xz),(1,vi ab.Y0),(2,vi ag),(3,vi ab.Y1)] rfl DV rfl (fun M hs g=>by have h:=tF M;exact cT.cons (f:=fun(x:aI) y=>{x with X0:=y}) h pf (g.sat 3 _ rfl).1 fun _ h=>cT.cons (f:=fun(x:aI) y=>{x with Y0:=y}) h qC (g.sat 2 _ rfl).1 fun _ h=>cT.cons (f:=fun(x:aI) y=>{x with X1:=y}) h pg (g.sat 1 _ rfl).1 fun _ h=>cT.cons (f:=fun(x:aI) y=>{x with Y1:=y}) h qD (g.sat 0 _ rfl).1 fun _ h=>cT.nil h) fun a0 j=>?_
   refine oZ zr (RL.dN ([(⟨xz,ab.Y0,ag,ab.Y1⟩:aI)]: (List aI)) j [a0] jm oR (fun M hs g=>⟨(g.sat 0 _ zr).1,zt⟩) fun bb w j=>(EI zr ?_))
   have j:=j.freeze 0
   obtain⟨bc,a1,o⟩:=bd o
   refine RL.app 13 0 j Av a1 fun ar w j=>?_
   refine rB zr (aP ar (DP.d0 (DP.z (bP (aH (RC.region (mv (vi aa.2) (RL.gk aa.2 2 ?_))))))))
   refine aP (vi (IntKind.wrap .i64 (aa.2+2))) (RL.nil ?_)
   obtain rfl:=oi o
   exact⟨rfl,ar,j.sp 14 [11,12,13]⟩
  ·intro r _ _ _ _
   exact r.elim
  rintro aa _ w rfl ⟨ah,O,rfl,j⟩
  rw [Fo.cZ] at o
  refine bP (aH (RC.region (RL.inc hk hm (mv (vi ((ae+1:Nat):Int)) (RL.nil ?_)))))
  obtain rfl:=oi o
  exact⟨rfl,ah,j.sp 3 [1,2]⟩
 rintro _ w ⟨af,O,rfl,j⟩
 refine aH (RC.sr (mv af (aP af (RL.nt (RC.ret ?_)))))
 obtain rfl:=oi o
 exact bY (j.pk 2 [1])
def vZ (E:World) (V:List HP) (r:Bool) (U:Nat->Value) (w:World):Prop:=lG bN 26 Tryz.f45 (aU E V r) .ret U w
theorem u4 {p0: (List aI)} {p1: (List aI)} {res:Bool} (j:Holds E w V) (h0:V[i0]? =some (rd v0 p0)) (h1:V[i1]? =some (rd v1 p1)) (o:kJ N p0 p1=some res):
    Calls bN 45 [v0,v1].toArray w (gJ (aU E V res)):=by
 unfold kJ at o
 refine enter Tryz.func45 zr zr ?_
 have j:=(j.dup (i0+0) h0).dup (i1+1) h1
 refine RC.sr (aP (vb false) (RL.nq (RC.sr (mv v0 (RL.bB 1 p0 j nC (mv v1 (RL.bB 0 p1 j nC (ic ((p0.length:Int)) ((p1.length:Int)) ?_))))))))
 refine RL.nt (dT o (fun hc o=>?_) fun hc o=>?_)
 ·refine RC.sr (aP (vb false) (RL.nt (RC.rt ?_)))
  obtain rfl:=oi o
  exact bY ⟨rfl,j.drop 2⟩
 refine RC.ss (RC.sr (mv v0 (RL.bB 1 p0 j nC (mv (vi 0) (RL.nt ?_)))))
 obtain⟨an,hN,o⟩:=bd o
 refine RC.range (fun(aa:Nat) (ab:Unit)=>SH E V [(0,v0),(1,v1),(12,vi p0.length),(13,vi aa)] [rd v0 p0,rd v1 p1]) (fun(ab:Unit)=>SH E V [] [rd v0 p0,rd v1 p1]) (vZ E V) hN ?_ ?_ ?_ ?_ ?_
 ·exact j.sp 2 [1,0]
 ·rintro hm ab _ w ⟨O,rfl,j⟩
  refine RC.sr (ic ((p0.length:Int)) ((p0.length:Int)) (RL.nq (RC.fu sA (RC.ex ?_))))
  exact⟨rfl,j.sp 2 [0,1]⟩
 ·rintro hm aa ab fl _ w hk ⟨O,rfl,j⟩ o
  refine RC.sr (ic ((aa:Int)) ((p0.length:Int)) (RL.nq (RC.eZ (sw hk) (RC.ss (RC.bs (mv (vi aa) (aP (vi aa) (RL.nq ?_))))))))
  refine RC.zm mixed ?_
  have j:=j.drew
  refine RO.go (mv v0 (RO.nx (mv (vi aa) (RO.nx ?_))))
  obtain⟨ag,aj,o⟩:=bd o
  refine RL.bO 0 j jm aj fun aq j=>(RO.nx (RL.bJ 0 ag j iK fun ar j=>(RO.nx (mv v1 (RO.nx (mv (vi aa) (RO.nx ?_)))))))
  obtain⟨ah,ak,o⟩:=bd o
  refine RL.bO 3 j jm ak fun au j=>(RO.nx (RL.bJ 0 ah j iK fun av j=>(RO.nx (RL.Mg 2 0 ag ah zr j zr zr zr zr HD zr (RO.last (aH (dT o (fun hc o=>?_) fun hc o=>?_)))))))
  rotate_left
  ·refine RC.skip (bP (aH (RC.region (RL.inc hk hm (mv (vi ((aa+1:Nat):Int)) (RL.nil ?_))))))
   obtain rfl:=oi o
   exact⟨rfl,j.sp 6 [4,5]⟩
  refine RC.sr (aP (vb false) (RL.nt (RC.rb (bR ?_))))
  obtain rfl:=oi o
  exact⟨rfl,bY ⟨rfl,j.drop 6⟩⟩
 ·intro r U w e hK
  subst e
  refine bR ?_
  obtain rfl:=oi o
  exact hK
 rintro ab _ w rfl ⟨O,rfl,j⟩
 rw [Fo.cZ] at o
 refine aH (RC.sr (aP (vb true) (RL.nt (RC.ret ?_))))
 obtain rfl:=oi o
 exact bY ⟨rfl,j.drop 2⟩
def v5 (E:World) (V:List HP) (r:Int) (U:Nat->Value) (w:World):Prop:=lG bN 52 Tryz.f21 (aY E V r) .ret U w
theorem pK {p0: (List aI)} (j:Holds E w V) (h0:V[i0]? =some (rd v0 p0)) (hb:jO N p0=some res):
    Calls bN 21 [v0].toArray w (gJ (aY E V res)):=by
 unfold jO at hb
 refine enter Tryz.func21 zr zr ?_
 have j:=j.dup (i0+0) h0
 refine RC.sr (aP (vi 0) (RL.nq (RC.sr (mv v0 ?_))))
 obtain⟨av,ay,hb⟩:=bd hb
 refine RL.call zt zr Mu [v0] zr (aD (vY N (i0:=0) j zr ay) ?_)
 rintro _ w ⟨rfl,j⟩
 refine aP (vi av) (RL.ns (mv (vi av) (ic av 0 (RL.nt (dT hb (fun hc hb=>?_) fun hc hb=>?_)))))
 ·refine RC.sr (mv (vi av) (aP (vi av) (RL.nt (RC.rt ?_))))
  obtain rfl:=oi hb
  exact bY ⟨rfl,j.drop 1⟩
 refine RC.ss (RC.sr (aP (vi 1) (RL.nt ?_)))
 obtain⟨bg,hN,hb⟩:=bd hb
 refine RC.iter (fun(ao:Int)=>SH E V [(0,v0),(4,vi ao)] [rd v0 p0]) (fun(ao:Int)=>SH E V [(0,v0)] [rd v0 p0]) (v5 E V) hN ?_ ?_ ?_ ?_
 ·exact j.sp 1 [0]
 ·rintro ao fl _ w ⟨O,rfl,j⟩ hb
  refine RC.seq (RC.sr (mv (vi ao) (mv v0 (RL.bB 0 p0 j nC (ic ao ((p0.length:Int)) (RL.nt (dT hb (fun hc hb=>?_) fun hc hb=>?_)))))))
  rotate_left
  ·refine RC.ex ?_
   obtain rfl:=oi hb
   exact⟨rfl,j.sp 1 [0]⟩
  refine RC.ss (RC.block (RC.seq ?_))
  obtain⟨o,a1,hb⟩:=bd hb
  obtain⟨aa,a2,hb⟩:=bd hb
  refine RC.Gq E V mixed [1,1,1,0,0,1,1,0,0,0,0,0,0] [3,4,7,8,9,10,11,12] (fun(x:Value×Value×Value×Value×Nat×Nat)=>(fun ah ai aj ak ae af=>[(0,18,v0),(1,19,(vi ao)),(2,20,(vi (IntKind.wrap .i64 (ao - 1)))),(3,21,ah),(4,22,ai),(5,23,v0),(6,24,(vi ao)),(7,25,aj),(8,26,ak),(9,5,(vp ae 0)),(10,6,(vp af 0))]) x.1 x.2.1 x.2.2.1 x.2.2.2.1 x.2.2.2.2.1 x.2.2.2.2.2) [(0,v0),(4,vi ao)] [] (fun(D:Nat->Bool) (x:Value×Value×Value×Value×Nat×Nat)=>(fun ah ai aj ak ae af=>[bif D 0 then (pt ah o) else bE,bif D 1 then (rd ai o) else bE,bif D 2 then (pt aj aa) else bE,bif D 3 then (rd ak aa) else bE,bif D 6 then (bx 69 ae o) else (bif D 4 then (raw 69 ae 4) else bE),bif D 7 then (bx 69 af aa) else (bif D 5 then (raw 69 af 4) else bE),rd v0 p0]) x.1 x.2.1 x.2.2.1 x.2.2.2.1 x.2.2.2.2.1 x.2.2.2.2.2) (fun x=>by kernel_rfl) ?_ ⟨fun _=>jL gn,fun _=>jL gn,fun _=>Kb gn rfl,?_,?_,fun _=>jL gn,fun _=>jL gn,?_,?_,?_,?_,?_,?_,trivial⟩ ?_
  ·have j:=((((((j.drew).bE).bE).bE).bE).bE).bE
   exact⟨(undef,undef,undef,undef,0,0),fR.none,(E3 zr),zt,j⟩
  ·rintro D U w hD ag aq ⟨⟨ah,ai,aj,ak,ae,af⟩,hv,ha,_,j⟩
   obtain⟨O,rfl⟩:=(ac (hv.at 0 rfl (ag.1 rfl)) (ac (hv.at 2 rfl (ag.2.1 rfl)) az)).fM
   have j:=j.cD 0 hD
   refine RL.bO 6 j jm a1 fun a3 j=>?_
   have j:=(j.pl 8 [0,2,3,4,5,6,7]).cR 0 true rfl bE
   exact RL.nil ⟨rfl,(a3,ai,aj,ak,ae,af),hv.pu 3,ha.u,zt,j⟩
  ·rintro D U w hD ag aq ⟨⟨ah,ai,aj,ak,ae,af⟩,hv,ha,_,j⟩
   obtain⟨O,rfl⟩:=(ac (hv.at 3 rfl (ag.1 rfl)) az).fM
   have j:=(j.cQ 0 (ag.1 rfl)).cD 1 hD
   refine RL.bJ 0 o j iK fun a4 j=>?_
   have j:=((j.pl 8 [1,0,3,4,5,6,7]).cR 0 (D 3) (ag.1 rfl) bE).cR 1 true rfl bE
   exact RL.nil ⟨rfl,(ah,a4,aj,ak,ae,af),hv.pu 4,ha.u,zt,j⟩
  ·rintro D U w hD ag aq ⟨⟨ah,ai,aj,ak,ae,af⟩,hv,ha,_,j⟩
   obtain⟨O,rfl⟩:=(ac (hv.at 5 rfl (ag.1 rfl)) (ac (hv.at 6 rfl (ag.2.1 rfl)) az)).fM
   have j:=j.cD 2 hD
   refine RL.bO 6 j jm a2 fun a5 j=>?_
   have j:=(j.pl 8 [1,2,0,4,5,6,7]).cR 2 true rfl bE
   exact RL.nil ⟨rfl,(ah,ai,a5,ak,ae,af),hv.pu 7,ha.u,zt,j⟩
  ·rintro D U w hD ag aq ⟨⟨ah,ai,aj,ak,ae,af⟩,hv,ha,_,j⟩
   obtain⟨O,rfl⟩:=(ac (hv.at 7 rfl (ag.1 rfl)) az).fM
   have j:=(j.cQ 2 (ag.1 rfl)).cD 3 hD
   refine RL.bJ 2 aa j iK fun a6 j=>?_
   have j:=((j.pl 8 [1,2,3,0,5,6,7]).cR 2 (D 7) (ag.1 rfl) bE).cR 3 true rfl bE
   exact RL.nil ⟨rfl,(ah,ai,aj,a6,ae,af),hv.pu 8,ha.u,zt,j⟩
  ·rintro D U w hD ag aq ⟨⟨ah,ai,aj,ak,ae,af⟩,hv,ha,_,j⟩
   obtain⟨O,rfl⟩:=(az (U:=U)).fM
   have j:=(j.cD 4 (nh aq hD 11)).cD 4 hD
   refine RL.alloc j oR.z fun aw w j=>?_
   have j:=((j.pl 8 [1,2,3,4,0,6,7]).cR 4 true rfl bE).fw 4 (D 11) (nh aq hD 11) (bx 69 aw o)
   exact RL.nil ⟨rfl,(ah,ai,aj,ak,aw,af),hv.pu 9,ha.u,zt,j⟩
  ·rintro D U w hD ag aq ⟨⟨ah,ai,aj,ak,ae,af⟩,hv,ha,_,j⟩
   obtain⟨O,rfl⟩:=(az (U:=U)).fM
   have j:=(j.cD 5 (nh aq hD 12)).cD 5 hD
   refine RL.alloc j oR.z fun ax w j=>?_
   have j:=((j.pl 8 [1,2,3,4,5,0,7]).cR 5 true rfl bE).fw 5 (D 12) (nh aq hD 12) (bx 69 ax aa)
   exact RL.nil ⟨rfl,(ah,ai,aj,ak,ae,ax),hv.pu 10,ha.u,zt,j⟩
  ·rintro D U w hD ag aq ⟨⟨ah,ai,aj,ak,ae,af⟩,hv,ha,_,j⟩
   obtain⟨O,rfl⟩:=(ac (hv.at 4 rfl (ag.2.1 rfl)) (ac (hv.at 9 rfl (ag.1 rfl)) az)).fM
   have j:=((j.cQ 1 (ag.2.1 rfl)).cD 4 hD).cQ 4 (ag.1 rfl)
   refine RL.bZ 4 j 1 zr iK fun w j=>?_
   have j:=(j.cR 1 (D 4) (ag.2.1 rfl) bE).cR 4 true rfl (bif D 9 then (raw 69 ae 4) else bE)
   exact RL.nil ⟨rfl,(ah,ai,aj,ak,ae,af),hv.n1,ha,zt,j⟩
  ·rintro D U w hD ag aq ⟨⟨ah,ai,aj,ak,ae,af⟩,hv,ha,_,j⟩
   obtain⟨O,rfl⟩:=(ac (hv.at 8 rfl (ag.2.1 rfl)) (ac (hv.at 10 rfl (ag.1 rfl)) az)).fM
   have j:=((j.cQ 3 (ag.2.1 rfl)).cD 5 hD).cQ 5 (ag.1 rfl)
   refine RL.bZ 5 j 3 zr iK fun w j=>?_
   have j:=(j.cR 3 (D 8) (ag.2.1 rfl) bE).cR 5 true rfl (bif D 10 then (raw 69 af 4) else bE)
   exact RL.nil ⟨rfl,(ah,ai,aj,ak,ae,af),hv.n1,ha,zt,j⟩
  rintro D U w ar ⟨⟨ah,ai,aj,ak,ae,af⟩,hv,ha,_,j⟩
  have j:=(((((j.cQ 0 (kU ar 3)).cQ 1 (kU ar 4)).cQ 2 (kU ar 7)).cQ 3 (kU ar 8)).cQ 4 (kU ar 11)).cQ 5 (kU ar 12)
  obtain⟨O,rfl⟩:=(ac (hv.at 9 rfl (kU ar 9)) (ac (hv.at 10 rfl (kU ar 10)) (ac (ha.at 0 rfl) (ac (ha.at 1 rfl) az)))).fM
  refine aH (RC.sr (RL.aX zr g8 (RL.aM 5 j zr dH cL (RL.aX zr g8 (RL.aM 4 j zr dH cL (ic aa.Y0 o.Y0 (mv (vb (decide (aa.Y0<o.Y0))) (RL.gs true (decide (aa.Y0<o.Y0)) (vp af 1) zr zr zr (eB g8) ?_))))))))
  refine RL.gs true (decide (aa.Y0<o.Y0)) (vi aa.Y0) rfl rfl rfl (cC 5 rfl j (fun h=>by exact(cM h:cv (true&&((decide (aa.Y0<o.Y0))==false)) (vp af 1)= (vp af 1))) rfl dH cL) (RL.gs true (decide (aa.Y0<o.Y0)) (vp ae 1) rfl rfl rfl (eB g8) (RL.gs true (decide (aa.Y0<o.Y0)) (vi o.Y0) rfl rfl rfl (cC 4 rfl j (fun h=>by exact(cM h:cv (true&&((decide (aa.Y0<o.Y0))==false)) (vp ae 1)= (vp ae 1))) rfl dH cL) (RL.gs true (decide (aa.Y0<o.Y0)) (vb (aa.Y0==o.Y0)) rfl rfl rfl (dK .eql .i64 aa.Y0 o.Y0 rfl (fun h=>by exact(cM h:cv (true&&((decide (aa.Y0<o.Y0))==false)) (vi aa.Y0)= (vi aa.Y0))) (fun h=>by exact(cM h:cv (true&&((decide (aa.Y0<o.Y0))==false)) (vi o.Y0)= (vi o.Y0))) rfl) (RL.gs true (decide (aa.Y0<o.Y0)) (vb (aa.Y0==o.Y0)) rfl rfl rfl (cH (hx:=fun h=>by exact(cM h:cv (true&&((decide (aa.Y0<o.Y0))==false)) (vb (aa.Y0==o.Y0))= (vb (aa.Y0==o.Y0))))) (RL.gs (true&&((decide (aa.Y0<o.Y0))==false)) (aa.Y0==o.Y0) (vp af 0) rfl rfl rfl (eB iw) (RL.gs (true&&((decide (aa.Y0<o.Y0))==false)) (aa.Y0==o.Y0) (vi aa.X0) rfl rfl rfl (cC 5 rfl j (fun h=>by exact(cM h:cv ((true&&((decide (aa.Y0<o.Y0))==false))&&((aa.Y0==o.Y0)==true)) (vp af 0)= (vp af 0))) rfl dQ cL) (RL.gs (true&&((decide (aa.Y0<o.Y0))==false)) (aa.Y0==o.Y0) (vp ae 0) rfl rfl rfl (eB iw) (RL.gs (true&&((decide (aa.Y0<o.Y0))==false)) (aa.Y0==o.Y0) (vi o.X0) rfl rfl rfl (cC 4 rfl j (fun h=>by exact(cM h:cv ((true&&((decide (aa.Y0<o.Y0))==false))&&((aa.Y0==o.Y0)==true)) (vp ae 0)= (vp ae 0))) rfl dQ cL) ?_))))))))
  refine RL.gs (true&&((decide (aa.Y0<o.Y0))==false)) (aa.Y0==o.Y0) (vb (decide (aa.X0<=o.X0))) rfl rfl rfl (dK .leq .i64 aa.X0 o.X0 rfl (fun h=>by exact(cM h:cv ((true&&((decide (aa.Y0<o.Y0))==false))&&((aa.Y0==o.Y0)==true)) (vi aa.X0)= (vi aa.X0))) (fun h=>by exact(cM h:cv ((true&&((decide (aa.Y0<o.Y0))==false))&&((aa.Y0==o.Y0)==true)) (vi o.X0)= (vi o.X0))) rfl) (RL.gs true (decide (aa.Y0<o.Y0)) (vb ((aa.Y0==o.Y0)&&(decide (aa.X0<=o.X0)))) rfl rfl rfl (kI (aa.Y0==o.Y0) rfl (fun h=>by exact(cM h:cv (true&&((decide (aa.Y0<o.Y0))==false)) (vb (aa.Y0==o.Y0))= (vb (aa.Y0==o.Y0)))) (fun h=>by exact gr (true&&((decide (aa.Y0<o.Y0))==false)) h)) (RL.pick (decide (aa.Y0<o.Y0)) (vb ((decide (aa.Y0<o.Y0))||((aa.Y0==o.Y0)&&(decide (aa.X0<=o.X0))))) (oh true) (RL.nt (dT hb (fun hc hb=>?_) fun hc hb=>?_))))
  ·refine RC.sr (aP (vi 8) (RL.nt (RC.rb (bR ?_))))
   obtain rfl:=oi hb
   exact⟨rfl,bY ⟨rfl,j.drop 7⟩⟩
  refine RC.skip (bP (aH (RC.region (mv (vi ao) (RL.gk ao 1 (aP (vi (IntKind.wrap .i64 (ao+1))) (RL.nil ?_)))))))
  obtain rfl:=oi hb
  exact⟨rfl,j.sp 7 [6]⟩
 ·intro r U w e hK
  subst e
  refine bR ?_
  obtain rfl:=oi hb
  exact hK
 rintro ao _ w rfl ⟨O,rfl,j⟩
 rw [Fo.cZ] at hb
 refine aH (RC.seq (RC.sr (mv v0 ?_)))
 obtain⟨bj,a8,hb⟩:=bd hb
 refine RL.call zt zr HC [v0] zr (aD (mO N (i0:=0) j zr a8) ?_)
 rintro a9 w j
 have j:=j.freeze 0
 obtain⟨bk,ba,hb⟩:=bd hb
 refine RL.call zt zr Kf [a9] zr (aD (n9 N (i0:=0) j zr ba) ?_)
 rintro bb w j
 refine mv v0 ?_
 have j:=j.freeze 0
 obtain⟨bc,bf,hb⟩:=bd hb
 refine RL.call zt zr ME [bb,v0] zr (aD (u4 N (i0:=0) (i1:=2) j zr zr bf) ?_)
 rintro _ w ⟨rfl,j⟩
 refine RL.not bc (RL.nt (dT hb (fun hc hb=>?_) fun hc hb=>?_))
 ·refine RC.sr (aP (vi 3) (RL.nt (RC.rt ?_)))
  obtain rfl:=oi hb
  exact bY ⟨rfl,j.drop 3⟩
 refine RC.sx (aP (vi 0) (RL.nt (RC.ret ?_)))
 obtain rfl:=oi hb
 exact bY ⟨rfl,j.drop 3⟩
theorem nr {res:Bool} (o:Holds E w V) (j:iR N p0 p1 p2=some res):
    Calls bN 40 [(vi p0),(vi p1),(vi p2)].toArray w (gJ (aU E V res)):=by
 unfold iR at j
 refine enter Tryz.func40 zr zr (RC.sr (aP (vb false) (RL.ns (mv (vi p0) (mv (vi p1) (ic p0 p1 (mv (vb (decide (p0>=p1))) (RL.gs true (decide (p0>=p1)) (vi p0) zr zr zr cH ?_))))))))
 refine RL.gs true (decide (p0>=p1)) (vi p2) rfl rfl rfl cH (RL.gs true (decide (p0>=p1)) (vb (decide (p0<=p2))) rfl rfl rfl (dK .leq .i64 p0 p2 rfl (fun h=>by exact(cM h:cv (true&&((decide (p0>=p1))==true)) (vi p0)= (vi p0))) (fun h=>by exact(cM h:cv (true&&((decide (p0>=p1))==true)) (vi p2)= (vi p2))) rfl) (RL.pick (decide (p0>=p1)) (vb ((decide (p0>=p1))&&(decide (p0<=p2)))) (gr true rfl) (aP (vb ((decide (p0>=p1))&&(decide (p0<=p2)))) (RL.nt (RC.ret ?_)))))
 obtain rfl:=oi j
 exact bY ⟨rfl,o.drop 0⟩
theorem sK {p0:jw} {res:Bool} (j:Holds E w V) (h0:V[i0]? =some (rd v0 p0)) (hb:j7 N p0=some res):
    Calls bN 41 [v0].toArray w (gJ (aU E V res)):=by
 unfold j7 at hb
 refine enter Tryz.func41 zr zr ?_
 have j:=j.dup (i0+0) h0
 refine RC.sr (RL.dD 0 v0 j zr fun ai w j=>?_)
 refine aP (vb false) (RL.nq ?_)
 obtain⟨ad,o,hb⟩:=bd hb
 refine RC.jn (fun(ad:Bool)=>SH E V [(2,vb ad)] []) ad ?_ ?_
 ·refine RC.region (RL.aX zr wP (RL.aM 0 j zr nZ cL ?_))
  obtain⟨af,ag,o⟩:=bd o
  refine RL.call zt zr Gt [(vi p0.X)] zr (aD (me N (p0:=p0.X) j ag) ?_)
  rintro _ w ⟨rfl,j⟩
  refine mv (vb af) (fA o (fun aa o=>?_) fun aa o=>?_)
  rotate_left
  ·refine bC aa (bC aa (bC aa (fB aa (vb false) (aP (vb false) (RL.nil ?_)))))
   obtain rfl:=oi o
   exact⟨rfl,j.sp 2 []⟩
  refine RL.aX (hg:=(cg aa)) zr wQ (RL.aM (hg:=(cg aa)) 0 j zr n0 cL ?_)
  obtain⟨ae,ah,o⟩:=bd o
  refine RL.call (cg aa) zr Gt [(vi p0.Y)] zr (aD (me N (p0:=p0.Y) j ah) ?_)
  rintro _ w ⟨rfl,j⟩
  refine fB aa (vb ae) (aP (vb ae) (RL.nil ?_))
  obtain rfl:=oi o
  exact⟨rfl,j.sp 2 []⟩
 rintro _ w ⟨O,rfl,j⟩
 refine aH (RC.ret ?_)
 obtain rfl:=oi hb
 exact bY ⟨rfl,j.drop 0⟩
end Go.Gk
