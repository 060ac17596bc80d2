/-
  Printed texts: Go functions as plain functions, and that they are. No statement of the seed is proved here.
-/
import Derived.Test.YtmmiladckdcjeadGreatDoorProg
import Derived.Test.YtmmiladckdcjeadGreatDoorE1
import Derived.Test.YtmmiladckdcjeadGreatDoorA1
import Derived.Test.YtmmiladckdcjeadGreatDoorA2
import Derived.Test.YtmmiladckdcjeadGreatDoorRows
import Derived.Shelf.SlGeneric
import Derived.Ground.SlsfProg
import Derived.Ground.SlgmProg
set_option linter.unusedVariables false
set_option linter.unusedSimpArgs false
set_option linter.unusedSectionVars false
set_option maxRecDepth 100000
set_option maxHeartbeats 4000000
namespace Go.Gk
open Go Go.Proofs
noncomputable abbrev bN:=Tryz.prog
def nA (x:aI):=(x.X0,x.Y0,x.X1,x.Y1)
instance instGTRect:GT aI:=GT.via nA
instance instKVRect:KV aI:=instKVvia (fun(x:aI)=>(x.X0,x.Y0,x.X1,x.Y1))
theorem dD:Fd 0 (fun x:aI=>x.X0):= .v nA (.fst .self)
theorem oY:Fs 0 Int (fun(x:aI) y=>{x with X0:=y}):= .v nA (.fst .self)
theorem cZ:Fd 1 (fun x:aI=>x.Y0):= .v nA (.snd (.fst .self))
theorem qo:Fs 1 Int (fun(x:aI) y=>{x with Y0:=y}):= .v nA (.snd (.fst .self))
theorem dY:Fd 2 (fun x:aI=>x.X1):= .v nA (.snd (.snd (.fst .self)))
theorem oZ:Fs 2 Int (fun(x:aI) y=>{x with X1:=y}):= .v nA (.snd (.snd (.fst .self)))
theorem eT:Fd 3 (fun x:aI=>x.Y1):= .v nA (.snd (.snd (.snd (.self))))
theorem qp:Fs 3 Int (fun(x:aI) y=>{x with Y1:=y}):= .v nA (.snd (.snd (.snd (.self))))
def qq (x:eQ):=(x.X,x.Y)
instance instGTPoint:GT eQ:=GT.via qq
instance instKVPoint:KV eQ:=instKVvia (fun(x:eQ)=>(x.X,x.Y))
theorem nN:Fd 0 (fun x:eQ=>x.X):= .v qq (.fst .self)
theorem zY:Fs 0 Int (fun(x:eQ) y=>{x with X:=y}):= .v qq (.fst .self)
theorem nO:Fd 1 (fun x:eQ=>x.Y):= .v qq (.snd (.self))
theorem zZ:Fs 1 Int (fun(x:eQ) y=>{x with Y:=y}):= .v qq (.snd (.self))
def qD (x:cE):=(x.At,x.dH,x.cR,x.To,x.fY)
instance instGTBore:GT cE:=GT.via qD
theorem qs:Fd 0 (fun x:cE=>x.At):= .v qD (.fst .self)
theorem l6:Fd 2 (fun x:cE=>x.dH):= .v qD (.snd (.fst .self))
theorem Gj:Fs 2 Int (fun(x:cE) y=>{x with dH:=y}):= .v qD (.snd (.fst .self))
theorem kC:Fd 3 (fun x:cE=>x.cR):= .v qD (.snd (.snd (.fst .self)))
theorem l7:Fd 4 (fun x:cE=>x.To):= .v qD (.snd (.snd (.snd (.fst .self))))
theorem qt:Fd 5 (fun x:cE=>x.fY):= .v qD (.snd (.snd (.snd (.snd (.self)))))
def uI (x:fP):=(x.Part,x.fG,x.cK,x.At)
instance instGTLand:GT fP:=GT.via uI
theorem nY:Fd 0 (fun x:fP=>x.Part):= .v uI (.fst .self)
theorem qu:Fd 1 (fun x:fP=>x.fG):= .v uI (.snd (.fst .self))
theorem qw:Fd 2 (fun x:fP=>x.cK):= .v uI (.snd (.snd (.fst .self)))
theorem qx:Fd 3 (fun x:fP=>x.At):= .v uI (.snd (.snd (.snd (.self))))
def xe (x:kH):=(x.aJ,x.cH,x.aO,x.bV)
instance instGTArt:GT kH:=GT.via xe
theorem iW:Fd 0 (fun x:kH=>x.aJ):= .v xe (.fst .self)
theorem sq:Fd 1 (fun x:kH=>x.cH):= .v xe (.snd (.fst .self))
theorem gU:Fd 2 (fun x:kH=>x.aO):= .v xe (.snd (.snd (.fst .self)))
theorem oF:Fd 3 (fun x:kH=>x.bV):= .v xe (.snd (.snd (.snd (.self))))
def kg (x:aA):=(x.Y0,x.Y1,x.Xs)
instance instGTshape_Band:GT aA:=GT.via kg
theorem gK:Fd 0 (fun x:aA=>x.Y0):= .v kg (.fst .self)
theorem t5:Fs 0 Int (fun(x:aA) y=>{x with Y0:=y}):= .v kg (.fst .self)
theorem fQ:Fd 1 (fun x:aA=>x.Y1):= .v kg (.snd (.fst .self))
theorem pK:Fs 1 Int (fun(x:aA) y=>{x with Y1:=y}):= .v kg (.snd (.fst .self))
theorem dS:Fd 2 (fun x:aA=>x.Xs):= .v kg (.snd (.snd (.self)))
theorem t6:Fs 2 (List Int) (fun(x:aA) y=>{x with Xs:=y}):= .v kg (.snd (.snd (.self)))
def xf (x:fG):=(x.Part,x.fG)
instance instGTPin:GT fG:=GT.via xf
instance instKVPin:KV fG:=instKVvia (fun(x:fG)=>(x.Part,x.fG))
theorem DD:Fd 0 (fun x:fG=>x.Part):= .v xf (.fst .self)
theorem DE:Fs 0 eJ (fun(x:fG) y=>{x with Part:=y}):= .v xf (.fst .self)
theorem DF:Fd 1 (fun x:fG=>x.fG):= .v xf (.snd (.self))
theorem DG:Fs 1 eJ (fun(x:fG) y=>{x with fG:=y}):= .v xf (.snd (.self))
def jo (x:aK):=(x.cK,x.Set,x.gz)
instance instGTcopper_Piece:GT aK:=GT.via jo
theorem oG:Fd 0 (fun x:aK=>x.cK):= .v jo (.fst .self)
theorem xg:Fs 0 Int (fun(x:aK) y=>{x with cK:=y}):= .v jo (.fst .self)
theorem xh:Fd 1 (fun x:aK=>x.Set):= .v jo (.snd (.fst .self))
theorem xk:Fs 1 (List aA) (fun(x:aK) y=>{x with Set:=y}):= .v jo (.snd (.fst .self))
theorem oH:Fd 2 (fun x:aK=>x.gz):= .v jo (.snd (.snd (.self)))
theorem xl:Fs 2 (List aI) (fun(x:aK) y=>{x with gz:=y}):= .v jo (.snd (.snd (.self)))
def Gl (x:cN):=(x.j9,x.aO,x.gq)
instance instGTGroup:GT cN:=GT.via Gl
def xm (x:j4):=(x.cE,x.Number)
instance instGTHop:GT j4:=GT.via xm
instance instKVHop:KV j4:=instKVvia (fun(x:j4)=>(x.cE,x.Number))
theorem xn:Fd 0 (fun x:j4=>x.cE):= .v xm (.fst .self)
theorem DH:Fs 0 Bool (fun(x:j4) y=>{x with cE:=y}):= .v xm (.fst .self)
theorem uJ:Fd 1 (fun x:j4=>x.Number):= .v xm (.snd (.self))
theorem xo:Fs 1 Int (fun(x:j4) y=>{x with Number:=y}):= .v xm (.snd (.self))
def gN (x:aF):=(x.from_,x.to)
instance instGTetchhouseref1_span:GT aF:=GT.via gN
instance instKVetchhouseref1_span:KV aF:=instKVvia (fun(x:aF)=>(x.from_,x.to))
theorem eG:Fd 0 (fun x:aF=>x.from_):= .v gN (.fst .self)
theorem lr:Fs 0 Int (fun(x:aF) y=>{x with from_:=y}):= .v gN (.fst .self)
theorem eH:Fd 1 (fun x:aF=>x.to):= .v gN (.snd (.self))
theorem lu:Fs 1 Int (fun(x:aF) y=>{x with to:=y}):= .v gN (.snd (.self))
def fL (x:aL):=(x.from_,x.to,x.ja)
instance instGTetchhouseref1_band:GT aL:=GT.via fL
theorem nZ:Fd 0 (fun x:aL=>x.from_):= .v fL (.fst .self)
theorem n0:Fs 0 Int (fun(x:aL) y=>{x with from_:=y}):= .v fL (.fst .self)
theorem lv:Fd 1 (fun x:aL=>x.to):= .v fL (.snd (.fst .self))
theorem lx:Fs 1 Int (fun(x:aL) y=>{x with to:=y}):= .v fL (.snd (.fst .self))
theorem gu:Fd 2 (fun x:aL=>x.ja):= .v fL (.snd (.snd (.self)))
theorem n7:Fs 2 (List aF) (fun(x:aL) y=>{x with ja:=y}):= .v fL (.snd (.snd (.self)))
def su (x:Piece):=(x.cK,x.Dp,x.Hr)
instance instGTPiece:GT Piece:=GT.via su
theorem z5:Fs 0 Int (fun(x:Piece) y=>{x with cK:=y}):= .v su (.fst .self)
theorem z6:Fs 1 eQ (fun(x:Piece) y=>{x with Dp:=y}):= .v su (.snd (.fst .self))
theorem z7:Fs 3 Int (fun(x:Piece) y=>{x with Hr:=y}):= .v su (.snd (.snd (.self)))
theorem zC (M:eL):GT.ok M (#[(.int .i64 0),(.int .i64 0)]:Array Value).toList (⟨0,0⟩:eQ):=⟨[(.int .i64 0)],[(.int .i64 0)],rfl,(show GT.ok M [(.int .i64 0)] (0:Int) from rfl),(show GT.ok M [(.int .i64 0)] (0:Int) from rfl)⟩
theorem FN (M:eL):GT.ok M (#[(.int .i64 0),(.int .i64 0),(.int .i64 0),(.int .i64 0)]:Array Value).toList (⟨0,⟨0,0⟩,0⟩:Piece):=⟨[(.int .i64 0)],[(.int .i64 0),(.int .i64 0),(.int .i64 0)],rfl,(show GT.ok M [(.int .i64 0)] (0:Int) from rfl),⟨[(.int .i64 0),(.int .i64 0)],[(.int .i64 0)],rfl,(show GT.ok M [(.int .i64 0),(.int .i64 0)] (⟨0,0⟩:eQ) from zC M),(show GT.ok M [(.int .i64 0)] (0:Int) from rfl)⟩⟩
theorem z8 (M:eL):GT.ok M (#[(.int .i64 0),(.slice none 0 0),(.slice none 0 0)]:Array Value).toList (⟨0,[],[]⟩:aK):=⟨[(.int .i64 0)],[(.slice none 0 0),(.slice none 0 0)],rfl,(show GT.ok M [(.int .i64 0)] (0:Int) from rfl),⟨[(.slice none 0 0)],[(.slice none 0 0)],rfl,(show GT.ok M [(.slice none 0 0)] ([]: (List aA)) from ⟨_,rfl,none,0,0,rfl,rfl,bT _,by simp [maxLen],fun _ _ h=>by simp at h⟩),(show GT.ok M [(.slice none 0 0)] ([]: (List aI)) from ⟨_,rfl,none,0,0,rfl,rfl,bT _,by simp [maxLen],fun _ _ h=>by simp at h⟩)⟩⟩
theorem Ke (M:eL):GT.ok M (#[(.int .i64 0),(.int .i64 0),(.int .i64 0),(.int .i64 0),(.int .i64 0),(.bool false)]:Array Value).toList (⟨⟨0,0⟩,0,0,0,false⟩:cE):=⟨[(.int .i64 0),(.int .i64 0)],[(.int .i64 0),(.int .i64 0),(.int .i64 0),(.bool false)],rfl,(show GT.ok M [(.int .i64 0),(.int .i64 0)] (⟨0,0⟩:eQ) from zC M),⟨[(.int .i64 0)],[(.int .i64 0),(.int .i64 0),(.bool false)],rfl,(show GT.ok M [(.int .i64 0)] (0:Int) from rfl),⟨[(.int .i64 0)],[(.int .i64 0),(.bool false)],rfl,(show GT.ok M [(.int .i64 0)] (0:Int) from rfl),⟨[(.int .i64 0)],[(.bool false)],rfl,(show GT.ok M [(.int .i64 0)] (0:Int) from rfl),(show GT.ok M [(.bool false)] (false:Bool) from rfl)⟩⟩⟩⟩
theorem tx (M:eL):GT.ok M (#[(.int .i64 0),(.int .i64 0),(.int .i64 0),(.int .i64 0)]:Array Value).toList (⟨0,0,0,0⟩:aI):=⟨[(.int .i64 0)],[(.int .i64 0),(.int .i64 0),(.int .i64 0)],rfl,(show GT.ok M [(.int .i64 0)] (0:Int) from rfl),⟨[(.int .i64 0)],[(.int .i64 0),(.int .i64 0)],rfl,(show GT.ok M [(.int .i64 0)] (0:Int) from rfl),⟨[(.int .i64 0)],[(.int .i64 0)],rfl,(show GT.ok M [(.int .i64 0)] (0:Int) from rfl),(show GT.ok M [(.int .i64 0)] (0:Int) from rfl)⟩⟩⟩
theorem xp (M:eL):GT.ok M (#[(.int .i64 0),(.int .i64 0),(.slice none 0 0)]:Array Value).toList (⟨0,0,[]⟩:aA):=⟨[(.int .i64 0)],[(.int .i64 0),(.slice none 0 0)],rfl,(show GT.ok M [(.int .i64 0)] (0:Int) from rfl),⟨[(.int .i64 0)],[(.slice none 0 0)],rfl,(show GT.ok M [(.int .i64 0)] (0:Int) from rfl),(show GT.ok M [(.slice none 0 0)] ([]: (List Int)) from ⟨_,rfl,none,0,0,rfl,rfl,bT _,by simp [maxLen],fun _ _ h=>by simp at h⟩)⟩⟩
theorem Ju (M:eL):GT.ok M (#[(.string ⟨#[]⟩),(.string ⟨#[]⟩)]:Array Value).toList (⟨⟨[]⟩,⟨[]⟩⟩:fG):=⟨[(.string ⟨#[]⟩)],[(.string ⟨#[]⟩)],rfl,(show GT.ok M [(.string ⟨#[]⟩)] (⟨[]⟩:eJ) from rfl),(show GT.ok M [(.string ⟨#[]⟩)] (⟨[]⟩:eJ) from rfl)⟩
theorem BM (M:eL):GT.ok M (#[(.bool false),(.int .i64 0)]:Array Value).toList (⟨false,0⟩:j4):=⟨[(.bool false)],[(.int .i64 0)],rfl,(show GT.ok M [(.bool false)] (false:Bool) from rfl),(show GT.ok M [(.int .i64 0)] (0:Int) from rfl)⟩
theorem pj (M:eL):GT.ok M (#[(.int .i64 0),(.int .i64 0),(.slice none 0 0)]:Array Value).toList (⟨0,0,[]⟩:aL):=⟨[(.int .i64 0)],[(.int .i64 0),(.slice none 0 0)],rfl,(show GT.ok M [(.int .i64 0)] (0:Int) from rfl),⟨[(.int .i64 0)],[(.slice none 0 0)],rfl,(show GT.ok M [(.int .i64 0)] (0:Int) from rfl),(show GT.ok M [(.slice none 0 0)] ([]: (List aF)) from ⟨_,rfl,none,0,0,rfl,rfl,bT _,by simp [maxLen],fun _ _ h=>by simp at h⟩)⟩⟩
theorem po (M:eL):GT.ok M (#[(.int .i64 0),(.int .i64 0)]:Array Value).toList (⟨0,0⟩:aF):=⟨[(.int .i64 0)],[(.int .i64 0)],rfl,(show GT.ok M [(.int .i64 0)] (0:Int) from rfl),(show GT.ok M [(.int .i64 0)] (0:Int) from rfl)⟩
structure aT where
  j9: (List Int)
  aO: (List Int)
  gq:RV
  deriving Inhabited
def oI (x:aT):=(x.j9,x.aO,x.gq)
instance instGTGroup_r2:GT aT:=GT.via oI
theorem vZ:Fd 0 (fun x:aT=>x.j9):= .v oI (.fst .self)
theorem Bg:Fd 1 (fun x:aT=>x.aO):= .v oI (.snd (.fst .self))
theorem Bh:Fd 2 (fun x:aT=>x.gq):= .v oI (.snd (.snd (.self)))
theorem Bi:Fs 2 RV (fun(x:aT) y=>{x with gq:=y}):= .v oI (.snd (.snd (.self)))
def aW:XT aT cN:=⟨fun u x=>u.j9=x.j9/\u.aO=x.aO,fun M h u x=>(u.j9=x.j9/\u.aO=x.aO)/\wk 98 M h u.gq.v x.gq,fun{M M' h u x} hk hh=>⟨hh.1,(own 98 u.gq.v x.gq).mono hk hh.2⟩,fun h=>h.1⟩
theorem n8:XO aW 98 2 (fun u=>u.gq) (fun u r=>{u with gq:=r}) (fun x=>x.gq) (fun x y=>{x with gq:=y}):=⟨Bh,Bi,by decide,fun h=>h.2,fun hr ho=>⟨hr,ho⟩⟩
theorem xq (M h:eL) (u:aT) (x:cN) (cs:List Value) (hd: ∀b o,h b=some o->M b=none) (hx:aW.ok M h u x) (hc:GT.ok M cs u):GT.ok (q8 M h) cs x:=by
  obtain⟨⟨e0,e1⟩,ho⟩:=hx
  obtain⟨c0,d0,hd0,a0,c1,d1,hd1,a1,a2⟩:=hc
  exact⟨c0,d0,hd0,GT.mono (vj M h) (show GT.ok M c0 x.j9 from e0▸(show GT.ok M c0 u.j9 from a0)),⟨c1,d1,hd1,GT.mono (vj M h) (show GT.ok M c1 x.aO from e1▸(show GT.ok M c1 u.aO from a1)),⟨u.gq.v,a2,wk.sl hd ho⟩⟩⟩
theorem rN:nV bN 27 true 4:=xd
theorem me:ou bN 27 0 0:=pI
theorem oQ:nV bN 22 false 1:=xd
theorem oR:Tryz.prog.underlying 22=some (.slice 23):=by kernel_rfl
theorem Cr:ou bN 27 1 1:=pI
theorem q9:nV bN 23 false 1:=xd
theorem mH:Tryz.prog.underlying 23=some (.slice 73):=by kernel_rfl
theorem rf:wm bN 22 23 1:=DC
theorem iK:wm bN 23 73 4:=DC
theorem iq:nV bN 73 true 4:=xd
theorem om:CT bN 73 4:=EA (.agg #[(.int .i64 0),(.int .i64 0),(.int .i64 0),(.int .i64 0)])
theorem gO:ou bN 73 0 0:=pI
theorem cG:nV bN 3 false 1:=xd
theorem KZ:g8 bN 115:=iA Tryz.func115
theorem Gm:g8 bN 83:=iA Tryz.func83
theorem gG:ou bN 73 1 1:=pI
theorem iX:ou bN 73 2 2:=pI
theorem jZ:ou bN 73 3 3:=pI
theorem K0:g8 bN 93:=iA Tryz.func93
theorem Mr:g8 bN 51:=iA Tryz.func51
theorem mixed:Tryz.prog.follows .mixedOrders=true:=by kernel_rfl
theorem z9:t3 bN 23 73 4 32:=t3.of (.agg #[(.int .i64 0),(.int .i64 0),(.int .i64 0),(.int .i64 0)])
theorem Ms:g8 bN 84:=iA Tryz.func84
theorem Mt:g8 bN 86:=iA Tryz.func86
theorem K1:g8 bN 85:=iA Tryz.func85
theorem K2:Ml bN 51 [(.slice none 0 0)]:=⟨(.slice none 0 0),fun _=>by kernel_rfl,rfl⟩
theorem fM:nV bN 51 false 1:=xd
theorem eD:wm bN 51 3 1:=DC
theorem CX:CT bN 3 1:=EA (.int .i64 0)
theorem rh:t3 bN 51 3 1 8:=t3.of (.int .i64 0)
theorem Mu:g8 bN 87:=iA Tryz.func87
theorem mw:Tryz.prog.underlying 51=some (.slice 3):=by kernel_rfl
theorem K3:G5 bN 3 (0:Int):=G5.of (.int .i64 0) (fun M=>rfl)
theorem Mv:g8 bN 88:=iA Tryz.func88
theorem Jv:g8 bN 103:=iA Tryz.func103
theorem Mw:G5 bN 73 (⟨0,0,0,0⟩:aI):=G5.of (.agg #[(.int .i64 0),(.int .i64 0),(.int .i64 0),(.int .i64 0)]) (fun M=>(tx M))
theorem Mx:g8 bN 90:=iA Tryz.func90
theorem My:g8 bN 89:=iA Tryz.func89
theorem K4:g8 bN 120:=iA Tryz.func120
theorem Mz:g8 bN 92:=iA Tryz.func92
theorem K5:vE bN 81 [(0,1),(1,1),(2,1)] #[(.int .i64 0),(.int .i64 0),(.slice none 0 0)]:=vE.of (.agg #[(.int .i64 0),(.int .i64 0),(.slice none 0 0)]) Tryz.underlying81
theorem nP:ou bN 81 2 2:=pI
theorem pL:ou bN 81 1 1:=pI
theorem rO:ou bN 81 0 0:=pI
theorem vI:Tryz.prog.underlying 56=some (.slice 81):=by kernel_rfl
theorem o0:wm bN 56 81 3:=DC
theorem K6:g8 bN 119:=iA Tryz.func119
theorem Cs:nV bN 81 true 3:=xd
theorem Hx:CT bN 81 3:=EA (.agg #[(.int .i64 0),(.int .i64 0),(.slice none 0 0)])
theorem MA:t3 bN 56 81 3 40:=t3.of (.agg #[(.int .i64 0),(.int .i64 0),(.slice none 0 0)])
theorem K7:g8 bN 91:=iA Tryz.func91
theorem Hy:g8 bN 49:=iA Tryz.func49
theorem DI:vE bN 73 [(0,1),(1,1),(2,1),(3,1)] #[(.int .i64 0),(.int .i64 0),(.int .i64 0),(.int .i64 0)]:=vE.of (.agg #[(.int .i64 0),(.int .i64 0),(.int .i64 0),(.int .i64 0)]) Tryz.underlying73
theorem IW:g8 bN 15:=iA Tryz.func15
theorem Hz:Tryz.prog.underlying 3=some (.int .i64):=by kernel_rfl
theorem HA:J0 bN 73 aI:=⟨fun M cs ds a b w ha hb=>by
  obtain⟨_,_,rfl,rfl,⟨_,_,rfl,rfl,⟨_,_,rfl,rfl,rfl⟩⟩⟩:=ha
  obtain⟨_,_,rfl,rfl,⟨_,_,rfl,rfl,⟨_,_,rfl,rfl,rfl⟩⟩⟩:=hb
  refine(m6 9999 Tryz.underlying73 (Cg.cons (by decide) (gr cG _) (gr cG _) (j8 Hz _ _ w) (Cg.cons (by decide) (gr cG _) (gr cG _) (j8 Hz _ _ w) (Cg.cons (by decide) (gr cG _) (gr cG _) (j8 Hz _ _ w) (Cg.cons (by decide) (gr cG _) (gr cG _) (j8 Hz _ _ w) Cg.nil))))).trans ?_
  congr 1
  cases a;cases b;unfold nA
  rw [eX]
  simp,by kernel_rfl⟩
theorem MB:g8 bN 52:=iA Tryz.func52
theorem K8:g8 bN 27:=iA Tryz.func27
theorem iw:ou bN 27 2 2:=pI
theorem nQ:nV bN 24 false 1:=xd
theorem wy:Tryz.prog.underlying 24=some (.slice 70):=by kernel_rfl
theorem qE:wm bN 24 70 6:=DC
theorem mf:nV bN 70 true 6:=xd
theorem EV:CT bN 70 6:=EA (.agg #[(.int .i64 0),(.int .i64 0),(.int .i64 0),(.int .i64 0),(.int .i64 0),(.bool false)])
theorem rP:ou bN 70 1 2:=pI
theorem IX:g8 bN 47:=iA Tryz.func47
theorem yk:ou bN 70 0 0:=pI
theorem zm:nV bN 39 true 2:=xd
theorem wz:ou bN 39 0 0:=pI
theorem wA:ou bN 39 1 1:=pI
theorem K9:g8 bN 48:=iA Tryz.func48
theorem Gn:g8 bN 31:=iA Tryz.func31
theorem MC:g8 bN 94:=iA Tryz.func94
theorem MD:g8 bN 50:=iA Tryz.func50
theorem Lb:g8 bN 26:=iA Tryz.func26
theorem pM:ou bN 70 2 3:=pI
theorem rQ:ou bN 70 3 4:=pI
theorem ME:g8 bN 28:=iA Tryz.func28
theorem rR:ou bN 27 3 3:=pI
theorem Bj:nV bN 25 false 1:=xd
theorem Gp:Tryz.prog.underlying 25=some (.slice 94):=by kernel_rfl
theorem Gq:wm bN 25 94 5:=DC
theorem vJ:nV bN 94 true 5:=xd
theorem HB:CT bN 94 5:=EA (.agg #[(.string ⟨#[]⟩),(.string ⟨#[]⟩),(.int .i64 0),(.int .i64 0),(.int .i64 0)])
theorem uK:ou bN 94 0 0:=pI
theorem Ba:nV bN 9 false 1:=xd
theorem Bl:Tryz.prog.underlying 9=some (.string):=by kernel_rfl
theorem MF (a:eJ) (b:Int) (w:World): (callFunc 165 [(str a),(.int .u8 b)].toArray).run bN w = .ok (.value (vi ((Lib.countByte a.dA (Int.toNat b).toUInt8:Nat):Int))) w:=zQ Extern.BytealgCount.count Tryz.func165 (Lib.run_countString _ _ w)
theorem MG (a:eJ) (b:Int) (w:World): (callFunc 152 [(str a),(.int .u8 b)].toArray).run bN w = .ok (.value (vi (Lib.indexByte a.dA (Int.toNat b).toUInt8))) w:=zQ Extern.BytealgIndexByte.indexByte Tryz.func152 (Lib.run_indexByteString _ _ w)
theorem Jw:g8 bN 123:=iA Tryz.func123
theorem Lc:g8 bN 166:=iA Tryz.func166
theorem Jx:g8 bN 151:=iA Tryz.func151
theorem Ld:g8 bN 150:=iA Tryz.func150
theorem Le:t3 bN 137 9 1 16:=t3.of (.string ⟨#[]⟩)
theorem NY:G5 bN 9 (⟨[]⟩:eJ):=G5.of (.string ⟨#[]⟩) (fun M=>rfl)
theorem DJ:wm bN 137 9 1:=DC
theorem Lg:g8 bN 122:=iA Tryz.func122
theorem Lh:g8 bN 96:=iA Tryz.func96
theorem Jy:Tryz.prog.underlying 137=some (.slice 9):=by kernel_rfl
theorem Li:g8 bN 121:=iA Tryz.func121
theorem Lj:g8 bN 98:=iA Tryz.func98
theorem Ll:g8 bN 54:=iA Tryz.func54
theorem MH:g8 bN 97:=iA Tryz.func97
theorem MI:g8 bN 95:=iA Tryz.func95
theorem MJ:g8 bN 53:=iA Tryz.func53
theorem yl:ou bN 94 1 1:=pI
theorem ym:ou bN 94 2 2:=pI
theorem yn:ou bN 94 3 3:=pI
theorem Kf:CT bN 98 2:=EA (.agg #[(.string ⟨#[]⟩),(.string ⟨#[]⟩)])
theorem Lm:vE bN 98 [(0,1),(1,1)] #[(.string ⟨#[]⟩),(.string ⟨#[]⟩)]:=vE.of (.agg #[(.string ⟨#[]⟩),(.string ⟨#[]⟩)]) Tryz.underlying98
theorem Ln:nV bN 98 true 2:=xd
theorem Kg:g8 bN 56:=iA Tryz.func56
theorem HC:ou bN 98 0 0:=pI
theorem Hs (a b:eJ) (w:World): (callFunc 153 [(str a),(str b)].toArray).run bN w = .ok (.value (vi (Lib.compareBytes a.dA b.dA))) w:=zQ Extern.BytealgCompare.compare Tryz.func153 (Lib.run_compareString _ _ w)
theorem Lo:g8 bN 124:=iA Tryz.func124
theorem Lp:g8 bN 99:=iA Tryz.func99
theorem HD:ou bN 98 1 1:=pI
theorem MK:g8 bN 55:=iA Tryz.func55
theorem ML:g8 bN 29:=iA Tryz.func29
theorem Lq:g8 bN 57:=iA Tryz.func57
theorem MM:g8 bN 30:=iA Tryz.func30
theorem MN:vE bN 54 [(0,4),(4,1),(5,1),(6,1),(7,1),(8,1),(9,1),(10,1),(11,1)] #[(.slice none 0 0),(.slice none 0 0),(.slice none 0 0),(.slice none 0 0),(.slice none 0 0),(.slice none 0 0),(.slice none 0 0),(.slice none 0 0),(.slice none 0 0),(.slice none 0 0),(.slice none 0 0),(.slice none 0 0)]:=vE.of (.agg #[(.slice none 0 0),(.slice none 0 0),(.slice none 0 0),(.slice none 0 0),(.slice none 0 0),(.slice none 0 0),(.slice none 0 0),(.slice none 0 0),(.slice none 0 0),(.slice none 0 0),(.slice none 0 0),(.slice none 0 0)]) Tryz.underlying54
theorem uL:ou bN 54 0 0:=pI
theorem Kh:g8 bN 58:=iA Tryz.func58
theorem Gr:wm bN 47 56 1:=DC
theorem Ki:CT bN 56 1:=EA (.slice none 0 0)
theorem Kj:Tryz.prog.underlying 47=some (.slice 56):=by kernel_rfl
theorem IY:nV bN 56 false 1:=xd
theorem Jz:g8 bN 125:=iA Tryz.func125
theorem NZ:Tryz.prog.underlying 4=some (.bool):=by kernel_rfl
theorem Lr:g8 bN 126:=iA Tryz.func126
theorem Ls:g8 bN 101:=iA Tryz.func101
theorem Lt:g8 bN 100:=iA Tryz.func100
theorem MO:g8 bN 59:=iA Tryz.func59
theorem MP:g8 bN 60:=iA Tryz.func60
theorem EW:ou bN 54 1 4:=pI
theorem Kk:nV bN 47 false 1:=xd
theorem Lu:t3 bN 47 56 1 24:=t3.of (.slice none 0 0)
theorem HE:g8 bN 102:=iA Tryz.func102
theorem DK:Gg bN 144 3 3 Int Int (0:Int):=⟨by kernel_rfl,(Be.int Hz),IK (Z:=(.int .i64 0)) (by kernel_rfl) (fun M=>⟨_,rfl,rfl⟩)⟩
theorem HF:CT bN 23 1:=EA (.slice none 0 0)
theorem EX:t3 bN 22 23 1 24:=t3.of (.slice none 0 0)
theorem MQ:g8 bN 61:=iA Tryz.func61
theorem wB:ou bN 54 2 5:=pI
theorem EY:nV bN 48 false 1:=xd
theorem MR:vE bN 60 [(0,1),(1,1),(2,1)] #[(.int .i64 0),(.slice none 0 0),(.slice none 0 0)]:=vE.of (.agg #[(.int .i64 0),(.slice none 0 0),(.slice none 0 0)]) Tryz.underlying60
theorem IZ:wm bN 48 60 3:=DC
theorem I0:CT bN 60 3:=EA (.agg #[(.int .i64 0),(.slice none 0 0),(.slice none 0 0)])
theorem MS:t3 bN 48 60 3 56:=t3.of (.agg #[(.int .i64 0),(.slice none 0 0),(.slice none 0 0)])
theorem HG:Tryz.prog.underlying 48=some (.slice 60):=by kernel_rfl
theorem MT:g8 bN 32:=iA Tryz.func32
theorem MU:g8 bN 64:=iA Tryz.func64
theorem Gs:nV bN 60 true 3:=xd
theorem yo:ou bN 70 4 5:=pI
theorem BN:nV bN 4 false 1:=xd
theorem EZ:ou bN 60 0 0:=pI
theorem E0:ou bN 60 2 2:=pI
theorem MV:g8 bN 63:=iA Tryz.func63
theorem Lv:g8 bN 62:=iA Tryz.func62
theorem E1:ou bN 54 3 6:=pI
theorem zn:nV bN 49 false 1:=xd
theorem Aa:wm bN 49 51 1:=DC
theorem Kl:CT bN 51 1:=EA (.slice none 0 0)
theorem Km:t3 bN 49 51 1 24:=t3.of (.slice none 0 0)
theorem MW:g8 bN 33:=iA Tryz.func33
theorem Lw:vE bN 148 [(0,1)] #[(.slice none 0 0)]:=vE.of (.agg #[(.slice none 0 0)]) Tryz.underlying148
theorem p5:ou bN 148 0 0:=pI
theorem MX:g8 bN 65:=iA Tryz.func65
theorem Gt:Tryz.prog.underlying 49=some (.slice 51):=by kernel_rfl
theorem HH:g8 bN 104:=iA Tryz.func104
theorem MY:g8 bN 66:=iA Tryz.func66
theorem E2:ou bN 54 5 8:=pI
theorem Ct:ou bN 54 6 9:=pI
theorem MZ:g8 bN 67:=iA Tryz.func67
theorem HI:Ml bN 112 [(.slice none 0 0),(.slice none 0 0),(.slice none 0 0)]:=⟨(.agg #[(.slice none 0 0),(.slice none 0 0),(.slice none 0 0)]),fun _=>by kernel_rfl,rfl⟩
theorem yp:ou bN 54 4 7:=pI
theorem vK:nV bN 50 false 1:=xd
theorem Kn:Tryz.prog.underlying 50=some (.slice 112):=by kernel_rfl
theorem tz:ou bN 112 0 0:=pI
theorem vl:ou bN 112 1 1:=pI
theorem DL:nV bN 112 true 3:=xd
theorem Bm:wm bN 50 112 3:=DC
theorem HJ:CT bN 112 3:=EA (.agg #[(.slice none 0 0),(.slice none 0 0),(.slice none 0 0)])
theorem Ko:t3 bN 50 112 3 72:=t3.of (.agg #[(.slice none 0 0),(.slice none 0 0),(.slice none 0 0)])
theorem DM:CT bN 114 2:=EA (.agg #[(.bool false),(.int .i64 0)])
theorem Lx:g8 bN 127:=iA Tryz.func127
theorem JA:g8 bN 105:=iA Tryz.func105
theorem BO:vE bN 114 [(0,1),(1,1)] #[(.bool false),(.int .i64 0)]:=vE.of (.agg #[(.bool false),(.int .i64 0)]) Tryz.underlying114
theorem pq:nV bN 114 true 2:=xd
theorem M1:g8 bN 68:=iA Tryz.func68
theorem zD:ou bN 114 0 0:=pI
theorem xt:ou bN 114 1 1:=pI
theorem M3:g8 bN 69:=iA Tryz.func69
theorem zF:ou bN 112 2 2:=pI
theorem FO:nV bN 110 false 1:=xd
theorem JB:wm bN 110 98 2:=DC
theorem JC:t3 bN 110 98 2 32:=t3.of (.agg #[(.string ⟨#[]⟩),(.string ⟨#[]⟩)])
theorem HK:ou bN 54 7 10:=pI
theorem HL:ou bN 54 8 11:=pI
theorem Ly:nV bN 52 false 1:=xd
theorem M4:wm bN 52 114 2:=DC
theorem M5:t3 bN 52 114 2 16:=t3.of (.agg #[(.bool false),(.int .i64 0)])
theorem M6:g8 bN 34:=iA Tryz.func34
theorem Kp:g8 bN 14:=iA Tryz.func14
theorem N0:g8 bN 4:=iA Tryz.func4
theorem Lz:g8 bN 114:=iA Tryz.func114
theorem Bn:g8 bN 80:=iA Tryz.func80
theorem M7:g8 bN 77:=iA Tryz.func77
theorem LA:g8 bN 78:=iA Tryz.func78
theorem BP:g8 bN 107:=iA Tryz.func107
theorem LB:g8 bN 71:=iA Tryz.func71
theorem JD:vE bN 155 [(0,1),(1,1)] #[(.int .i64 0),(.int .i64 0)]:=vE.of (.agg #[(.int .i64 0),(.int .i64 0)]) Tryz.underlying155
theorem v5:Tryz.prog.underlying 122=some (.slice 155):=by kernel_rfl
theorem oV:wm bN 122 155 2:=DC
theorem p6:ou bN 155 1 1:=pI
theorem p7:ou bN 155 0 0:=pI
theorem FP:nV bN 155 true 2:=xd
theorem JE:CT bN 155 2:=EA (.agg #[(.int .i64 0),(.int .i64 0)])
theorem HM:t3 bN 122 155 2 16:=t3.of (.agg #[(.int .i64 0),(.int .i64 0)])
theorem JF:g8 bN 109:=iA Tryz.func109
theorem I1:g8 bN 73:=iA Tryz.func73
theorem JG:vE bN 125 [(0,1),(1,1),(2,1)] #[(.int .i64 0),(.int .i64 0),(.slice none 0 0)]:=vE.of (.agg #[(.int .i64 0),(.int .i64 0),(.slice none 0 0)]) Tryz.underlying125
theorem vm:ou bN 125 2 2:=pI
theorem BQ:nV bN 122 false 1:=xd
theorem JH:Tryz.prog.underlying 120=some (.slice 125):=by kernel_rfl
theorem xu:wm bN 120 125 3:=DC
theorem zG:ou bN 125 1 1:=pI
theorem FQ:ou bN 125 0 0:=pI
theorem Kq:J0 bN 155 aF:=⟨fun M cs ds a b w ha hb=>by
  obtain⟨_,_,rfl,rfl,rfl⟩:=ha
  obtain⟨_,_,rfl,rfl,rfl⟩:=hb
  refine(m6 9999 Tryz.underlying155 (Cg.cons (by decide) (gr cG _) (gr cG _) (j8 Hz _ _ w) (Cg.cons (by decide) (gr cG _) (gr cG _) (j8 Hz _ _ w) Cg.nil))).trans ?_
  congr 1
  cases a;cases b;unfold gN
  rw [eX]
  simp,by kernel_rfl⟩
theorem LC:g8 bN 108:=iA Tryz.func108
theorem LD:nV bN 125 true 3:=xd
theorem LF:CT bN 125 3:=EA (.agg #[(.int .i64 0),(.int .i64 0),(.slice none 0 0)])
theorem LG:t3 bN 120 125 3 40:=t3.of (.agg #[(.int .i64 0),(.int .i64 0),(.slice none 0 0)])
theorem LH:g8 bN 72:=iA Tryz.func72
theorem LI:g8 bN 74:=iA Tryz.func74
theorem Kr:g8 bN 37:=iA Tryz.func37
theorem LJ:g8 bN 11:=iA Tryz.func11
theorem LK:g8 bN 41:=iA Tryz.func41
theorem HN:g8 bN 43:=iA Tryz.func43
theorem LL:g8 bN 79:=iA Tryz.func79
theorem Gu:g8 bN 24:=iA Tryz.func24
theorem M8:g8 bN 42:=iA Tryz.func42
theorem LM:g8 bN 82:=iA Tryz.func82
theorem M9:g8 bN 81:=iA Tryz.func81
theorem Na:g8 bN 44:=iA Tryz.func44
theorem Nb:g8 bN 21:=iA Tryz.func21
theorem Nc:g8 bN 22:=iA Tryz.func22
theorem Nd:g8 bN 23:=iA Tryz.func23
theorem I2:g8 bN 35:=iA Tryz.func35
theorem HO:g8 bN 128:=iA Tryz.func128
theorem LN:g8 bN 106:=iA Tryz.func106
theorem Nf:g8 bN 70:=iA Tryz.func70
theorem Ng:g8 bN 36:=iA Tryz.func36
theorem Ks:g8 bN 16:=iA Tryz.func16
theorem Kt:t3 bN 89 4 1 1:=t3.of (.bool false)
theorem Nh:G5 bN 4 (false:Bool):=G5.of (.bool false) (fun M=>rfl)
theorem Bo:wm bN 89 4 1:=DC
theorem Ni:g8 bN 45:=iA Tryz.func45
theorem Nj:g8 bN 46:=iA Tryz.func46
theorem LO:g8 bN 25:=iA Tryz.func25
theorem Nk:g8 bN 9:=iA Tryz.func9
theorem N1:g8 bN 5:=iA Tryz.func5
theorem Ku:ou bN 60 1 1:=pI
theorem Nl:CT bN 39 2:=EA (.agg #[(.int .i64 0),(.int .i64 0)])
theorem LP:vE bN 39 [(0,1),(1,1)] #[(.int .i64 0),(.int .i64 0)]:=vE.of (.agg #[(.int .i64 0),(.int .i64 0)]) Tryz.underlying39
theorem Nm:g8 bN 17:=iA Tryz.func17
theorem Nn:g8 bN 18:=iA Tryz.func18
theorem LQ:vE bN 41 [(0,1),(1,2),(3,1)] #[(.int .i64 0),(.int .i64 0),(.int .i64 0),(.int .i64 0)]:=vE.of (.agg #[(.int .i64 0),(.int .i64 0),(.int .i64 0),(.int .i64 0)]) Tryz.underlying41
theorem I3:wm bN 31 41 4:=DC
theorem Kv:CT bN 41 4:=EA (.agg #[(.int .i64 0),(.int .i64 0),(.int .i64 0),(.int .i64 0)])
theorem LR:t3 bN 31 41 4 32:=t3.of (.agg #[(.int .i64 0),(.int .i64 0),(.int .i64 0),(.int .i64 0)])
theorem N2:g8 bN 6:=iA Tryz.func6
theorem Np:vE bN 66 [(0,4),(4,1),(5,1),(6,1),(7,1)] #[(.slice none 0 0),(.slice none 0 0),(.slice none 0 0),(.slice none 0 0),(.slice none 0 0),(.slice none 0 0),(.slice none 0 0),(.slice none 0 0)]:=vE.of (.agg #[(.slice none 0 0),(.slice none 0 0),(.slice none 0 0),(.slice none 0 0),(.slice none 0 0),(.slice none 0 0),(.slice none 0 0),(.slice none 0 0)]) Tryz.underlying66
theorem yq:ou bN 66 1 4:=pI
theorem rS:ou bN 66 2 5:=pI
theorem Nq:g8 bN 38:=iA Tryz.func38
theorem tA:ou bN 66 4 7:=pI
theorem rT:ou bN 66 3 6:=pI
theorem JI:vE bN 112 [(0,1),(1,1),(2,1)] #[(.slice none 0 0),(.slice none 0 0),(.slice none 0 0)]:=vE.of (.agg #[(.slice none 0 0),(.slice none 0 0),(.slice none 0 0)]) Tryz.underlying112
theorem FR:g8 bN 110:=iA Tryz.func110
theorem JJ:g8 bN 111:=iA Tryz.func111
theorem Nr:g8 bN 75:=iA Tryz.func75
theorem wC:ou bN 66 0 0:=pI
theorem JK:g8 bN 129:=iA Tryz.func129
theorem LS:g8 bN 112:=iA Tryz.func112
theorem LU:g8 bN 113:=iA Tryz.func113
theorem Ns:g8 bN 76:=iA Tryz.func76
theorem Nt:g8 bN 39:=iA Tryz.func39
theorem Nu:g8 bN 19:=iA Tryz.func19
theorem Nv:g8 bN 40:=iA Tryz.func40
theorem I4:nV bN 41 true 4:=xd
theorem Nw:g8 bN 20:=iA Tryz.func20
theorem N3:g8 bN 7:=iA Tryz.func7
theorem N4:g8 bN 8:=iA Tryz.func8
theorem Ny:g8 bN 10:=iA Tryz.func10
theorem Kw:Tryz.prog.underlying 31=some (.slice 41):=by kernel_rfl
theorem LV:J0 bN 41 Piece:=⟨fun M cs ds a b w ha hb=>by
  obtain⟨_,_,rfl,rfl,⟨_,_,rfl,⟨_,_,rfl,rfl,rfl⟩,rfl⟩⟩:=ha
  obtain⟨_,_,rfl,rfl,⟨_,_,rfl,⟨_,_,rfl,rfl,rfl⟩,rfl⟩⟩:=hb
  refine(m6 9999 Tryz.underlying41 (Cg.cons (by decide) (gr cG _) (gr cG _) (j8 Hz _ _ w) (Cg.cons (by decide) (BB zm rfl _) (BB zm rfl _) (m6 9998 Tryz.underlying38 (Cg.cons (by decide) (gr cG _) (gr cG _) (j8 Hz _ _ w) (Cg.cons (by decide) (gr cG _) (gr cG _) (j8 Hz _ _ w) Cg.nil))) (Cg.cons (by decide) (gr cG _) (gr cG _) (j8 Hz _ _ w) Cg.nil)))).trans ?_
  congr 1
  obtain⟨_,⟨_,_⟩,_⟩:=a;obtain⟨_,⟨_,_⟩,_⟩:=b;unfold su qq
  rw [eX]
  simp,by kernel_rfl⟩
theorem Nz:g8 bN 12:=iA Tryz.func12
theorem NA:vE bN 70 [(0,2),(2,1),(3,1),(4,1),(5,1)] #[(.int .i64 0),(.int .i64 0),(.int .i64 0),(.int .i64 0),(.int .i64 0),(.bool false)]:=vE.of (.agg #[(.int .i64 0),(.int .i64 0),(.int .i64 0),(.int .i64 0),(.int .i64 0),(.bool false)]) Tryz.underlying70
theorem NB:g8 bN 13:=iA Tryz.func13
def oJ (E:World) (V:List HP) (res:aI) (v:Value) (w:World):Prop:=Holds E w ([rd v res]++V)
def qF (E:World) (V:List HP) (res: (List eJ)) (v:Value) (w:World):Prop:=Holds E w ([own 9 v res]++V)
def oK (E:World) (V:List HP) (res: (List (List aI))) (v:Value) (w:World):Prop:=Holds E w ([own 23 v res]++V)
def nu (E:World) (V:List HP) (res: (List Int)) (v:Value) (w:World):Prop:=Holds E w ([rd v res]++V)
def lM (E:World) (V:List HP) (res: (List aF)) (v:Value) (w:World):Prop:=Holds E w ([own 155 v res]++V)
def t7 (E:World) (V:List HP) (res: (List Piece)×Int) (v:Value) (w:World):Prop:=∃u0:Value,v = .tuple #[u0,(vi res.2)]/\Holds E w ([own 41 u0 res.1]++V)
def aU (E:World) (V:List HP) (res:Bool) (v:Value) (w:World):Prop:=v= (vb res)/\Holds E w V
def aV (E:World) (V:List HP) (res:Int) (v:Value) (w:World):Prop:=v= (vi res)/\Holds E w V
def fX (E:World) (V:List HP) (res: (List aI)) (v:Value) (w:World):Prop:=Holds E w ([own 73 v res]++V)
def mI (E:World) (V:List HP) (res: (List Int)) (v:Value) (w:World):Prop:=Holds E w ([own 3 v res]++V)
def ng (E:World) (V:List HP) (res: (List aA)) (v:Value) (w:World):Prop:=Holds E w ([own 81 v res]++V)
def gH (E:World) (V:List HP) (b0:Nat) (v0_0 v0_1:Value) (v0_2 v0_3:Value) (v0_4 v0_5 v0_6:Value) (us0_6:List aT) (p0_6: (List cN)) (v0_7:Value) (res:Int) (v:Value) (w:World):Prop:=v= (vi res)/\Holds E w ([bc 66 b0 [v0_0,v0_1,v0_2,v0_3,v0_4,v0_5,v0_6,v0_7],own 112 v0_6 us0_6,iz aW us0_6 p0_6 none]++V)
def sw (E:World) (V:List HP) (res: (List (List aI))×Int) (v:Value) (w:World):Prop:=∃u0:Value,v = .tuple #[u0,(vi res.2)]/\Holds E w ([own 23 u0 res.1]++V)
end Go.Gk
namespace Go.Gk
open Go Go.Proofs
def Cx (H:Type) (d:DataW H):Nat:=YtmmiladckdcjeadGreatDoor.Rows.uptoBulk d
def LZ (H:Type) (d:List (DataW H)):Nat:=YtmmiladckdcjeadGreatDoor.Rows.uptoBulkAll d
theorem kh:UB Cx LZ where
  str:=fun H b=>by simp [Cx,YtmmiladckdcjeadGreatDoor.Rows.uptoBulk]
  pos:=fun H d=>by
    unfold Cx
    cases d with
    | lit l=>cases l <;> simp [YtmmiladckdcjeadGreatDoor.Rows.uptoBulk]
    | nil=>simp [YtmmiladckdcjeadGreatDoor.Rows.uptoBulk]
    | ptr d=>simp [YtmmiladckdcjeadGreatDoor.Rows.uptoBulk]
    | slice elems spare=>simp [YtmmiladckdcjeadGreatDoor.Rows.uptoBulk]
    | agg parts=>simp [YtmmiladckdcjeadGreatDoor.Rows.uptoBulk]
    | iface t d=>simp [YtmmiladckdcjeadGreatDoor.Rows.uptoBulk]
    | map entries=>simp [YtmmiladckdcjeadGreatDoor.Rows.uptoBulk]
    | held h=>simp [YtmmiladckdcjeadGreatDoor.Rows.uptoBulk]
  sl:=fun H e s=>by simp [Cx,LZ,YtmmiladckdcjeadGreatDoor.Rows.uptoBulk]
  ag:=fun H l=>by simp [Cx,LZ,YtmmiladckdcjeadGreatDoor.Rows.uptoBulk]
  nil:=fun H=>by simp [LZ,YtmmiladckdcjeadGreatDoor.Rows.uptoBulkAll]
  cons:=fun H x l=>by simp [Cx,LZ,YtmmiladckdcjeadGreatDoor.Rows.uptoBulkAll]
theorem Iz:mj Cx Tryz.prog 3 Int:=Gx kh (by kernel_rfl)
theorem NC:mj Cx Tryz.prog 73 aI:=oL kh (fun(x:aI)=>(x.X0,x.Y0,x.X1,x.Y1)) (fun b=>⟨b.1,b.2.1,b.2.2.1,b.2.2.2⟩) (fun b=>rfl) Tryz.underlying73 (iY kh Iz (iY kh Iz (iY kh Iz (sC kh Iz rfl)))) (fun b=>by simp only [I9];omega)
theorem L0:mj Cx Tryz.prog 23 (List aI):=tC (e:=73) kh NC
theorem ND:mj Cx Tryz.prog 22 (List (List aI)):=tC (e:=23) kh L0
theorem L1:mj Cx Tryz.prog 39 eQ:=oL kh (fun(x:eQ)=>(x.X,x.Y)) (fun b=>⟨b.1,b.2⟩) (fun b=>rfl) Tryz.underlying39 (iY kh Iz (sC kh Iz rfl)) (fun b=>by simp only [HU];omega)
theorem N5:mj Cx Tryz.prog 4 Bool:=E6 kh (by kernel_rfl)
theorem NF:mj Cx Tryz.prog 70 cE:=oL kh (fun(x:cE)=>(x.At,x.dH,x.cR,x.To,x.fY)) (fun b=>⟨b.1,b.2.1,b.2.2.1,b.2.2.2.1,b.2.2.2.2⟩) (fun b=>rfl) Tryz.underlying70 (iY kh L1 (iY kh Iz (iY kh Iz (iY kh Iz (sC kh N5 rfl))))) (fun b=>by simp only [Ja];omega)
theorem NG:mj Cx Tryz.prog 24 (List cE):=tC (e:=70) kh NF
theorem NR:mj Cx Tryz.prog 9 eJ:=Gy kh (by kernel_rfl)
theorem NH:mj Cx Tryz.prog 94 fP:=oL kh (fun(x:fP)=>(x.Part,x.fG,x.cK,x.At)) (fun b=>⟨b.1,b.2.1,b.2.2.1,b.2.2.2⟩) (fun b=>rfl) Tryz.underlying94 (iY kh NR (iY kh NR (iY kh Iz (sC kh L1 rfl)))) (fun b=>by simp only [FU];omega)
theorem NI:mj Cx Tryz.prog 25 (List fP):=tC (e:=94) kh NH
theorem NJ:mj Cx Tryz.prog 27 kH:=oL kh (fun(x:kH)=>(x.aJ,x.cH,x.aO,x.bV)) (fun b=>⟨b.1,b.2.1,b.2.2.1,b.2.2.2⟩) (fun b=>rfl) Tryz.underlying27 (iY kh ND (iY kh L0 (iY kh NG (sC kh NI rfl)))) (fun b=>by simp only [HV];omega)
end Go.Gk
namespace Go.Proofs
open Go.Shelf Go.RowKit Go.Lib Go.Sort
def Tryz.lay85_ren : Go.Shelf.Ren := ⟨fun | 6 => 85 | 15 => 117 | 14 => 116 | 28 => 138 | 29 => 139 | 20 => 130 | 21 => 131 | 22 => 132 | 23 => 133 | 24 => 134 | 25 => 135 | 26 => 136 | 27 => 137 | 46 => 154 | 47 => 155 | 48 => 156 | 49 => 157 | 50 => 158 | 57 => 167 | n => n, fun | 22 => 23 | 24 => 73 | 25 => 79 | 3 => 3 | 39 => 159 | 0 => 0 | 53 => 176 | 55 => 178 | 4 => 4 | 46 => 170 | 45 => 169 | 50 => 145 | 5 => 5 | 9 => 9 | 66 => 186 | 70 => 190 | 76 => 197 | 77 => 198 | n => n, fun | n => n⟩
theorem Tryz.lay85 : Go.Proofs.SlLaysF0.n6 Tryz.prog Tryz.lay85_ren := {
  mixed := by kernel_rfl
  f6 := ⟨Tryz.f85.name, by decide, Tryz.func85.trans (congrArg some (by kernel_rfl))⟩
  f14 := ⟨Tryz.f116.name, by decide, Tryz.func116.trans (congrArg some (by kernel_rfl))⟩
  f15 := Tryz.func117.trans (congrArg some (by kernel_rfl))
  f20 := ⟨Tryz.f130.name, by decide, Tryz.func130.trans (congrArg some (by kernel_rfl))⟩
  f21 := ⟨Tryz.f131.name, by decide, Tryz.func131.trans (congrArg some (by kernel_rfl))⟩
  f22 := ⟨Tryz.f132.name, by decide, Tryz.func132.trans (congrArg some (by kernel_rfl))⟩
  f23 := ⟨Tryz.f133.name, by decide, Tryz.func133.trans (congrArg some (by kernel_rfl))⟩
  f24 := ⟨Tryz.f134.name, by decide, Tryz.func134.trans (congrArg some (by kernel_rfl))⟩
  f25 := ⟨Tryz.f135.name, by decide, Tryz.func135.trans (congrArg some (by kernel_rfl))⟩
  f26 := ⟨Tryz.f136.name, by decide, Tryz.func136.trans (congrArg some (by kernel_rfl))⟩
  f27 := ⟨Tryz.f137.name, by decide, Tryz.func137.trans (congrArg some (by kernel_rfl))⟩
  f28 := Tryz.func138.trans (congrArg some (by kernel_rfl))
  f29 := Tryz.func139.trans (congrArg some (by kernel_rfl))
  f46 := ⟨Tryz.f154.name, by decide, Tryz.func154.trans (congrArg some (by kernel_rfl))⟩
  f47 := Tryz.func155.trans (congrArg some (by kernel_rfl))
  f48 := Tryz.func156.trans (congrArg some (by kernel_rfl))
  f49 := ⟨Tryz.f157.name, by decide, Tryz.func157.trans (congrArg some (by kernel_rfl))⟩
  f50 := ⟨Tryz.f158.name, by decide, Tryz.func158.trans (congrArg some (by kernel_rfl))⟩
  f57 := ⟨Tryz.f167.name, by decide, Tryz.func167.trans (congrArg some (by kernel_rfl))⟩
  t0 := Tryz.underlying0
  a0 := Tryz.isAgg0
  z0 := Tryz.sizeOf0
  v0 := Tryz.zeroValue0
  t3 := Tryz.underlying3
  a3 := Tryz.isAgg3
  z3 := Tryz.sizeOf3
  v3 := Tryz.zeroValue3
  t4 := Tryz.underlying4
  a4 := Tryz.isAgg4
  z4 := Tryz.sizeOf4
  v4 := Tryz.zeroValue4
  t5 := Tryz.underlying5
  a5 := Tryz.isAgg5
  z5 := Tryz.sizeOf5
  v5 := Tryz.zeroValue5
  t9 := Tryz.underlying9
  a9 := Tryz.isAgg9
  z9 := Tryz.sizeOf9
  v9 := Tryz.zeroValue9
  t22 := Tryz.underlying23
  a22 := Tryz.isAgg23
  z22 := Tryz.sizeOf23
  v22 := Tryz.zeroValue23
  t25 := Tryz.underlying79
  a25 := Tryz.isAgg79
  z25 := Tryz.sizeOf79
  v25 := Tryz.zeroValue79
  t39 := Tryz.underlying159
  a39 := Tryz.isAgg159
  z39 := Tryz.sizeOf159
  v39 := Tryz.zeroValue159
  t45 := Tryz.underlying169
  a45 := Tryz.isAgg169
  z45 := Tryz.sizeOf169
  v45 := Tryz.zeroValue169
  t46 := Tryz.underlying170
  a46 := Tryz.isAgg170
  z46 := Tryz.sizeOf170
  v46 := Tryz.zeroValue170
  t50 := Tryz.underlying145
  a50 := Tryz.isAgg145
  z50 := Tryz.sizeOf145
  v50 := Tryz.zeroValue145
  t53 := Tryz.underlying176
  a53 := Tryz.isAgg176
  z53 := Tryz.sizeOf176
  v53 := Tryz.zeroValue176
  t55 := Tryz.underlying178
  a55 := Tryz.isAgg178
  z55 := Tryz.sizeOf178
  v55 := Tryz.zeroValue178
  t66 := Tryz.underlying186
  a66 := Tryz.isAgg186
  z66 := Tryz.sizeOf186
  v66 := Tryz.zeroValue186
  t70 := Tryz.underlying190
  a70 := Tryz.isAgg190
  z70 := Tryz.sizeOf190
  v70 := Tryz.zeroValue190
  t76 := Tryz.underlying197
  a76 := Tryz.isAgg197
  z76 := Tryz.sizeOf197
  v76 := Tryz.zeroValue197
  t77 := Tryz.underlying198
  a77 := Tryz.isAgg198
  z77 := Tryz.sizeOf198
  v77 := Tryz.zeroValue198 }
def Tryz.lay87_ren : Go.Shelf.Ren := ⟨fun | 5 => 87 | 8 => 117 | 7 => 118 | 19 => 138 | 20 => 139 | 10 => 140 | 11 => 141 | 12 => 142 | 13 => 143 | 14 => 144 | 15 => 145 | 16 => 146 | 17 => 147 | 18 => 148 | 30 => 159 | 31 => 155 | 32 => 156 | 33 => 160 | 34 => 161 | 35 => 162 | 40 => 168 | n => n, fun | 23 => 51 | 25 => 3 | 3 => 3 | 32 => 159 | 22 => 51 | 0 => 0 | 44 => 176 | 46 => 178 | 4 => 4 | 36 => 170 | 35 => 169 | 41 => 145 | 5 => 5 | 9 => 9 | 53 => 186 | 57 => 190 | 63 => 197 | 64 => 198 | n => n, fun | n => n⟩
theorem Tryz.lay87 : Go.Proofs.SlLaysM.n5 Tryz.prog Tryz.lay87_ren := {
  mixed := by kernel_rfl
  f5 := ⟨Tryz.f87.name, by decide, Tryz.func87.trans (congrArg some (by kernel_rfl))⟩
  f7 := ⟨Tryz.f118.name, by decide, Tryz.func118.trans (congrArg some (by kernel_rfl))⟩
  f8 := Tryz.func117.trans (congrArg some (by kernel_rfl))
  f10 := ⟨Tryz.f140.name, by decide, Tryz.func140.trans (congrArg some (by kernel_rfl))⟩
  f11 := ⟨Tryz.f141.name, by decide, Tryz.func141.trans (congrArg some (by kernel_rfl))⟩
  f12 := ⟨Tryz.f142.name, by decide, Tryz.func142.trans (congrArg some (by kernel_rfl))⟩
  f13 := ⟨Tryz.f143.name, by decide, Tryz.func143.trans (congrArg some (by kernel_rfl))⟩
  f14 := ⟨Tryz.f144.name, by decide, Tryz.func144.trans (congrArg some (by kernel_rfl))⟩
  f15 := ⟨Tryz.f145.name, by decide, Tryz.func145.trans (congrArg some (by kernel_rfl))⟩
  f16 := ⟨Tryz.f146.name, by decide, Tryz.func146.trans (congrArg some (by kernel_rfl))⟩
  f17 := ⟨Tryz.f147.name, by decide, Tryz.func147.trans (congrArg some (by kernel_rfl))⟩
  f18 := ⟨Tryz.f148.name, by decide, Tryz.func148.trans (congrArg some (by kernel_rfl))⟩
  f19 := Tryz.func138.trans (congrArg some (by kernel_rfl))
  f20 := Tryz.func139.trans (congrArg some (by kernel_rfl))
  f30 := ⟨Tryz.f159.name, by decide, Tryz.func159.trans (congrArg some (by kernel_rfl))⟩
  f31 := Tryz.func155.trans (congrArg some (by kernel_rfl))
  f32 := Tryz.func156.trans (congrArg some (by kernel_rfl))
  f33 := ⟨Tryz.f160.name, by decide, Tryz.func160.trans (congrArg some (by kernel_rfl))⟩
  f34 := ⟨Tryz.f161.name, by decide, Tryz.func161.trans (congrArg some (by kernel_rfl))⟩
  f35 := ⟨Tryz.f162.name, by decide, Tryz.func162.trans (congrArg some (by kernel_rfl))⟩
  f40 := ⟨Tryz.f168.name, by decide, Tryz.func168.trans (congrArg some (by kernel_rfl))⟩
  t0 := Tryz.underlying0
  a0 := Tryz.isAgg0
  z0 := Tryz.sizeOf0
  v0 := Tryz.zeroValue0
  t3 := Tryz.underlying3
  a3 := Tryz.isAgg3
  z3 := Tryz.sizeOf3
  v3 := Tryz.zeroValue3
  t4 := Tryz.underlying4
  a4 := Tryz.isAgg4
  z4 := Tryz.sizeOf4
  v4 := Tryz.zeroValue4
  t5 := Tryz.underlying5
  a5 := Tryz.isAgg5
  z5 := Tryz.sizeOf5
  v5 := Tryz.zeroValue5
  t9 := Tryz.underlying9
  a9 := Tryz.isAgg9
  z9 := Tryz.sizeOf9
  v9 := Tryz.zeroValue9
  t22 := Tryz.underlying51
  a22 := Tryz.isAgg51
  z22 := Tryz.sizeOf51
  v22 := Tryz.zeroValue51
  t23 := Tryz.underlying51
  a23 := Tryz.isAgg51
  z23 := Tryz.sizeOf51
  v23 := Tryz.zeroValue51
  t25 := Tryz.underlying3
  a25 := Tryz.isAgg3
  z25 := Tryz.sizeOf3
  v25 := Tryz.zeroValue3
  t32 := Tryz.underlying159
  a32 := Tryz.isAgg159
  z32 := Tryz.sizeOf159
  v32 := Tryz.zeroValue159
  t35 := Tryz.underlying169
  a35 := Tryz.isAgg169
  z35 := Tryz.sizeOf169
  v35 := Tryz.zeroValue169
  t36 := Tryz.underlying170
  a36 := Tryz.isAgg170
  z36 := Tryz.sizeOf170
  v36 := Tryz.zeroValue170
  t41 := Tryz.underlying145
  a41 := Tryz.isAgg145
  z41 := Tryz.sizeOf145
  v41 := Tryz.zeroValue145
  t44 := Tryz.underlying176
  a44 := Tryz.isAgg176
  z44 := Tryz.sizeOf176
  v44 := Tryz.zeroValue176
  t46 := Tryz.underlying178
  a46 := Tryz.isAgg178
  z46 := Tryz.sizeOf178
  v46 := Tryz.zeroValue178
  t53 := Tryz.underlying186
  a53 := Tryz.isAgg186
  z53 := Tryz.sizeOf186
  v53 := Tryz.zeroValue186
  t57 := Tryz.underlying190
  a57 := Tryz.isAgg190
  z57 := Tryz.sizeOf190
  v57 := Tryz.zeroValue190
  t63 := Tryz.underlying197
  a63 := Tryz.isAgg197
  z63 := Tryz.sizeOf197
  v63 := Tryz.zeroValue197
  t64 := Tryz.underlying198
  a64 := Tryz.isAgg198
  z64 := Tryz.sizeOf198
  v64 := Tryz.zeroValue198 }
end Go.Proofs
namespace Go.Gk
open Go Go.Proofs
variable (N:Nat) {E w:World} {i0 i1 i2:Nat} {p0 p1 p2 res:Int} {v0 v1 v2:Value} {V:List HP}
theorem zo {res:Bool} (o:Holds E w V) (j:tt N p0 p1 p2=some res):
    Calls bN 115 [(vi p0),(vi p1),(vi p2)].toArray w (gQ (aU E V res)):=by
 unfold tt at j
 refine enter Tryz.func115 zr zr (RC.sr (aP (vb false) (RL.ns (mv (vi p0) (mv (vi p1) (ic p0 p1 (mv (vb (decide (p0>=p1))) (RL.gs true (decide (p0>=p1)) (vi p0) zr zr zr cI ?_))))))))
 refine RL.gs true (decide (p0>=p1)) (vi p2) rfl rfl rfl cI (RL.gs true (decide (p0>=p1)) (vb (decide (p0<=p2))) rfl rfl rfl (dL .leq .i64 p0 p2 rfl (fun h=>by exact(cO h:cv (true&&((decide (p0>=p1))==true)) (vi p0)= (vi p0))) (fun h=>by exact(cO h:cv (true&&((decide (p0>=p1))==true)) (vi p2)= (vi p2))) rfl) (RL.pick (decide (p0>=p1)) (vb ((decide (p0>=p1))&&(decide (p0<=p2)))) (gx true rfl) (aP (vb ((decide (p0>=p1))&&(decide (p0<=p2)))) (RL.nt (RC.ret ?_)))))
 obtain rfl:=oi j
 exact bY ⟨rfl,o.drop 0⟩
theorem l8 {res:Bool} (o:Holds E w V) (j:lJ N p0=some res):
    Calls bN 83 [(vi p0)].toArray w (gQ (aU E V res)):=by
 unfold lJ at j
 refine enter Tryz.func83 zr zr (RC.sr (aP (vb false) (RL.ns (mv (vi p0) ?_))))
 obtain⟨aa,ab,j⟩:=bd j
 refine RL.call zt zr KZ [(vi p0),(vi (-1000000)),(vi 1000000)] zr (aD (zo N (p0:=p0) (p1:=(-1000000)) (p2:=1000000) o ab) ?_)
 rintro _ w ⟨rfl,o⟩
 refine aP (vb aa) (RL.nt (RC.ret ?_))
 obtain rfl:=oi j
 exact bY ⟨rfl,o.drop 0⟩
theorem t8 {p0:aI} {res:Bool} (j:Holds E w V) (h0:V[i0]? =some (rd v0 p0)) (hb:m7 N p0=some res):
    Calls bN 93 [v0].toArray w (gQ (aU E V res)):=by
 unfold m7 at hb
 refine enter Tryz.func93 zr zr ?_
 have j:=j.dup (i0+0) h0
 refine RC.sr (RL.dK 0 v0 j zr fun aq w j=>?_)
 refine aP (vb false) (RL.nq ?_)
 obtain⟨af,o,hb⟩:=bd hb
 refine RC.jn (fun(af:Bool)=>SH E V [(2,vb af)] []) af ?_ ?_
 ·refine RC.region (RL.aZ zr gO (RL.aM 0 j zr dD cG ?_))
  obtain⟨aj,ak,o⟩:=bd o
  refine RL.call zt zr Gm [(vi p0.X0)] zr (aD (l8 N (p0:=p0.X0) j ak) ?_)
  rintro _ w ⟨rfl,j⟩
  refine mv (vb aj) (fN o (fun aa o=>?_) fun aa o=>?_)
  rotate_left
  ·refine bJ aa (bJ aa (bJ aa (fU aa (vb false) (mv (vb false) (jR (jR (jR (RL.pick false (vb false) zr ?_))))))))
   refine mv (vb false) (jR (jR (jR (RL.pick false (vb false) zr (aP (vb false) (RL.nil ?_))))))
   obtain rfl:=oi o
   exact⟨rfl,j.sp 2 []⟩
  refine RL.aZ (hg:=(cg aa)) zr gG (RL.aM (hg:=(cg aa)) 0 j zr cZ cG ?_)
  obtain⟨ag,al,o⟩:=bd o
  refine RL.call (cg aa) zr Gm [(vi p0.Y0)] zr (aD (l8 N (p0:=p0.Y0) j al) ?_)
  rintro _ w ⟨rfl,j⟩
  refine fU aa (vb ag) (mv (vb ag) (fN o (fun ab o=>?_) fun ab o=>?_))
  rotate_left
  ·refine bJ ab (bJ ab (bJ ab (fU ab (vb false) (mv (vb false) (jR (jR (jR (RL.pick false (vb false) zr ?_))))))))
   refine aP (vb false) (RL.nil ?_)
   obtain rfl:=oi o
   exact⟨rfl,j.sp 2 []⟩
  refine RL.aZ (hg:=(cg ab)) zr iX (RL.aM (hg:=(cg ab)) 0 j zr dY cG ?_)
  obtain⟨ah,an,o⟩:=bd o
  refine RL.call (cg ab) zr Gm [(vi p0.X1)] zr (aD (l8 N (p0:=p0.X1) j an) ?_)
  rintro _ w ⟨rfl,j⟩
  refine fU ab (vb ah) (mv (vb ah) (fN o (fun ad o=>?_) fun ad o=>?_))
  rotate_left
  ·refine bJ ad (bJ ad (bJ ad (fU ad (vb false) (aP (vb false) (RL.nil ?_)))))
   obtain rfl:=oi o
   exact⟨rfl,j.sp 2 []⟩
  refine RL.aZ (hg:=(cg ad)) zr jZ (RL.aM (hg:=(cg ad)) 0 j zr eT cG ?_)
  obtain⟨ai,ao,o⟩:=bd o
  refine RL.call (cg ad) zr Gm [(vi p0.Y1)] zr (aD (l8 N (p0:=p0.Y1) j ao) ?_)
  rintro _ w ⟨rfl,j⟩
  refine fU ad (vb ai) (aP (vb ai) (RL.nil ?_))
  obtain rfl:=oi o
  exact⟨rfl,j.sp 2 []⟩
 rintro _ w ⟨O,rfl,j⟩
 refine aG (RC.ret ?_)
 obtain rfl:=oi hb
 exact bY ⟨rfl,j.drop 0⟩
def wF (E:World) (V:List HP) (r:Int) (U:Nat->Value) (w:World):Prop:=lS bN 30 Tryz.f51 (aV E V r) .ret U w
theorem vM {p0: (List aI)} (o:Holds E w V) (h0:V[i0]? =some (rd v0 p0)) (hb:lj N p0=some res):
    Calls bN 51 [v0].toArray w (gQ (aV E V res)):=by
 unfold lj at hb
 refine enter Tryz.func51 zr zr ?_
 have o:=o.dup (i0+0) h0
 refine RC.sr (aP (vi 0) (RL.nq (RC.sr (mv v0 (RL.bC 0 p0 o mH (ic ((p0.length:Int)) 2000 (RL.nt (dX hb (fun hc hb=>?_) fun hc hb=>?_))))))))
 ·refine RC.sr (aP (vi 2) (RL.nt (RC.rt ?_)))
  obtain rfl:=oi hb
  exact bY ⟨rfl,o.drop 1⟩
 refine RC.ss (RC.sr (mv v0 (RL.bC 0 p0 o mH (mv (vi 0) (RL.nt ?_)))))
 obtain⟨aq,hN,hb⟩:=bd hb
 refine RC.range (fun(ae:Nat) (af:Unit)=>SH E V [(8,v0),(9,vi p0.length),(10,vi ae)] [rd v0 p0]) (fun(af:Unit)=>SH E V [] [rd v0 p0]) (wF E V) hN ?_ ?_ ?_ ?_ ?_
 ·exact o.sp 1 [0]
 ·rintro hm af _ w ⟨O,rfl,o⟩
  refine RC.sr (ic ((p0.length:Int)) ((p0.length:Int)) (RL.nq (RC.fw sf (RC.ex ?_))))
  exact⟨rfl,o.sp 1 [0]⟩
 ·rintro hm ae af fl _ w hk ⟨O,rfl,o⟩ hb
  refine RC.sr (ic ((ae:Int)) ((p0.length:Int)) (RL.nq (RC.fu (sd hk) (RC.ss (RC.bs ?_)))))
  obtain⟨j,aj,hb⟩:=bd hb
  refine RL.bM 0 o iK aj fun au o=>(RL.bF 0 j o iq fun av o=>(RL.alloc o om.z fun ab w o=>?_))
  refine RL.bZ 0 o 1 zr iq fun w o=>?_
  refine RL.nq (RC.sr (RL.bG (f:=(fun x=>x)) 0 o zr Fd.self iq fun ak o=>?_))
  obtain⟨al,an,hb⟩:=bd hb
  refine RL.call zt zr K0 [ak] zr (aD (t8 N (i0:=0) o zr an) ?_)
  rintro _ w ⟨rfl,o⟩
  refine RL.not al (RL.nt (dX hb (fun hc hb=>?_) fun hc hb=>?_))
  ·refine RC.sr (aP (vi 1) (RL.nt (RC.rt (oz (bQ ?_)))))
   obtain rfl:=oi hb
   exact⟨rfl,bY ⟨rfl,o.drop 5⟩⟩
  refine RC.sx (RL.aZ rfl iX (RL.aM 1 o rfl dY cG (RL.aZ rfl gO (RL.aM 1 o rfl dD cG (ic j.X1 j.X0 (mv (vb (decide (j.X1<=j.X0))) (RL.gs true (decide (j.X1<=j.X0)) (vp ab 3) rfl rfl rfl (eC jZ) (RL.gs true (decide (j.X1<=j.X0)) (vi j.Y1) rfl rfl rfl (cB 1 rfl o (fun h=>by exact(cO h:cv (true&&((decide (j.X1<=j.X0))==false)) (vp ab 3)= (vp ab 3))) rfl eT cG) ?_))))))))
  refine RL.gs true (decide (j.X1<=j.X0)) (vp ab 1) rfl rfl rfl (eC gG) (RL.gs true (decide (j.X1<=j.X0)) (vi j.Y0) rfl rfl rfl (cB 1 rfl o (fun h=>by exact(cO h:cv (true&&((decide (j.X1<=j.X0))==false)) (vp ab 1)= (vp ab 1))) rfl cZ cG) (RL.gs true (decide (j.X1<=j.X0)) (vb (decide (j.Y1<=j.Y0))) rfl rfl rfl (dL .leq .i64 j.Y1 j.Y0 rfl (fun h=>by exact(cO h:cv (true&&((decide (j.X1<=j.X0))==false)) (vi j.Y1)= (vi j.Y1))) (fun h=>by exact(cO h:cv (true&&((decide (j.X1<=j.X0))==false)) (vi j.Y0)= (vi j.Y0))) rfl) (RL.pick (decide (j.X1<=j.X0)) (vb ((decide (j.X1<=j.X0))||(decide (j.Y1<=j.Y0)))) (nW true) (RL.nt (dX hb (fun hc hb=>?_) fun hc hb=>?_)))))
  rotate_left
  ·refine RC.skip (bO (aG (RC.region (RL.inc hk hm (mv (vi ((ae+1:Nat):Int)) (RL.nil ?_))))))
   obtain rfl:=oi hb
   exact⟨rfl,o.sp 5 [4]⟩
  refine RC.sr (aP (vi 13) (RL.nt (RC.rb (bQ ?_))))
  obtain rfl:=oi hb
  exact⟨rfl,bY ⟨rfl,o.drop 5⟩⟩
 ·intro r U w e hK
  subst e
  refine bQ ?_
  obtain rfl:=oi hb
  exact hK
 rintro af _ w rfl ⟨O,rfl,o⟩
 rw [Fo.dB] at hb
 refine aG (RC.sr (aP (vi 0) (RL.nt (RC.ret ?_))))
 obtain rfl:=oi hb
 exact bY ⟨rfl,o.drop 1⟩
theorem uM {p0: (List aI)} {res: (List aI)} (j:Holds E w V) (h0:V[i0]? =some (rd v0 p0)) (o:jK N p0=some res):
    Calls bN 84 [v0].toArray w (gQ (fX E V res)):=by
 unfold jK at o
 refine enter Tryz.func84 zr zr ?_
 have j:=j.dup (i0+0) h0
 refine RC.sr (aP (.slice none 0 0) (RL.nq (RC.sr (mv v0 (RL.KP (i:=0) zt zr j zr zr zr mH (RL.nt (RC.cond (b:=(IL v0)) zr (fun hc=>?_) (fun hc=>?_))))))))
 ·have hx:=j.Mm (i:=0) rfl hc
  rw [hx] at o
  replace o:some ([]: (List aI))=_:=o
  refine RC.sr (aP (.slice none 0 0) (RL.nt (RC.rt ?_)))
  obtain rfl:=oi o
  have j:=j.cQ aI 73
  exact bY (j.pk 2 [0])
 refine RC.sx (RL.dQ ([]: (List aI)) j [] iK om (fun M hs g=>zt) fun ae w j=>(mv v0 ?_))
 obtain⟨af,ab,o⟩:=bd o
 refine RL.app 0 1 j z9 ab fun ad w j=>?_
 refine aP ad (RL.nt (RC.ret ?_))
 obtain rfl:=oi o
 exact bY (j.pk 2 [0])
theorem xw {p0 p1:aI} (j:Holds E w V) (h0:V[i0]? =some (rd v0 p0)) (h1:V[i1]? =some (rd v1 p1)) (o:ka N p0 p1=some res):
    Calls bN 86 [v0,v1].toArray w (gQ (aV E V res)):=by
 unfold ka at o
 refine enter Tryz.func86 zr zr ?_
 have j:=(j.dup (i0+0) h0).dup (i1+1) h1
 refine RC.sr (RL.dK 1 v0 j zr fun aa w j=>?_)
 refine RL.dK 1 v1 j zr fun ab w j=>?_
 refine aP (vi 0) (RL.ns (RL.aZ zr gG (RL.aM 1 j zr cZ cG (RL.aZ zr gG (RL.aM 0 j zr cZ cG (RL.fO p0.Y0 p1.Y0 (aP (vi (IntKind.wrap .i64 (p0.Y0 - p1.Y0))) (RL.nt ?_))))))))
 refine RC.ret ?_
 obtain rfl:=oi o
 exact bY ⟨rfl,j.drop 4⟩
def uN (E:World) (V:List HP) (r: (List Int)) (U:Nat->Value) (w:World):Prop:=lS bN 61 Tryz.f88 (mI E V r) .ret U w
theorem ui {p0: (List Int)} {res: (List Int)} (j:Holds E w (own 3 v0 p0::V)) (o:ir N p0=some res):
    Calls bN 88 [v0].toArray w (gQ (mI E V res)):=by
 unfold ir at o
 refine enter Tryz.func88 zr zr (RC.sr (aP (.slice none 0 0) (RL.nq (RC.sr (mv v0 (RL.fS 0 p0 j mw (ic ((p0.length:Int)) 2 (RL.nt ?_))))))))
 refine dX o (fun hc o=>?_) fun hc o=>?_
 ·refine RC.sr (mv v0 (aP v0 (RL.nt (RC.rt ?_))))
  obtain rfl:=oi o
  exact bY (j.pk 1 [0])
 refine RC.ss (RC.sr (aP (vi 1) (RL.nt ?_)))
 obtain⟨a2,hN,o⟩:=bd o
 refine RC.iter (fun(ab:Int)=>SH E V [(0,v0),(3,vi ab)] [own 3 v0 p0]) (fun(ab:Int)=>SH E V [(0,v0)] [own 3 v0 p0]) (uN E V) hN ?_ ?_ ?_ ?_
 ·exact j.sp 1 [0]
 ·rintro ab fl _ w ⟨O,rfl,j⟩ o
  refine RC.seq (RC.sr (mv (vi ab) (mv v0 (RL.fS 0 p0 j mw (ic ab ((p0.length:Int)) (RL.nt (dX o (fun hc o=>?_) fun hc o=>?_)))))))
  rotate_left
  ·refine RC.ex ?_
   obtain rfl:=oi o
   exact⟨rfl,j.sp 1 [0]⟩
  refine RC.ss (RC.block (RC.seq (RC.yh mixed ?_)))
  have j:=j.drew
  refine RO.go (mv v0 (RO.nx (mv (vi ab) (RO.nx ?_))))
  obtain⟨au,al,o⟩:=bd o
  refine RL.bS 0 j zr zr eD al (RO.nx (RL.dR (f:=(fun x=>x)) 0 j (jJ 0 j al 0) (bI al).2.1 Fd.self cG (RO.nx (mv v0 (RO.nx (mv (vi ab) (RO.nx (RL.fO ab 1 ?_))))))))
  refine RO.nx ?_
  obtain⟨av,an,o⟩:=bd o
  refine RL.bS 0 j zr zr eD an (RO.nx (RL.dR (f:=(fun x=>x)) 0 j (jJ 0 j an 0) (bI an).2.1 Fd.self cG (RO.nx (ic au av (RO.last (aG (dX o (fun hc o=>?_) fun hc o=>?_)))))))
  rotate_left
  ·refine RC.skip (bO (aG (RC.region (mv (vi ab) (RL.fO ab 1 (aP (vi (IntKind.wrap .i64 (ab+1))) (RL.nil ?_)))))))
   obtain rfl:=oi o
   exact⟨rfl,j.sp 1 [0]⟩
  refine RC.sr (mv v0 (mv (vi ab) ?_))
  obtain⟨a3,af,o⟩:=bd o
  refine RL.view 0 ab zr j zr zr eD af (aP (vw v0 (Int.toNat ab) 1) (RL.nq (RC.sr (aP (vi 1) (RL.nt ?_)))))
  obtain⟨a4,hN,o⟩:=bd o
  refine RC.iter (fun(aa: (List Int)×Int×Int)=>SH E V [(0,v0),(3,vi aa.2.1),(4,(vw v0 (Int.toNat ab) 1)),(5,vi aa.2.2)] [own 3 v0 aa.1]) (fun(aa: (List Int)×Int×Int)=>SH E V [(0,v0),(3,vi aa.2.1)] [own 3 v0 aa.1]) (fun(r:Empty) _ _=>r.elim) hN ?_ ?_ ?_ ?_
  ·exact j.sp 1 [0]
  ·rintro aa fl _ w ⟨O,rfl,j⟩ o
   refine RC.seq (RC.sr (mv (vi aa.2.2) (mv (vw v0 (Int.toNat ab) 1) (RL.J5 (i:=0) (l:=aa.1) zt zr j zr zr mw (ic aa.2.2 ((((aa.1.length - Int.toNat ab):Nat):Int)) (RL.nt (dX o (fun hc o=>?_) fun hc o=>?_)))))))
   rotate_left
   ·refine RC.ex ?_
    obtain rfl:=oi o
    exact⟨rfl,j.sp 1 [0]⟩
   refine RC.ss (RC.block (RC.seq (RC.yh mixed ?_)))
   have j:=j.drew
   refine RO.go (mv (vw v0 (Int.toNat ab) 1) (RO.nx (mv (vi aa.2.2) (RO.nx ?_))))
   obtain⟨aw,ag,o⟩:=bd o
   refine RL.Hj 0 ab zr j zr zr zr eD (EN af) (kz ag).1 (kz ag).2 (RO.nx (RL.dR (f:=(fun x=>x)) 0 j (jJ 0 j (kz ag).2 0) (bI (kz ag).2).2.1 Fd.self cG (RO.nx (mv (vw v0 (Int.toNat ab) 1) (RO.nx (mv (vi aa.2.2) (RO.nx (RL.fO aa.2.2 1 ?_))))))))
   refine RO.nx ?_
   obtain⟨ax,ah,o⟩:=bd o
   refine RL.Hj 0 ab zr j zr zr zr eD (EN af) (kz ah).1 (kz ah).2 (RO.nx (RL.dR (f:=(fun x=>x)) 0 j (jJ 0 j (kz ah).2 0) (bI (kz ah).2).2.1 Fd.self cG (RO.nx (ic aw ax (RO.last (aG ?_))))))
   obtain⟨ai,hj,o⟩:=bd o
   refine RC.jn (fun(ai: (List Int)×Int)=>SH E V [(0,v0),(3,vi ai.2),(4,(vw v0 (Int.toNat ab) 1)),(5,vi aa.2.2)] [own 3 v0 ai.1]) ai ?_ ?_
   ·refine dX hj (fun hc hj=>?_) fun hc hj=>?_
    rotate_left
    ·refine RC.skip ?_
     obtain rfl:=oi hj
     exact⟨rfl,j.sp 1 [0]⟩
    refine RC.sr (mv v0 (mv (vi aa.2.1) (mv (vw v0 (Int.toNat ab) 1) (mv (vi aa.2.2) ?_))))
    obtain⟨ay,aj,hj⟩:=bd hj
    refine RL.Hj 0 ab zr j zr zr zr eD (EN af) (kz aj).1 (kz aj).2 (RL.dR (f:=(fun x=>x)) 0 j (jJ 0 j (kz aj).2 0) (bI (kz aj).2).2.1 Fd.self cG ?_)
    obtain⟨a5,ao,hj⟩:=bd hj
    refine RL.bS 0 j zr zr eD ao ?_
    have j:=j.sc Int ay
    refine RL.gR (f:=(fun _ y=>y)) 1 0 j (jJ 1 j ao 0) (bI ao).2.1 zr Fs.self cG fun w j=>?_
    refine RL.nt (RC.region (mv (vi aa.2.1) (RL.fO aa.2.1 1 (aP (vi (IntKind.wrap .i64 (aa.2.1+1))) (RL.nil ?_)))))
    obtain rfl:=oi hj
    exact⟨rfl,j.sp 2 [1]⟩
   rintro _ w ⟨O,rfl,j⟩
   refine bO (aG (RC.region (mv (vi aa.2.2) (RL.fO aa.2.2 1 (aP (vi (IntKind.wrap .i64 (aa.2.2+1))) (RL.nil ?_))))))
   obtain rfl:=oi o
   exact⟨rfl,j.sp 1 [0]⟩
  ·intro r _ _ _ _
   exact r.elim
  rintro aa _ w rfl ⟨O,rfl,j⟩
  rw [Fo.dB] at o
  refine aG (RC.sr (mv v0 (mv (vi aa.2.1) ?_)))
  obtain⟨a6,aq,o⟩:=bd o
  refine RL.view 0 aa.2.1 zr j zr zr eD aq (RL.Df 0 zt j zr zr rh K3 (Hk aq) fun w j=>(RL.ns (mv v0 (mv (vi aa.2.1) ?_))))
  obtain⟨a7,az,o⟩:=bd o
  refine RL.Ch 0 zr j zr zr eD (.inr ⟨rfl,zr⟩) az fun a0 j=>(aP a0 (RL.nt (RC.rb (bQ ?_))))
  obtain rfl:=oi o
  exact⟨rfl,bY (j.pk 1 [0])⟩
 ·intro r U w e hK
  subst e
  refine bQ ?_
  obtain rfl:=oi o
  exact hK
 rintro ab _ w rfl ⟨O,rfl,j⟩
 rw [Fo.dB] at o
 refine aG (RC.sr (mv v0 (aP v0 (RL.nt (RC.ret ?_)))))
 obtain rfl:=oi o
 exact bY (j.pk 1 [0])
theorem xx {p0:aI} {p1: (List Int)} {res:Bool} (j:Holds E w V) (h0:V[i0]? =some (rd v0 p0)) (h1:V[i1]? =some (pt v1 p1)) (h2:V[i2]? =some (pt v2 p2)) (o:oA N p0 p1 p2=some res):
    Calls bN 90 [v0,v1,v2].toArray w (gQ (aU E V res)):=by
 unfold oA at o
 refine enter Tryz.func90 zr zr ?_
 have j:=((j.dup (i0+0) h0).Cf (i:=i1+1) h1).Cf (i:=i2+2) h2
 refine RC.sr (RL.dK 2 v0 j zr fun ad w j=>?_)
 refine aP (vb false) (RL.nq (RC.yh mixed ?_))
 have j:=j.drew
 refine RO.go (RL.aZ zr jZ (RO.nx (RL.aM 0 j zr eT cG (RO.nx (RL.bF 2 p1 j fM fun ae j=>(RO.nx (RL.bB p2 2 j cG (RO.nx ?_))))))))
 obtain⟨aa,ab,o⟩:=bd o
 refine RL.bM 0 j eD ab fun af j=>(RO.nx (RL.bB aa 0 j cG (RO.nx (ic p0.Y1 aa (RO.nx (aP (vb (decide (p0.Y1<=aa))) (RO.last (aG ?_))))))))
 refine RC.ret ?_
 obtain rfl:=oi o
 exact bY ⟨rfl,j.drop 6⟩
def sD (E:World) (V:List HP) (r:Int) (U:Nat->Value) (w:World):Prop:=lS bN 19 Tryz.f103 (aV E V r) .ret U w
theorem rV {p0: (List aI)} {p1:aI->Option Bool} (j:Holds E w V) (h0:V[i0]? =some (rd v0 p0)) (h1:Iw bN E V v1 p1 (fun(r:Bool)=>Value.bool r)) (o:mb N p0 p1=some res):
    Calls bN 103 [v0,v1].toArray w (gQ (aV E V res)):=by
 unfold mb at o
 refine enter Tryz.func103 zr zr ?_
 have j:=j.dup (i0+0) h0
 refine RC.sr (aP (vi 0) (RL.nq (RC.sr (mv v0 (RL.bC 0 p0 j mH (mv (vi 0) (RL.nt ?_)))))))
 obtain⟨al,hN,o⟩:=bd o
 refine RC.range (fun(aa:Nat) (ab:Unit)=>SH E V [(0,v0),(1,v1),(7,vi p0.length),(8,vi aa)] [rd v0 p0]) (fun(ab:Unit)=>SH E V [] [rd v0 p0]) (sD E V) hN ?_ ?_ ?_ ?_ ?_
 ·exact j.sp 1 [0]
 ·rintro hm ab _ w ⟨O,rfl,j⟩
  refine RC.sr (ic ((p0.length:Int)) ((p0.length:Int)) (RL.nq (RC.fw sf (RC.ex ?_))))
  exact⟨rfl,j.sp 1 [0]⟩
 ·rintro hm aa ab fl _ w hk ⟨O,rfl,j⟩ o
  refine RC.sr (ic ((aa:Int)) ((p0.length:Int)) (RL.nq (RC.fu (sd hk) (RC.ss (RC.bs (mv (vi aa) (aP (vi aa) (RL.ns ?_))))))))
  refine mv v1 (mv v0 (mv (vi aa) ?_))
  obtain⟨ag,ah,o⟩:=bd o
  refine RL.bM 0 j iK ah fun ao j=>(RL.bF 0 ag j iq fun aq j=>?_)
  obtain⟨ar,ai,o⟩:=bd o
  refine RL.Ce 0 zr j zr h1 3 zr zr zr ai fun w j=>(RL.nt (dX o (fun hc o=>?_) fun hc o=>?_))
  rotate_left
  ·refine RC.skip (bO (aG (RC.region (RL.inc hk hm (mv (vi ((aa+1:Nat):Int)) (RL.nil ?_))))))
   obtain rfl:=oi o
   exact⟨rfl,j.sp 3 [2]⟩
  refine RC.sr (mv (vi aa) (aP (vi aa) (RL.nt (RC.rb (bQ ?_)))))
  obtain rfl:=oi o
  exact⟨rfl,bY ⟨rfl,j.drop 3⟩⟩
 ·intro r U w e hK
  subst e
  refine bQ ?_
  obtain rfl:=oi o
  exact hK
 rintro ab _ w rfl ⟨O,rfl,j⟩
 rw [Fo.dB] at o
 refine aG (RC.sr (aP (vi (-1)) (RL.nt (RC.ret ?_))))
 obtain rfl:=oi o
 exact bY ⟨rfl,j.drop 1⟩
def mJ (E:World) (V:List HP) (v0:Value) (p0: (List aI)) (res:Int) (v:Value) (w:World):Prop:=v= (vi res)/\Holds E w ([own 73 v0 p0]++V)
def qH (E:World) (V:List HP) (v0:Value) (p0: (List aI)) (r:Int) (U:Nat->Value) (w:World):Prop:=lS bN 19 Tryz.f103 (mJ E V v0 p0 r) .ret U w
theorem p8 {p0: (List aI)} {p1:aI->Option Bool} (o:Holds E w (own 73 v0 p0::V)) (h1:Iw bN E V v1 p1 (fun(r:Bool)=>Value.bool r)) (j:kU N p0 p1=some res):
    Calls bN 103 [v0,v1].toArray w (gQ (mJ E V v0 p0 res)):=by
 unfold kU at j
 refine enter Tryz.func103 zr zr (RC.sr (aP (vi 0) (RL.nq (RC.sr (mv v0 (RL.fS 0 p0 o mH (mv (vi 0) (RL.nt ?_))))))))
 obtain⟨ak,hN,j⟩:=bd j
 refine RC.range (fun(aa:Nat) (ab:Unit)=>SH E V [(0,v0),(1,v1),(7,vi p0.length),(8,vi aa)] [own 73 v0 p0]) (fun(ab:Unit)=>SH E V [(0,v0)] [own 73 v0 p0]) (qH E V v0 p0) hN ?_ ?_ ?_ ?_ ?_
 ·exact o.sp 1 [0]
 ·rintro hm ab _ w ⟨O,rfl,o⟩
  refine RC.sr (ic ((p0.length:Int)) ((p0.length:Int)) (RL.nq (RC.fw sf (RC.ex ?_))))
  exact⟨rfl,o.sp 1 [0]⟩
 ·rintro hm aa ab fl _ w hk ⟨O,rfl,o⟩ j
  refine RC.sr (ic ((aa:Int)) ((p0.length:Int)) (RL.nq (RC.fu (sd hk) (RC.ss (RC.bs (mv (vi aa) (aP (vi aa) (RL.ns ?_))))))))
  refine mv v1 (mv v0 (mv (vi aa) ?_))
  obtain⟨an,ad,j⟩:=bd j
  refine RL.bS 0 o zr zr iK ad (RL.kn (f:=(fun x=>x)) 0 o (jJ 0 o ad 0) (bI ad).2.1 Fd.self iq fun ao o=>?_)
  obtain⟨aq,ah,j⟩:=bd j
  refine RL.Ce 0 zr o zr h1 2 zr zr zr ah fun w o=>(RL.nt (dX j (fun hc j=>?_) fun hc j=>?_))
  rotate_left
  ·refine RC.skip (bO (aG (RC.region (RL.inc hk hm (mv (vi ((aa+1:Nat):Int)) (RL.nil ?_))))))
   obtain rfl:=oi j
   exact⟨rfl,o.sp 2 [1]⟩
  refine RC.sr (mv (vi aa) (aP (vi aa) (RL.nt (RC.rb (bQ ?_)))))
  obtain rfl:=oi j
  exact⟨rfl,bY ⟨rfl,o.pk 2 [1]⟩⟩
 ·intro r U w e hK
  subst e
  refine bQ ?_
  obtain rfl:=oi j
  exact hK
 rintro ab _ w rfl ⟨O,rfl,o⟩
 rw [Fo.dB] at j
 refine aG (RC.sr (aP (vi (-1)) (RL.nt (RC.ret ?_))))
 obtain rfl:=oi j
 exact bY ⟨rfl,o.pk 1 [0]⟩
theorem ri {p0: (List aI)} {p1:aI->Option Bool} {res: (List aI)} (j:Holds E w (own 73 v0 p0::V)) (h1:Iw bN E V v1 p1 (fun(r:Bool)=>Value.bool r)) (o:iT N p0 p1=some res):
    Calls bN 89 [v0,v1].toArray w (gQ (fX E V res)):=by
 unfold iT at o
 refine enter Tryz.func89 zr zr (RC.sr (aP (.slice none 0 0) (RL.ns (mv v0 (mv v1 ?_)))))
 have j:=j.pull 0
 obtain⟨ad,aj,o⟩:=bd o
 refine RL.call zt zr Jv [v0,v1] zr (aD (p8 N j (h1.lift 1 zr) aj) ?_)
 rintro _ w ⟨rfl,j⟩
 refine aP (vi ad) (RL.nq (RC.sr (mv (vi ad) (ic ad ((-1)) (RL.nt (dX o (fun hc o=>?_) fun hc o=>?_))))))
 ·refine RC.sr (mv v0 (aP v0 (RL.nt (RC.rt ?_))))
  obtain rfl:=oi o
  exact bY (j.pk 2 [0])
 refine RC.ss (RC.sr (mv (vi ad) (RL.fO ad 1 (aP (vi (IntKind.wrap .i64 (ad+1))) (RL.nt ?_)))))
 obtain⟨ar,hN,o⟩:=bd o
 refine RC.iter (fun(aa: (List aI)×Int×Int)=>SH E V [(0,v0),(1,v1),(5,vi aa.2.1),(6,vi aa.2.2)] [own 73 v0 aa.1]) (fun(aa: (List aI)×Int×Int)=>SH E V [(0,v0),(5,vi aa.2.1)] [own 73 v0 aa.1]) (fun(r:Empty) _ _=>r.elim) hN ?_ ?_ ?_ ?_
 ·exact j.sp 2 [0]
 ·rintro aa fl _ w ⟨O,rfl,j⟩ o
  refine RC.seq (RC.sr (mv (vi aa.2.2) (mv v0 (RL.fS 0 aa.1 j mH (ic aa.2.2 ((aa.1.length:Int)) (RL.nt (dX o (fun hc o=>?_) fun hc o=>?_)))))))
  rotate_left
  ·refine RC.ex ?_
   obtain rfl:=oi o
   exact⟨rfl,j.sp 1 [0]⟩
  refine RC.ss (RC.bs (mv v0 (mv (vi aa.2.2) ?_)))
  obtain⟨av,ag,o⟩:=bd o
  refine RL.bS 0 j zr zr iK ag (RL.kn (f:=(fun x=>x)) 0 j (jJ 0 j ag 0) (bI ag).2.1 Fd.self iq fun aw j=>?_)
  refine RL.alloc j om.z fun ax w j=>?_
  refine RL.bZ 0 j 1 zr iq fun w j=>?_
  refine RL.ns (mv v1 (RL.bG (f:=(fun x=>x)) 0 j zr Fd.self iq fun ay j=>?_))
  obtain⟨al,an,o⟩:=bd o
  refine RL.Ce 0 zr j zr h1 4 zr zr zr an fun w j=>(RL.not al (RL.nt ?_))
  obtain⟨af,hj,o⟩:=bd o
  refine RC.jn (fun(af: (List aI)×Int)=>SH E V [(0,v0),(1,v1),(5,vi af.2),(6,vi aa.2.2)] [own 73 v0 af.1]) af ?_ ?_
  ·refine dX hj (fun hc hj=>?_) fun hc hj=>?_
   rotate_left
   ·refine RC.skip ?_
    obtain rfl:=oi hj
    exact⟨rfl,j.sp 4 [3]⟩
   refine RC.sr (mv v0 (mv (vi aa.2.1) (RL.bG (f:=(fun x=>x)) 1 j zr Fd.self iq fun az j=>?_)))
   obtain⟨a0,ah,hj⟩:=bd hj
   refine RL.bS 4 j zr zr iK ah (RL.gR (f:=(fun _ y=>y)) 4 0 j (jJ 4 j ah 0) (bI ah).2.1 zr Fs.self iq fun w j=>?_)
   refine RL.nt (RC.region (mv (vi aa.2.1) (RL.fO aa.2.1 1 (aP (vi (IntKind.wrap .i64 (aa.2.1+1))) (RL.nil ?_)))))
   obtain rfl:=oi hj
   exact⟨rfl,j.sp 5 [4]⟩
  rintro _ w ⟨O,rfl,j⟩
  refine bO (aG (RC.region (mv (vi aa.2.2) (RL.fO aa.2.2 1 (aP (vi (IntKind.wrap .i64 (aa.2.2+1))) (RL.nil ?_))))))
  obtain rfl:=oi o
  exact⟨rfl,j.sp 1 [0]⟩
 ·intro r _ _ _ _
  exact r.elim
 rintro aa _ w rfl ⟨O,rfl,j⟩
 rw [Fo.dB] at o
 refine aG (RC.sr (mv v0 (mv (vi aa.2.1) ?_)))
 obtain⟨a1,ai,o⟩:=bd o
 refine RL.view 0 aa.2.1 zr j zr zr iK ai (RL.Df 0 zt j zr zr z9 Mw (Hk ai) fun w j=>(RL.ns (mv v0 (mv (vi aa.2.1) ?_))))
 obtain⟨a2,ao,o⟩:=bd o
 refine RL.Ch 0 zr j zr zr iK (.inr ⟨rfl,zr⟩) ao fun aq j=>(aP aq (RL.nt (RC.ret ?_)))
 obtain rfl:=oi o
 exact bY (j.pk 1 [0])
theorem uj {p0 p1:aI} (j:Holds E w V) (h0:V[i0]? =some (rd v0 p0)) (h1:V[i1]? =some (rd v1 p1)) (o:iu N p0 p1=some res):
    Calls bN 120 [v0,v1].toArray w (gQ (aV E V res)):=by
 unfold iu at o
 refine enter Tryz.func120 zr zr ?_
 have j:=(j.dup (i0+0) h0).dup (i1+1) h1
 refine RC.sr (RL.dK 1 v0 j zr fun aa w j=>?_)
 refine RL.dK 1 v1 j zr fun ab w j=>?_
 refine aP (vi 0) (RL.ns (RL.aZ zr gO (RL.aM 1 j zr dD cG (RL.aZ zr gO (RL.aM 0 j zr dD cG (RL.fO p0.X0 p1.X0 (aP (vi (IntKind.wrap .i64 (p0.X0 - p1.X0))) (RL.nt ?_))))))))
 refine RC.ret ?_
 obtain rfl:=oi o
 exact bY ⟨rfl,j.drop 4⟩
def xy (E:World) (V:List HP) (v0:Value) (res: (List Int)×(List aI)) (v:Value) (w:World):Prop:=Holds E w ([own 3 v res.1,own 73 v0 res.2]++V)
theorem wG {p0: (List aI)} {res: (List Int)×(List aI)} (j:Holds E w (own 73 v0 p0::V)) (hb:jP N p0=some res):
    Calls bN 92 [v0].toArray w (gQ (xy E V v0 res)):=by
 unfold jP at hb
 refine enter Tryz.func92 zr zr (RC.sr (aP (.slice none 0 0) (RL.ns (mv v0 ?_))))
 obtain⟨af,a1,hb⟩:=bd hb
 have j:=j.pull 0
 refine RL.call zt zr K1 [v0,(.func (.func 120) #[] #[])] zr (aD (FJ Tryz.lay85 aI zr iq.IC iq.sz K4 (fun j hi o hr=>uj N j hi o hr) j a1) ?_)
 rintro _ w ⟨rfl,j⟩
 refine RL.ns (aP (.slice none 0 0) (RL.nq (RC.sr (mv v0 (RL.fS 0 af j mH (mv (vi 0) (RL.nt ?_)))))))
 have j:=j.cQ Int 3
 obtain⟨aa,hN,hb⟩:=bd hb
 refine RC.fold (fun(ah:Nat) (aa: (List Int)) U w=>∃av:Value,SH E V [(0,v0),(3,av),(9,v0),(10,vi af.length),(11,vi ah)] [own 73 v0 af,own 3 av aa] U w) (fun(aa: (List Int)) U w=>∃ai:Value,SH E V [(0,v0),(3,ai)] [own 73 v0 af,own 3 ai aa] U w) hN ?_ ?_ ?_ ?_
 ·exact⟨(.slice none 0 0),j.sp 3 [1,0]⟩
 ·rintro hm aa _ w ⟨a3,O,rfl,j⟩
  refine RC.sr (ic ((af.length:Int)) ((af.length:Int)) (RL.nq (RC.fw sf (RC.ex ?_))))
  exact⟨rfl,a3,j.sp 2 [0,1]⟩
 ·rintro hm ah aa s' _ w hk ⟨ag,O,rfl,j⟩ hb
  refine RC.sr (ic ((ah:Int)) ((af.length:Int)) (RL.nq (RC.fu (sd hk) (RC.ss (RC.bs ?_)))))
  obtain⟨ae,ak,hb⟩:=bd hb
  refine RL.bS 0 j zr zr iK ak (RL.kn (f:=(fun x=>x)) 0 j (jJ 0 j ak 0) (bI ak).2.1 Fd.self iq fun a6 j=>?_)
  refine RL.alloc j om.z fun ay w j=>?_
  refine RL.bZ 0 j 1 zr iq fun w j=>?_
  refine RL.ns (mv ag (RL.fS 3 aa j mw (RL.fO (aa.length:Int) 1 (aP (vi (IntKind.wrap .i64 ((aa.length:Int) - 1))) (RL.nq ?_)))))
  obtain⟨al,o,hb⟩:=bd hb
  refine RC.jn (fun(al:Bool)=>SH E V [(0,v0),(3,ag),(5,vp ay 0),(6,(vi (IntKind.wrap .i64 ((aa.length:Int) - 1)))),(9,v0),(10,vi af.length),(11,vi ah),(28,vb al)] [own 73 v0 af,own 3 ag aa,bx 73 ay ae]) al ?_ ?_
  ·refine RC.yh mixed ?_
   have j:=j.drew
   refine RO.go (mv (vi (IntKind.wrap .i64 ((aa.length:Int) - 1))) (RO.nx (ic ((IntKind.wrap .i64 ((aa.length:Int) - 1))) 0 (RO.nx (mv (vb (decide ((IntKind.wrap .i64 ((aa.length:Int) - 1))>=0))) (fN o (fun ab o=>?_) fun ab o=>?_))))))
   rotate_left
   ·refine RO.nx (bJ ab (RO.nx (bJ ab (RO.nx (bJ ab (RO.nx (bJ ab (RO.nx ?_))))))))
    refine bJ ab (RO.nx (bJ ab (RO.nx (bJ ab (RO.nx (fU ab (vb false) (RO.last ?_)))))))
    obtain rfl:=oi o
    exact⟨rfl,j.sp 4 [2,3,0]⟩
   refine RO.nx (RL.aZ (hg:=(cg ab)) zr gO (RO.nx (RL.aM (hg:=(cg ab)) 0 j zr dD cG (RO.nx (RL.move ag (cg ab) (RO.nx (RL.move (vi (IntKind.wrap .i64 ((aa.length:Int) - 1))) (cg ab) (RO.nx ?_))))))))
   obtain⟨az,an,o⟩:=bd o
   refine RL.bS (hg:=(cg ab)) 3 j zr zr eD an (RO.nx (RL.dR (hg:=(cg ab)) (f:=(fun x=>x)) 3 j (jJ 3 j an 0) (bI an).2.1 Fd.self cG (RO.nx (RL.ld ae.X0 az (cg ab) (RO.nx (fU ab (vb (decide (ae.X0<=az))) (RO.last ?_)))))))
   obtain rfl:=oi o
   exact⟨rfl,j.sp 4 [2,3,0]⟩
  rintro _ w ⟨O,rfl,j⟩
  refine aG ?_
  obtain⟨ao,o,hb⟩:=bd hb
  refine RC.jn (fun(ao: (List Int)) U w=>∃aj:Value,SH E V [(0,v0),(3,aj),(9,v0),(10,vi af.length),(11,vi ah)] [own 73 v0 af,own 3 aj ao] U w) ao ?_ ?_
  ·refine dX o (fun hc o=>?_) fun hc o=>?_
   rotate_left
   ·refine RC.region (mv ag (RL.aZ zr gO (RL.aM 2 j zr dD cG (RL.aZ zr iX (RL.aM 2 j zr dY cG ?_)))))
    have j:=(j.sc Int ae.X0).sc Int ae.X1
    refine RL.dQ ([ae.X0,ae.X1]: (List Int)) j [(vi ae.X0),(vi ae.X1)] eD CX (fun M hs g=>⟨(g.sat 1 _ zr).1,⟨(g.sat 0 _ zr).1,zt⟩⟩) fun a7 w j=>?_
    have j:=j.freeze 0
    obtain⟨a8,a5,o⟩:=bd o
    refine RL.app 4 0 j rh a5 fun a0 w j=>?_
    refine aP a0 (RL.nil ?_)
    obtain rfl:=oi o
    exact⟨rfl,a0,j.sp 6 [3,4]⟩
   refine RC.vH mixed [0,0,0,0,0,0,0,0,0,0,2] [0,1,2,3,4,5,6,7,8,9,10] ?_
   have j:=j.drew
   refine DP.e0 zr (mv ag (aY zr (mv (vi (IntKind.wrap .i64 ((aa.length:Int) - 1))) (aY zr (mv ag (aY zr (mv (vi (IntKind.wrap .i64 ((aa.length:Int) - 1))) (aY zr ?_))))))))
   obtain⟨aq,ar,o⟩:=bd o
   refine RL.bS 1 j zr zr eD ar (aY zr (RL.dR (f:=(fun x=>x)) 1 j (jJ 1 j ar 0) (bI ar).2.1 Fd.self cG (aY zr (RL.aZ zr iX (aY zr (RL.aM 2 j zr dY cG (aY zr (RL.max aq ae.X1 ?_))))))))
   refine aY zr ?_
   obtain⟨a9,au,o⟩:=bd o
   refine RL.bS 1 j zr zr eD au (oN zr ?_)
   have j:=j.sc Int (if aq<ae.X1 then ae.X1 else aq)
   refine RL.gR (f:=(fun _ y=>y)) 2 0 j (jJ 2 j au 0) (bI au).2.1 zr Fs.self cG fun w j=>?_
   refine DP.d2 zt (DP.z ?_)
   obtain rfl:=oi o
   exact⟨rfl,ag,j.sp 4 [1,2]⟩
  rintro _ w ⟨aj,O,rfl,j⟩
  refine bO (aG (RC.region (RL.inc hk hm (mv (vi ((ah+1:Nat):Int)) (RL.nil ?_)))))
  obtain rfl:=oi hb
  exact⟨rfl,aj,j.sp 2 [0,1]⟩
 rintro _ w ⟨ai,O,rfl,j⟩
 refine aG (RC.sr (mv ai (aP ai (RL.nt (RC.ret ?_)))))
 obtain rfl:=oi hb
 exact bY (j.pk 2 [1,0])
def wH (E:World) (V:List HP) (r:Bool) (U:Nat->Value) (w:World):Prop:=lS bN 26 Tryz.f119 (aU E V r) .ret U w
theorem vN {p0: (List Int)} {p1: (List Int)} {res:Bool} (j:Holds E w V) (h0:V[i0]? =some (rd v0 p0)) (h1:V[i1]? =some (rd v1 p1)) (o:m8 N p0 p1=some res):
    Calls bN 119 [v0,v1].toArray w (gQ (aU E V res)):=by
 unfold m8 at o
 refine enter Tryz.func119 zr zr ?_
 have j:=(j.dup (i0+0) h0).dup (i1+1) h1
 refine RC.sr (aP (vb false) (RL.nq (RC.sr (mv v0 (RL.bC 1 p0 j mw (mv v1 (RL.bC 0 p1 j mw (ic ((p0.length:Int)) ((p1.length:Int)) ?_))))))))
 refine RL.nt (dX o (fun hc o=>?_) fun hc o=>?_)
 ·refine RC.sr (aP (vb false) (RL.nt (RC.rt ?_)))
  obtain rfl:=oi o
  exact bY ⟨rfl,j.drop 2⟩
 refine RC.ss (RC.sr (mv v0 (RL.bC 1 p0 j mw (mv (vi 0) (RL.nt ?_)))))
 obtain⟨an,hN,o⟩:=bd o
 refine RC.range (fun(aa:Nat) (ab:Unit)=>SH E V [(0,v0),(1,v1),(12,vi p0.length),(13,vi aa)] [rd v0 p0,rd v1 p1]) (fun(ab:Unit)=>SH E V [] [rd v0 p0,rd v1 p1]) (wH E V) hN ?_ ?_ ?_ ?_ ?_
 ·exact j.sp 2 [1,0]
 ·rintro hm ab _ w ⟨O,rfl,j⟩
  refine RC.sr (ic ((p0.length:Int)) ((p0.length:Int)) (RL.nq (RC.fw sf (RC.ex ?_))))
  exact⟨rfl,j.sp 2 [0,1]⟩
 ·rintro hm aa ab fl _ w hk ⟨O,rfl,j⟩ o
  refine RC.sr (ic ((aa:Int)) ((p0.length:Int)) (RL.nq (RC.fu (sd hk) (RC.ss (RC.bs (mv (vi aa) (aP (vi aa) (RL.nq ?_))))))))
  refine RC.yh mixed ?_
  have j:=j.drew
  refine RO.go (mv v0 (RO.nx (mv (vi aa) (RO.nx ?_))))
  obtain⟨ag,aj,o⟩:=bd o
  refine RL.bM 0 j eD aj fun aq j=>(RO.nx (RL.bB ag 0 j cG (RO.nx (mv v1 (RO.nx (mv (vi aa) (RO.nx ?_)))))))
  obtain⟨ah,ak,o⟩:=bd o
  refine RL.bM 2 j eD ak fun ar j=>(RO.nx (RL.bB ah 0 j cG (RO.nx (ic ag ah (RO.last (aG (dX o (fun hc o=>?_) fun hc o=>?_)))))))
  rotate_left
  ·refine RC.skip (bO (aG (RC.region (RL.inc hk hm (mv (vi ((aa+1:Nat):Int)) (RL.nil ?_))))))
   obtain rfl:=oi o
   exact⟨rfl,j.sp 4 [2,3]⟩
  refine RC.sr (aP (vb false) (RL.nt (RC.rb (bQ ?_))))
  obtain rfl:=oi o
  exact⟨rfl,bY ⟨rfl,j.drop 4⟩⟩
 ·intro r U w e hK
  subst e
  refine bQ ?_
  obtain rfl:=oi o
  exact hK
 rintro ab _ w rfl ⟨O,rfl,j⟩
 rw [Fo.dB] at o
 refine aG (RC.sr (aP (vb true) (RL.nt (RC.ret ?_))))
 obtain rfl:=oi o
 exact bY ⟨rfl,j.drop 2⟩
theorem rC {p0: (List aA)} {p1:aA} {res: (List aA)} (j:Holds E w (own 81 v0 p0::V)) (h1:V[i1]? =some (rd v1 p1)) (hb:jB N p0 p1=some res):
    Calls bN 91 [v0,v1].toArray w (gQ (ng E V res)):=by
 unfold jB at hb
 refine enter Tryz.func91 zr zr ?_
 have j:=j.dup (i1+1) h1
 refine RC.sr (RL.dK 0 v1 j zr fun ae w j=>?_)
 refine aP (.slice none 0 0) (RL.nq (RC.sr (RL.aZ zr nP (RL.bG 0 j zr dS fM fun aw j=>(RL.bC 0 p1.Xs j mw (ic ((p1.Xs.length:Int)) 0 (mv (vb ((p1.Xs.length:Int)==0)) (RL.gs true ((p1.Xs.length:Int)==0) (vp ae 1) zr zr zr (eC pL) ?_))))))))
 refine RL.gs true ((p1.Xs.length:Int)==0) (vi p1.Y1) rfl rfl rfl (cB 1 rfl j (fun h=>by exact(cO h:cv (true&&(((p1.Xs.length:Int)==0)==false)) (vp ae 1)= (vp ae 1))) rfl fQ cG) (RL.gs true ((p1.Xs.length:Int)==0) (vp ae 0) rfl rfl rfl (eC rO) (RL.gs true ((p1.Xs.length:Int)==0) (vi p1.Y0) rfl rfl rfl (cB 1 rfl j (fun h=>by exact(cO h:cv (true&&(((p1.Xs.length:Int)==0)==false)) (vp ae 0)= (vp ae 0))) rfl gK cG) (RL.gs true ((p1.Xs.length:Int)==0) (vb (decide (p1.Y1<=p1.Y0))) rfl rfl rfl (dL .leq .i64 p1.Y1 p1.Y0 rfl (fun h=>by exact(cO h:cv (true&&(((p1.Xs.length:Int)==0)==false)) (vi p1.Y1)= (vi p1.Y1))) (fun h=>by exact(cO h:cv (true&&(((p1.Xs.length:Int)==0)==false)) (vi p1.Y0)= (vi p1.Y0))) rfl) (RL.pick ((p1.Xs.length:Int)==0) (vb (((p1.Xs.length:Int)==0)||(decide (p1.Y1<=p1.Y0)))) (nW true) (RL.nt (dX hb (fun hc hb=>?_) fun hc hb=>?_))))))
 ·refine RC.sr (mv v0 (aP v0 (RL.nt (RC.rt ?_))))
  obtain rfl:=oi hb
  exact bY (j.pk 4 [3])
 refine RC.ss (RC.sr (mv v0 (RL.fS 3 p0 j vI (RL.fO (p0.length:Int) 1 (aP (vi (IntKind.wrap .i64 ((p0.length:Int) - 1))) (RL.nq ?_))))))
 obtain⟨aj,hj,hb⟩:=bd hb
 refine RC.jn (fun(aj:Bool)=>SH E V [(0,v0),(3,vp ae 0),(5,(vi (IntKind.wrap .i64 ((p0.length:Int) - 1)))),(42,vb aj)] [own 81 v0 p0,bx 81 ae p1]) aj ?_ ?_
 ·refine RC.vH mixed [0,0,0,0,0,0,0,0,0,0,0,0,0,0,0,0,0,0,0,0,2,0] [0,1,2,3,4,5,6,7,8,9,10,11,12,13,14,15,16,17,18,19,20,21] ?_
  have j:=j.drew
  refine DP.e0 zr (mv (vi (IntKind.wrap .i64 ((p0.length:Int) - 1))) (aY zr (ic ((IntKind.wrap .i64 ((p0.length:Int) - 1))) 0 (aY zr (mv (vb (decide ((IntKind.wrap .i64 ((p0.length:Int) - 1))>=0))) (DP.d0 (fN hj (fun o hj=>?_) fun o hj=>?_)))))))
  rotate_left
  ·refine DP.e0 zr (bJ o (aY zr (bJ o (aY zr (bJ o (aY zr (bJ o (aY zr ?_))))))))
   refine bJ o (aY zr (bJ o (aY zr (bJ o (aY zr (bJ o (aY zr (fU o (vb false) ?_))))))))
   refine aY zr (mv (vb false) (aY zr (jR (aY zr (jR (aY zr (jR (aY zr ?_))))))))
   refine jR (aY zr (jR (aY zr (jR (aY zr (jR (oN zr (jR ?_))))))))
   refine uh zr (RL.pick false (vb false) zr (DP.d0 (DP.z ?_)))
   obtain rfl:=oi hj
   exact⟨rfl,j.sp 4 [3,1]⟩
  refine DP.e0 zr (RL.move v0 (cg o) (aY zr (RL.move (vi (IntKind.wrap .i64 ((p0.length:Int) - 1))) (cg o) (aY zr ?_))))
  obtain⟨ak,af,hj⟩:=bd hj
  refine RL.bS (hg:=(cg o)) 3 j zr zr o0 af (aY zr (RL.lh (α:=aA) (cg o) (jJ 3 j af 0) pL (aY zr (RL.dR (hg:=(cg o)) 3 j (jJ 3 j af 1) (bI af).2.1 fQ cG (aY zr (RL.aZ (hg:=(cg o)) zr rO (aY zr (RL.aM (hg:=(cg o)) 1 j zr gK cG ?_))))))))
  refine aY zr (RL.ld ak.Y1 p1.Y0 (cg o) (aY zr (fU o (vb (ak.Y1==p1.Y0)) (aY zr (mv (vb (ak.Y1==p1.Y0)) (DP.d0 (fN hj (fun aa hj=>?_) fun aa hj=>?_)))))))
  rotate_left
  ·refine DP.e0 zr (bJ aa (aY zr (bJ aa (aY zr (bJ aa (aY zr (bJ aa (aY zr ?_))))))))
   refine bJ aa (aY zr (bJ aa (aY zr (bJ aa (oN zr (bJ aa (uh zr (fU aa (vb false) ?_))))))))
   refine DP.d0 (DP.z ?_)
   obtain rfl:=oi hj
   exact⟨rfl,j.sp 4 [3,1]⟩
  refine DP.e0 zr (RL.move v0 (cg aa) (aY zr (RL.move (vi (IntKind.wrap .i64 ((p0.length:Int) - 1))) (cg aa) (aY zr ?_))))
  obtain⟨ax,ag,hj⟩:=bd hj
  refine RL.bS (hg:=(cg aa)) 3 j zr zr o0 ag (aY zr (RL.lh (α:=aA) (cg aa) (jJ 3 j ag 0) nP (aY zr (RL.kn (hg:=(cg aa)) 3 j (jJ 3 j ag 2) (bI ag).2.1 dS fM fun al j=>?_))))
  refine aY zr (RL.aZ (hg:=(cg aa)) zr nP (aY zr (RL.bG (hg:=(cg aa)) 2 j zr dS fM fun an j=>(oN zr ?_))))
  obtain⟨ao,aq,hj⟩:=bd hj
  refine RL.call (cg aa) zr K6 [al,an] zr (aD (vN N (i0:=1) (i1:=0) j zr zr aq) ?_)
  rintro _ w ⟨rfl,j⟩
  refine uh zr (fU aa (vb ao) (DP.d0 (DP.z ?_)))
  obtain rfl:=oi hj
  exact⟨rfl,j.sp 6 [5,3]⟩
 rintro _ w ⟨O,rfl,j⟩
 refine aG (dX hb (fun hc hb=>?_) fun hc hb=>?_)
 rotate_left
 ·refine RC.sx (mv v0 (RL.bG (f:=(fun x=>x)) 1 j zr Fd.self Cs fun ar j=>(RL.dQ ([p1]: (List aA)) j [ar] o0 Hx (fun M hs g=>⟨(g.sat 0 _ zr).1,zt⟩) fun ay w j=>?_)))
  have j:=j.freeze 0
  obtain⟨az,au,hb⟩:=bd hb
  refine RL.app 2 0 j MA au fun av w j=>?_
  refine aP av (RL.nt (RC.ret ?_))
  obtain rfl:=oi hb
  exact bY (j.pk 4 [2])
 refine RC.sr (mv v0 (mv (vi (IntKind.wrap .i64 ((p0.length:Int) - 1))) (RL.aZ zr pL (RL.aM 1 j zr fQ cG ?_))))
 obtain⟨a0,ah,hb⟩:=bd hb
 refine RL.bS 0 j zr zr o0 ah (RL.lh (α:=aA) zt (jJ 0 j ah 0) pL ?_)
 have j:=j.sc Int p1.Y1
 refine RL.gR 1 0 j (jJ 1 j ah 1) (bI ah).2.1 zr pK cG fun w j=>?_
 refine RL.ns (mv v0 (aP v0 (RL.nt (RC.rt ?_))))
 obtain rfl:=oi hb
 exact bY (j.pk 3 [1])
theorem mK {p0: (List aI)} {res: (List aA)} (o:Holds E w V) (h0:V[i0]? =some (rd v0 p0)) (hb:iC N p0=some res):
    Calls bN 49 [v0].toArray w (gQ (ng E V res)):=by
 unfold iC at hb
 refine enter Tryz.func49 zr zr ?_
 have o:=o.dup (i0+0) h0
 refine RC.sr (aP (.slice none 0 0) (RL.ns (mv v0 ?_)))
 obtain⟨cf,bn,hb⟩:=bd hb
 refine RL.call zt zr Ms [v0] zr (aD (uM N (i0:=0) o zr bn) ?_)
 rintro ae w o
 refine aP ae (RL.ns (mv ae ?_))
 obtain⟨ah,bo,hb⟩:=bd hb
 have o:=o.pull 0
 refine RL.call zt zr K1 [ae,(.func (.func 86) #[] #[])] zr (aD (FJ Tryz.lay85 aI zr iq.IC iq.sz Mt (fun o hi hj hr=>xw N o hi hj hr) o bo) ?_)
 rintro _ w ⟨rfl,o⟩
 refine RL.ns (RL.uD zr o K2 zr fun ag w o=>?_)
 refine RL.nq (RC.sr (mv ae (RL.fS 1 ah o mH (mv (vi 0) (RL.nt ?_)))))
 obtain⟨ao,hN,hb⟩:=bd hb
 refine RC.fold (fun(aw:Nat) (ao: (List Int)) U w=>∃a6:Value,SH E V [(0,ae),(3,vp ag 0),(14,ae),(15,vi ah.length),(16,vi aw)] [own 73 ae ah,bc 51 ag [a6],own 3 a6 ao] U w) (fun(ao: (List Int)) U w=>∃an:Value,SH E V [(0,ae),(3,vp ag 0)] [own 73 ae ah,bc 51 ag [an],own 3 an ao] U w) hN ?_ ?_ ?_ ?_
 ·have o:=o.cQ Int 3
  exact⟨(.slice none 0 0),o.sp 5 [2,1,0]⟩
 ·rintro hm ao _ w ⟨bp,O,rfl,o⟩
  refine RC.sr (ic ((ah.length:Int)) ((ah.length:Int)) (RL.nq (RC.fw sf (RC.ex ?_))))
  exact⟨rfl,bp,o.sp 3 [0,1,2]⟩
 ·rintro hm aw ao s' _ w hk ⟨bq,O,rfl,o⟩ hb
  refine RC.sr (ic ((aw:Int)) ((ah.length:Int)) (RL.nq (RC.fu (sd hk) (RC.ss (RC.bs ?_)))))
  obtain⟨aq,a1,hb⟩:=bd hb
  refine RL.bS 0 o zr zr iK a1 (RL.kn (f:=(fun x=>x)) 0 o (jJ 0 o a1 0) (bI a1).2.1 Fd.self iq fun ch o=>?_)
  refine RL.alloc o om.z fun cj w o=>?_
  refine RL.bZ 0 o 1 zr iq fun w o=>?_
  refine RL.nt (RC.region (RL.bK 3 bq o fM (RL.aZ zr gG (RL.aM 0 o zr cZ cG (RL.aZ zr jZ (RL.aM 0 o zr eT cG ?_))))))
  have o:=(o.sc Int aq.Y0).sc Int aq.Y1
  refine RL.dQ ([aq.Y0,aq.Y1]: (List Int)) o [(vi aq.Y0),(vi aq.Y1)] eD CX (fun M hs g=>⟨(g.sat 1 _ zr).1,⟨(g.sat 0 _ zr).1,zt⟩⟩) fun ck w o=>?_
  have o:=o.freeze 0
  obtain⟨cl,br,hb⟩:=bd hb
  refine RL.app 7 0 o rh br fun a9 w o=>?_
  refine RL.iB 6 a9 o zr zr (iS 7 o) fM fun w o=>?_
  refine RL.nil (bO (aG (RC.region (RL.inc hk hm (mv (vi ((aw+1:Nat):Int)) (RL.nil ?_))))))
  obtain rfl:=oi hb
  exact⟨rfl,a9,o.sp 8 [5,6,7]⟩
 rintro _ w ⟨an,O,rfl,o⟩
 refine aG (RC.sr (RL.bK 1 an o fM ?_))
 obtain⟨cm,bt,hb⟩:=bd hb
 have o:=o.pull 2
 refine RL.call zt zr Mu [an] zr (aD (Hq Tryz.lay87 o bt) ?_)
 rintro _ w ⟨rfl,o⟩
 refine RL.ns (RL.bK 2 an o fM ?_)
 have o:=o.pull 0
 obtain⟨ai,bu,hb⟩:=bd hb
 refine RL.call zt zr Mv [an] zr (aD (ui N o bu) ?_)
 rintro bw w o
 refine RL.iB 3 bw o zr zr (iS 0 o) fM fun w o=>?_
 refine RL.ns (aP (.slice none 0 0) (RL.ns (aP (.slice none 0 0) (RL.ns (aP (vi 0) (RL.nq (RC.sr (RL.alloc o CX.z fun bz w o=>?_))))))))
 have o:=o.sc Int 0
 refine RL.bZ 1 o 0 zr cG fun w o=>?_
 refine RL.nt ?_
 have o:=((((o.freeze 2).Hi (i:=5) (x:=ai) rfl (fun M hs g=>(rL (g.sat 2 _ rfl).1))).lf (i:=5) rfl).cQ aA 81).cQ aI 73
 obtain⟨cn,hN,hb⟩:=bd hb
 refine RC.iter (fun(ab: (List aA)×(List aI)×Int×Int) U w=>∃(ba bb:Value) (bf:Nat),SH E V [(0,ae),(3,vp ag 0),(6,ba),(7,bb),(8,vi ab.2.2.1),(9,vp bf 0)] [own 73 ae ah,pt (vp ag 0) ai,own 81 ba ab.1,own 73 bb ab.2.1,bx 3 bf ab.2.2.2] U w) (fun(ab: (List aA)×(List aI)×Int×Int) U w=>∃av:Value,SH E V [(6,av)] [own 73 ae ah,pt (vp ag 0) ai,own 81 av ab.1] U w) (fun(r:Empty) _ _=>r.elim) hN ?_ ?_ ?_ ?_
 ·exact⟨(.slice none 0 0),(.slice none 0 0),bz,o.sp 9 [6,7,1,0,3]⟩
 ·rintro ab fl _ w ⟨ak,bg,al,O,rfl,o⟩ hb
  refine RC.seq (RC.sr (RL.aM (f:=(fun x=>x)) 4 o zr Fd.self cG (RL.fO ab.2.2.2 1 (RL.bF 1 ai o fM fun cp o=>(RL.bC 0 ai o mw (ic ((IntKind.wrap .i64 (ab.2.2.2+1))) ((ai.length:Int)) (RL.nt (dX hb (fun hc hb=>?_) fun hc hb=>?_))))))))
  rotate_left
  ·refine RC.ex ?_
   obtain rfl:=oi hb
   exact⟨rfl,ak,o.sp 6 [1,2,3]⟩
  refine RC.ss (RC.bs (mv bg ?_))
  have o:=o.lf (i:=5) rfl
  refine RL.makeFunc zt zr [(vp ag 0),(vp al 0)] zr ?_
  have o:=o.pull 4
  obtain⟨cq,b1,hb⟩:=bd hb
  refine RL.call trivial rfl My [bg,(.func (.func 90) #[] #[(vp ag 0),(vp al 0)])] rfl (aD (ri N o ⟨90,[(vp ag 0),(vp al 0)],rfl,Mx,fun w Γl v y0 r i o hi hr=>by exact aD (xx N (i0:=i) (i1:=Γl.length+2) (i2:=Γl.length+5) o hi (Cd rfl) (Cd rfl) hr) fun _ _ h=>h⟩ b1) ?_)
  rintro bh w o
  refine aP bh (RL.nq ?_)
  obtain⟨cr,hN,hb⟩:=bd hb
  refine RC.iter (fun(af: (List aI)×Int) U w=>∃bj:Value,SH E V [(0,ae),(3,vp ag 0),(6,ak),(7,bj),(8,vi af.2),(9,vp al 0)] [own 73 ae ah,pt (vp ag 0) ai,own 81 ak ab.1,pt (vp al 0) ab.2.2.2,own 73 bj af.1] U w) (fun(af: (List aI)×Int) U w=>∃ar:Value,SH E V [(0,ae),(3,vp ag 0),(6,ak),(7,ar),(8,vi af.2),(9,vp al 0)] [own 73 ae ah,pt (vp ag 0) ai,own 81 ak ab.1,pt (vp al 0) ab.2.2.2,own 73 ar af.1] U w) (fun(r:Empty) _ _=>r.elim) hN ?_ ?_ ?_ ?_
  ·exact⟨bh,o.sp 7 [2,3,4,6,0]⟩
  ·rintro af fl _ w ⟨ax,O,rfl,o⟩ hb
   refine RC.seq (RC.seq ?_)
   obtain⟨a3,hj,hb⟩:=bd hb
   refine RC.jn (fun(a3:Bool)=>SH E V [(0,ae),(3,vp ag 0),(6,ak),(7,ax),(8,vi af.2),(9,vp al 0),(57,vb a3)] [own 73 ae ah,pt (vp ag 0) ai,own 81 ak ab.1,own 73 ax af.1,pt (vp al 0) ab.2.2.2]) a3 ?_ ?_
   ·refine RC.yh mixed ?_
    have o:=o.drew
    refine RO.go (mv (vi af.2) (RO.nx (mv ae (RO.nx (RL.fS 0 ah o mH (RO.nx (ic af.2 ((ah.length:Int)) (RO.nx ?_))))))))
    refine mv (vb (decide (af.2< (ah.length:Int)))) (fN hj (fun ad hj=>?_) fun ad hj=>?_)
    rotate_left
    ·refine RO.nx (bJ ad (RO.nx (bJ ad (RO.nx (bJ ad (RO.nx (bJ ad (RO.nx ?_))))))))
     refine bJ ad (RO.nx (bJ ad (RO.nx (bJ ad (RO.nx (bJ ad (RO.nx (bJ ad ?_))))))))
     refine RO.nx (bJ ad (RO.nx (fU ad (vb false) (RO.last ?_))))
     obtain rfl:=oi hj
     exact⟨rfl,o.sp 5 [0,1,2,4,3]⟩
    refine RO.nx (RL.move ae (cg ad) (RO.nx (RL.move (vi af.2) (cg ad) (RO.nx ?_))))
    obtain⟨bk,ay,hj⟩:=bd hj
    refine RL.bS (hg:=(cg ad)) 0 o zr zr iK ay (RO.nx (RL.lh (α:=aI) (cg ad) (jJ 0 o ay 0) gG (RO.nx (RL.dR (hg:=(cg ad)) 0 o (jJ 0 o ay 1) (bI ay).2.1 cZ cG (RO.nx (RL.bF (hg:=(cg ad)) 1 ai o fM fun ct o=>?_))))))
    refine RO.nx (RL.bB (hg:=(cg ad)) ab.2.2.2 4 o cG (RO.nx ?_))
    obtain⟨a4,b2,hj⟩:=bd hj
    refine RL.bM (hg:=(cg ad)) 0 o eD b2 fun cu o=>(RO.nx (RL.bB (hg:=(cg ad)) a4 0 o cG (RO.nx (RL.ld bk.Y0 a4 (cg ad) (RO.nx (fU ad (vb (decide (bk.Y0<=a4))) (RO.last ?_)))))))
    obtain rfl:=oi hj
    exact⟨rfl,o.sp 7 [2,3,4,6,5]⟩
   rintro _ w ⟨O,rfl,o⟩
   refine aG (dX hb (fun hc hb=>?_) fun hc hb=>?_)
   rotate_left
   ·refine RC.ex ?_
    obtain rfl:=oi hb
    exact⟨rfl,ax,o.sp 5 [0,1,2,4,3]⟩
   refine RC.sn (RC.block (RC.region (mv ax (mv ae (mv (vi af.2) ?_)))))
   obtain⟨b3,a5,hb⟩:=bd hb
   refine RL.bS 0 o zr zr iK a5 (RL.kn (f:=(fun x=>x)) 0 o (jJ 0 o a5 0) (bI a5).2.1 Fd.self iq fun b4 o=>?_)
   refine RL.dQ ([b3]: (List aI)) o [b4] iK om (fun M hs g=>⟨(g.sat 0 _ zr).1,zt⟩) fun cv w o=>?_
   have o:=o.freeze 0
   obtain⟨cw,b5,hb⟩:=bd hb
   refine RL.app 5 0 o z9 b5 fun bl w o=>?_
   refine mv (vi af.2) (RL.fO af.2 1 (aP bl (aP (vi (IntKind.wrap .i64 (af.2+1))) (RL.nil (bO ?_)))))
   obtain rfl:=oi hb
   exact⟨rfl,bl,o.sp 7 [2,3,4,6,5]⟩
  ·intro r _ _ _ _
   exact r.elim
  rintro af _ w rfl ⟨ar,O,rfl,o⟩
  rw [Fo.dB] at hb
  refine aG (RC.vH mixed [1,1,1,1,1,1,1,1,1,1,0,2,0,2,0] [0,1,2,3,4,5,6,7,8,9,10,11,12,13,14] ?_)
  have o:=o.drew
  refine DP.e1 ak zr (fun w=>RL.move ak zt DP.d1) (DP.yj ai 1 zr zt o fM fun cx a305 cy o=>(DP.rA ab.2.2.2 5 zr o cG fun a307 cz o=>?_))
  obtain⟨az,b6,hb⟩:=bd hb
  refine DP.wx 2 zr o eD b6 fun c0 o=>(DP.rA az 0 zr o cG fun a311 c1 o=>(DP.yj ai 6 zr zt o fM fun c2 a314 c3 o=>(DP.rA ab.2.2.2 10 zr o cG fun a316 c4 o=>(DP.e1 (vi (IntKind.wrap .i64 (ab.2.2.2+1))) zr (fun w=>RL.fO ab.2.2.2 1 DP.d1) ?_))))
  obtain⟨a0,b7,hb⟩:=bd hb
  refine DP.wx 2 zr o eD b7 fun c5 o=>(DP.rA a0 0 zr o cG fun a320 c6 o=>(DP.e0 zr (mv ar (oN zr ?_))))
  have o:=o.pull 14
  obtain⟨b8,b9,hb⟩:=bd hb
  refine RL.call zt zr Mz [ar] zr (aD (wG N o b9) ?_)
  rintro ca w o
  refine DP.d2 (⟨⟨⟨⟨⟨⟨zt,o.gm 10⟩,o.gm 9⟩,o.gm 7⟩,o.gm 5⟩,o.gm 4⟩,o.gm 2⟩) (DP.e0 zr ?_)
  have o:=((o.sc Int az).sc Int a0).freeze 2
  refine RL.build (⟨az,a0,b8.1⟩:aA) trivial rfl o [(0,vi az),(1,vi a0),(2,ca)] rfl K5 rfl (fun M hs g=>by have h:=xp M;exact cS.cons (f:=fun(x:aA) y=>{x with Y0:=y}) h t5 (g.sat 1 _ rfl).1 fun _ h=>cS.cons (f:=fun(x:aA) y=>{x with Y1:=y}) h pK (g.sat 0 _ rfl).1 fun _ h=>cS.cons (f:=fun(x:aA) y=>{x with Xs:=y}) h t6 (g.sat 2 _ rfl).1 fun _ h=>cS.nil h) fun cb o=>?_
  refine oN zr ?_
  have o:=o.pull 17
  obtain⟨c7,cc,hb⟩:=bd hb
  refine RL.call zt zr K7 [ak,cb] zr (aD (rC N (i1:=0) o zr cc) ?_)
  rintro bm w o
  refine DP.d2 (⟨⟨⟨⟨⟨⟨zt,o.gm 14⟩,o.gm 13⟩,o.gm 11⟩,o.gm 9⟩,o.gm 8⟩,o.gm 6⟩) (DP.e0 zr (aP bm (DP.d0 ?_)))
  have o:=o.pl 21 [0,1,2,3,4,5,7,10,12,15,16,17,18,19,20]
  refine DP.z (bO (aG (RC.seq (RC.sr (RL.bB ab.2.2.2 13 o cG (RL.nt (RC.region (RL.alloc o CX.z fun cd w o=>?_))))))))
  have o:=o.sc Int ab.2.2.2
  refine RL.bZ 1 o 0 zr cG fun w o=>?_
  refine RL.nt (RC.region (RL.aM (f:=(fun x=>x)) 1 o zr Fd.self cG (RL.fO ab.2.2.2 1 ?_)))
  have o:=o.sc Int (IntKind.wrap .i64 (ab.2.2.2+1))
  refine RL.G9 (i:=2) (j:=0) zt o zr zr zr zr cG fun w o=>?_
  refine RL.nil ?_
  obtain rfl:=oi hb
  exact⟨rfl,bm,ar,cd,o.sp 18 [13,14,3,8,2]⟩
 ·intro r _ _ _ _
  exact r.elim
 rintro ab _ w rfl ⟨av,O,rfl,o⟩
 rw [Fo.dB] at hb
 refine aG (RC.sr (mv av (aP av (RL.nt (RC.ret ?_)))))
 obtain rfl:=oi hb
 exact bY (o.pk 3 [2])
theorem lN {p0: (List aA)} {res: (List aI)} (j:Holds E w V) (h0:V[i0]? =some (rd v0 p0)) (o:jc N p0=some res):
    Calls bN 15 [v0].toArray w (gQ (fX E V res)):=by
 unfold jc at o
 refine enter Tryz.func15 zr zr ?_
 have j:=j.dup (i0+0) h0
 refine RC.sr (aP (.slice none 0 0) (RL.ns (aP (.slice none 0 0) (RL.nq (RC.sr (mv v0 (RL.bC 0 p0 j vI (mv (vi 0) ?_))))))))
 refine RL.nt ?_
 obtain⟨ad,hN,o⟩:=bd o
 refine RC.fold (fun(ae:Nat) (ad: (List aI)) U w=>∃an:Value,SH E V [(3,an),(7,v0),(8,vi p0.length),(9,vi ae)] [rd v0 p0,own 73 an ad] U w) (fun(ad: (List aI)) U w=>∃af:Value,SH E V [(3,af)] [rd v0 p0,own 73 af ad] U w) hN ?_ ?_ ?_ ?_
 ·have j:=j.cQ aI 73
  exact⟨(.slice none 0 0),j.sp 2 [1,0]⟩
 ·rintro hm ad _ w ⟨av,O,rfl,j⟩
  refine RC.sr (ic ((p0.length:Int)) ((p0.length:Int)) (RL.nq (RC.fw sf (RC.ex ?_))))
  exact⟨rfl,av,j.sp 2 [0,1]⟩
 ·rintro hm ae ad s' _ w hk ⟨aw,O,rfl,j⟩ o
  refine RC.sr (ic ((ae:Int)) ((p0.length:Int)) (RL.nq (RC.fu (sd hk) (RC.ss (RC.bs ?_)))))
  obtain⟨ab,ax,o⟩:=bd o
  refine RL.bM 0 j o0 ax fun a3 j=>(RL.bF 0 ab j Cs fun a4 j=>(RL.alloc j Hx.z fun ak w j=>?_))
  refine RL.bZ 0 j 1 zr Cs fun w j=>?_
  refine RL.ns (aP (vi 0) (RL.nt ?_))
  obtain⟨a5,hN,o⟩:=bd o
  refine RC.iter (fun(aa: (List aI)×Int) U w=>∃ar:Value,SH E V [(3,ar),(5,vp ak 0),(6,vi aa.2),(7,v0),(8,vi p0.length),(9,vi ae)] [bx 81 ak ab,rd v0 p0,own 73 ar aa.1] U w) (fun(aa: (List aI)×Int) U w=>∃ai:Value,SH E V [(3,ai),(7,v0),(8,vi p0.length),(9,vi ae)] [bx 81 ak ab,rd v0 p0,own 73 ai aa.1] U w) (fun(r:Empty) _ _=>r.elim) hN ?_ ?_ ?_ ?_
  ·exact⟨aw,j.sp 5 [0,3,4]⟩
  ·rintro aa fl _ w ⟨al,O,rfl,j⟩ o
   refine RC.seq (RC.sr (mv (vi aa.2) (RL.aZ zr nP (RL.bG 0 j zr dS fM fun a7 j=>(RL.bC 0 ab.Xs j mw (ic aa.2 ((ab.Xs.length:Int)) (RL.nt (dX o (fun hc o=>?_) fun hc o=>?_))))))))
   rotate_left
   ·refine RC.ex ?_
    obtain rfl:=oi o
    exact⟨rfl,al,j.sp 4 [1,2,3]⟩
   refine RC.ss (RC.block (RC.vH mixed [1,0,0,0,0,0,0,0,0,0,0,0,0,0,0,0,0,2,2,0] [0,1,2,3,4,5,6,7,8,9,10,11,12,13,14,15,16,17,18,19] ?_))
   have j:=j.drew
   refine DP.e1 al zr (fun w=>RL.move al zt DP.d1) (DP.e0 zr (RL.aZ zr nP (aY zr (RL.bG 1 j zr dS fM fun a8 j=>(aY zr (mv (vi aa.2) (aY zr ?_)))))))
   obtain⟨ag,az,o⟩:=bd o
   refine RL.bM 0 j eD az fun a9 j=>(aY zr (RL.bB ag 0 j cG (aY zr (RL.aZ zr rO (aY zr (RL.aM 3 j zr gK cG (aY zr (RL.aZ zr nP ?_))))))))
   refine aY zr (RL.bG 3 j zr dS fM fun ba j=>(aY zr (mv (vi aa.2) (aY zr (RL.fO aa.2 1 (aY zr ?_))))))
   obtain⟨ah,a0,o⟩:=bd o
   refine RL.bM 0 j eD a0 fun bb j=>(aY zr (RL.bB ah 0 j cG (aY zr (RL.aZ zr pL (aY zr (RL.aM 5 j zr fQ cG (aY zr ?_)))))))
   have j:=(((j.sc Int ag).sc Int ab.Y0).sc Int ah).sc Int ab.Y1
   refine RL.build (⟨ag,ab.Y0,ah,ab.Y1⟩:aI) trivial rfl j [(0,vi ag),(1,vi ab.Y0),(2,vi ah),(3,vi ab.Y1)] rfl DI rfl (fun M hs g=>by have h:=tx M;exact cS.cons (f:=fun(x:aI) y=>{x with X0:=y}) h oY (g.sat 3 _ rfl).1 fun _ h=>cS.cons (f:=fun(x:aI) y=>{x with Y0:=y}) h qo (g.sat 2 _ rfl).1 fun _ h=>cS.cons (f:=fun(x:aI) y=>{x with X1:=y}) h oZ (g.sat 1 _ rfl).1 fun _ h=>cS.cons (f:=fun(x:aI) y=>{x with Y1:=y}) h qp (g.sat 0 _ rfl).1 fun _ h=>cS.nil h) fun a1 j=>?_
   refine oN zr (RL.dQ ([(⟨ag,ab.Y0,ah,ab.Y1⟩:aI)]: (List aI)) j [a1] iK om (fun M hs g=>⟨(g.sat 0 _ zr).1,zt⟩) fun bc w j=>(FM zr ?_))
   have j:=j.freeze 0
   obtain⟨bf,a2,o⟩:=bd o
   refine RL.app 13 0 j z9 a2 fun au w j=>?_
   refine uh zr (aP au (DP.d0 (DP.z (bO (aG (RC.region (mv (vi aa.2) (RL.fO aa.2 2 ?_))))))))
   refine aP (vi (IntKind.wrap .i64 (aa.2+2))) (RL.nil ?_)
   obtain rfl:=oi o
   exact⟨rfl,au,j.sp 14 [11,12,13]⟩
  ·intro r _ _ _ _
   exact r.elim
  rintro aa _ w rfl ⟨ai,O,rfl,j⟩
  rw [Fo.dB] at o
  refine bO (aG (RC.region (RL.inc hk hm (mv (vi ((ae+1:Nat):Int)) (RL.nil ?_)))))
  obtain rfl:=oi o
  exact⟨rfl,ai,j.sp 3 [1,2]⟩
 rintro _ w ⟨af,O,rfl,j⟩
 refine aG (RC.sr (mv af (aP af (RL.nt (RC.ret ?_)))))
 obtain rfl:=oi o
 exact bY (j.pk 2 [1])
def vO (E:World) (V:List HP) (r:Bool) (U:Nat->Value) (w:World):Prop:=lS bN 26 Tryz.f52 (aU E V r) .ret U w
theorem uO {p0: (List aI)} {p1: (List aI)} {res:Bool} (j:Holds E w V) (h0:V[i0]? =some (rd v0 p0)) (h1:V[i1]? =some (rd v1 p1)) (o:kI N p0 p1=some res):
    Calls bN 52 [v0,v1].toArray w (gQ (aU E V res)):=by
 unfold kI at o
 refine enter Tryz.func52 zr zr ?_
 have j:=(j.dup (i0+0) h0).dup (i1+1) h1
 refine RC.sr (aP (vb false) (RL.nq (RC.sr (mv v0 (RL.bC 1 p0 j mH (mv v1 (RL.bC 0 p1 j mH (ic ((p0.length:Int)) ((p1.length:Int)) ?_))))))))
 refine RL.nt (dX o (fun hc o=>?_) fun hc o=>?_)
 ·refine RC.sr (aP (vb false) (RL.nt (RC.rt ?_)))
  obtain rfl:=oi o
  exact bY ⟨rfl,j.drop 2⟩
 refine RC.ss (RC.sr (mv v0 (RL.bC 1 p0 j mH (mv (vi 0) (RL.nt ?_)))))
 obtain⟨an,hN,o⟩:=bd o
 refine RC.range (fun(aa:Nat) (ab:Unit)=>SH E V [(0,v0),(1,v1),(12,vi p0.length),(13,vi aa)] [rd v0 p0,rd v1 p1]) (fun(ab:Unit)=>SH E V [] [rd v0 p0,rd v1 p1]) (vO E V) hN ?_ ?_ ?_ ?_ ?_
 ·exact j.sp 2 [1,0]
 ·rintro hm ab _ w ⟨O,rfl,j⟩
  refine RC.sr (ic ((p0.length:Int)) ((p0.length:Int)) (RL.nq (RC.fw sf (RC.ex ?_))))
  exact⟨rfl,j.sp 2 [0,1]⟩
 ·rintro hm aa ab fl _ w hk ⟨O,rfl,j⟩ o
  refine RC.sr (ic ((aa:Int)) ((p0.length:Int)) (RL.nq (RC.fu (sd hk) (RC.ss (RC.bs (mv (vi aa) (aP (vi aa) (RL.nq ?_))))))))
  refine RC.yh mixed ?_
  have j:=j.drew
  refine RO.go (mv v0 (RO.nx (mv (vi aa) (RO.nx ?_))))
  obtain⟨ag,aj,o⟩:=bd o
  refine RL.bM 0 j iK aj fun aq j=>(RO.nx (RL.bF 0 ag j iq fun ar j=>(RO.nx (mv v1 (RO.nx (mv (vi aa) (RO.nx ?_)))))))
  obtain⟨ah,ak,o⟩:=bd o
  refine RL.bM 3 j iK ak fun au j=>(RO.nx (RL.bF 0 ah j iq fun av j=>(RO.nx (RL.Mc 2 0 ag ah zr j zr zr zr zr HA zr (RO.last (aG (dX o (fun hc o=>?_) fun hc o=>?_)))))))
  rotate_left
  ·refine RC.skip (bO (aG (RC.region (RL.inc hk hm (mv (vi ((aa+1:Nat):Int)) (RL.nil ?_))))))
   obtain rfl:=oi o
   exact⟨rfl,j.sp 6 [4,5]⟩
  refine RC.sr (aP (vb false) (RL.nt (RC.rb (bQ ?_))))
  obtain rfl:=oi o
  exact⟨rfl,bY ⟨rfl,j.drop 6⟩⟩
 ·intro r U w e hK
  subst e
  refine bQ ?_
  obtain rfl:=oi o
  exact hK
 rintro ab _ w rfl ⟨O,rfl,j⟩
 rw [Fo.dB] at o
 refine aG (RC.sr (aP (vb true) (RL.nt (RC.ret ?_))))
 obtain rfl:=oi o
 exact bY ⟨rfl,j.drop 2⟩
def vP (E:World) (V:List HP) (r:Int) (U:Nat->Value) (w:World):Prop:=lS bN 52 Tryz.f27 (aV E V r) .ret U w
theorem pw {p0: (List aI)} (j:Holds E w V) (h0:V[i0]? =some (rd v0 p0)) (hb:jL N p0=some res):
    Calls bN 27 [v0].toArray w (gQ (aV E V res)):=by
 unfold jL at hb
 refine enter Tryz.func27 zr zr ?_
 have j:=j.dup (i0+0) h0
 refine RC.sr (aP (vi 0) (RL.nq (RC.sr (mv v0 ?_))))
 obtain⟨av,ay,hb⟩:=bd hb
 refine RL.call zt zr Mr [v0] zr (aD (vM N (i0:=0) j zr ay) ?_)
 rintro _ w ⟨rfl,j⟩
 refine aP (vi av) (RL.ns (mv (vi av) (ic av 0 (RL.nt (dX hb (fun hc hb=>?_) fun hc hb=>?_)))))
 ·refine RC.sr (mv (vi av) (aP (vi av) (RL.nt (RC.rt ?_))))
  obtain rfl:=oi hb
  exact bY ⟨rfl,j.drop 1⟩
 refine RC.ss (RC.sr (aP (vi 1) (RL.nt ?_)))
 obtain⟨bg,hN,hb⟩:=bd hb
 refine RC.iter (fun(ao:Int)=>SH E V [(0,v0),(4,vi ao)] [rd v0 p0]) (fun(ao:Int)=>SH E V [(0,v0)] [rd v0 p0]) (vP E V) hN ?_ ?_ ?_ ?_
 ·exact j.sp 1 [0]
 ·rintro ao fl _ w ⟨O,rfl,j⟩ hb
  refine RC.seq (RC.sr (mv (vi ao) (mv v0 (RL.bC 0 p0 j mH (ic ao ((p0.length:Int)) (RL.nt (dX hb (fun hc hb=>?_) fun hc hb=>?_)))))))
  rotate_left
  ·refine RC.ex ?_
   obtain rfl:=oi hb
   exact⟨rfl,j.sp 1 [0]⟩
  refine RC.ss (RC.block (RC.seq ?_))
  obtain⟨o,a1,hb⟩:=bd hb
  obtain⟨aa,a2,hb⟩:=bd hb
  refine RC.ER E V mixed [1,1,1,0,0,1,1,0,0,0,0,0,0] [3,4,7,8,9,10,11,12] (fun(x:Value×Value×Value×Value×Nat×Nat)=>(fun ah ai aj ak ae af=>[(0,18,v0),(1,19,(vi ao)),(2,20,(vi (IntKind.wrap .i64 (ao - 1)))),(3,21,ah),(4,22,ai),(5,23,v0),(6,24,(vi ao)),(7,25,aj),(8,26,ak),(9,5,(vp ae 0)),(10,6,(vp af 0))]) x.1 x.2.1 x.2.2.1 x.2.2.2.1 x.2.2.2.2.1 x.2.2.2.2.2) [(0,v0),(4,vi ao)] [] (fun(D:Nat->Bool) (x:Value×Value×Value×Value×Nat×Nat)=>(fun ah ai aj ak ae af=>[bif D 0 then (pt ah o) else aX,bif D 1 then (rd ai o) else aX,bif D 2 then (pt aj aa) else aX,bif D 3 then (rd ak aa) else aX,bif D 6 then (bx 73 ae o) else (bif D 4 then (raw 73 ae 4) else aX),bif D 7 then (bx 73 af aa) else (bif D 5 then (raw 73 af 4) else aX),rd v0 p0]) x.1 x.2.1 x.2.2.1 x.2.2.2.1 x.2.2.2.2.1 x.2.2.2.2.2) (fun x=>by kernel_rfl) ?_ ⟨fun _=>je gn,fun _=>je gn,fun _=>Kc gn rfl,?_,?_,fun _=>je gn,fun _=>je gn,?_,?_,?_,?_,?_,?_,trivial⟩ ?_
  ·have j:=((((((j.drew).aX).aX).aX).aX).aX).aX
   exact⟨(undef,undef,undef,undef,0,0),eU.none,(DB zr),zt,j⟩
  ·rintro D U w hD ag aq ⟨⟨ah,ai,aj,ak,ae,af⟩,hv,ha,_,j⟩
   obtain⟨O,rfl⟩:=(ac (hv.at 0 rfl (ag.1 rfl)) (ac (hv.at 2 rfl (ag.2.1 rfl)) az)).eN
   have j:=j.bX 0 hD
   refine RL.bM 6 j iK a1 fun a3 j=>?_
   have j:=(j.pl 8 [0,2,3,4,5,6,7]).cD 0 true rfl aX
   exact RL.nil ⟨rfl,(a3,ai,aj,ak,ae,af),hv.pu 3,ha.u,zt,j⟩
  ·rintro D U w hD ag aq ⟨⟨ah,ai,aj,ak,ae,af⟩,hv,ha,_,j⟩
   obtain⟨O,rfl⟩:=(ac (hv.at 3 rfl (ag.1 rfl)) az).eN
   have j:=(j.cC 0 (ag.1 rfl)).bX 1 hD
   refine RL.bF 0 o j iq fun a4 j=>?_
   have j:=((j.pl 8 [1,0,3,4,5,6,7]).cD 0 (D 3) (ag.1 rfl) aX).cD 1 true rfl aX
   exact RL.nil ⟨rfl,(ah,a4,aj,ak,ae,af),hv.pu 4,ha.u,zt,j⟩
  ·rintro D U w hD ag aq ⟨⟨ah,ai,aj,ak,ae,af⟩,hv,ha,_,j⟩
   obtain⟨O,rfl⟩:=(ac (hv.at 5 rfl (ag.1 rfl)) (ac (hv.at 6 rfl (ag.2.1 rfl)) az)).eN
   have j:=j.bX 2 hD
   refine RL.bM 6 j iK a2 fun a5 j=>?_
   have j:=(j.pl 8 [1,2,0,4,5,6,7]).cD 2 true rfl aX
   exact RL.nil ⟨rfl,(ah,ai,a5,ak,ae,af),hv.pu 7,ha.u,zt,j⟩
  ·rintro D U w hD ag aq ⟨⟨ah,ai,aj,ak,ae,af⟩,hv,ha,_,j⟩
   obtain⟨O,rfl⟩:=(ac (hv.at 7 rfl (ag.1 rfl)) az).eN
   have j:=(j.cC 2 (ag.1 rfl)).bX 3 hD
   refine RL.bF 2 aa j iq fun a6 j=>?_
   have j:=((j.pl 8 [1,2,3,0,5,6,7]).cD 2 (D 7) (ag.1 rfl) aX).cD 3 true rfl aX
   exact RL.nil ⟨rfl,(ah,ai,aj,a6,ae,af),hv.pu 8,ha.u,zt,j⟩
  ·rintro D U w hD ag aq ⟨⟨ah,ai,aj,ak,ae,af⟩,hv,ha,_,j⟩
   obtain⟨O,rfl⟩:=(az (U:=U)).eN
   have j:=(j.bX 4 (nh aq hD 11)).bX 4 hD
   refine RL.alloc j om.z fun aw w j=>?_
   have j:=((j.pl 8 [1,2,3,4,0,6,7]).cD 4 true rfl aX).eY 4 (D 11) (nh aq hD 11) (bx 73 aw o)
   exact RL.nil ⟨rfl,(ah,ai,aj,ak,aw,af),hv.pu 9,ha.u,zt,j⟩
  ·rintro D U w hD ag aq ⟨⟨ah,ai,aj,ak,ae,af⟩,hv,ha,_,j⟩
   obtain⟨O,rfl⟩:=(az (U:=U)).eN
   have j:=(j.bX 5 (nh aq hD 12)).bX 5 hD
   refine RL.alloc j om.z fun ax w j=>?_
   have j:=((j.pl 8 [1,2,3,4,5,0,7]).cD 5 true rfl aX).eY 5 (D 12) (nh aq hD 12) (bx 73 ax aa)
   exact RL.nil ⟨rfl,(ah,ai,aj,ak,ae,ax),hv.pu 10,ha.u,zt,j⟩
  ·rintro D U w hD ag aq ⟨⟨ah,ai,aj,ak,ae,af⟩,hv,ha,_,j⟩
   obtain⟨O,rfl⟩:=(ac (hv.at 4 rfl (ag.2.1 rfl)) (ac (hv.at 9 rfl (ag.1 rfl)) az)).eN
   have j:=((j.cC 1 (ag.2.1 rfl)).bX 4 hD).cC 4 (ag.1 rfl)
   refine RL.bZ 4 j 1 zr iq fun w j=>?_
   have j:=(j.cD 1 (D 4) (ag.2.1 rfl) aX).cD 4 true rfl (bif D 9 then (raw 73 ae 4) else aX)
   exact RL.nil ⟨rfl,(ah,ai,aj,ak,ae,af),hv.n1,ha,zt,j⟩
  ·rintro D U w hD ag aq ⟨⟨ah,ai,aj,ak,ae,af⟩,hv,ha,_,j⟩
   obtain⟨O,rfl⟩:=(ac (hv.at 8 rfl (ag.2.1 rfl)) (ac (hv.at 10 rfl (ag.1 rfl)) az)).eN
   have j:=((j.cC 3 (ag.2.1 rfl)).bX 5 hD).cC 5 (ag.1 rfl)
   refine RL.bZ 5 j 3 zr iq fun w j=>?_
   have j:=(j.cD 3 (D 8) (ag.2.1 rfl) aX).cD 5 true rfl (bif D 10 then (raw 73 af 4) else aX)
   exact RL.nil ⟨rfl,(ah,ai,aj,ak,ae,af),hv.n1,ha,zt,j⟩
  rintro D U w ar ⟨⟨ah,ai,aj,ak,ae,af⟩,hv,ha,_,j⟩
  have j:=(((((j.cC 0 (jQ ar 3)).cC 1 (jQ ar 4)).cC 2 (jQ ar 7)).cC 3 (jQ ar 8)).cC 4 (jQ ar 11)).cC 5 (jQ ar 12)
  obtain⟨O,rfl⟩:=(ac (hv.at 9 rfl (jQ ar 9)) (ac (hv.at 10 rfl (jQ ar 10)) (ac (ha.at 0 rfl) (ac (ha.at 1 rfl) az)))).eN
  refine aG (RC.sr (RL.aZ zr gG (RL.aM 5 j zr cZ cG (RL.aZ zr gG (RL.aM 4 j zr cZ cG (ic aa.Y0 o.Y0 (mv (vb (decide (aa.Y0<o.Y0))) (RL.gs true (decide (aa.Y0<o.Y0)) (vp af 1) zr zr zr (eC gG) ?_))))))))
  refine RL.gs true (decide (aa.Y0<o.Y0)) (vi aa.Y0) rfl rfl rfl (cB 5 rfl j (fun h=>by exact(cO h:cv (true&&((decide (aa.Y0<o.Y0))==false)) (vp af 1)= (vp af 1))) rfl cZ cG) (RL.gs true (decide (aa.Y0<o.Y0)) (vp ae 1) rfl rfl rfl (eC gG) (RL.gs true (decide (aa.Y0<o.Y0)) (vi o.Y0) rfl rfl rfl (cB 4 rfl j (fun h=>by exact(cO h:cv (true&&((decide (aa.Y0<o.Y0))==false)) (vp ae 1)= (vp ae 1))) rfl cZ cG) (RL.gs true (decide (aa.Y0<o.Y0)) (vb (aa.Y0==o.Y0)) rfl rfl rfl (dL .eql .i64 aa.Y0 o.Y0 rfl (fun h=>by exact(cO h:cv (true&&((decide (aa.Y0<o.Y0))==false)) (vi aa.Y0)= (vi aa.Y0))) (fun h=>by exact(cO h:cv (true&&((decide (aa.Y0<o.Y0))==false)) (vi o.Y0)= (vi o.Y0))) rfl) (RL.gs true (decide (aa.Y0<o.Y0)) (vb (aa.Y0==o.Y0)) rfl rfl rfl (cI (hx:=fun h=>by exact(cO h:cv (true&&((decide (aa.Y0<o.Y0))==false)) (vb (aa.Y0==o.Y0))= (vb (aa.Y0==o.Y0))))) (RL.gs (true&&((decide (aa.Y0<o.Y0))==false)) (aa.Y0==o.Y0) (vp af 0) rfl rfl rfl (eC gO) (RL.gs (true&&((decide (aa.Y0<o.Y0))==false)) (aa.Y0==o.Y0) (vi aa.X0) rfl rfl rfl (cB 5 rfl j (fun h=>by exact(cO h:cv ((true&&((decide (aa.Y0<o.Y0))==false))&&((aa.Y0==o.Y0)==true)) (vp af 0)= (vp af 0))) rfl dD cG) (RL.gs (true&&((decide (aa.Y0<o.Y0))==false)) (aa.Y0==o.Y0) (vp ae 0) rfl rfl rfl (eC gO) (RL.gs (true&&((decide (aa.Y0<o.Y0))==false)) (aa.Y0==o.Y0) (vi o.X0) rfl rfl rfl (cB 4 rfl j (fun h=>by exact(cO h:cv ((true&&((decide (aa.Y0<o.Y0))==false))&&((aa.Y0==o.Y0)==true)) (vp ae 0)= (vp ae 0))) rfl dD cG) ?_))))))))
  refine RL.gs (true&&((decide (aa.Y0<o.Y0))==false)) (aa.Y0==o.Y0) (vb (decide (aa.X0<=o.X0))) rfl rfl rfl (dL .leq .i64 aa.X0 o.X0 rfl (fun h=>by exact(cO h:cv ((true&&((decide (aa.Y0<o.Y0))==false))&&((aa.Y0==o.Y0)==true)) (vi aa.X0)= (vi aa.X0))) (fun h=>by exact(cO h:cv ((true&&((decide (aa.Y0<o.Y0))==false))&&((aa.Y0==o.Y0)==true)) (vi o.X0)= (vi o.X0))) rfl) (RL.gs true (decide (aa.Y0<o.Y0)) (vb ((aa.Y0==o.Y0)&&(decide (aa.X0<=o.X0)))) rfl rfl rfl (kG (aa.Y0==o.Y0) rfl (fun h=>by exact(cO h:cv (true&&((decide (aa.Y0<o.Y0))==false)) (vb (aa.Y0==o.Y0))= (vb (aa.Y0==o.Y0)))) (fun h=>by exact gx (true&&((decide (aa.Y0<o.Y0))==false)) h)) (RL.pick (decide (aa.Y0<o.Y0)) (vb ((decide (aa.Y0<o.Y0))||((aa.Y0==o.Y0)&&(decide (aa.X0<=o.X0))))) (nW true) (RL.nt (dX hb (fun hc hb=>?_) fun hc hb=>?_))))
  ·refine RC.sr (aP (vi 8) (RL.nt (RC.rb (bQ ?_))))
   obtain rfl:=oi hb
   exact⟨rfl,bY ⟨rfl,j.drop 7⟩⟩
  refine RC.skip (bO (aG (RC.region (mv (vi ao) (RL.fO ao 1 (aP (vi (IntKind.wrap .i64 (ao+1))) (RL.nil ?_)))))))
  obtain rfl:=oi hb
  exact⟨rfl,j.sp 7 [6]⟩
 ·intro r U w e hK
  subst e
  refine bQ ?_
  obtain rfl:=oi hb
  exact hK
 rintro ao _ w rfl ⟨O,rfl,j⟩
 rw [Fo.dB] at hb
 refine aG (RC.seq (RC.sr (mv v0 ?_)))
 obtain⟨bj,a8,hb⟩:=bd hb
 refine RL.call zt zr Hy [v0] zr (aD (mK N (i0:=0) j zr a8) ?_)
 rintro a9 w j
 have j:=j.freeze 0
 obtain⟨bk,ba,hb⟩:=bd hb
 refine RL.call zt zr IW [a9] zr (aD (lN N (i0:=0) j zr ba) ?_)
 rintro bb w j
 refine mv v0 ?_
 have j:=j.freeze 0
 obtain⟨bc,bf,hb⟩:=bd hb
 refine RL.call zt zr MB [bb,v0] zr (aD (uO N (i0:=0) (i1:=2) j zr zr bf) ?_)
 rintro _ w ⟨rfl,j⟩
 refine RL.not bc (RL.nt (dX hb (fun hc hb=>?_) fun hc hb=>?_))
 ·refine RC.sr (aP (vi 3) (RL.nt (RC.rt ?_)))
  obtain rfl:=oi hb
  exact bY ⟨rfl,j.drop 3⟩
 refine RC.sx (aP (vi 0) (RL.nt (RC.ret ?_)))
 obtain rfl:=oi hb
 exact bY ⟨rfl,j.drop 3⟩
theorem ni {res:Bool} (o:Holds E w V) (j:iQ N p0 p1 p2=some res):
    Calls bN 47 [(vi p0),(vi p1),(vi p2)].toArray w (gQ (aU E V res)):=by
 unfold iQ at j
 refine enter Tryz.func47 zr zr (RC.sr (aP (vb false) (RL.ns (mv (vi p0) (mv (vi p1) (ic p0 p1 (mv (vb (decide (p0>=p1))) (RL.gs true (decide (p0>=p1)) (vi p0) zr zr zr cI ?_))))))))
 refine RL.gs true (decide (p0>=p1)) (vi p2) rfl rfl rfl cI (RL.gs true (decide (p0>=p1)) (vb (decide (p0<=p2))) rfl rfl rfl (dL .leq .i64 p0 p2 rfl (fun h=>by exact(cO h:cv (true&&((decide (p0>=p1))==true)) (vi p0)= (vi p0))) (fun h=>by exact(cO h:cv (true&&((decide (p0>=p1))==true)) (vi p2)= (vi p2))) rfl) (RL.pick (decide (p0>=p1)) (vb ((decide (p0>=p1))&&(decide (p0<=p2)))) (gx true rfl) (aP (vb ((decide (p0>=p1))&&(decide (p0<=p2)))) (RL.nt (RC.ret ?_)))))
 obtain rfl:=oi j
 exact bY ⟨rfl,o.drop 0⟩
theorem sE {p0:eQ} {res:Bool} (j:Holds E w V) (h0:V[i0]? =some (rd v0 p0)) (hb:j5 N p0=some res):
    Calls bN 48 [v0].toArray w (gQ (aU E V res)):=by
 unfold j5 at hb
 refine enter Tryz.func48 zr zr ?_
 have j:=j.dup (i0+0) h0
 refine RC.sr (RL.dK 0 v0 j zr fun ai w j=>?_)
 refine aP (vb false) (RL.nq ?_)
 obtain⟨ad,o,hb⟩:=bd hb
 refine RC.jn (fun(ad:Bool)=>SH E V [(2,vb ad)] []) ad ?_ ?_
 ·refine RC.region (RL.aZ zr wz (RL.aM 0 j zr nN cG ?_))
  obtain⟨af,ag,o⟩:=bd o
  refine RL.call zt zr Gm [(vi p0.X)] zr (aD (l8 N (p0:=p0.X) j ag) ?_)
  rintro _ w ⟨rfl,j⟩
  refine mv (vb af) (fN o (fun aa o=>?_) fun aa o=>?_)
  rotate_left
  ·refine bJ aa (bJ aa (bJ aa (fU aa (vb false) (aP (vb false) (RL.nil ?_)))))
   obtain rfl:=oi o
   exact⟨rfl,j.sp 2 []⟩
  refine RL.aZ (hg:=(cg aa)) zr wA (RL.aM (hg:=(cg aa)) 0 j zr nO cG ?_)
  obtain⟨ae,ah,o⟩:=bd o
  refine RL.call (cg aa) zr Gm [(vi p0.Y)] zr (aD (l8 N (p0:=p0.Y) j ah) ?_)
  rintro _ w ⟨rfl,j⟩
  refine fU aa (vb ae) (aP (vb ae) (RL.nil ?_))
  obtain rfl:=oi o
  exact⟨rfl,j.sp 2 []⟩
 rintro _ w ⟨O,rfl,j⟩
 refine aG (RC.ret ?_)
 obtain rfl:=oi hb
 exact bY ⟨rfl,j.drop 0⟩
end Go.Gk
