/-
  Printed texts: Go functions as plain functions, and that they are. No statement of the seed is proved here.
-/
import Derived.Test.YtlffnmkhgkppkaaGreatDoorProg
import Derived.Test.YtlffnmkhgkppkaaGreatDoorE1
import Derived.Test.YtlffnmkhgkppkaaGreatDoorA1
import Derived.Test.YtlffnmkhgkppkaaGreatDoorA2
import Derived.Test.YtlffnmkhgkppkaaGreatDoorRows
import Derived.Shelf.SlGeneric
import Derived.Ground.SlsfProg
import Derived.Ground.SlgmProg
set_option linter.unusedVariables false
set_option linter.unusedSimpArgs false
set_option linter.unusedSectionVars false
set_option maxRecDepth 100000
set_option maxHeartbeats 4000000
namespace Go.Gk
open Go Go.Proofs
noncomputable abbrev bN:=Tryz.prog
def mm (x:aH):=(x.X0,x.Y0,x.X1,x.Y1)
instance instGTRect:GT aH:=GT.via mm
instance instKVRect:KV aH:=instKVvia (fun(x:aH)=>(x.X0,x.Y0,x.X1,x.Y1))
theorem fV:Fd 0 (fun x:aH=>x.X0):= .v mm (.fst .self)
theorem qg:Fs 0 Int (fun(x:aH) y=>{x with X0:=y}):= .v mm (.fst .self)
theorem gv:Fd 1 (fun x:aH=>x.Y0):= .v mm (.snd (.fst .self))
theorem tk:Fs 1 Int (fun(x:aH) y=>{x with Y0:=y}):= .v mm (.snd (.fst .self))
theorem gL:Fd 2 (fun x:aH=>x.X1):= .v mm (.snd (.snd (.fst .self)))
theorem qh:Fs 2 Int (fun(x:aH) y=>{x with X1:=y}):= .v mm (.snd (.snd (.fst .self)))
theorem km:Fd 3 (fun x:aH=>x.Y1):= .v mm (.snd (.snd (.snd (.self))))
theorem tm:Fs 3 Int (fun(x:aH) y=>{x with Y1:=y}):= .v mm (.snd (.snd (.snd (.self))))
def wo (x:jE):=(x.X,x.Y)
instance instGTPoint:GT jE:=GT.via wo
instance instKVPoint:KV jE:=instKVvia (fun(x:jE)=>(x.X,x.Y))
theorem q8:Fd 0 (fun x:jE=>x.X):= .v wo (.fst .self)
theorem q9:Fd 1 (fun x:jE=>x.Y):= .v wo (.snd (.self))
def oS (x:cH):=(x.At,x.eI,x.cY,x.To,x.jV)
instance instGTBore:GT cH:=GT.via oS
theorem wq:Fd 0 (fun x:cH=>x.At):= .v oS (.fst .self)
theorem qj:Fd 2 (fun x:cH=>x.eI):= .v oS (.snd (.fst .self))
theorem ET:Fs 2 Int (fun(x:cH) y=>{x with eI:=y}):= .v oS (.snd (.fst .self))
theorem nE:Fd 3 (fun x:cH=>x.cY):= .v oS (.snd (.snd (.fst .self)))
theorem oK:Fd 4 (fun x:cH=>x.To):= .v oS (.snd (.snd (.snd (.fst .self))))
theorem wt:Fd 5 (fun x:cH=>x.jV):= .v oS (.snd (.snd (.snd (.snd (.self)))))
def sj (x:eW):=(x.Part,x.fL,x.eT,x.At)
instance instGTLand:GT eW:=GT.via sj
theorem zD:Fd 0 (fun x:eW=>x.Part):= .v sj (.fst .self)
theorem zF:Fd 1 (fun x:eW=>x.fL):= .v sj (.snd (.fst .self))
theorem wu:Fd 2 (fun x:eW=>x.eT):= .v sj (.snd (.snd (.fst .self)))
theorem wv:Fd 3 (fun x:eW=>x.At):= .v sj (.snd (.snd (.snd (.self))))
def u7 (x:iM):=(x.aI,x.cL,x.aJ,x.bG)
instance instGTArt:GT iM:=GT.via u7
theorem ql:Fd 0 (fun x:iM=>x.aI):= .v u7 (.fst .self)
theorem xZ:Fd 1 (fun x:iM=>x.cL):= .v u7 (.snd (.fst .self))
theorem sm:Fd 2 (fun x:iM=>x.aJ):= .v u7 (.snd (.snd (.fst .self)))
theorem sq:Fd 3 (fun x:iM=>x.bG):= .v u7 (.snd (.snd (.snd (.self))))
def u9 (x:fL):=(x.Part,x.fL)
instance instGTPin:GT fL:=GT.via u9
instance instKVPin:KV fL:=instKVvia (fun(x:fL)=>(x.Part,x.fL))
theorem B0:Fd 0 (fun x:fL=>x.Part):= .v u9 (.fst .self)
theorem FY:Fs 0 dO (fun(x:fL) y=>{x with Part:=y}):= .v u9 (.fst .self)
theorem B1:Fd 1 (fun x:fL=>x.fL):= .v u9 (.snd (.self))
theorem FZ:Fs 1 dO (fun(x:fL) y=>{x with fL:=y}):= .v u9 (.snd (.self))
def F0 (x:Test):=(x.A,x.B,x.Joined)
instance instGTTest:GT Test:=GT.via F0
def jc (x:aA):=(x.Y0,x.Y1,x.Xs)
instance instGTshape_Band:GT aA:=GT.via jc
theorem ga:Fd 0 (fun x:aA=>x.Y0):= .v jc (.fst .self)
theorem rJ:Fs 0 Int (fun(x:aA) y=>{x with Y0:=y}):= .v jc (.fst .self)
theorem eY:Fd 1 (fun x:aA=>x.Y1):= .v jc (.snd (.fst .self))
theorem n9:Fs 1 Int (fun(x:aA) y=>{x with Y1:=y}):= .v jc (.snd (.fst .self))
theorem dK:Fd 2 (fun x:aA=>x.Xs):= .v jc (.snd (.snd (.self)))
theorem rK:Fs 2 (List Int) (fun(x:aA) y=>{x with Xs:=y}):= .v jc (.snd (.snd (.self)))
def iW (x:aN):=(x.eT,x.Set,x.oq)
instance instGTcopper_Piece:GT aN:=GT.via iW
theorem pG:Fd 0 (fun x:aN=>x.eT):= .v iW (.fst .self)
theorem va:Fs 0 Int (fun(x:aN) y=>{x with eT:=y}):= .v iW (.fst .self)
theorem vc:Fs 1 (List aA) (fun(x:aN) y=>{x with Set:=y}):= .v iW (.snd (.fst .self))
theorem pH:Fd 2 (fun x:aN=>x.oq):= .v iW (.snd (.snd (.self)))
theorem vd:Fs 2 (List aH) (fun(x:aN) y=>{x with oq:=y}):= .v iW (.snd (.snd (.self)))
def EU (x:dI):=(x.n7,x.aJ,x.jq)
instance instGTGroup:GT dI:=GT.via EU
def tn (x:bX):=(x.cH,x.Number)
instance instGTHop:GT bX:=GT.via tn
instance instKVHop:KV bX:=instKVvia (fun(x:bX)=>(x.cH,x.Number))
theorem su:Fd 0 (fun x:bX=>x.cH):= .v tn (.fst .self)
theorem B2:Fs 0 Bool (fun(x:bX) y=>{x with cH:=y}):= .v tn (.fst .self)
theorem qm:Fd 1 (fun x:bX=>x.Number):= .v tn (.snd (.self))
theorem ve:Fs 1 Int (fun(x:bX) y=>{x with Number:=y}):= .v tn (.snd (.self))
def re (x:aK):=(x.from_,x.to)
instance instGTetchhouseref1_span:GT aK:=GT.via re
instance instKVetchhouseref1_span:KV aK:=instKVvia (fun(x:aK)=>(x.from_,x.to))
def rf (x:bA):=(x.from_,x.to,x.kb)
instance instGTetchhouseref1_band:GT bA:=GT.via rf
theorem JB (M:dQ):GT.ok M (#[(.string ⟨#[]⟩),(.string ⟨#[]⟩)]:Array Value).toList (⟨⟨[]⟩,⟨[]⟩⟩:fL):=⟨[(.string ⟨#[]⟩)],[(.string ⟨#[]⟩)],rfl,(show GT.ok M [(.string ⟨#[]⟩)] (⟨[]⟩:dO) from rfl),(show GT.ok M [(.string ⟨#[]⟩)] (⟨[]⟩:dO) from rfl)⟩
theorem B3 (M:dQ):GT.ok M (#[(.bool false),(.int .i64 0)]:Array Value).toList (⟨false,0⟩:bX):=⟨[(.bool false)],[(.int .i64 0)],rfl,(show GT.ok M [(.bool false)] (false:Bool) from rfl),(show GT.ok M [(.int .i64 0)] (0:Int) from rfl)⟩
theorem uu (M:dQ):GT.ok M (#[(.int .i64 0),(.int .i64 0),(.int .i64 0),(.int .i64 0)]:Array Value).toList (⟨0,0,0,0⟩:aH):=⟨[(.int .i64 0)],[(.int .i64 0),(.int .i64 0),(.int .i64 0)],rfl,(show GT.ok M [(.int .i64 0)] (0:Int) from rfl),⟨[(.int .i64 0)],[(.int .i64 0),(.int .i64 0)],rfl,(show GT.ok M [(.int .i64 0)] (0:Int) from rfl),⟨[(.int .i64 0)],[(.int .i64 0)],rfl,(show GT.ok M [(.int .i64 0)] (0:Int) from rfl),(show GT.ok M [(.int .i64 0)] (0:Int) from rfl)⟩⟩⟩
theorem Hx (M:dQ):GT.ok M (#[(.int .i64 0),(.int .i64 0)]:Array Value).toList (⟨0,0⟩:jE):=⟨[(.int .i64 0)],[(.int .i64 0)],rfl,(show GT.ok M [(.int .i64 0)] (0:Int) from rfl),(show GT.ok M [(.int .i64 0)] (0:Int) from rfl)⟩
theorem I0 (M:dQ):GT.ok M (#[(.int .i64 0),(.int .i64 0),(.int .i64 0),(.int .i64 0),(.int .i64 0),(.bool false)]:Array Value).toList (⟨⟨0,0⟩,0,0,0,false⟩:cH):=⟨[(.int .i64 0),(.int .i64 0)],[(.int .i64 0),(.int .i64 0),(.int .i64 0),(.bool false)],rfl,(show GT.ok M [(.int .i64 0),(.int .i64 0)] (⟨0,0⟩:jE) from Hx M),⟨[(.int .i64 0)],[(.int .i64 0),(.int .i64 0),(.bool false)],rfl,(show GT.ok M [(.int .i64 0)] (0:Int) from rfl),⟨[(.int .i64 0)],[(.int .i64 0),(.bool false)],rfl,(show GT.ok M [(.int .i64 0)] (0:Int) from rfl),⟨[(.int .i64 0)],[(.bool false)],rfl,(show GT.ok M [(.int .i64 0)] (0:Int) from rfl),(show GT.ok M [(.bool false)] (false:Bool) from rfl)⟩⟩⟩⟩
theorem x4 (M:dQ):GT.ok M (#[(.int .i64 0),(.slice none 0 0),(.slice none 0 0)]:Array Value).toList (⟨0,[],[]⟩:aN):=⟨[(.int .i64 0)],[(.slice none 0 0),(.slice none 0 0)],rfl,(show GT.ok M [(.int .i64 0)] (0:Int) from rfl),⟨[(.slice none 0 0)],[(.slice none 0 0)],rfl,(show GT.ok M [(.slice none 0 0)] ([]: (List aA)) from ⟨_,rfl,none,0,0,rfl,rfl,bD _,by simp [maxLen],fun _ _ h=>by simp at h⟩),(show GT.ok M [(.slice none 0 0)] ([]: (List aH)) from ⟨_,rfl,none,0,0,rfl,rfl,bD _,by simp [maxLen],fun _ _ h=>by simp at h⟩)⟩⟩
theorem vf (M:dQ):GT.ok M (#[(.int .i64 0),(.int .i64 0),(.slice none 0 0)]:Array Value).toList (⟨0,0,[]⟩:aA):=⟨[(.int .i64 0)],[(.int .i64 0),(.slice none 0 0)],rfl,(show GT.ok M [(.int .i64 0)] (0:Int) from rfl),⟨[(.int .i64 0)],[(.slice none 0 0)],rfl,(show GT.ok M [(.int .i64 0)] (0:Int) from rfl),(show GT.ok M [(.slice none 0 0)] ([]: (List Int)) from ⟨_,rfl,none,0,0,rfl,rfl,bD _,by simp [maxLen],fun _ _ h=>by simp at h⟩)⟩⟩
structure cI where
  n7: (List Int)
  aJ: (List Int)
  jq:RV
  deriving Inhabited
def rh (x:cI):=(x.n7,x.aJ,x.jq)
instance instGTGroup_r2:GT cI:=GT.via rh
theorem zc:Fd 2 (fun x:cI=>x.jq):= .v rh (.snd (.snd (.self)))
theorem zd:Fs 2 RV (fun(x:cI) y=>{x with jq:=y}):= .v rh (.snd (.snd (.self)))
def bW:XT cI dI:=⟨fun u x=>u.n7=x.n7/\u.aJ=x.aJ,fun M h u x=>(u.n7=x.n7/\u.aJ=x.aJ)/\uk 39 M h u.jq.v x.jq,fun{M M' h u x} hk hh=>⟨hh.1,(own 39 u.jq.v x.jq).mono hk hh.2⟩,fun h=>h.1⟩
theorem sw:XO bW 39 2 (fun u=>u.jq) (fun u r=>{u with jq:=r}) (fun x=>x.jq) (fun x y=>{x with jq:=y}):=⟨zc,zd,by decide,fun h=>h.2,fun hr ho=>⟨hr,ho⟩⟩
theorem Ay (M h:dQ) (u:cI) (x:dI) (cs:List Value) (hd: ∀b o,h b=some o->M b=none) (hx:bW.ok M h u x) (hc:GT.ok M cs u):GT.ok (pq M h) cs x:=by
  obtain⟨⟨e0,e1⟩,ho⟩:=hx
  obtain⟨c0,d0,hd0,a0,c1,d1,hd1,a1,a2⟩:=hc
  exact⟨c0,d0,hd0,GT.mono (tg M h) (show GT.ok M c0 x.n7 from e0▸(show GT.ok M c0 u.n7 from a0)),⟨c1,d1,hd1,GT.mono (tg M h) (show GT.ok M c1 x.aJ from e1▸(show GT.ok M c1 u.aJ from a1)),⟨u.jq.v,a2,uk.sl hd ho⟩⟩⟩
theorem sA:nj bN 27 true 4:=xv
theorem wx:oA bN 27 0 0:=qf
theorem EV:nj bN 22 false 1:=xv
theorem B4:Tryz.prog.underlying 22=some (.slice 23):=by kernel_rfl
theorem F1:oA bN 27 1 1:=qf
theorem Az:nj bN 23 false 1:=xv
theorem sB:Tryz.prog.underlying 23=some (.slice 75):=by kernel_rfl
theorem EW:wi bN 22 23 1:=ES
theorem mZ:wi bN 23 75 4:=ES
theorem jd:nj bN 75 true 4:=xv
theorem pT:DQ bN 75 4:=FE (.agg #[(.int .i64 0),(.int .i64 0),(.int .i64 0),(.int .i64 0)])
theorem kJ:oA bN 75 0 0:=qf
theorem dH:nj bN 3 false 1:=xv
theorem JC:iV bN 157:=jt Tryz.func157
theorem zG:iV bN 118:=jt Tryz.func118
theorem lE:oA bN 75 1 1:=qf
theorem lF:oA bN 75 2 2:=qf
theorem oT:oA bN 75 3 3:=qf
theorem H6:iV bN 128:=jt Tryz.func128
theorem Lh:iV bN 90:=jt Tryz.func90
theorem mixed:Tryz.prog.follows .mixedOrders=true:=by kernel_rfl
theorem EX:uP bN 23 75 4 32:=uP.of (.agg #[(.int .i64 0),(.int .i64 0),(.int .i64 0),(.int .i64 0)])
theorem JD:iV bN 119:=jt Tryz.func119
theorem JE:iV bN 121:=jt Tryz.func121
theorem H7:iV bN 120:=jt Tryz.func120
theorem JF:KZ bN 91 [(.slice none 0 0)]:=⟨(.slice none 0 0),fun _=>by kernel_rfl,rfl⟩
theorem fJ:nj bN 91 false 1:=xv
theorem fF:wi bN 91 3 1:=ES
theorem Hd:DQ bN 3 1:=FE (.int .i64 0)
theorem wy:uP bN 91 3 1 8:=uP.of (.int .i64 0)
theorem JG:iV bN 122:=jt Tryz.func122
theorem m0:Tryz.prog.underlying 91=some (.slice 3):=by kernel_rfl
theorem JH:Ha bN 3 (0:Int):=Ha.of (.int .i64 0) (fun M=>rfl)
theorem JI:iV bN 123:=jt Tryz.func123
theorem H8:iV bN 140:=jt Tryz.func140
theorem Li:Ha bN 75 (⟨0,0,0,0⟩:aH):=Ha.of (.agg #[(.int .i64 0),(.int .i64 0),(.int .i64 0),(.int .i64 0)]) (fun M=>(uu M))
theorem JJ:iV bN 125:=jt Tryz.func125
theorem JK:iV bN 124:=jt Tryz.func124
theorem JL:iV bN 162:=jt Tryz.func162
theorem JM:iV bN 127:=jt Tryz.func127
theorem H9:y9 bN 188 [(0,1),(1,1),(2,1)] #[(.int .i64 0),(.int .i64 0),(.slice none 0 0)]:=y9.of (.agg #[(.int .i64 0),(.int .i64 0),(.slice none 0 0)]) Tryz.underlying188
theorem lk:oA bN 188 2 2:=qf
theorem mB:oA bN 188 1 1:=qf
theorem oD:oA bN 188 0 0:=qf
theorem ot:Tryz.prog.underlying 137=some (.slice 188):=by kernel_rfl
theorem kR:wi bN 137 188 3:=ES
theorem JN:iV bN 161:=jt Tryz.func161
theorem vg:nj bN 188 true 3:=xv
theorem B5:DQ bN 188 3:=FE (.agg #[(.int .i64 0),(.int .i64 0),(.slice none 0 0)])
theorem JO:uP bN 137 188 3 40:=uP.of (.agg #[(.int .i64 0),(.int .i64 0),(.slice none 0 0)])
theorem Ia:iV bN 126:=jt Tryz.func126
theorem F3:iV bN 73:=jt Tryz.func73
theorem EY:y9 bN 75 [(0,1),(1,1),(2,1),(3,1)] #[(.int .i64 0),(.int .i64 0),(.int .i64 0),(.int .i64 0)]:=y9.of (.agg #[(.int .i64 0),(.int .i64 0),(.int .i64 0),(.int .i64 0)]) Tryz.underlying75
theorem I1:iV bN 92:=jt Tryz.func92
theorem F4:Tryz.prog.underlying 3=some (.int .i64):=by kernel_rfl
theorem Ib:Jh bN 75 aH:=⟨fun M cs ds a b w ha hb=>by
  obtain⟨_,_,rfl,rfl,⟨_,_,rfl,rfl,⟨_,_,rfl,rfl,rfl⟩⟩⟩:=ha
  obtain⟨_,_,rfl,rfl,⟨_,_,rfl,rfl,⟨_,_,rfl,rfl,rfl⟩⟩⟩:=hb
  refine(p8 9999 Tryz.underlying75 (FD.cons (by decide) (iw dH rfl _) (iw dH rfl _) (nC F4 _ _ w) (FD.cons (by decide) (iw dH rfl _) (iw dH rfl _) (nC F4 _ _ w) (FD.cons (by decide) (iw dH rfl _) (iw dH rfl _) (nC F4 _ _ w) (FD.cons (by decide) (iw dH rfl _) (iw dH rfl _) (nC F4 _ _ w) FD.nil))))).trans ?_
  congr 1
  cases a;cases b;unfold mm
  rw [dZ]
  simp,by kernel_rfl⟩
theorem Lj:iV bN 91:=jt Tryz.func91
theorem JP:iV bN 50:=jt Tryz.func50
theorem oU:oA bN 27 2 2:=qf
theorem x5:nj bN 24 false 1:=xv
theorem ze:Tryz.prog.underlying 24=some (.slice 101):=by kernel_rfl
theorem B6:wi bN 24 101 6:=ES
theorem mf:nj bN 101 true 6:=xv
theorem zH:DQ bN 101 6:=FE (.agg #[(.int .i64 0),(.int .i64 0),(.int .i64 0),(.int .i64 0),(.int .i64 0),(.bool false)])
theorem vh:oA bN 101 1 2:=qf
theorem F5:iV bN 71:=jt Tryz.func71
theorem AA:oA bN 101 0 0:=qf
theorem Hy:nj bN 57 true 2:=xv
theorem AB:oA bN 57 0 0:=qf
theorem AD:oA bN 57 1 1:=qf
theorem JQ:iV bN 72:=jt Tryz.func72
theorem EZ:iV bN 54:=jt Tryz.func54
theorem JR:iV bN 129:=jt Tryz.func129
theorem Ll:iV bN 74:=jt Tryz.func74
theorem JS:iV bN 37:=jt Tryz.func37
theorem ri:oA bN 101 2 3:=qf
theorem tp:oA bN 101 3 4:=qf
theorem Lm:iV bN 51:=jt Tryz.func51
theorem x6:oA bN 27 3 3:=qf
theorem F6:nj bN 25 false 1:=xv
theorem Hz:Tryz.prog.underlying 25=some (.slice 77):=by kernel_rfl
theorem F7:wi bN 25 77 5:=ES
theorem x8:nj bN 77 true 5:=xv
theorem JT:DQ bN 77 5:=FE (.agg #[(.string ⟨#[]⟩),(.string ⟨#[]⟩),(.int .i64 0),(.int .i64 0),(.int .i64 0)])
theorem F8:oA bN 77 0 0:=qf
theorem F9:nj bN 9 false 1:=xv
theorem B7:Tryz.prog.underlying 9=some (.string):=by kernel_rfl
theorem Ln (a:dO) (b:Int) (w:World): (callFunc 216 [(str a),(.int .u8 b)].toArray).run bN w = .ok (.value (vi ((Lib.countByte a.cR (Int.toNat b).toUInt8:Nat):Int))) w:=xQ Extern.BytealgCount.count Tryz.func216 (Lib.run_countString _ _ w)
theorem Hv (a:dO) (b:Int) (w:World): (callFunc 204 [(str a),(.int .u8 b)].toArray).run bN w = .ok (.value (vi (Lib.indexByte a.cR (Int.toNat b).toUInt8))) w:=xQ Extern.BytealgIndexByte.indexByte Tryz.func204 (Lib.run_indexByteString _ _ w)
theorem Ic:iV bN 167:=jt Tryz.func167
theorem JU:iV bN 217:=jt Tryz.func217
theorem Ie:iV bN 203:=jt Tryz.func203
theorem JV:iV bN 202:=jt Tryz.func202
theorem JW:uP bN 197 9 1 16:=uP.of (.string ⟨#[]⟩)
theorem Ma:Ha bN 9 (⟨[]⟩:dO):=Ha.of (.string ⟨#[]⟩) (fun M=>rfl)
theorem D7:wi bN 197 9 1:=ES
theorem JX:iV bN 166:=jt Tryz.func166
theorem JY:iV bN 134:=jt Tryz.func134
theorem JZ:Tryz.prog.underlying 197=some (.slice 9):=by kernel_rfl
theorem J0:iV bN 165:=jt Tryz.func165
theorem J3:iV bN 136:=jt Tryz.func136
theorem J4:iV bN 94:=jt Tryz.func94
theorem J5:iV bN 135:=jt Tryz.func135
theorem J6:iV bN 133:=jt Tryz.func133
theorem Lo:iV bN 93:=jt Tryz.func93
theorem Ga:oA bN 77 1 1:=qf
theorem Db:oA bN 77 2 2:=qf
theorem Dc:oA bN 77 3 3:=qf
theorem J7:DQ bN 39 2:=FE (.agg #[(.string ⟨#[]⟩),(.string ⟨#[]⟩)])
theorem Lp:y9 bN 39 [(0,1),(1,1)] #[(.string ⟨#[]⟩),(.string ⟨#[]⟩)]:=y9.of (.agg #[(.string ⟨#[]⟩),(.string ⟨#[]⟩)]) Tryz.underlying39
theorem qo:nj bN 39 true 2:=xv
theorem HA:iV bN 78:=jt Tryz.func78
theorem Gb:oA bN 39 0 0:=qf
theorem Lq (a b:dO) (w:World): (callFunc 200 [(str a),(str b)].toArray).run bN w = .ok (.value (vi (Lib.compareBytes a.cR b.cR))) w:=xQ Extern.BytealgCompare.compare Tryz.func200 (Lib.run_compareString _ _ w)
theorem J8:iV bN 163:=jt Tryz.func163
theorem Ig:iV bN 130:=jt Tryz.func130
theorem Gc:oA bN 39 1 1:=qf
theorem J9:iV bN 77:=jt Tryz.func77
theorem Lr:iV bN 52:=jt Tryz.func52
theorem Ka:iV bN 95:=jt Tryz.func95
theorem Ls:iV bN 53:=jt Tryz.func53
theorem Kb:y9 bN 108 [(0,4),(4,1),(5,1),(6,1),(7,1),(8,1),(9,1),(10,1),(11,1)] #[(.slice none 0 0),(.slice none 0 0),(.slice none 0 0),(.slice none 0 0),(.slice none 0 0),(.slice none 0 0),(.slice none 0 0),(.slice none 0 0),(.slice none 0 0),(.slice none 0 0),(.slice none 0 0),(.slice none 0 0)]:=y9.of (.agg #[(.slice none 0 0),(.slice none 0 0),(.slice none 0 0),(.slice none 0 0),(.slice none 0 0),(.slice none 0 0),(.slice none 0 0),(.slice none 0 0),(.slice none 0 0),(.slice none 0 0),(.slice none 0 0),(.slice none 0 0)]) Tryz.underlying108
theorem m6:oA bN 108 0 0:=qf
theorem I2:iV bN 96:=jt Tryz.func96
theorem B8:wi bN 103 137 1:=ES
theorem Gd:DQ bN 137 1:=FE (.slice none 0 0)
theorem Ih:Tryz.prog.underlying 103=some (.slice 137):=by kernel_rfl
theorem Ii:nj bN 137 false 1:=xv
theorem Ij:iV bN 168:=jt Tryz.func168
theorem Jj:Tryz.prog.underlying 4=some (.bool):=by kernel_rfl
theorem Kc:iV bN 169:=jt Tryz.func169
theorem Kd:iV bN 138:=jt Tryz.func138
theorem Ke:iV bN 137:=jt Tryz.func137
theorem Lt:iV bN 97:=jt Tryz.func97
theorem Lu:iV bN 98:=jt Tryz.func98
theorem D8:oA bN 108 1 4:=qf
theorem Ik:nj bN 103 false 1:=xv
theorem Il:uP bN 103 137 1 24:=uP.of (.slice none 0 0)
theorem Ge:iV bN 139:=jt Tryz.func139
theorem B9:BA bN 155 3 3 Int Int (0:Int):=⟨by kernel_rfl,(xq.int F4),DV (.int .i64 0) (fun M=>⟨_,rfl,rfl⟩)⟩
theorem Lv:DQ bN 23 1:=FE (.slice none 0 0)
theorem Lw:uP bN 22 23 1 24:=uP.of (.slice none 0 0)
theorem Lx:iV bN 99:=jt Tryz.func99
theorem tq:oA bN 108 2 5:=qf
theorem zI:nj bN 104 false 1:=xv
theorem Kf:y9 bN 165 [(0,1),(1,1),(2,1)] #[(.int .i64 0),(.slice none 0 0),(.slice none 0 0)]:=y9.of (.agg #[(.int .i64 0),(.slice none 0 0),(.slice none 0 0)]) Tryz.underlying165
theorem Gf:wi bN 104 165 3:=ES
theorem Gg:DQ bN 165 3:=FE (.agg #[(.int .i64 0),(.slice none 0 0),(.slice none 0 0)])
theorem Kg:uP bN 104 165 3 56:=uP.of (.agg #[(.int .i64 0),(.slice none 0 0),(.slice none 0 0)])
theorem D9:Tryz.prog.underlying 104=some (.slice 165):=by kernel_rfl
theorem Ly:iV bN 55:=jt Tryz.func55
theorem Kh:iV bN 102:=jt Tryz.func102
theorem Ea:nj bN 165 true 3:=xv
theorem AE:oA bN 101 4 5:=qf
theorem Gh:nj bN 4 false 1:=xv
theorem Eb:oA bN 165 0 0:=qf
theorem Ec:oA bN 165 2 2:=qf
theorem Ki:iV bN 101:=jt Tryz.func101
theorem Im:iV bN 100:=jt Tryz.func100
theorem tr:oA bN 108 3 6:=qf
theorem zJ:nj bN 105 false 1:=xv
theorem vj:wi bN 105 91 1:=ES
theorem Kj:DQ bN 91 1:=FE (.slice none 0 0)
theorem Io:uP bN 105 91 1 24:=uP.of (.slice none 0 0)
theorem Lz:iV bN 56:=jt Tryz.func56
theorem Kk:y9 bN 195 [(0,1)] #[(.slice none 0 0)]:=y9.of (.agg #[(.slice none 0 0)]) Tryz.underlying195
theorem oE:oA bN 195 0 0:=qf
theorem LA:iV bN 86:=jt Tryz.func86
theorem Ed:Tryz.prog.underlying 105=some (.slice 91):=by kernel_rfl
theorem I3:iV bN 89:=jt Tryz.func89
theorem LB:iV bN 88:=jt Tryz.func88
theorem AF:oA bN 108 5 8:=qf
theorem xG:oA bN 108 6 9:=qf
theorem Kl:iV bN 103:=jt Tryz.func103
theorem Km:KZ bN 172 [(.slice none 0 0),(.slice none 0 0),(.slice none 0 0)]:=⟨(.agg #[(.slice none 0 0),(.slice none 0 0),(.slice none 0 0)]),fun _=>by kernel_rfl,rfl⟩
theorem tt:oA bN 108 4 7:=qf
theorem zK:nj bN 106 false 1:=xv
theorem Ip:Tryz.prog.underlying 106=some (.slice 172):=by kernel_rfl
theorem AG:oA bN 172 0 0:=qf
theorem AH:oA bN 172 1 1:=qf
theorem Kn:nj bN 172 true 3:=xv
theorem Gi:wi bN 106 172 3:=ES
theorem Ko:DQ bN 172 3:=FE (.agg #[(.slice none 0 0),(.slice none 0 0),(.slice none 0 0)])
theorem Kp:uP bN 106 172 3 72:=uP.of (.agg #[(.slice none 0 0),(.slice none 0 0),(.slice none 0 0)])
theorem pr:DQ bN 47 2:=FE (.agg #[(.bool false),(.int .i64 0)])
theorem Kq:iV bN 170:=jt Tryz.func170
theorem Iq:iV bN 141:=jt Tryz.func141
theorem Gj:y9 bN 47 [(0,1),(1,1)] #[(.bool false),(.int .i64 0)]:=y9.of (.agg #[(.bool false),(.int .i64 0)]) Tryz.underlying47
theorem dM:nj bN 47 true 2:=xv
theorem Kr:iV bN 104:=jt Tryz.func104
theorem x9:oA bN 47 0 0:=qf
theorem wz:oA bN 47 1 1:=qf
theorem Ks:iV bN 105:=jt Tryz.func105
theorem Ee:oA bN 172 2 2:=qf
theorem Ir:nj bN 170 false 1:=xv
theorem Kt:wi bN 170 39 2:=ES
theorem Ku:uP bN 170 39 2 32:=uP.of (.agg #[(.string ⟨#[]⟩),(.string ⟨#[]⟩)])
theorem rj:oA bN 108 7 10:=qf
theorem tu:oA bN 108 8 11:=qf
theorem E0:nj bN 40 false 1:=xv
theorem l6:wi bN 40 47 2:=ES
theorem Dd:uP bN 40 47 2 16:=uP.of (.agg #[(.bool false),(.int .i64 0)])
theorem LC:iV bN 57:=jt Tryz.func57
theorem HB:iV bN 28:=jt Tryz.func28
theorem Ef:Tryz.prog.underlying 190=some (.int .u64):=by kernel_rfl
theorem LD:iV bN 76:=jt Tryz.func76
theorem LF:iV bN 75:=jt Tryz.func75
theorem HC:iV bN 38:=jt Tryz.func38
theorem Kv:KZ bN 47 [(.bool false),(.int .i64 0)]:=⟨(.agg #[(.bool false),(.int .i64 0)]),fun _=>by kernel_rfl,rfl⟩
theorem Kw:iV bN 29:=jt Tryz.func29
theorem wY:Jh bN 47 bX:=⟨fun M cs ds a b w ha hb=>by
  obtain⟨_,_,rfl,rfl,rfl⟩:=ha
  obtain⟨_,_,rfl,rfl,rfl⟩:=hb
  refine(p8 9999 Tryz.underlying47 (FD.cons (by decide) (iw Gh rfl _) (iw Gh rfl _) (r6 Jj _ _ w) (FD.cons (by decide) (iw dH rfl _) (iw dH rfl _) (nC F4 _ _ w) FD.nil))).trans ?_
  congr 1
  cases a;cases b;unfold tn
  rw [dZ]
  simp,by kernel_rfl⟩
theorem Kx:xq bN 47 bX:=xq.struct Tryz.underlying47 rfl wY (fun k=>(H2.cons (by decide) (iw Gh rfl) (fun b w=>MapKept.run_checkKey Jj (k:= .bool k.cH) trivial b 9998) (H2.cons (by decide) (iw dH rfl) (fun b w=>MapKept.run_checkKey F4 (k:= .int .i64 k.Number) rfl b 9998) H2.nil))) (fun k x hx=>by
  have hx:x∈[Sc.toV k.cH,Sc.toV k.Number]:=hx
  simp only [cW,List.not_mem_nil,or_false] at hx
  rcases hx with rfl | rfl
  · exact MapKept.sameBits_self (d:= .bool) (k:= .bool k.cH) trivial _
  · exact MapKept.sameBits_self (d:= .int .i64) (k:= .int .i64 k.Number) rfl _)
theorem xw:BA bN 95 47 3 bX Int (0:Int):=⟨by kernel_rfl,Kx,DV (.int .i64 0) (fun M=>⟨_,rfl,rfl⟩)⟩
theorem vk:Tryz.prog.underlying 40=some (.slice 47):=by kernel_rfl
theorem Is:iV bN 171:=jt Tryz.func171
theorem Ky:iV bN 142:=jt Tryz.func142
theorem It:iV bN 143:=jt Tryz.func143
theorem Kz:iV bN 106:=jt Tryz.func106
theorem I4:iV bN 58:=jt Tryz.func58
theorem Iu:Tryz.prog.underlying 97=some (.pointer (Tryz.prog.pointee 97)):=by kernel_rfl
theorem KA:iV bN 35:=jt Tryz.func35
theorem KB:iV bN 30:=jt Tryz.func30
theorem LG:iV bN 12:=jt Tryz.func12
theorem LH:iV bN 14:=jt Tryz.func14
theorem KC:y9 bN 101 [(0,2),(2,1),(3,1),(4,1),(5,1)] #[(.int .i64 0),(.int .i64 0),(.int .i64 0),(.int .i64 0),(.int .i64 0),(.bool false)]:=y9.of (.agg #[(.int .i64 0),(.int .i64 0),(.int .i64 0),(.int .i64 0),(.int .i64 0),(.bool false)]) Tryz.underlying101
theorem I5:iV bN 17:=jt Tryz.func17
theorem KD:iV bN 18:=jt Tryz.func18
theorem LI:iV bN 39:=jt Tryz.func39
theorem KE:iV bN 19:=jt Tryz.func19
theorem LJ:iV bN 40:=jt Tryz.func40
theorem LK:iV bN 79:=jt Tryz.func79
theorem LL:iV bN 41:=jt Tryz.func41
theorem LM:iV bN 20:=jt Tryz.func20
def qp (E:World) (V:List HP) (res: (List bX)×Int) (v:Value) (w:World):Prop:=∃u0:Value,v = .tuple #[u0,(vi res.2)]/\Holds E w ([own 47 u0 res.1]++V)
def sC (E:World) (V:List HP) (res: (List Int)×Int) (v:Value) (w:World):Prop:=∃u0:Value,v = .tuple #[u0,(vi res.2)]/\Holds E w ([rd u0 res.1]++V)
def m7 (E:World) (V:List HP) (b0:Nat) (v0_0 v0_1:Value) (v0_2 v0_3:Value) (v0_4 v0_5:Value) (v0_6 v0_7:Value) (v0_8 v0_9:Value) (v0_10 v0_11:Value) (res: (List (bX×Int))) (v:Value) (w:World):Prop:=Holds E w ([mp v res,bc 108 b0 [v0_0,v0_1,v0_2,v0_3,v0_4,v0_5,v0_6,v0_7,v0_8,v0_9,v0_10,v0_11]]++V)
def AJ (E:World) (V:List HP) (res: (List bX)×Bool×Int) (v:Value) (w:World):Prop:=∃u0:Value,v = .tuple #[u0,(vb res.2.1),(vi res.2.2)]/\Holds E w ([own 47 u0 res.1]++V)
def pI (E:World) (V:List HP) (res:aH) (v:Value) (w:World):Prop:=Holds E w ([rd v res]++V)
def oV (E:World) (V:List HP) (res: (List dO)) (v:Value) (w:World):Prop:=Holds E w ([own 9 v res]++V)
def je (E:World) (V:List HP) (res:Int×Bool) (v:Value) (w:World):Prop:=v = .tuple #[(vi res.1),(vb res.2)]/\Holds E w V
def bH (E:World) (V:List HP) (res:Bool) (v:Value) (w:World):Prop:=v= (vb res)/\Holds E w V
def aV (E:World) (V:List HP) (res:Int) (v:Value) (w:World):Prop:=v= (vi res)/\Holds E w V
def mh (E:World) (V:List HP) (res: (List aH)) (v:Value) (w:World):Prop:=Holds E w ([own 75 v res]++V)
def lG (E:World) (V:List HP) (res: (List Int)) (v:Value) (w:World):Prop:=Holds E w ([own 3 v res]++V)
def l7 (E:World) (V:List HP) (res: (List aA)) (v:Value) (w:World):Prop:=Holds E w ([own 188 v res]++V)
end Go.Gk
namespace Go.Gk
open Go Go.Proofs
def y6 (H:Type) (d:DataW H):Nat:=YtlffnmkhgkppkaaGreatDoor.Rows.uptoBulk d
def KG (H:Type) (d:List (DataW H)):Nat:=YtlffnmkhgkppkaaGreatDoor.Rows.uptoBulkAll d
theorem iB:UB y6 KG where
  str:=fun H b=>by simp [y6,YtlffnmkhgkppkaaGreatDoor.Rows.uptoBulk]
  pos:=fun H d=>by
    unfold y6
    cases d with
    | lit l=>cases l <;> simp [YtlffnmkhgkppkaaGreatDoor.Rows.uptoBulk]
    | nil=>simp [YtlffnmkhgkppkaaGreatDoor.Rows.uptoBulk]
    | ptr d=>simp [YtlffnmkhgkppkaaGreatDoor.Rows.uptoBulk]
    | slice elems spare=>simp [YtlffnmkhgkppkaaGreatDoor.Rows.uptoBulk]
    | agg parts=>simp [YtlffnmkhgkppkaaGreatDoor.Rows.uptoBulk]
    | iface t d=>simp [YtlffnmkhgkppkaaGreatDoor.Rows.uptoBulk]
    | map entries=>simp [YtlffnmkhgkppkaaGreatDoor.Rows.uptoBulk]
    | held h=>simp [YtlffnmkhgkppkaaGreatDoor.Rows.uptoBulk]
  sl:=fun H e s=>by simp [y6,KG,YtlffnmkhgkppkaaGreatDoor.Rows.uptoBulk]
  ag:=fun H l=>by simp [y6,KG,YtlffnmkhgkppkaaGreatDoor.Rows.uptoBulk]
  nil:=fun H=>by simp [KG,YtlffnmkhgkppkaaGreatDoor.Rows.uptoBulkAll]
  cons:=fun H x l=>by simp [y6,KG,YtlffnmkhgkppkaaGreatDoor.Rows.uptoBulkAll]
theorem He:kn y6 Tryz.prog 3 Int:=E4 iB (by kernel_rfl)
theorem LN:kn y6 Tryz.prog 75 aH:=l8 iB (fun(x:aH)=>(x.X0,x.Y0,x.X1,x.Y1)) (fun b=>⟨b.1,b.2.1,b.2.2.1,b.2.2.2⟩) (fun b=>rfl) Tryz.underlying75 (gl iB He (gl iB He (gl iB He (oL iB He)))) (fun b=>by simp only [HI];omega)
theorem KH:kn y6 Tryz.prog 23 (List aH):=rl (e:=75) iB LN
theorem LO:kn y6 Tryz.prog 22 (List (List aH)):=rl (e:=23) iB KH
theorem KI:kn y6 Tryz.prog 57 jE:=l8 iB (fun(x:jE)=>(x.X,x.Y)) (fun b=>⟨b.1,b.2⟩) (fun b=>rfl) Tryz.underlying57 (gl iB He (oL iB He)) (fun b=>by simp only [Gv];omega)
theorem Mb:kn y6 Tryz.prog 4 Bool:=Di iB (by kernel_rfl)
theorem KJ:kn y6 Tryz.prog 101 cH:=l8 iB (fun(x:cH)=>(x.At,x.eI,x.cY,x.To,x.jV)) (fun b=>⟨b.1,b.2.1,b.2.2.1,b.2.2.2.1,b.2.2.2.2⟩) (fun b=>rfl) Tryz.underlying101 (gl iB KI (gl iB He (gl iB He (gl iB He (oL iB Mb))))) (fun b=>by simp only [HJ];omega)
theorem LP:kn y6 Tryz.prog 24 (List cH):=rl (e:=101) iB KJ
theorem K2:kn y6 Tryz.prog 9 dO:=E5 iB (by kernel_rfl)
theorem LQ:kn y6 Tryz.prog 77 eW:=l8 iB (fun(x:eW)=>(x.Part,x.fL,x.eT,x.At)) (fun b=>⟨b.1,b.2.1,b.2.2.1,b.2.2.2⟩) (fun b=>rfl) Tryz.underlying77 (gl iB K2 (gl iB K2 (gl iB He (oL iB KI)))) (fun b=>by simp only [Ei];omega)
theorem LR:kn y6 Tryz.prog 25 (List eW):=rl (e:=77) iB LQ
theorem LS:kn y6 Tryz.prog 27 iM:=l8 iB (fun(x:iM)=>(x.aI,x.cL,x.aJ,x.bG)) (fun b=>⟨b.1,b.2.1,b.2.2.1,b.2.2.2⟩) (fun b=>rfl) Tryz.underlying27 (gl iB LO (gl iB KH (gl iB LP (oL iB LR)))) (fun b=>by simp only [Gw];omega)
theorem KK:kn y6 Tryz.prog 39 fL:=l8 iB (fun(x:fL)=>(x.Part,x.fL)) (fun b=>⟨b.1,b.2⟩) (fun b=>rfl) Tryz.underlying39 (gl iB K2 (oL iB K2)) (fun b=>by simp only [I6];omega)
end Go.Gk
namespace Go.Proofs
open Go.Shelf Go.RowKit Go.Lib Go.Sort
def Tryz.lay120_ren : Go.Shelf.Ren := ⟨fun | 6 => 120 | 15 => 159 | 14 => 158 | 28 => 190 | 29 => 191 | 20 => 182 | 21 => 183 | 22 => 184 | 23 => 185 | 24 => 186 | 25 => 187 | 26 => 188 | 27 => 189 | 46 => 206 | 47 => 207 | 48 => 208 | 49 => 209 | 50 => 210 | 57 => 218 | n => n, fun | 22 => 23 | 24 => 75 | 25 => 121 | 3 => 3 | 39 => 190 | 0 => 0 | 53 => 239 | 55 => 241 | 4 => 4 | 46 => 233 | 45 => 232 | 50 => 94 | 5 => 5 | 9 => 9 | 66 => 248 | 70 => 252 | 76 => 259 | 77 => 260 | n => n, fun | n => n⟩
theorem Tryz.lay120 : Go.Proofs.SlLaysF0.n6 Tryz.prog Tryz.lay120_ren := {
  mixed := by kernel_rfl
  f6 := ⟨Tryz.f120.name, by decide, Tryz.func120.trans (congrArg some (by kernel_rfl))⟩
  f14 := ⟨Tryz.f158.name, by decide, Tryz.func158.trans (congrArg some (by kernel_rfl))⟩
  f15 := Tryz.func159.trans (congrArg some (by kernel_rfl))
  f20 := ⟨Tryz.f182.name, by decide, Tryz.func182.trans (congrArg some (by kernel_rfl))⟩
  f21 := ⟨Tryz.f183.name, by decide, Tryz.func183.trans (congrArg some (by kernel_rfl))⟩
  f22 := ⟨Tryz.f184.name, by decide, Tryz.func184.trans (congrArg some (by kernel_rfl))⟩
  f23 := ⟨Tryz.f185.name, by decide, Tryz.func185.trans (congrArg some (by kernel_rfl))⟩
  f24 := ⟨Tryz.f186.name, by decide, Tryz.func186.trans (congrArg some (by kernel_rfl))⟩
  f25 := ⟨Tryz.f187.name, by decide, Tryz.func187.trans (congrArg some (by kernel_rfl))⟩
  f26 := ⟨Tryz.f188.name, by decide, Tryz.func188.trans (congrArg some (by kernel_rfl))⟩
  f27 := ⟨Tryz.f189.name, by decide, Tryz.func189.trans (congrArg some (by kernel_rfl))⟩
  f28 := Tryz.func190.trans (congrArg some (by kernel_rfl))
  f29 := Tryz.func191.trans (congrArg some (by kernel_rfl))
  f46 := ⟨Tryz.f206.name, by decide, Tryz.func206.trans (congrArg some (by kernel_rfl))⟩
  f47 := Tryz.func207.trans (congrArg some (by kernel_rfl))
  f48 := Tryz.func208.trans (congrArg some (by kernel_rfl))
  f49 := ⟨Tryz.f209.name, by decide, Tryz.func209.trans (congrArg some (by kernel_rfl))⟩
  f50 := ⟨Tryz.f210.name, by decide, Tryz.func210.trans (congrArg some (by kernel_rfl))⟩
  f57 := ⟨Tryz.f218.name, by decide, Tryz.func218.trans (congrArg some (by kernel_rfl))⟩
  t0 := Tryz.underlying0
  a0 := Tryz.isAgg0
  z0 := Tryz.sizeOf0
  v0 := Tryz.zeroValue0
  t3 := Tryz.underlying3
  a3 := Tryz.isAgg3
  z3 := Tryz.sizeOf3
  v3 := Tryz.zeroValue3
  t4 := Tryz.underlying4
  a4 := Tryz.isAgg4
  z4 := Tryz.sizeOf4
  v4 := Tryz.zeroValue4
  t5 := Tryz.underlying5
  a5 := Tryz.isAgg5
  z5 := Tryz.sizeOf5
  v5 := Tryz.zeroValue5
  t9 := Tryz.underlying9
  a9 := Tryz.isAgg9
  z9 := Tryz.sizeOf9
  v9 := Tryz.zeroValue9
  t22 := Tryz.underlying23
  a22 := Tryz.isAgg23
  z22 := Tryz.sizeOf23
  v22 := Tryz.zeroValue23
  t25 := Tryz.underlying121
  a25 := Tryz.isAgg121
  z25 := Tryz.sizeOf121
  v25 := Tryz.zeroValue121
  t39 := Tryz.underlying190
  a39 := Tryz.isAgg190
  z39 := Tryz.sizeOf190
  v39 := Tryz.zeroValue190
  t45 := Tryz.underlying232
  a45 := Tryz.isAgg232
  z45 := Tryz.sizeOf232
  v45 := Tryz.zeroValue232
  t46 := Tryz.underlying233
  a46 := Tryz.isAgg233
  z46 := Tryz.sizeOf233
  v46 := Tryz.zeroValue233
  t50 := Tryz.underlying94
  a50 := Tryz.isAgg94
  z50 := Tryz.sizeOf94
  v50 := Tryz.zeroValue94
  t53 := Tryz.underlying239
  a53 := Tryz.isAgg239
  z53 := Tryz.sizeOf239
  v53 := Tryz.zeroValue239
  t55 := Tryz.underlying241
  a55 := Tryz.isAgg241
  z55 := Tryz.sizeOf241
  v55 := Tryz.zeroValue241
  t66 := Tryz.underlying248
  a66 := Tryz.isAgg248
  z66 := Tryz.sizeOf248
  v66 := Tryz.zeroValue248
  t70 := Tryz.underlying252
  a70 := Tryz.isAgg252
  z70 := Tryz.sizeOf252
  v70 := Tryz.zeroValue252
  t76 := Tryz.underlying259
  a76 := Tryz.isAgg259
  z76 := Tryz.sizeOf259
  v76 := Tryz.zeroValue259
  t77 := Tryz.underlying260
  a77 := Tryz.isAgg260
  z77 := Tryz.sizeOf260
  v77 := Tryz.zeroValue260 }
def Tryz.lay122_ren : Go.Shelf.Ren := ⟨fun | 5 => 122 | 8 => 159 | 7 => 160 | 19 => 190 | 20 => 191 | 10 => 192 | 11 => 193 | 12 => 194 | 13 => 195 | 14 => 196 | 15 => 197 | 16 => 142 | 17 => 198 | 18 => 199 | 30 => 211 | 31 => 207 | 32 => 208 | 33 => 212 | 34 => 213 | 35 => 171 | 40 => 219 | n => n, fun | 23 => 91 | 25 => 3 | 3 => 3 | 32 => 190 | 22 => 91 | 0 => 0 | 44 => 239 | 46 => 241 | 4 => 4 | 36 => 233 | 35 => 232 | 41 => 94 | 5 => 5 | 9 => 9 | 53 => 248 | 57 => 252 | 63 => 259 | 64 => 260 | n => n, fun | n => n⟩
theorem Tryz.lay122 : Go.Proofs.SlLaysM.n5 Tryz.prog Tryz.lay122_ren := {
  mixed := by kernel_rfl
  f5 := ⟨Tryz.f122.name, by decide, Tryz.func122.trans (congrArg some (by kernel_rfl))⟩
  f7 := ⟨Tryz.f160.name, by decide, Tryz.func160.trans (congrArg some (by kernel_rfl))⟩
  f8 := Tryz.func159.trans (congrArg some (by kernel_rfl))
  f10 := ⟨Tryz.f192.name, by decide, Tryz.func192.trans (congrArg some (by kernel_rfl))⟩
  f11 := ⟨Tryz.f193.name, by decide, Tryz.func193.trans (congrArg some (by kernel_rfl))⟩
  f12 := ⟨Tryz.f194.name, by decide, Tryz.func194.trans (congrArg some (by kernel_rfl))⟩
  f13 := ⟨Tryz.f195.name, by decide, Tryz.func195.trans (congrArg some (by kernel_rfl))⟩
  f14 := ⟨Tryz.f196.name, by decide, Tryz.func196.trans (congrArg some (by kernel_rfl))⟩
  f15 := ⟨Tryz.f197.name, by decide, Tryz.func197.trans (congrArg some (by kernel_rfl))⟩
  f16 := ⟨Tryz.f142.name, by decide, Tryz.func142.trans (congrArg some (by kernel_rfl))⟩
  f17 := ⟨Tryz.f198.name, by decide, Tryz.func198.trans (congrArg some (by kernel_rfl))⟩
  f18 := ⟨Tryz.f199.name, by decide, Tryz.func199.trans (congrArg some (by kernel_rfl))⟩
  f19 := Tryz.func190.trans (congrArg some (by kernel_rfl))
  f20 := Tryz.func191.trans (congrArg some (by kernel_rfl))
  f30 := ⟨Tryz.f211.name, by decide, Tryz.func211.trans (congrArg some (by kernel_rfl))⟩
  f31 := Tryz.func207.trans (congrArg some (by kernel_rfl))
  f32 := Tryz.func208.trans (congrArg some (by kernel_rfl))
  f33 := ⟨Tryz.f212.name, by decide, Tryz.func212.trans (congrArg some (by kernel_rfl))⟩
  f34 := ⟨Tryz.f213.name, by decide, Tryz.func213.trans (congrArg some (by kernel_rfl))⟩
  f35 := ⟨Tryz.f171.name, by decide, Tryz.func171.trans (congrArg some (by kernel_rfl))⟩
  f40 := ⟨Tryz.f219.name, by decide, Tryz.func219.trans (congrArg some (by kernel_rfl))⟩
  t0 := Tryz.underlying0
  a0 := Tryz.isAgg0
  z0 := Tryz.sizeOf0
  v0 := Tryz.zeroValue0
  t3 := Tryz.underlying3
  a3 := Tryz.isAgg3
  z3 := Tryz.sizeOf3
  v3 := Tryz.zeroValue3
  t4 := Tryz.underlying4
  a4 := Tryz.isAgg4
  z4 := Tryz.sizeOf4
  v4 := Tryz.zeroValue4
  t5 := Tryz.underlying5
  a5 := Tryz.isAgg5
  z5 := Tryz.sizeOf5
  v5 := Tryz.zeroValue5
  t9 := Tryz.underlying9
  a9 := Tryz.isAgg9
  z9 := Tryz.sizeOf9
  v9 := Tryz.zeroValue9
  t22 := Tryz.underlying91
  a22 := Tryz.isAgg91
  z22 := Tryz.sizeOf91
  v22 := Tryz.zeroValue91
  t23 := Tryz.underlying91
  a23 := Tryz.isAgg91
  z23 := Tryz.sizeOf91
  v23 := Tryz.zeroValue91
  t25 := Tryz.underlying3
  a25 := Tryz.isAgg3
  z25 := Tryz.sizeOf3
  v25 := Tryz.zeroValue3
  t32 := Tryz.underlying190
  a32 := Tryz.isAgg190
  z32 := Tryz.sizeOf190
  v32 := Tryz.zeroValue190
  t35 := Tryz.underlying232
  a35 := Tryz.isAgg232
  z35 := Tryz.sizeOf232
  v35 := Tryz.zeroValue232
  t36 := Tryz.underlying233
  a36 := Tryz.isAgg233
  z36 := Tryz.sizeOf233
  v36 := Tryz.zeroValue233
  t41 := Tryz.underlying94
  a41 := Tryz.isAgg94
  z41 := Tryz.sizeOf94
  v41 := Tryz.zeroValue94
  t44 := Tryz.underlying239
  a44 := Tryz.isAgg239
  z44 := Tryz.sizeOf239
  v44 := Tryz.zeroValue239
  t46 := Tryz.underlying241
  a46 := Tryz.isAgg241
  z46 := Tryz.sizeOf241
  v46 := Tryz.zeroValue241
  t53 := Tryz.underlying248
  a53 := Tryz.isAgg248
  z53 := Tryz.sizeOf248
  v53 := Tryz.zeroValue248
  t57 := Tryz.underlying252
  a57 := Tryz.isAgg252
  z57 := Tryz.sizeOf252
  v57 := Tryz.zeroValue252
  t63 := Tryz.underlying259
  a63 := Tryz.isAgg259
  z63 := Tryz.sizeOf259
  v63 := Tryz.zeroValue259
  t64 := Tryz.underlying260
  a64 := Tryz.isAgg260
  z64 := Tryz.sizeOf260
  v64 := Tryz.zeroValue260 }
end Go.Proofs
namespace Go.Gk
open Go Go.Proofs
variable (N:Nat) {E w:World} {i0 i1 i2:Nat} {p0 p1 p2 res:Int} {v0 v1 v2:Value} {V:List HP}
theorem xx {res:Bool} (o:Holds E w V) (j:qY N p0 p1 p2=some res):
    Calls bN 157 [(vi p0),(vi p1),(vi p2)].toArray w (iv (bH E V res)):=by
 unfold qY at j
 refine enter Tryz.func157 zr zr (RC.sr (aR (vb false) (RL.ns (mv (vi p0) (mv (vi p1) (ic p0 p1 (mv (vb (decide (p0>=p1))) (RL.gs true (decide (p0>=p1)) (vi p0) zr zr zr dW ?_))))))))
 refine RL.gs true (decide (p0>=p1)) (vi p2) rfl rfl rfl dW (RL.gs true (decide (p0>=p1)) (vb (decide (p0<=p2))) rfl rfl rfl (fN .leq .i64 p0 p2 rfl (fun h=>by exact(dN h:cv (true&&((decide (p0>=p1))==true)) (vi p0)= (vi p0))) (fun h=>by exact(dN h:cv (true&&((decide (p0>=p1))==true)) (vi p2)= (vi p2))) rfl) (RL.pick (decide (p0>=p1)) (vb ((decide (p0>=p1))&&(decide (p0<=p2)))) (k7 true) (aR (vb ((decide (p0>=p1))&&(decide (p0<=p2)))) (RL.nt (RC.ret ?_)))))
 obtain rfl:=oi j
 exact cS ⟨rfl,o.drop 0⟩
theorem kZ {res:Bool} (o:Holds E w V) (j:kE N p0=some res):
    Calls bN 118 [(vi p0)].toArray w (iv (bH E V res)):=by
 unfold kE at j
 refine enter Tryz.func118 zr zr (RC.sr (aR (vb false) (RL.ns (mv (vi p0) ?_))))
 obtain⟨aa,ab,j⟩:=bd j
 refine RL.call zt zr JC [(vi p0),(vi (-1000000)),(vi 1000000)] zr (aF (xx N (p0:=p0) (p1:=(-1000000)) (p2:=1000000) o ab) ?_)
 rintro _ w ⟨rfl,o⟩
 refine aR (vb aa) (RL.nt (RC.ret ?_))
 obtain rfl:=oi j
 exact cS ⟨rfl,o.drop 0⟩
theorem rL {p0:aH} {res:Bool} (j:Holds E w V) (h0:V[i0]? =some (rd v0 p0)) (hb:lW N p0=some res):
    Calls bN 128 [v0].toArray w (iv (bH E V res)):=by
 unfold lW at hb
 refine enter Tryz.func128 zr zr ?_
 have j:=j.dup (i0+0) h0
 refine RC.sr (RL.cX 0 v0 j zr fun aq w j=>?_)
 refine aR (vb false) (RL.nq ?_)
 obtain⟨af,o,hb⟩:=bd hb
 refine RC.jn (fun(af:Bool)=>SH E V [(2,vb af)] []) af ?_ ?_
 ·refine RC.region (RL.bT zr kJ (RL.aX 0 j zr fV dH ?_))
  obtain⟨aj,ak,o⟩:=bd o
  refine RL.call zt zr zG [(vi p0.X0)] zr (aF (kZ N (p0:=p0.X0) j ak) ?_)
  rintro _ w ⟨rfl,j⟩
  refine mv (vb aj) (gG o (fun aa o=>?_) fun aa o=>?_)
  rotate_left
  ·refine cB aa (cB aa (cB aa (gH aa (vb false) (mv (vb false) (jA (jA (jA (RL.pick false (vb false) zr ?_))))))))
   refine mv (vb false) (jA (jA (jA (RL.pick false (vb false) zr (aR (vb false) (RL.nil ?_))))))
   obtain rfl:=oi o
   exact⟨rfl,j.sp 2 []⟩
  refine RL.bT (hg:=(cg aa)) zr lE (RL.aX (hg:=(cg aa)) 0 j zr gv dH ?_)
  obtain⟨ag,al,o⟩:=bd o
  refine RL.call (cg aa) zr zG [(vi p0.Y0)] zr (aF (kZ N (p0:=p0.Y0) j al) ?_)
  rintro _ w ⟨rfl,j⟩
  refine gH aa (vb ag) (mv (vb ag) (gG o (fun ab o=>?_) fun ab o=>?_))
  rotate_left
  ·refine cB ab (cB ab (cB ab (gH ab (vb false) (mv (vb false) (jA (jA (jA (RL.pick false (vb false) zr ?_))))))))
   refine aR (vb false) (RL.nil ?_)
   obtain rfl:=oi o
   exact⟨rfl,j.sp 2 []⟩
  refine RL.bT (hg:=(cg ab)) zr lF (RL.aX (hg:=(cg ab)) 0 j zr gL dH ?_)
  obtain⟨ah,an,o⟩:=bd o
  refine RL.call (cg ab) zr zG [(vi p0.X1)] zr (aF (kZ N (p0:=p0.X1) j an) ?_)
  rintro _ w ⟨rfl,j⟩
  refine gH ab (vb ah) (mv (vb ah) (gG o (fun ad o=>?_) fun ad o=>?_))
  rotate_left
  ·refine cB ad (cB ad (cB ad (gH ad (vb false) (aR (vb false) (RL.nil ?_)))))
   obtain rfl:=oi o
   exact⟨rfl,j.sp 2 []⟩
  refine RL.bT (hg:=(cg ad)) zr oT (RL.aX (hg:=(cg ad)) 0 j zr km dH ?_)
  obtain⟨ai,ao,o⟩:=bd o
  refine RL.call (cg ad) zr zG [(vi p0.Y1)] zr (aF (kZ N (p0:=p0.Y1) j ao) ?_)
  rintro _ w ⟨rfl,j⟩
  refine gH ad (vb ai) (aR (vb ai) (RL.nil ?_))
  obtain rfl:=oi o
  exact⟨rfl,j.sp 2 []⟩
 rintro _ w ⟨O,rfl,j⟩
 refine aG (RC.ret ?_)
 obtain rfl:=oi hb
 exact cS ⟨rfl,j.drop 0⟩
def ux (E:World) (V:List HP) (r:Int) (U:Nat->Value) (w:World):Prop:=nB bN 30 Tryz.f90 (aV E V r) .ret U w
theorem tO {p0: (List aH)} (o:Holds E w V) (h0:V[i0]? =some (rd v0 p0)) (hb:kc N p0=some res):
    Calls bN 90 [v0].toArray w (iv (aV E V res)):=by
 unfold kc at hb
 refine enter Tryz.func90 zr zr ?_
 have o:=o.dup (i0+0) h0
 refine RC.sr (aR (vi 0) (RL.nq (RC.sr (mv v0 (RL.cC 0 p0 o sB (ic ((p0.length:Int)) 2000 (RL.nt (fU hb (fun hc hb=>?_) fun hc hb=>?_))))))))
 ·refine RC.sr (aR (vi 2) (RL.nt (RC.rt ?_)))
  obtain rfl:=oi hb
  exact cS ⟨rfl,o.drop 1⟩
 refine RC.ss (RC.sr (mv v0 (RL.cC 0 p0 o sB (mv (vi 0) (RL.nt ?_)))))
 obtain⟨aq,hN,hb⟩:=bd hb
 refine RC.range (fun(ae:Nat) (af:Unit)=>SH E V [(8,v0),(9,vi p0.length),(10,vi ae)] [rd v0 p0]) (fun(af:Unit)=>SH E V [] [rd v0 p0]) (ux E V) hN ?_ ?_ ?_ ?_ ?_
 ·exact o.sp 1 [0]
 ·rintro hm af _ w ⟨O,rfl,o⟩
  refine RC.sr (ic ((p0.length:Int)) ((p0.length:Int)) (RL.nq (RC.dS pD (RC.ex ?_))))
  exact⟨rfl,o.sp 1 [0]⟩
 ·rintro hm ae af fl _ w hk ⟨O,rfl,o⟩ hb
  refine RC.sr (ic ((ae:Int)) ((p0.length:Int)) (RL.nq (RC.dR (pC hk) (RC.ss (RC.bs ?_)))))
  obtain⟨j,aj,hb⟩:=bd hb
  refine RL.cM 0 o mZ aj fun au o=>(RL.cD 0 j o jd fun av o=>(RL.alloc o pT.z fun ab w o=>?_))
  refine RL.bM 0 o 1 zr jd fun w o=>?_
  refine RL.nq (RC.sr (RL.aS (f:=(fun x=>x)) 0 o zr Fd.self jd fun ak o=>?_))
  obtain⟨al,an,hb⟩:=bd hb
  refine RL.call zt zr H6 [ak] zr (aF (rL N (i0:=0) o zr an) ?_)
  rintro _ w ⟨rfl,o⟩
  refine RL.not al (RL.nt (fU hb (fun hc hb=>?_) fun hc hb=>?_))
  ·refine RC.sr (aR (vi 1) (RL.nt (RC.rt (qV (cO ?_)))))
   obtain rfl:=oi hb
   exact⟨rfl,cS ⟨rfl,o.drop 5⟩⟩
  refine RC.sx (RL.bT rfl lF (RL.aX 1 o rfl gL dH (RL.bT rfl kJ (RL.aX 1 o rfl fV dH (ic j.X1 j.X0 (mv (vb (decide (j.X1<=j.X0))) (RL.gs true (decide (j.X1<=j.X0)) (vp ab 3) rfl rfl rfl (f9 oT) (RL.gs true (decide (j.X1<=j.X0)) (vi j.Y1) rfl rfl rfl (cT 1 rfl o (fun h=>by exact(dN h:cv (true&&((decide (j.X1<=j.X0))==false)) (vp ab 3)= (vp ab 3))) rfl km dH) ?_))))))))
  refine RL.gs true (decide (j.X1<=j.X0)) (vp ab 1) rfl rfl rfl (f9 lE) (RL.gs true (decide (j.X1<=j.X0)) (vi j.Y0) rfl rfl rfl (cT 1 rfl o (fun h=>by exact(dN h:cv (true&&((decide (j.X1<=j.X0))==false)) (vp ab 1)= (vp ab 1))) rfl gv dH) (RL.gs true (decide (j.X1<=j.X0)) (vb (decide (j.Y1<=j.Y0))) rfl rfl rfl (fN .leq .i64 j.Y1 j.Y0 rfl (fun h=>by exact(dN h:cv (true&&((decide (j.X1<=j.X0))==false)) (vi j.Y1)= (vi j.Y1))) (fun h=>by exact(dN h:cv (true&&((decide (j.X1<=j.X0))==false)) (vi j.Y0)= (vi j.Y0))) rfl) (RL.pick (decide (j.X1<=j.X0)) (vb ((decide (j.X1<=j.X0))||(decide (j.Y1<=j.Y0)))) (oO true) (RL.nt (fU hb (fun hc hb=>?_) fun hc hb=>?_)))))
  rotate_left
  ·refine RC.skip (cG (aG (RC.region (RL.inc hk hm (mv (vi ((ae+1:Nat):Int)) (RL.nil ?_))))))
   obtain rfl:=oi hb
   exact⟨rfl,o.sp 5 [4]⟩
  refine RC.sr (aR (vi 13) (RL.nt (RC.rb (cO ?_))))
  obtain rfl:=oi hb
  exact⟨rfl,cS ⟨rfl,o.drop 5⟩⟩
 ·intro r U w e hK
  subst e
  refine cO ?_
  obtain rfl:=oi hb
  exact hK
 rintro af _ w rfl ⟨O,rfl,o⟩
 rw [Fo.gw] at hb
 refine aG (RC.sr (aR (vi 0) (RL.nt (RC.ret ?_))))
 obtain rfl:=oi hb
 exact cS ⟨rfl,o.drop 1⟩
theorem sD {p0: (List aH)} {res: (List aH)} (j:Holds E w V) (h0:V[i0]? =some (rd v0 p0)) (o:iz N p0=some res):
    Calls bN 119 [v0].toArray w (iv (mh E V res)):=by
 unfold iz at o
 refine enter Tryz.func119 zr zr ?_
 have j:=j.dup (i0+0) h0
 refine RC.sr (aR (.slice none 0 0) (RL.nq (RC.sr (mv v0 (RL.Jq (i:=0) zt zr j zr zr zr sB (RL.nt (RC.cond (b:=(Hp v0)) zr (fun hc=>?_) (fun hc=>?_))))))))
 ·have hx:=j.Lb (i:=0) rfl hc
  rw [hx] at o
  replace o:some ([]: (List aH))=_:=o
  refine RC.sr (aR (.slice none 0 0) (RL.nt (RC.rt ?_)))
  obtain rfl:=oi o
  have j:=j.dC aH 75
  exact cS (j.pk 2 [0])
 refine RC.sx (RL.fD ([]: (List aH)) j [] mZ pT (fun M hs g=>zt) fun ae w j=>(mv v0 ?_))
 obtain⟨af,ab,o⟩:=bd o
 refine RL.app 0 1 j EX ab fun ad w j=>?_
 refine aR ad (RL.nt (RC.ret ?_))
 obtain rfl:=oi o
 exact cS (j.pk 2 [0])
theorem vn {p0 p1:aH} (j:Holds E w V) (h0:V[i0]? =some (rd v0 p0)) (h1:V[i1]? =some (rd v1 p1)) (o:iZ N p0 p1=some res):
    Calls bN 121 [v0,v1].toArray w (iv (aV E V res)):=by
 unfold iZ at o
 refine enter Tryz.func121 zr zr ?_
 have j:=(j.dup (i0+0) h0).dup (i1+1) h1
 refine RC.sr (RL.cX 1 v0 j zr fun aa w j=>?_)
 refine RL.cX 1 v1 j zr fun ab w j=>?_
 refine aR (vi 0) (RL.ns (RL.bT zr lE (RL.aX 1 j zr gv dH (RL.bT zr lE (RL.aX 0 j zr gv dH (RL.kr p0.Y0 p1.Y0 (aR (vi (IntKind.wrap .i64 (p0.Y0 - p1.Y0))) (RL.nt ?_))))))))
 refine RC.ret ?_
 obtain rfl:=oi o
 exact cS ⟨rfl,j.drop 4⟩
def sE (E:World) (V:List HP) (r: (List Int)) (U:Nat->Value) (w:World):Prop:=nB bN 61 Tryz.f123 (lG E V r) .ret U w
theorem rQ {p0: (List Int)} {res: (List Int)} (j:Holds E w (own 3 v0 p0::V)) (o:gh N p0=some res):
    Calls bN 123 [v0].toArray w (iv (lG E V res)):=by
 unfold gh at o
 refine enter Tryz.func123 zr zr (RC.sr (aR (.slice none 0 0) (RL.nq (RC.sr (mv v0 (RL.eH 0 p0 j m0 (ic ((p0.length:Int)) 2 (RL.nt ?_))))))))
 refine fU o (fun hc o=>?_) fun hc o=>?_
 ·refine RC.sr (mv v0 (aR v0 (RL.nt (RC.rt ?_))))
  obtain rfl:=oi o
  exact cS (j.pk 1 [0])
 refine RC.ss (RC.sr (aR (vi 1) (RL.nt ?_)))
 obtain⟨a2,hN,o⟩:=bd o
 refine RC.iter (fun(ab:Int)=>SH E V [(0,v0),(3,vi ab)] [own 3 v0 p0]) (fun(ab:Int)=>SH E V [(0,v0)] [own 3 v0 p0]) (sE E V) hN ?_ ?_ ?_ ?_
 ·exact j.sp 1 [0]
 ·rintro ab fl _ w ⟨O,rfl,j⟩ o
  refine RC.seq (RC.sr (mv (vi ab) (mv v0 (RL.eH 0 p0 j m0 (ic ab ((p0.length:Int)) (RL.nt (fU o (fun hc o=>?_) fun hc o=>?_)))))))
  rotate_left
  ·refine RC.ex ?_
   obtain rfl:=oi o
   exact⟨rfl,j.sp 1 [0]⟩
  refine RC.ss (RC.block (RC.seq (RC.y5 mixed ?_)))
  have j:=j.drew
  refine RO.go (mv v0 (RO.nx (mv (vi ab) (RO.nx ?_))))
  obtain⟨au,al,o⟩:=bd o
  refine RL.bO 0 j zr zr fF al (RO.nx (RL.eJ (f:=(fun x=>x)) 0 j (ku 0 j al 0) (bC al).2.1 Fd.self dH (RO.nx (mv v0 (RO.nx (mv (vi ab) (RO.nx (RL.kr ab 1 ?_))))))))
  refine RO.nx ?_
  obtain⟨av,an,o⟩:=bd o
  refine RL.bO 0 j zr zr fF an (RO.nx (RL.eJ (f:=(fun x=>x)) 0 j (ku 0 j an 0) (bC an).2.1 Fd.self dH (RO.nx (ic au av (RO.last (aG (fU o (fun hc o=>?_) fun hc o=>?_)))))))
  rotate_left
  ·refine RC.skip (cG (aG (RC.region (mv (vi ab) (RL.kr ab 1 (aR (vi (IntKind.wrap .i64 (ab+1))) (RL.nil ?_)))))))
   obtain rfl:=oi o
   exact⟨rfl,j.sp 1 [0]⟩
  refine RC.sr (mv v0 (mv (vi ab) ?_))
  obtain⟨a3,af,o⟩:=bd o
  refine RL.view 0 ab zr j zr zr fF af (aR (vw v0 (Int.toNat ab) 1) (RL.nq (RC.sr (aR (vi 1) (RL.nt ?_)))))
  obtain⟨a4,hN,o⟩:=bd o
  refine RC.iter (fun(aa: (List Int)×Int×Int)=>SH E V [(0,v0),(3,vi aa.2.1),(4,(vw v0 (Int.toNat ab) 1)),(5,vi aa.2.2)] [own 3 v0 aa.1]) (fun(aa: (List Int)×Int×Int)=>SH E V [(0,v0),(3,vi aa.2.1)] [own 3 v0 aa.1]) (fun(r:Empty) _ _=>r.elim) hN ?_ ?_ ?_ ?_
  ·exact j.sp 1 [0]
  ·rintro aa fl _ w ⟨O,rfl,j⟩ o
   refine RC.seq (RC.sr (mv (vi aa.2.2) (mv (vw v0 (Int.toNat ab) 1) (RL.IM (i:=0) (l:=aa.1) zt zr j zr zr m0 (ic aa.2.2 ((((aa.1.length - Int.toNat ab):Nat):Int)) (RL.nt (fU o (fun hc o=>?_) fun hc o=>?_)))))))
   rotate_left
   ·refine RC.ex ?_
    obtain rfl:=oi o
    exact⟨rfl,j.sp 1 [0]⟩
   refine RC.ss (RC.block (RC.seq (RC.y5 mixed ?_)))
   have j:=j.drew
   refine RO.go (mv (vw v0 (Int.toNat ab) 1) (RO.nx (mv (vi aa.2.2) (RO.nx ?_))))
   obtain⟨aw,ag,o⟩:=bd o
   refine RL.FO 0 ab zr j zr zr zr fF (C8 af) (jy ag).1 (jy ag).2 (RO.nx (RL.eJ (f:=(fun x=>x)) 0 j (ku 0 j (jy ag).2 0) (bC (jy ag).2).2.1 Fd.self dH (RO.nx (mv (vw v0 (Int.toNat ab) 1) (RO.nx (mv (vi aa.2.2) (RO.nx (RL.kr aa.2.2 1 ?_))))))))
   refine RO.nx ?_
   obtain⟨ax,ah,o⟩:=bd o
   refine RL.FO 0 ab zr j zr zr zr fF (C8 af) (jy ah).1 (jy ah).2 (RO.nx (RL.eJ (f:=(fun x=>x)) 0 j (ku 0 j (jy ah).2 0) (bC (jy ah).2).2.1 Fd.self dH (RO.nx (ic aw ax (RO.last (aG ?_))))))
   obtain⟨ai,hj,o⟩:=bd o
   refine RC.jn (fun(ai: (List Int)×Int)=>SH E V [(0,v0),(3,vi ai.2),(4,(vw v0 (Int.toNat ab) 1)),(5,vi aa.2.2)] [own 3 v0 ai.1]) ai ?_ ?_
   ·refine fU hj (fun hc hj=>?_) fun hc hj=>?_
    rotate_left
    ·refine RC.skip ?_
     obtain rfl:=oi hj
     exact⟨rfl,j.sp 1 [0]⟩
    refine RC.sr (mv v0 (mv (vi aa.2.1) (mv (vw v0 (Int.toNat ab) 1) (mv (vi aa.2.2) ?_))))
    obtain⟨ay,aj,hj⟩:=bd hj
    refine RL.FO 0 ab zr j zr zr zr fF (C8 af) (jy aj).1 (jy aj).2 (RL.eJ (f:=(fun x=>x)) 0 j (ku 0 j (jy aj).2 0) (bC (jy aj).2).2.1 Fd.self dH ?_)
    obtain⟨a5,ao,hj⟩:=bd hj
    refine RL.bO 0 j zr zr fF ao ?_
    have j:=j.sc Int ay
    refine RL.iJ (f:=(fun _ y=>y)) 1 0 j (ku 1 j ao 0) (bC ao).2.1 zr Fs.self dH fun w j=>?_
    refine RL.nt (RC.region (mv (vi aa.2.1) (RL.kr aa.2.1 1 (aR (vi (IntKind.wrap .i64 (aa.2.1+1))) (RL.nil ?_)))))
    obtain rfl:=oi hj
    exact⟨rfl,j.sp 2 [1]⟩
   rintro _ w ⟨O,rfl,j⟩
   refine cG (aG (RC.region (mv (vi aa.2.2) (RL.kr aa.2.2 1 (aR (vi (IntKind.wrap .i64 (aa.2.2+1))) (RL.nil ?_))))))
   obtain rfl:=oi o
   exact⟨rfl,j.sp 1 [0]⟩
  ·intro r _ _ _ _
   exact r.elim
  rintro aa _ w rfl ⟨O,rfl,j⟩
  rw [Fo.gw] at o
  refine aG (RC.sr (mv v0 (mv (vi aa.2.1) ?_)))
  obtain⟨a6,aq,o⟩:=bd o
  refine RL.view 0 aa.2.1 zr j zr zr fF aq (RL.BE 0 zt j zr zr wy JH (FP aq) fun w j=>(RL.ns (mv v0 (mv (vi aa.2.1) ?_))))
  obtain⟨Hv,az,o⟩:=bd o
  refine RL.uW 0 zr j zr zr fF (.inr ⟨rfl,zr⟩) (.inl zr) az fun a0 j=>(aR a0 (RL.nt (RC.rb (cO ?_))))
  obtain rfl:=oi o
  exact⟨rfl,cS (j.pk 1 [0])⟩
 ·intro r U w e hK
  subst e
  refine cO ?_
  obtain rfl:=oi o
  exact hK
 rintro ab _ w rfl ⟨O,rfl,j⟩
 rw [Fo.gw] at o
 refine aG (RC.sr (mv v0 (aR v0 (RL.nt (RC.ret ?_)))))
 obtain rfl:=oi o
 exact cS (j.pk 1 [0])
theorem vo {p0:aH} {p1: (List Int)} {res:Bool} (j:Holds E w V) (h0:V[i0]? =some (rd v0 p0)) (h1:V[i1]? =some (pt v1 p1)) (h2:V[i2]? =some (pt v2 p2)) (o:mU N p0 p1 p2=some res):
    Calls bN 125 [v0,v1,v2].toArray w (iv (bH E V res)):=by
 unfold mU at o
 refine enter Tryz.func125 zr zr ?_
 have j:=((j.dup (i0+0) h0).xO (i:=i1+1) h1).xO (i:=i2+2) h2
 refine RC.sr (RL.cX 2 v0 j zr fun ad w j=>?_)
 refine aR (vb false) (RL.nq (RC.y5 mixed ?_))
 have j:=j.drew
 refine RO.go (RL.bT zr oT (RO.nx (RL.aX 0 j zr km dH (RO.nx (RL.cD 2 p1 j fJ fun ae j=>(RO.nx (RL.bU p2 2 j dH (RO.nx ?_))))))))
 obtain⟨aa,ab,o⟩:=bd o
 refine RL.cM 0 j fF ab fun af j=>(RO.nx (RL.bU aa 0 j dH (RO.nx (ic p0.Y1 aa (RO.nx (aR (vb (decide (p0.Y1<=aa))) (RO.last (aG ?_))))))))
 refine RC.ret ?_
 obtain rfl:=oi o
 exact cS ⟨rfl,j.drop 6⟩
def qu (E:World) (V:List HP) (r:Int) (U:Nat->Value) (w:World):Prop:=nB bN 19 Tryz.f140 (aV E V r) .ret U w
theorem pW {p0: (List aH)} {p1:aH->Option Bool} (j:Holds E w V) (h0:V[i0]? =some (rd v0 p0)) (h1:G8 bN E V v1 p1 (fun(r:Bool)=>Value.bool r)) (o:k8 N p0 p1=some res):
    Calls bN 140 [v0,v1].toArray w (iv (aV E V res)):=by
 unfold k8 at o
 refine enter Tryz.func140 zr zr ?_
 have j:=j.dup (i0+0) h0
 refine RC.sr (aR (vi 0) (RL.nq (RC.sr (mv v0 (RL.cC 0 p0 j sB (mv (vi 0) (RL.nt ?_)))))))
 obtain⟨al,hN,o⟩:=bd o
 refine RC.range (fun(aa:Nat) (ab:Unit)=>SH E V [(0,v0),(1,v1),(7,vi p0.length),(8,vi aa)] [rd v0 p0]) (fun(ab:Unit)=>SH E V [] [rd v0 p0]) (qu E V) hN ?_ ?_ ?_ ?_ ?_
 ·exact j.sp 1 [0]
 ·rintro hm ab _ w ⟨O,rfl,j⟩
  refine RC.sr (ic ((p0.length:Int)) ((p0.length:Int)) (RL.nq (RC.dS pD (RC.ex ?_))))
  exact⟨rfl,j.sp 1 [0]⟩
 ·rintro hm aa ab fl _ w hk ⟨O,rfl,j⟩ o
  refine RC.sr (ic ((aa:Int)) ((p0.length:Int)) (RL.nq (RC.dR (pC hk) (RC.ss (RC.bs (mv (vi aa) (aR (vi aa) (RL.ns ?_))))))))
  refine mv v1 (mv v0 (mv (vi aa) ?_))
  obtain⟨ag,ah,o⟩:=bd o
  refine RL.cM 0 j mZ ah fun ao j=>(RL.cD 0 ag j jd fun aq j=>?_)
  obtain⟨ar,ai,o⟩:=bd o
  refine RL.Aj 0 zr j zr h1 3 zr zr zr ai fun w j=>(RL.nt (fU o (fun hc o=>?_) fun hc o=>?_))
  rotate_left
  ·refine RC.skip (cG (aG (RC.region (RL.inc hk hm (mv (vi ((aa+1:Nat):Int)) (RL.nil ?_))))))
   obtain rfl:=oi o
   exact⟨rfl,j.sp 3 [2]⟩
  refine RC.sr (mv (vi aa) (aR (vi aa) (RL.nt (RC.rb (cO ?_)))))
  obtain rfl:=oi o
  exact⟨rfl,cS ⟨rfl,j.drop 3⟩⟩
 ·intro r U w e hK
  subst e
  refine cO ?_
  obtain rfl:=oi o
  exact hK
 rintro ab _ w rfl ⟨O,rfl,j⟩
 rw [Fo.gw] at o
 refine aG (RC.sr (aR (vi (-1)) (RL.nt (RC.ret ?_))))
 obtain rfl:=oi o
 exact cS ⟨rfl,j.drop 1⟩
def lH (E:World) (V:List HP) (v0:Value) (p0: (List aH)) (res:Int) (v:Value) (w:World):Prop:=v= (vi res)/\Holds E w ([own 75 v0 p0]++V)
def oX (E:World) (V:List HP) (v0:Value) (p0: (List aH)) (r:Int) (U:Nat->Value) (w:World):Prop:=nB bN 19 Tryz.f140 (lH E V v0 p0 r) .ret U w
theorem oF {p0: (List aH)} {p1:aH->Option Bool} (o:Holds E w (own 75 v0 p0::V)) (h1:G8 bN E V v1 p1 (fun(r:Bool)=>Value.bool r)) (j:jW N p0 p1=some res):
    Calls bN 140 [v0,v1].toArray w (iv (lH E V v0 p0 res)):=by
 unfold jW at j
 refine enter Tryz.func140 zr zr (RC.sr (aR (vi 0) (RL.nq (RC.sr (mv v0 (RL.eH 0 p0 o sB (mv (vi 0) (RL.nt ?_))))))))
 obtain⟨ak,hN,j⟩:=bd j
 refine RC.range (fun(aa:Nat) (ab:Unit)=>SH E V [(0,v0),(1,v1),(7,vi p0.length),(8,vi aa)] [own 75 v0 p0]) (fun(ab:Unit)=>SH E V [(0,v0)] [own 75 v0 p0]) (oX E V v0 p0) hN ?_ ?_ ?_ ?_ ?_
 ·exact o.sp 1 [0]
 ·rintro hm ab _ w ⟨O,rfl,o⟩
  refine RC.sr (ic ((p0.length:Int)) ((p0.length:Int)) (RL.nq (RC.dS pD (RC.ex ?_))))
  exact⟨rfl,o.sp 1 [0]⟩
 ·rintro hm aa ab fl _ w hk ⟨O,rfl,o⟩ j
  refine RC.sr (ic ((aa:Int)) ((p0.length:Int)) (RL.nq (RC.dR (pC hk) (RC.ss (RC.bs (mv (vi aa) (aR (vi aa) (RL.ns ?_))))))))
  refine mv v1 (mv v0 (mv (vi aa) ?_))
  obtain⟨an,ad,j⟩:=bd j
  refine RL.bO 0 o zr zr mZ ad (RL.gA (f:=(fun x=>x)) 0 o (ku 0 o ad 0) (bC ad).2.1 Fd.self jd fun ao o=>?_)
  obtain⟨aq,ah,j⟩:=bd j
  refine RL.Aj 0 zr o zr h1 2 zr zr zr ah fun w o=>(RL.nt (fU j (fun hc j=>?_) fun hc j=>?_))
  rotate_left
  ·refine RC.skip (cG (aG (RC.region (RL.inc hk hm (mv (vi ((aa+1:Nat):Int)) (RL.nil ?_))))))
   obtain rfl:=oi j
   exact⟨rfl,o.sp 2 [1]⟩
  refine RC.sr (mv (vi aa) (aR (vi aa) (RL.nt (RC.rb (cO ?_)))))
  obtain rfl:=oi j
  exact⟨rfl,cS ⟨rfl,o.pk 2 [1]⟩⟩
 ·intro r U w e hK
  subst e
  refine cO ?_
  obtain rfl:=oi j
  exact hK
 rintro ab _ w rfl ⟨O,rfl,o⟩
 rw [Fo.gw] at j
 refine aG (RC.sr (aR (vi (-1)) (RL.nt (RC.ret ?_))))
 obtain rfl:=oi j
 exact cS ⟨rfl,o.pk 1 [0]⟩
theorem pw {p0: (List aH)} {p1:aH->Option Bool} {res: (List aH)} (j:Holds E w (own 75 v0 p0::V)) (h1:G8 bN E V v1 p1 (fun(r:Bool)=>Value.bool r)) (o:gC N p0 p1=some res):
    Calls bN 124 [v0,v1].toArray w (iv (mh E V res)):=by
 unfold gC at o
 refine enter Tryz.func124 zr zr (RC.sr (aR (.slice none 0 0) (RL.ns (mv v0 (mv v1 ?_)))))
 have j:=j.pull 0
 obtain⟨ad,aj,o⟩:=bd o
 refine RL.call zt zr H8 [v0,v1] zr (aF (oF N j (h1.lift 1 zr) aj) ?_)
 rintro _ w ⟨rfl,j⟩
 refine aR (vi ad) (RL.nq (RC.sr (mv (vi ad) (ic ad ((-1)) (RL.nt (fU o (fun hc o=>?_) fun hc o=>?_))))))
 ·refine RC.sr (mv v0 (aR v0 (RL.nt (RC.rt ?_))))
  obtain rfl:=oi o
  exact cS (j.pk 2 [0])
 refine RC.ss (RC.sr (mv (vi ad) (RL.kr ad 1 (aR (vi (IntKind.wrap .i64 (ad+1))) (RL.nt ?_)))))
 obtain⟨ar,hN,o⟩:=bd o
 refine RC.iter (fun(aa: (List aH)×Int×Int)=>SH E V [(0,v0),(1,v1),(5,vi aa.2.1),(6,vi aa.2.2)] [own 75 v0 aa.1]) (fun(aa: (List aH)×Int×Int)=>SH E V [(0,v0),(5,vi aa.2.1)] [own 75 v0 aa.1]) (fun(r:Empty) _ _=>r.elim) hN ?_ ?_ ?_ ?_
 ·exact j.sp 2 [0]
 ·rintro aa fl _ w ⟨O,rfl,j⟩ o
  refine RC.seq (RC.sr (mv (vi aa.2.2) (mv v0 (RL.eH 0 aa.1 j sB (ic aa.2.2 ((aa.1.length:Int)) (RL.nt (fU o (fun hc o=>?_) fun hc o=>?_)))))))
  rotate_left
  ·refine RC.ex ?_
   obtain rfl:=oi o
   exact⟨rfl,j.sp 1 [0]⟩
  refine RC.ss (RC.bs (mv v0 (mv (vi aa.2.2) ?_)))
  obtain⟨av,ag,o⟩:=bd o
  refine RL.bO 0 j zr zr mZ ag (RL.gA (f:=(fun x=>x)) 0 j (ku 0 j ag 0) (bC ag).2.1 Fd.self jd fun aw j=>?_)
  refine RL.alloc j pT.z fun ax w j=>?_
  refine RL.bM 0 j 1 zr jd fun w j=>?_
  refine RL.ns (mv v1 (RL.aS (f:=(fun x=>x)) 0 j zr Fd.self jd fun ay j=>?_))
  obtain⟨al,an,o⟩:=bd o
  refine RL.Aj 0 zr j zr h1 4 zr zr zr an fun w j=>(RL.not al (RL.nt ?_))
  obtain⟨af,hj,o⟩:=bd o
  refine RC.jn (fun(af: (List aH)×Int)=>SH E V [(0,v0),(1,v1),(5,vi af.2),(6,vi aa.2.2)] [own 75 v0 af.1]) af ?_ ?_
  ·refine fU hj (fun hc hj=>?_) fun hc hj=>?_
   rotate_left
   ·refine RC.skip ?_
    obtain rfl:=oi hj
    exact⟨rfl,j.sp 4 [3]⟩
   refine RC.sr (mv v0 (mv (vi aa.2.1) (RL.aS (f:=(fun x=>x)) 1 j zr Fd.self jd fun az j=>?_)))
   obtain⟨a0,ah,hj⟩:=bd hj
   refine RL.bO 4 j zr zr mZ ah (RL.iJ (f:=(fun _ y=>y)) 4 0 j (ku 4 j ah 0) (bC ah).2.1 zr Fs.self jd fun w j=>?_)
   refine RL.nt (RC.region (mv (vi aa.2.1) (RL.kr aa.2.1 1 (aR (vi (IntKind.wrap .i64 (aa.2.1+1))) (RL.nil ?_)))))
   obtain rfl:=oi hj
   exact⟨rfl,j.sp 5 [4]⟩
  rintro _ w ⟨O,rfl,j⟩
  refine cG (aG (RC.region (mv (vi aa.2.2) (RL.kr aa.2.2 1 (aR (vi (IntKind.wrap .i64 (aa.2.2+1))) (RL.nil ?_))))))
  obtain rfl:=oi o
  exact⟨rfl,j.sp 1 [0]⟩
 ·intro r _ _ _ _
  exact r.elim
 rintro aa _ w rfl ⟨O,rfl,j⟩
 rw [Fo.gw] at o
 refine aG (RC.sr (mv v0 (mv (vi aa.2.1) ?_)))
 obtain⟨a1,ai,o⟩:=bd o
 refine RL.view 0 aa.2.1 zr j zr zr mZ ai (RL.BE 0 zt j zr zr EX Li (FP ai) fun w j=>(RL.ns (mv v0 (mv (vi aa.2.1) ?_))))
 obtain⟨a2,ao,o⟩:=bd o
 refine RL.uW 0 zr j zr zr mZ (.inr ⟨rfl,zr⟩) (.inl zr) ao fun aq j=>(aR aq (RL.nt (RC.ret ?_)))
 obtain rfl:=oi o
 exact cS (j.pk 1 [0])
theorem rR {p0 p1:aH} (j:Holds E w V) (h0:V[i0]? =some (rd v0 p0)) (h1:V[i1]? =some (rd v1 p1)) (o:gj N p0 p1=some res):
    Calls bN 162 [v0,v1].toArray w (iv (aV E V res)):=by
 unfold gj at o
 refine enter Tryz.func162 zr zr ?_
 have j:=(j.dup (i0+0) h0).dup (i1+1) h1
 refine RC.sr (RL.cX 1 v0 j zr fun aa w j=>?_)
 refine RL.cX 1 v1 j zr fun ab w j=>?_
 refine aR (vi 0) (RL.ns (RL.bT zr kJ (RL.aX 1 j zr fV dH (RL.bT zr kJ (RL.aX 0 j zr fV dH (RL.kr p0.X0 p1.X0 (aR (vi (IntKind.wrap .i64 (p0.X0 - p1.X0))) (RL.nt ?_))))))))
 refine RC.ret ?_
 obtain rfl:=oi o
 exact cS ⟨rfl,j.drop 4⟩
def vq (E:World) (V:List HP) (v0:Value) (res: (List Int)×(List aH)) (v:Value) (w:World):Prop:=Holds E w ([own 3 v res.1,own 75 v0 res.2]++V)
theorem uy {p0: (List aH)} {res: (List Int)×(List aH)} (j:Holds E w (own 75 v0 p0::V)) (hb:iH N p0=some res):
    Calls bN 127 [v0].toArray w (iv (vq E V v0 res)):=by
 unfold iH at hb
 refine enter Tryz.func127 zr zr (RC.sr (aR (.slice none 0 0) (RL.ns (mv v0 ?_))))
 obtain⟨af,a1,hb⟩:=bd hb
 have j:=j.pull 0
 refine RL.call zt zr H7 [v0,(.func (.func 162) #[] #[])] zr (aF (Ej Tryz.lay120 aH zr jd.Hh jd.sz JL (fun j hi o hr=>rR N j hi o hr) j a1) ?_)
 rintro _ w ⟨rfl,j⟩
 refine RL.ns (aR (.slice none 0 0) (RL.nq (RC.sr (mv v0 (RL.eH 0 af j sB (mv (vi 0) (RL.nt ?_)))))))
 have j:=j.dC Int 3
 obtain⟨aa,hN,hb⟩:=bd hb
 refine RC.fold (fun(ah:Nat) (aa: (List Int)) U w=>∃av:Value,SH E V [(0,v0),(3,av),(9,v0),(10,vi af.length),(11,vi ah)] [own 75 v0 af,own 3 av aa] U w) (fun(aa: (List Int)) U w=>∃ai:Value,SH E V [(0,v0),(3,ai)] [own 75 v0 af,own 3 ai aa] U w) hN ?_ ?_ ?_ ?_
 ·exact⟨(.slice none 0 0),j.sp 3 [1,0]⟩
 ·rintro hm aa _ w ⟨a3,O,rfl,j⟩
  refine RC.sr (ic ((af.length:Int)) ((af.length:Int)) (RL.nq (RC.dS pD (RC.ex ?_))))
  exact⟨rfl,a3,j.sp 2 [0,1]⟩
 ·rintro hm ah aa s' _ w hk ⟨ag,O,rfl,j⟩ hb
  refine RC.sr (ic ((ah:Int)) ((af.length:Int)) (RL.nq (RC.dR (pC hk) (RC.ss (RC.bs ?_)))))
  obtain⟨ae,ak,hb⟩:=bd hb
  refine RL.bO 0 j zr zr mZ ak (RL.gA (f:=(fun x=>x)) 0 j (ku 0 j ak 0) (bC ak).2.1 Fd.self jd fun a6 j=>?_)
  refine RL.alloc j pT.z fun ay w j=>?_
  refine RL.bM 0 j 1 zr jd fun w j=>?_
  refine RL.ns (mv ag (RL.eH 3 aa j m0 (RL.kr (aa.length:Int) 1 (aR (vi (IntKind.wrap .i64 ((aa.length:Int) - 1))) (RL.nq ?_)))))
  obtain⟨al,o,hb⟩:=bd hb
  refine RC.jn (fun(al:Bool)=>SH E V [(0,v0),(3,ag),(5,vp ay 0),(6,(vi (IntKind.wrap .i64 ((aa.length:Int) - 1)))),(9,v0),(10,vi af.length),(11,vi ah),(28,vb al)] [own 75 v0 af,own 3 ag aa,bx 75 ay ae]) al ?_ ?_
  ·refine RC.y5 mixed ?_
   have j:=j.drew
   refine RO.go (mv (vi (IntKind.wrap .i64 ((aa.length:Int) - 1))) (RO.nx (ic ((IntKind.wrap .i64 ((aa.length:Int) - 1))) 0 (RO.nx (mv (vb (decide ((IntKind.wrap .i64 ((aa.length:Int) - 1))>=0))) (gG o (fun ab o=>?_) fun ab o=>?_))))))
   rotate_left
   ·refine RO.nx (cB ab (RO.nx (cB ab (RO.nx (cB ab (RO.nx (cB ab (RO.nx ?_))))))))
    refine cB ab (RO.nx (cB ab (RO.nx (cB ab (RO.nx (gH ab (vb false) (RO.last ?_)))))))
    obtain rfl:=oi o
    exact⟨rfl,j.sp 4 [2,3,0]⟩
   refine RO.nx (RL.bT (hg:=(cg ab)) zr kJ (RO.nx (RL.aX (hg:=(cg ab)) 0 j zr fV dH (RO.nx (RL.move ag (cg ab) (RO.nx (RL.move (vi (IntKind.wrap .i64 ((aa.length:Int) - 1))) (cg ab) (RO.nx ?_))))))))
   obtain⟨az,an,o⟩:=bd o
   refine RL.bO (hg:=(cg ab)) 3 j zr zr fF an (RO.nx (RL.eJ (hg:=(cg ab)) (f:=(fun x=>x)) 3 j (ku 3 j an 0) (bC an).2.1 Fd.self dH (RO.nx (RL.lr ae.X0 az (cg ab) (RO.nx (gH ab (vb (decide (ae.X0<=az))) (RO.last ?_)))))))
   obtain rfl:=oi o
   exact⟨rfl,j.sp 4 [2,3,0]⟩
  rintro _ w ⟨O,rfl,j⟩
  refine aG ?_
  obtain⟨ao,o,hb⟩:=bd hb
  refine RC.jn (fun(ao: (List Int)) U w=>∃aj:Value,SH E V [(0,v0),(3,aj),(9,v0),(10,vi af.length),(11,vi ah)] [own 75 v0 af,own 3 aj ao] U w) ao ?_ ?_
  ·refine fU o (fun hc o=>?_) fun hc o=>?_
   rotate_left
   ·refine RC.region (mv ag (RL.bT zr kJ (RL.aX 2 j zr fV dH (RL.bT zr lF (RL.aX 2 j zr gL dH ?_)))))
    have j:=(j.sc Int ae.X0).sc Int ae.X1
    refine RL.fD ([ae.X0,ae.X1]: (List Int)) j [(vi ae.X0),(vi ae.X1)] fF Hd (fun M hs g=>⟨(g.sat 1 _ zr).1,⟨(g.sat 0 _ zr).1,zt⟩⟩) fun a7 w j=>?_
    have j:=j.freeze 0
    obtain⟨a8,a5,o⟩:=bd o
    refine RL.app 4 0 j wy a5 fun a0 w j=>?_
    refine aR a0 (RL.nil ?_)
    obtain rfl:=oi o
    exact⟨rfl,a0,j.sp 6 [3,4]⟩
   refine RC.Bj mixed [0,0,0,0,0,0,0,0,0,0,2] [0,1,2,3,4,5,6,7,8,9,10] ?_
   have j:=j.drew
   refine DP.e0 zr (mv ag (bR zr (mv (vi (IntKind.wrap .i64 ((aa.length:Int) - 1))) (bR zr (mv ag (bR zr (mv (vi (IntKind.wrap .i64 ((aa.length:Int) - 1))) (bR zr ?_))))))))
   obtain⟨aq,ar,o⟩:=bd o
   refine RL.bO 1 j zr zr fF ar (bR zr (RL.eJ (f:=(fun x=>x)) 1 j (ku 1 j ar 0) (bC ar).2.1 Fd.self dH (bR zr (RL.bT zr lF (bR zr (RL.aX 2 j zr gL dH (bR zr (RL.max aq ae.X1 ?_))))))))
   refine bR zr ?_
   obtain⟨a9,au,o⟩:=bd o
   refine RL.bO 1 j zr zr fF au (u6 zr ?_)
   have j:=j.sc Int (if aq<ae.X1 then ae.X1 else aq)
   refine RL.iJ (f:=(fun _ y=>y)) 2 0 j (ku 2 j au 0) (bC au).2.1 zr Fs.self dH fun w j=>?_
   refine DP.d2 zt (DP.z ?_)
   obtain rfl:=oi o
   exact⟨rfl,ag,j.sp 4 [1,2]⟩
  rintro _ w ⟨aj,O,rfl,j⟩
  refine cG (aG (RC.region (RL.inc hk hm (mv (vi ((ah+1:Nat):Int)) (RL.nil ?_)))))
  obtain rfl:=oi hb
  exact⟨rfl,aj,j.sp 2 [0,1]⟩
 rintro _ w ⟨ai,O,rfl,j⟩
 refine aG (RC.sr (mv ai (aR ai (RL.nt (RC.ret ?_)))))
 obtain rfl:=oi hb
 exact cS (j.pk 2 [1,0])
def uz (E:World) (V:List HP) (r:Bool) (U:Nat->Value) (w:World):Prop:=nB bN 26 Tryz.f161 (bH E V r) .ret U w
theorem tP {p0: (List Int)} {p1: (List Int)} {res:Bool} (j:Holds E w V) (h0:V[i0]? =some (rd v0 p0)) (h1:V[i1]? =some (rd v1 p1)) (o:lX N p0 p1=some res):
    Calls bN 161 [v0,v1].toArray w (iv (bH E V res)):=by
 unfold lX at o
 refine enter Tryz.func161 zr zr ?_
 have j:=(j.dup (i0+0) h0).dup (i1+1) h1
 refine RC.sr (aR (vb false) (RL.nq (RC.sr (mv v0 (RL.cC 1 p0 j m0 (mv v1 (RL.cC 0 p1 j m0 (ic ((p0.length:Int)) ((p1.length:Int)) ?_))))))))
 refine RL.nt (fU o (fun hc o=>?_) fun hc o=>?_)
 ·refine RC.sr (aR (vb false) (RL.nt (RC.rt ?_)))
  obtain rfl:=oi o
  exact cS ⟨rfl,j.drop 2⟩
 refine RC.ss (RC.sr (mv v0 (RL.cC 1 p0 j m0 (mv (vi 0) (RL.nt ?_)))))
 obtain⟨an,hN,o⟩:=bd o
 refine RC.range (fun(aa:Nat) (ab:Unit)=>SH E V [(0,v0),(1,v1),(12,vi p0.length),(13,vi aa)] [rd v0 p0,rd v1 p1]) (fun(ab:Unit)=>SH E V [] [rd v0 p0,rd v1 p1]) (uz E V) hN ?_ ?_ ?_ ?_ ?_
 ·exact j.sp 2 [1,0]
 ·rintro hm ab _ w ⟨O,rfl,j⟩
  refine RC.sr (ic ((p0.length:Int)) ((p0.length:Int)) (RL.nq (RC.dS pD (RC.ex ?_))))
  exact⟨rfl,j.sp 2 [0,1]⟩
 ·rintro hm aa ab fl _ w hk ⟨O,rfl,j⟩ o
  refine RC.sr (ic ((aa:Int)) ((p0.length:Int)) (RL.nq (RC.dR (pC hk) (RC.ss (RC.bs (mv (vi aa) (aR (vi aa) (RL.nq ?_))))))))
  refine RC.y5 mixed ?_
  have j:=j.drew
  refine RO.go (mv v0 (RO.nx (mv (vi aa) (RO.nx ?_))))
  obtain⟨ag,aj,o⟩:=bd o
  refine RL.cM 0 j fF aj fun aq j=>(RO.nx (RL.bU ag 0 j dH (RO.nx (mv v1 (RO.nx (mv (vi aa) (RO.nx ?_)))))))
  obtain⟨ah,ak,o⟩:=bd o
  refine RL.cM 2 j fF ak fun ar j=>(RO.nx (RL.bU ah 0 j dH (RO.nx (ic ag ah (RO.last (aG (fU o (fun hc o=>?_) fun hc o=>?_)))))))
  rotate_left
  ·refine RC.skip (cG (aG (RC.region (RL.inc hk hm (mv (vi ((aa+1:Nat):Int)) (RL.nil ?_))))))
   obtain rfl:=oi o
   exact⟨rfl,j.sp 4 [2,3]⟩
  refine RC.sr (aR (vb false) (RL.nt (RC.rb (cO ?_))))
  obtain rfl:=oi o
  exact⟨rfl,cS ⟨rfl,j.drop 4⟩⟩
 ·intro r U w e hK
  subst e
  refine cO ?_
  obtain rfl:=oi o
  exact hK
 rintro ab _ w rfl ⟨O,rfl,j⟩
 rw [Fo.gw] at o
 refine aG (RC.sr (aR (vb true) (RL.nt (RC.ret ?_))))
 obtain rfl:=oi o
 exact cS ⟨rfl,j.drop 2⟩
theorem pJ {p0: (List aA)} {p1:aA} {res: (List aA)} (j:Holds E w (own 188 v0 p0::V)) (h1:V[i1]? =some (rd v1 p1)) (hb:il N p0 p1=some res):
    Calls bN 126 [v0,v1].toArray w (iv (l7 E V res)):=by
 unfold il at hb
 refine enter Tryz.func126 zr zr ?_
 have j:=j.dup (i1+1) h1
 refine RC.sr (RL.cX 0 v1 j zr fun ae w j=>?_)
 refine aR (.slice none 0 0) (RL.nq (RC.sr (RL.bT zr lk (RL.aS 0 j zr dK fJ fun aw j=>(RL.cC 0 p1.Xs j m0 (ic ((p1.Xs.length:Int)) 0 (mv (vb ((p1.Xs.length:Int)==0)) (RL.gs true ((p1.Xs.length:Int)==0) (vp ae 1) zr zr zr (f9 mB) ?_))))))))
 refine RL.gs true ((p1.Xs.length:Int)==0) (vi p1.Y1) rfl rfl rfl (cT 1 rfl j (fun h=>by exact(dN h:cv (true&&(((p1.Xs.length:Int)==0)==false)) (vp ae 1)= (vp ae 1))) rfl eY dH) (RL.gs true ((p1.Xs.length:Int)==0) (vp ae 0) rfl rfl rfl (f9 oD) (RL.gs true ((p1.Xs.length:Int)==0) (vi p1.Y0) rfl rfl rfl (cT 1 rfl j (fun h=>by exact(dN h:cv (true&&(((p1.Xs.length:Int)==0)==false)) (vp ae 0)= (vp ae 0))) rfl ga dH) (RL.gs true ((p1.Xs.length:Int)==0) (vb (decide (p1.Y1<=p1.Y0))) rfl rfl rfl (fN .leq .i64 p1.Y1 p1.Y0 rfl (fun h=>by exact(dN h:cv (true&&(((p1.Xs.length:Int)==0)==false)) (vi p1.Y1)= (vi p1.Y1))) (fun h=>by exact(dN h:cv (true&&(((p1.Xs.length:Int)==0)==false)) (vi p1.Y0)= (vi p1.Y0))) rfl) (RL.pick ((p1.Xs.length:Int)==0) (vb (((p1.Xs.length:Int)==0)||(decide (p1.Y1<=p1.Y0)))) (oO true) (RL.nt (fU hb (fun hc hb=>?_) fun hc hb=>?_))))))
 ·refine RC.sr (mv v0 (aR v0 (RL.nt (RC.rt ?_))))
  obtain rfl:=oi hb
  exact cS (j.pk 4 [3])
 refine RC.ss (RC.sr (mv v0 (RL.eH 3 p0 j ot (RL.kr (p0.length:Int) 1 (aR (vi (IntKind.wrap .i64 ((p0.length:Int) - 1))) (RL.nq ?_))))))
 obtain⟨aj,hj,hb⟩:=bd hb
 refine RC.jn (fun(aj:Bool)=>SH E V [(0,v0),(3,vp ae 0),(5,(vi (IntKind.wrap .i64 ((p0.length:Int) - 1)))),(42,vb aj)] [own 188 v0 p0,bx 188 ae p1]) aj ?_ ?_
 ·refine RC.Bj mixed [0,0,0,0,0,0,0,0,0,0,0,0,0,0,0,0,0,0,0,0,2,0] [0,1,2,3,4,5,6,7,8,9,10,11,12,13,14,15,16,17,18,19,20,21] ?_
  have j:=j.drew
  refine DP.e0 zr (mv (vi (IntKind.wrap .i64 ((p0.length:Int) - 1))) (bR zr (ic ((IntKind.wrap .i64 ((p0.length:Int) - 1))) 0 (bR zr (mv (vb (decide ((IntKind.wrap .i64 ((p0.length:Int) - 1))>=0))) (DP.d0 (gG hj (fun o hj=>?_) fun o hj=>?_)))))))
  rotate_left
  ·refine DP.e0 zr (cB o (bR zr (cB o (bR zr (cB o (bR zr (cB o (bR zr ?_))))))))
   refine cB o (bR zr (cB o (bR zr (cB o (bR zr (cB o (bR zr (gH o (vb false) ?_))))))))
   refine bR zr (mv (vb false) (bR zr (jA (bR zr (jA (bR zr (jA (bR zr ?_))))))))
   refine jA (bR zr (jA (bR zr (jA (bR zr (jA (u6 zr (jA ?_))))))))
   refine zb zr (RL.pick false (vb false) zr (DP.d0 (DP.z ?_)))
   obtain rfl:=oi hj
   exact⟨rfl,j.sp 4 [3,1]⟩
  refine DP.e0 zr (RL.move v0 (cg o) (bR zr (RL.move (vi (IntKind.wrap .i64 ((p0.length:Int) - 1))) (cg o) (bR zr ?_))))
  obtain⟨ak,af,hj⟩:=bd hj
  refine RL.bO (hg:=(cg o)) 3 j zr zr kR af (bR zr (RL.nZ (α:=aA) (cg o) (ku 3 j af 0) mB (bR zr (RL.eJ (hg:=(cg o)) 3 j (ku 3 j af 1) (bC af).2.1 eY dH (bR zr (RL.bT (hg:=(cg o)) zr oD (bR zr (RL.aX (hg:=(cg o)) 1 j zr ga dH ?_))))))))
  refine bR zr (RL.lr ak.Y1 p1.Y0 (cg o) (bR zr (gH o (vb (ak.Y1==p1.Y0)) (bR zr (mv (vb (ak.Y1==p1.Y0)) (DP.d0 (gG hj (fun aa hj=>?_) fun aa hj=>?_)))))))
  rotate_left
  ·refine DP.e0 zr (cB aa (bR zr (cB aa (bR zr (cB aa (bR zr (cB aa (bR zr ?_))))))))
   refine cB aa (bR zr (cB aa (bR zr (cB aa (u6 zr (cB aa (zb zr (gH aa (vb false) ?_))))))))
   refine DP.d0 (DP.z ?_)
   obtain rfl:=oi hj
   exact⟨rfl,j.sp 4 [3,1]⟩
  refine DP.e0 zr (RL.move v0 (cg aa) (bR zr (RL.move (vi (IntKind.wrap .i64 ((p0.length:Int) - 1))) (cg aa) (bR zr ?_))))
  obtain⟨ax,ag,hj⟩:=bd hj
  refine RL.bO (hg:=(cg aa)) 3 j zr zr kR ag (bR zr (RL.nZ (α:=aA) (cg aa) (ku 3 j ag 0) lk (bR zr (RL.gA (hg:=(cg aa)) 3 j (ku 3 j ag 2) (bC ag).2.1 dK fJ fun al j=>?_))))
  refine bR zr (RL.bT (hg:=(cg aa)) zr lk (bR zr (RL.aS (hg:=(cg aa)) 2 j zr dK fJ fun an j=>(u6 zr ?_))))
  obtain⟨ao,aq,hj⟩:=bd hj
  refine RL.call (cg aa) zr JN [al,an] zr (aF (tP N (i0:=1) (i1:=0) j zr zr aq) ?_)
  rintro _ w ⟨rfl,j⟩
  refine zb zr (gH aa (vb ao) (DP.d0 (DP.z ?_)))
  obtain rfl:=oi hj
  exact⟨rfl,j.sp 6 [5,3]⟩
 rintro _ w ⟨O,rfl,j⟩
 refine aG (fU hb (fun hc hb=>?_) fun hc hb=>?_)
 rotate_left
 ·refine RC.sx (mv v0 (RL.aS (f:=(fun x=>x)) 1 j zr Fd.self vg fun ar j=>(RL.fD ([p1]: (List aA)) j [ar] kR B5 (fun M hs g=>⟨(g.sat 0 _ zr).1,zt⟩) fun ay w j=>?_)))
  have j:=j.freeze 0
  obtain⟨az,au,hb⟩:=bd hb
  refine RL.app 2 0 j JO au fun av w j=>?_
  refine aR av (RL.nt (RC.ret ?_))
  obtain rfl:=oi hb
  exact cS (j.pk 4 [2])
 refine RC.sr (mv v0 (mv (vi (IntKind.wrap .i64 ((p0.length:Int) - 1))) (RL.bT zr mB (RL.aX 1 j zr eY dH ?_))))
 obtain⟨a0,ah,hb⟩:=bd hb
 refine RL.bO 0 j zr zr kR ah (RL.nZ (α:=aA) zt (ku 0 j ah 0) mB ?_)
 have j:=j.sc Int p1.Y1
 refine RL.iJ 1 0 j (ku 1 j ah 1) (bC ah).2.1 zr n9 dH fun w j=>?_
 refine RL.ns (mv v0 (aR v0 (RL.nt (RC.rt ?_))))
 obtain rfl:=oi hb
 exact cS (j.pk 3 [1])
theorem lI {p0: (List aH)} {res: (List aA)} (j:Holds E w V) (h0:V[i0]? =some (rd v0 p0)) (o:gm N p0=some res):
    Calls bN 73 [v0].toArray w (iv (l7 E V res)):=by
 unfold gm at o
 refine enter Tryz.func73 zr zr ?_
 have j:=j.dup (i0+0) h0
 refine RC.sr (aR (.slice none 0 0) (RL.ns (mv v0 ?_)))
 obtain⟨cd,bm,o⟩:=bd o
 refine RL.call zt zr JD [v0] zr (aF (sD N (i0:=0) j zr bm) ?_)
 rintro ad w j
 refine aR ad (RL.ns (mv ad ?_))
 obtain⟨ag,bn,o⟩:=bd o
 have j:=j.pull 0
 refine RL.call zt zr H7 [ad,(.func (.func 121) #[] #[])] zr (aF (Ej Tryz.lay120 aH zr jd.Hh jd.sz JE (fun j hi hj hr=>vn N j hi hj hr) j bn) ?_)
 rintro _ w ⟨rfl,j⟩
 refine RL.ns (RL.r8 j JF fun af w j=>?_)
 refine RL.nq (RC.sr (mv ad (RL.eH 1 ag j sB (mv (vi 0) (RL.nt ?_)))))
 obtain⟨an,hN,o⟩:=bd o
 refine RC.fold (fun(av:Nat) (an: (List Int)) U w=>∃a5:Value,SH E V [(0,ad),(3,vp af 0),(14,ad),(15,vi ag.length),(16,vi av)] [own 75 ad ag,bc 91 af [a5],own 3 a5 an] U w) (fun(an: (List Int)) U w=>∃al:Value,SH E V [(0,ad),(3,vp af 0)] [own 75 ad ag,bc 91 af [al],own 3 al an] U w) hN ?_ ?_ ?_ ?_
 ·have j:=j.dC Int 3
  exact⟨(.slice none 0 0),j.sp 5 [2,1,0]⟩
 ·rintro hm an _ w ⟨bo,O,rfl,j⟩
  refine RC.sr (ic ((ag.length:Int)) ((ag.length:Int)) (RL.nq (RC.dS pD (RC.ex ?_))))
  exact⟨rfl,bo,j.sp 3 [0,1,2]⟩
 ·rintro hm av an s' _ w hk ⟨bp,O,rfl,j⟩ o
  refine RC.sr (ic ((av:Int)) ((ag.length:Int)) (RL.nq (RC.dR (pC hk) (RC.ss (RC.bs ?_)))))
  obtain⟨ao,a0,o⟩:=bd o
  refine RL.bO 0 j zr zr mZ a0 (RL.gA (f:=(fun x=>x)) 0 j (ku 0 j a0 0) (bC a0).2.1 Fd.self jd fun cf j=>?_)
  refine RL.alloc j pT.z fun ch w j=>?_
  refine RL.bM 0 j 1 zr jd fun w j=>?_
  refine RL.nt (RC.region (RL.bP 3 bp j fJ (RL.bT zr lE (RL.aX 0 j zr gv dH (RL.bT zr oT (RL.aX 0 j zr km dH ?_))))))
  have j:=(j.sc Int ao.Y0).sc Int ao.Y1
  refine RL.fD ([ao.Y0,ao.Y1]: (List Int)) j [(vi ao.Y0),(vi ao.Y1)] fF Hd (fun M hs g=>⟨(g.sat 1 _ zr).1,⟨(g.sat 0 _ zr).1,zt⟩⟩) fun cj w j=>?_
  have j:=j.freeze 0
  obtain⟨ck,bq,o⟩:=bd o
  refine RL.app 7 0 j wy bq fun a8 w j=>?_
  refine RL.ka 6 a8 j zr zr (kC 7 j) fJ fun w j=>?_
  refine RL.nil (cG (aG (RC.region (RL.inc hk hm (mv (vi ((av+1:Nat):Int)) (RL.nil ?_))))))
  obtain rfl:=oi o
  exact⟨rfl,a8,j.sp 8 [5,6,7]⟩
 rintro _ w ⟨al,O,rfl,j⟩
 refine aG (RC.sr (RL.bP 1 al j fJ ?_))
 obtain⟨cl,br,o⟩:=bd o
 have j:=j.pull 2
 refine RL.call zt zr JG [al] zr (aF (Gy Tryz.lay122 j br) ?_)
 rintro _ w ⟨rfl,j⟩
 refine RL.ns (RL.bP 2 al j fJ ?_)
 have j:=j.pull 0
 obtain⟨ah,bt,o⟩:=bd o
 refine RL.call zt zr JI [al] zr (aF (rQ N j bt) ?_)
 rintro bu w j
 refine RL.ka 3 bu j zr zr (kC 0 j) fJ fun w j=>?_
 refine RL.ns (aR (.slice none 0 0) (RL.ns (aR (.slice none 0 0) (RL.ns (aR (vi 0) (RL.nq (RC.sr (RL.alloc j Hd.z fun bw w j=>?_))))))))
 have j:=j.sc Int 0
 refine RL.bM 1 j 0 zr dH fun w j=>?_
 refine RL.nt ?_
 have j:=((((j.freeze 2).xS (i:=5) (x:=ah) rfl (fun M hs g=>(n0 (g.sat 2 _ rfl).1))).jw (i:=5) rfl).dC aA 188).dC aH 75
 obtain⟨cm,hN,o⟩:=bd o
 refine RC.iter (fun(aa: (List aA)×(List aH)×Int×Int) U w=>∃(a9 ba:Value) (bb:Nat),SH E V [(0,ad),(3,vp af 0),(6,a9),(7,ba),(8,vi aa.2.2.1),(9,vp bb 0)] [own 75 ad ag,pt (vp af 0) ah,own 188 a9 aa.1,own 75 ba aa.2.1,bx 3 bb aa.2.2.2] U w) (fun(aa: (List aA)×(List aH)×Int×Int) U w=>∃au:Value,SH E V [(6,au)] [own 75 ad ag,pt (vp af 0) ah,own 188 au aa.1] U w) (fun(r:Empty) _ _=>r.elim) hN ?_ ?_ ?_ ?_
 ·exact⟨(.slice none 0 0),(.slice none 0 0),bw,j.sp 9 [6,7,1,0,3]⟩
 ·rintro aa fl _ w ⟨aj,bf,ak,O,rfl,j⟩ o
  refine RC.seq (RC.sr (RL.aX (f:=(fun x=>x)) 4 j zr Fd.self dH (RL.kr aa.2.2.2 1 (RL.cD 1 ah j fJ fun cn j=>(RL.cC 0 ah j m0 (ic ((IntKind.wrap .i64 (aa.2.2.2+1))) ((ah.length:Int)) (RL.nt (fU o (fun hc o=>?_) fun hc o=>?_))))))))
  rotate_left
  ·refine RC.ex ?_
   obtain rfl:=oi o
   exact⟨rfl,aj,j.sp 6 [1,2,3]⟩
  refine RC.ss (RC.bs (mv bf ?_))
  have j:=j.jw (i:=5) rfl
  refine RL.makeFunc zt zr [(vp af 0),(vp ak 0)] zr ?_
  have j:=j.pull 4
  obtain⟨cp,b0,o⟩:=bd o
  refine RL.call trivial rfl JK [bf,(.func (.func 125) #[] #[(vp af 0),(vp ak 0)])] rfl (aF (pw N j ⟨125,[(vp af 0),(vp ak 0)],rfl,JJ,fun w Γl v y0 r i j hi hr=>by exact aF (vo N (i0:=i) (i1:=Γl.length+2) (i2:=Γl.length+5) j hi (Ai rfl) (Ai rfl) hr) fun _ _ h=>h⟩ b0) ?_)
  rintro bg w j
  refine aR bg (RL.nq ?_)
  obtain⟨cq,hN,o⟩:=bd o
  refine RC.iter (fun(ae: (List aH)×Int) U w=>∃bh:Value,SH E V [(0,ad),(3,vp af 0),(6,aj),(7,bh),(8,vi ae.2),(9,vp ak 0)] [own 75 ad ag,pt (vp af 0) ah,own 188 aj aa.1,pt (vp ak 0) aa.2.2.2,own 75 bh ae.1] U w) (fun(ae: (List aH)×Int) U w=>∃aq:Value,SH E V [(0,ad),(3,vp af 0),(6,aj),(7,aq),(8,vi ae.2),(9,vp ak 0)] [own 75 ad ag,pt (vp af 0) ah,own 188 aj aa.1,pt (vp ak 0) aa.2.2.2,own 75 aq ae.1] U w) (fun(r:Empty) _ _=>r.elim) hN ?_ ?_ ?_ ?_
  ·exact⟨bg,j.sp 7 [2,3,4,6,0]⟩
  ·rintro ae fl _ w ⟨aw,O,rfl,j⟩ o
   refine RC.seq (RC.seq ?_)
   obtain⟨a2,hj,o⟩:=bd o
   refine RC.jn (fun(a2:Bool)=>SH E V [(0,ad),(3,vp af 0),(6,aj),(7,aw),(8,vi ae.2),(9,vp ak 0),(57,vb a2)] [own 75 ad ag,pt (vp af 0) ah,own 188 aj aa.1,own 75 aw ae.1,pt (vp ak 0) aa.2.2.2]) a2 ?_ ?_
   ·refine RC.y5 mixed ?_
    have j:=j.drew
    refine RO.go (mv (vi ae.2) (RO.nx (mv ad (RO.nx (RL.eH 0 ag j sB (RO.nx (ic ae.2 ((ag.length:Int)) (RO.nx ?_))))))))
    refine mv (vb (decide (ae.2< (ag.length:Int)))) (gG hj (fun ab hj=>?_) fun ab hj=>?_)
    rotate_left
    ·refine RO.nx (cB ab (RO.nx (cB ab (RO.nx (cB ab (RO.nx (cB ab (RO.nx ?_))))))))
     refine cB ab (RO.nx (cB ab (RO.nx (cB ab (RO.nx (cB ab (RO.nx (cB ab ?_))))))))
     refine RO.nx (cB ab (RO.nx (gH ab (vb false) (RO.last ?_))))
     obtain rfl:=oi hj
     exact⟨rfl,j.sp 5 [0,1,2,4,3]⟩
    refine RO.nx (RL.move ad (cg ab) (RO.nx (RL.move (vi ae.2) (cg ab) (RO.nx ?_))))
    obtain⟨bj,ax,hj⟩:=bd hj
    refine RL.bO (hg:=(cg ab)) 0 j zr zr mZ ax (RO.nx (RL.nZ (α:=aH) (cg ab) (ku 0 j ax 0) lE (RO.nx (RL.eJ (hg:=(cg ab)) 0 j (ku 0 j ax 1) (bC ax).2.1 gv dH (RO.nx (RL.cD (hg:=(cg ab)) 1 ah j fJ fun cr j=>?_))))))
    refine RO.nx (RL.bU (hg:=(cg ab)) aa.2.2.2 4 j dH (RO.nx ?_))
    obtain⟨a3,b1,hj⟩:=bd hj
    refine RL.cM (hg:=(cg ab)) 0 j fF b1 fun ct j=>(RO.nx (RL.bU (hg:=(cg ab)) a3 0 j dH (RO.nx (RL.lr bj.Y0 a3 (cg ab) (RO.nx (gH ab (vb (decide (bj.Y0<=a3))) (RO.last ?_)))))))
    obtain rfl:=oi hj
    exact⟨rfl,j.sp 7 [2,3,4,6,5]⟩
   rintro _ w ⟨O,rfl,j⟩
   refine aG (fU o (fun hc o=>?_) fun hc o=>?_)
   rotate_left
   ·refine RC.ex ?_
    obtain rfl:=oi o
    exact⟨rfl,aw,j.sp 5 [0,1,2,4,3]⟩
   refine RC.sn (RC.block (RC.region (mv aw (mv ad (mv (vi ae.2) ?_)))))
   obtain⟨b2,a4,o⟩:=bd o
   refine RL.bO 0 j zr zr mZ a4 (RL.gA (f:=(fun x=>x)) 0 j (ku 0 j a4 0) (bC a4).2.1 Fd.self jd fun b3 j=>?_)
   refine RL.fD ([b2]: (List aH)) j [b3] mZ pT (fun M hs g=>⟨(g.sat 0 _ zr).1,zt⟩) fun cu w j=>?_
   have j:=j.freeze 0
   obtain⟨cv,b4,o⟩:=bd o
   refine RL.app 5 0 j EX b4 fun bk w j=>?_
   refine mv (vi ae.2) (RL.kr ae.2 1 (aR bk (aR (vi (IntKind.wrap .i64 (ae.2+1))) (RL.nil (cG ?_)))))
   obtain rfl:=oi o
   exact⟨rfl,bk,j.sp 7 [2,3,4,6,5]⟩
  ·intro r _ _ _ _
   exact r.elim
  rintro ae _ w rfl ⟨aq,O,rfl,j⟩
  rw [Fo.gw] at o
  refine aG (RC.Bj mixed [1,1,1,1,1,1,1,1,1,1,0,2,0,2,0] [0,1,2,3,4,5,6,7,8,9,10,11,12,13,14] ?_)
  have j:=j.drew
  refine DP.e1 aj zr (fun w=>RL.move aj zt DP.d1) (DP.Ax ah 1 zr j fJ fun cw a305 cx j=>(DP.D6 aa.2.2.2 5 zr j dH fun a307 cy j=>?_))
  obtain⟨ay,b5,o⟩:=bd o
  refine DP.IZ 2 zr j fF b5 fun cz j=>(DP.D6 ay 0 zr j dH fun a311 c0 j=>(DP.Ax ah 6 zr j fJ fun c1 a314 c2 j=>(DP.D6 aa.2.2.2 10 zr j dH fun a316 c3 j=>(DP.e1 (vi (IntKind.wrap .i64 (aa.2.2.2+1))) zr (fun w=>RL.kr aa.2.2.2 1 DP.d1) ?_))))
  obtain⟨az,b6,o⟩:=bd o
  refine DP.IZ 2 zr j fF b6 fun c4 j=>(DP.D6 az 0 zr j dH fun a320 c5 j=>(DP.e0 zr (mv aq (u6 zr ?_))))
  have j:=j.pull 14
  obtain⟨b7,b8,o⟩:=bd o
  refine RL.call zt zr JM [aq] zr (aF (uy N j b8) ?_)
  rintro b9 w j
  refine DP.d2 (⟨⟨⟨⟨⟨⟨zt,j.np 10⟩,j.np 9⟩,j.np 7⟩,j.np 5⟩,j.np 4⟩,j.np 2⟩) (DP.e0 zr ?_)
  have j:=((j.sc Int ay).sc Int az).freeze 2
  refine RL.build (⟨ay,az,b7.1⟩:aA) trivial rfl j [(0,vi ay),(1,vi az),(2,b9)] rfl H9 rfl (fun M hs g=>by have h:=vf M;exact dY.cons (f:=fun(x:aA) y=>{x with Y0:=y}) h rJ (g.sat 1 _ rfl).1 fun _ h=>dY.cons (f:=fun(x:aA) y=>{x with Y1:=y}) h n9 (g.sat 0 _ rfl).1 fun _ h=>dY.cons (f:=fun(x:aA) y=>{x with Xs:=y}) h rK (g.sat 2 _ rfl).1 fun _ h=>dY.nil h) fun ca j=>?_
  refine u6 zr ?_
  have j:=j.pull 17
  obtain⟨c6,cb,o⟩:=bd o
  refine RL.call zt zr Ia [aj,ca] zr (aF (pJ N (i1:=0) j zr cb) ?_)
  rintro bl w j
  refine DP.d2 (⟨⟨⟨⟨⟨⟨zt,j.np 14⟩,j.np 13⟩,j.np 11⟩,j.np 9⟩,j.np 8⟩,j.np 6⟩) (DP.e0 zr (aR bl (DP.d0 ?_)))
  have j:=j.pl 21 [0,1,2,3,4,5,7,10,12,15,16,17,18,19,20]
  refine DP.z (cG (aG (RC.seq (RC.sr (RL.bU aa.2.2.2 13 j dH (RL.nt (RC.region (RL.alloc j Hd.z fun cc w j=>?_))))))))
  have j:=j.sc Int aa.2.2.2
  refine RL.bM 1 j 0 zr dH fun w j=>?_
  refine RL.nt (RC.region (RL.aX (f:=(fun x=>x)) 1 j zr Fd.self dH (RL.kr aa.2.2.2 1 ?_)))
  have j:=j.sc Int (IntKind.wrap .i64 (aa.2.2.2+1))
  refine RL.p7 2 j 0 zr dH fun w j=>?_
  refine RL.nil ?_
  obtain rfl:=oi o
  exact⟨rfl,bl,aq,cc,j.sp 18 [13,14,3,8,2]⟩
 ·intro r _ _ _ _
  exact r.elim
 rintro aa _ w rfl ⟨au,O,rfl,j⟩
 rw [Fo.gw] at o
 refine aG (RC.sr (mv au (aR au (RL.nt (RC.ret ?_)))))
 obtain rfl:=oi o
 exact cS (j.pk 3 [2])
theorem mE {p0: (List aA)} {res: (List aH)} (j:Holds E w V) (h0:V[i0]? =some (rd v0 p0)) (o:iI N p0=some res):
    Calls bN 92 [v0].toArray w (iv (mh E V res)):=by
 unfold iI at o
 refine enter Tryz.func92 zr zr ?_
 have j:=j.dup (i0+0) h0
 refine RC.sr (aR (.slice none 0 0) (RL.ns (aR (.slice none 0 0) (RL.nq (RC.sr (mv v0 (RL.cC 0 p0 j ot (mv (vi 0) ?_))))))))
 refine RL.nt ?_
 obtain⟨ad,hN,o⟩:=bd o
 refine RC.fold (fun(ae:Nat) (ad: (List aH)) U w=>∃an:Value,SH E V [(3,an),(7,v0),(8,vi p0.length),(9,vi ae)] [rd v0 p0,own 75 an ad] U w) (fun(ad: (List aH)) U w=>∃af:Value,SH E V [(3,af)] [rd v0 p0,own 75 af ad] U w) hN ?_ ?_ ?_ ?_
 ·have j:=j.dC aH 75
  exact⟨(.slice none 0 0),j.sp 2 [1,0]⟩
 ·rintro hm ad _ w ⟨av,O,rfl,j⟩
  refine RC.sr (ic ((p0.length:Int)) ((p0.length:Int)) (RL.nq (RC.dS pD (RC.ex ?_))))
  exact⟨rfl,av,j.sp 2 [0,1]⟩
 ·rintro hm ae ad s' _ w hk ⟨aw,O,rfl,j⟩ o
  refine RC.sr (ic ((ae:Int)) ((p0.length:Int)) (RL.nq (RC.dR (pC hk) (RC.ss (RC.bs ?_)))))
  obtain⟨ab,ax,o⟩:=bd o
  refine RL.cM 0 j kR ax fun a3 j=>(RL.cD 0 ab j vg fun a4 j=>(RL.alloc j B5.z fun ak w j=>?_))
  refine RL.bM 0 j 1 zr vg fun w j=>?_
  refine RL.ns (aR (vi 0) (RL.nt ?_))
  obtain⟨a5,hN,o⟩:=bd o
  refine RC.iter (fun(aa: (List aH)×Int) U w=>∃ar:Value,SH E V [(3,ar),(5,vp ak 0),(6,vi aa.2),(7,v0),(8,vi p0.length),(9,vi ae)] [bx 188 ak ab,rd v0 p0,own 75 ar aa.1] U w) (fun(aa: (List aH)×Int) U w=>∃ai:Value,SH E V [(3,ai),(7,v0),(8,vi p0.length),(9,vi ae)] [bx 188 ak ab,rd v0 p0,own 75 ai aa.1] U w) (fun(r:Empty) _ _=>r.elim) hN ?_ ?_ ?_ ?_
  ·exact⟨aw,j.sp 5 [0,3,4]⟩
  ·rintro aa fl _ w ⟨al,O,rfl,j⟩ o
   refine RC.seq (RC.sr (mv (vi aa.2) (RL.bT zr lk (RL.aS 0 j zr dK fJ fun a7 j=>(RL.cC 0 ab.Xs j m0 (ic aa.2 ((ab.Xs.length:Int)) (RL.nt (fU o (fun hc o=>?_) fun hc o=>?_))))))))
   rotate_left
   ·refine RC.ex ?_
    obtain rfl:=oi o
    exact⟨rfl,al,j.sp 4 [1,2,3]⟩
   refine RC.ss (RC.block (RC.Bj mixed [1,0,0,0,0,0,0,0,0,0,0,0,0,0,0,0,0,2,2,0] [0,1,2,3,4,5,6,7,8,9,10,11,12,13,14,15,16,17,18,19] ?_))
   have j:=j.drew
   refine DP.e1 al zr (fun w=>RL.move al zt DP.d1) (DP.e0 zr (RL.bT zr lk (bR zr (RL.aS 1 j zr dK fJ fun a8 j=>(bR zr (mv (vi aa.2) (bR zr ?_)))))))
   obtain⟨ag,az,o⟩:=bd o
   refine RL.cM 0 j fF az fun a9 j=>(bR zr (RL.bU ag 0 j dH (bR zr (RL.bT zr oD (bR zr (RL.aX 3 j zr ga dH (bR zr (RL.bT zr lk ?_))))))))
   refine bR zr (RL.aS 3 j zr dK fJ fun ba j=>(bR zr (mv (vi aa.2) (bR zr (RL.kr aa.2 1 (bR zr ?_))))))
   obtain⟨ah,a0,o⟩:=bd o
   refine RL.cM 0 j fF a0 fun bb j=>(bR zr (RL.bU ah 0 j dH (bR zr (RL.bT zr mB (bR zr (RL.aX 5 j zr eY dH (bR zr ?_)))))))
   have j:=(((j.sc Int ag).sc Int ab.Y0).sc Int ah).sc Int ab.Y1
   refine RL.build (⟨ag,ab.Y0,ah,ab.Y1⟩:aH) trivial rfl j [(0,vi ag),(1,vi ab.Y0),(2,vi ah),(3,vi ab.Y1)] rfl EY rfl (fun M hs g=>by have h:=uu M;exact dY.cons (f:=fun(x:aH) y=>{x with X0:=y}) h qg (g.sat 3 _ rfl).1 fun _ h=>dY.cons (f:=fun(x:aH) y=>{x with Y0:=y}) h tk (g.sat 2 _ rfl).1 fun _ h=>dY.cons (f:=fun(x:aH) y=>{x with X1:=y}) h qh (g.sat 1 _ rfl).1 fun _ h=>dY.cons (f:=fun(x:aH) y=>{x with Y1:=y}) h tm (g.sat 0 _ rfl).1 fun _ h=>dY.nil h) fun a1 j=>?_
   refine u6 zr (RL.fD ([(⟨ag,ab.Y0,ah,ab.Y1⟩:aH)]: (List aH)) j [a1] mZ pT (fun M hs g=>⟨(g.sat 0 _ zr).1,zt⟩) fun bc w j=>(IX zr ?_))
   have j:=j.freeze 0
   obtain⟨bf,a2,o⟩:=bd o
   refine RL.app 13 0 j EX a2 fun au w j=>?_
   refine zb zr (aR au (DP.d0 (DP.z (cG (aG (RC.region (mv (vi aa.2) (RL.kr aa.2 2 ?_))))))))
   refine aR (vi (IntKind.wrap .i64 (aa.2+2))) (RL.nil ?_)
   obtain rfl:=oi o
   exact⟨rfl,au,j.sp 14 [11,12,13]⟩
  ·intro r _ _ _ _
   exact r.elim
  rintro aa _ w rfl ⟨ai,O,rfl,j⟩
  rw [Fo.gw] at o
  refine cG (aG (RC.region (RL.inc hk hm (mv (vi ((ae+1:Nat):Int)) (RL.nil ?_)))))
  obtain rfl:=oi o
  exact⟨rfl,ai,j.sp 3 [1,2]⟩
 rintro _ w ⟨af,O,rfl,j⟩
 refine aG (RC.sr (mv af (aR af (RL.nt (RC.ret ?_)))))
 obtain rfl:=oi o
 exact cS (j.pk 2 [1])
def tQ (E:World) (V:List HP) (r:Bool) (U:Nat->Value) (w:World):Prop:=nB bN 26 Tryz.f91 (bH E V r) .ret U w
theorem sF {p0: (List aH)} {p1: (List aH)} {res:Bool} (j:Holds E w V) (h0:V[i0]? =some (rd v0 p0)) (h1:V[i1]? =some (rd v1 p1)) (o:jF N p0 p1=some res):
    Calls bN 91 [v0,v1].toArray w (iv (bH E V res)):=by
 unfold jF at o
 refine enter Tryz.func91 zr zr ?_
 have j:=(j.dup (i0+0) h0).dup (i1+1) h1
 refine RC.sr (aR (vb false) (RL.nq (RC.sr (mv v0 (RL.cC 1 p0 j sB (mv v1 (RL.cC 0 p1 j sB (ic ((p0.length:Int)) ((p1.length:Int)) ?_))))))))
 refine RL.nt (fU o (fun hc o=>?_) fun hc o=>?_)
 ·refine RC.sr (aR (vb false) (RL.nt (RC.rt ?_)))
  obtain rfl:=oi o
  exact cS ⟨rfl,j.drop 2⟩
 refine RC.ss (RC.sr (mv v0 (RL.cC 1 p0 j sB (mv (vi 0) (RL.nt ?_)))))
 obtain⟨an,hN,o⟩:=bd o
 refine RC.range (fun(aa:Nat) (ab:Unit)=>SH E V [(0,v0),(1,v1),(12,vi p0.length),(13,vi aa)] [rd v0 p0,rd v1 p1]) (fun(ab:Unit)=>SH E V [] [rd v0 p0,rd v1 p1]) (tQ E V) hN ?_ ?_ ?_ ?_ ?_
 ·exact j.sp 2 [1,0]
 ·rintro hm ab _ w ⟨O,rfl,j⟩
  refine RC.sr (ic ((p0.length:Int)) ((p0.length:Int)) (RL.nq (RC.dS pD (RC.ex ?_))))
  exact⟨rfl,j.sp 2 [0,1]⟩
 ·rintro hm aa ab fl _ w hk ⟨O,rfl,j⟩ o
  refine RC.sr (ic ((aa:Int)) ((p0.length:Int)) (RL.nq (RC.dR (pC hk) (RC.ss (RC.bs (mv (vi aa) (aR (vi aa) (RL.nq ?_))))))))
  refine RC.y5 mixed ?_
  have j:=j.drew
  refine RO.go (mv v0 (RO.nx (mv (vi aa) (RO.nx ?_))))
  obtain⟨ag,aj,o⟩:=bd o
  refine RL.cM 0 j mZ aj fun aq j=>(RO.nx (RL.cD 0 ag j jd fun ar j=>(RO.nx (mv v1 (RO.nx (mv (vi aa) (RO.nx ?_)))))))
  obtain⟨ah,ak,o⟩:=bd o
  refine RL.cM 3 j mZ ak fun au j=>(RO.nx (RL.cD 0 ah j jd fun av j=>(RO.nx (RL.K9 2 0 ag ah j Ib (RO.last (aG (fU o (fun hc o=>?_) fun hc o=>?_)))))))
  rotate_left
  ·refine RC.skip (cG (aG (RC.region (RL.inc hk hm (mv (vi ((aa+1:Nat):Int)) (RL.nil ?_))))))
   obtain rfl:=oi o
   exact⟨rfl,j.sp 6 [4,5]⟩
  refine RC.sr (aR (vb false) (RL.nt (RC.rb (cO ?_))))
  obtain rfl:=oi o
  exact⟨rfl,cS ⟨rfl,j.drop 6⟩⟩
 ·intro r U w e hK
  subst e
  refine cO ?_
  obtain rfl:=oi o
  exact hK
 rintro ab _ w rfl ⟨O,rfl,j⟩
 rw [Fo.gw] at o
 refine aG (RC.sr (aR (vb true) (RL.nt (RC.ret ?_))))
 obtain rfl:=oi o
 exact cS ⟨rfl,j.drop 2⟩
def tR (E:World) (V:List HP) (r:Int) (U:Nat->Value) (w:World):Prop:=nB bN 52 Tryz.f50 (aV E V r) .ret U w
theorem nS {p0: (List aH)} (j:Holds E w V) (h0:V[i0]? =some (rd v0 p0)) (hb:iA N p0=some res):
    Calls bN 50 [v0].toArray w (iv (aV E V res)):=by
 unfold iA at hb
 refine enter Tryz.func50 zr zr ?_
 have j:=j.dup (i0+0) h0
 refine RC.sr (aR (vi 0) (RL.nq (RC.sr (mv v0 ?_))))
 obtain⟨av,ay,hb⟩:=bd hb
 refine RL.call zt zr Lh [v0] zr (aF (tO N (i0:=0) j zr ay) ?_)
 rintro _ w ⟨rfl,j⟩
 refine aR (vi av) (RL.ns (mv (vi av) (ic av 0 (RL.nt (fU hb (fun hc hb=>?_) fun hc hb=>?_)))))
 ·refine RC.sr (mv (vi av) (aR (vi av) (RL.nt (RC.rt ?_))))
  obtain rfl:=oi hb
  exact cS ⟨rfl,j.drop 1⟩
 refine RC.ss (RC.sr (aR (vi 1) (RL.nt ?_)))
 obtain⟨bg,hN,hb⟩:=bd hb
 refine RC.iter (fun(ao:Int)=>SH E V [(0,v0),(4,vi ao)] [rd v0 p0]) (fun(ao:Int)=>SH E V [(0,v0)] [rd v0 p0]) (tR E V) hN ?_ ?_ ?_ ?_
 ·exact j.sp 1 [0]
 ·rintro ao fl _ w ⟨O,rfl,j⟩ hb
  refine RC.seq (RC.sr (mv (vi ao) (mv v0 (RL.cC 0 p0 j sB (ic ao ((p0.length:Int)) (RL.nt (fU hb (fun hc hb=>?_) fun hc hb=>?_)))))))
  rotate_left
  ·refine RC.ex ?_
   obtain rfl:=oi hb
   exact⟨rfl,j.sp 1 [0]⟩
  refine RC.ss (RC.block (RC.seq ?_))
  obtain⟨o,a1,hb⟩:=bd hb
  obtain⟨aa,a2,hb⟩:=bd hb
  refine RC.D3 E V mixed [1,1,1,0,0,1,1,0,0,0,0,0,0] [3,4,7,8,9,10,11,12] (fun(x:Value×Value×Value×Value×Nat×Nat)=>(fun ah ai aj ak ae af=>[(0,18,v0),(1,19,(vi ao)),(2,20,(vi (IntKind.wrap .i64 (ao - 1)))),(3,21,ah),(4,22,ai),(5,23,v0),(6,24,(vi ao)),(7,25,aj),(8,26,ak),(9,5,(vp ae 0)),(10,6,(vp af 0))]) x.1 x.2.1 x.2.2.1 x.2.2.2.1 x.2.2.2.2.1 x.2.2.2.2.2) [(0,v0),(4,vi ao)] [] (fun(D:Nat->Bool) (x:Value×Value×Value×Value×Nat×Nat)=>(fun ah ai aj ak ae af=>[bif D 0 then (pt ah o) else aW,bif D 1 then (rd ai o) else aW,bif D 2 then (pt aj aa) else aW,bif D 3 then (rd ak aa) else aW,bif D 6 then (bx 75 ae o) else (bif D 4 then (raw 75 ae 4) else aW),bif D 7 then (bx 75 af aa) else (bif D 5 then (raw 75 af 4) else aW),rd v0 p0]) x.1 x.2.1 x.2.2.1 x.2.2.2.1 x.2.2.2.2.1 x.2.2.2.2.2) (fun x=>by kernel_rfl) ?_ ⟨fun _=>g8 gn,fun _=>g8 gn,fun _=>IV gn rfl,?_,?_,fun _=>g8 gn,fun _=>g8 gn,?_,?_,?_,?_,?_,?_,trivial⟩ ?_
  ·have j:=((((((j.drew).aW).aW).aW).aW).aW).aW
   exact⟨(undef,undef,undef,undef,0,0),eR.none,(CV zr),zt,j⟩
  ·rintro D U w hD ag aq ⟨⟨ah,ai,aj,ak,ae,af⟩,hv,ha,_,j⟩
   obtain⟨O,rfl⟩:=(ac (hv.at 0 rfl (ag.1 rfl)) (ac (hv.at 2 rfl (ag.2.1 rfl)) az)).eQ
   have j:=j.bS 0 hD
   refine RL.cM 6 j mZ a1 fun a3 j=>?_
   have j:=(j.pl 8 [0,2,3,4,5,6,7]).bZ 0 true rfl aW
   exact RL.nil ⟨rfl,(a3,ai,aj,ak,ae,af),hv.pu 3,ha.u,zt,j⟩
  ·rintro D U w hD ag aq ⟨⟨ah,ai,aj,ak,ae,af⟩,hv,ha,_,j⟩
   obtain⟨O,rfl⟩:=(ac (hv.at 3 rfl (ag.1 rfl)) az).eQ
   have j:=(j.bY 0 (ag.1 rfl)).bS 1 hD
   refine RL.cD 0 o j jd fun a4 j=>?_
   have j:=((j.pl 8 [1,0,3,4,5,6,7]).bZ 0 (D 3) (ag.1 rfl) aW).bZ 1 true rfl aW
   exact RL.nil ⟨rfl,(ah,a4,aj,ak,ae,af),hv.pu 4,ha.u,zt,j⟩
  ·rintro D U w hD ag aq ⟨⟨ah,ai,aj,ak,ae,af⟩,hv,ha,_,j⟩
   obtain⟨O,rfl⟩:=(ac (hv.at 5 rfl (ag.1 rfl)) (ac (hv.at 6 rfl (ag.2.1 rfl)) az)).eQ
   have j:=j.bS 2 hD
   refine RL.cM 6 j mZ a2 fun a5 j=>?_
   have j:=(j.pl 8 [1,2,0,4,5,6,7]).bZ 2 true rfl aW
   exact RL.nil ⟨rfl,(ah,ai,a5,ak,ae,af),hv.pu 7,ha.u,zt,j⟩
  ·rintro D U w hD ag aq ⟨⟨ah,ai,aj,ak,ae,af⟩,hv,ha,_,j⟩
   obtain⟨O,rfl⟩:=(ac (hv.at 7 rfl (ag.1 rfl)) az).eQ
   have j:=(j.bY 2 (ag.1 rfl)).bS 3 hD
   refine RL.cD 2 aa j jd fun a6 j=>?_
   have j:=((j.pl 8 [1,2,3,0,5,6,7]).bZ 2 (D 7) (ag.1 rfl) aW).bZ 3 true rfl aW
   exact RL.nil ⟨rfl,(ah,ai,aj,a6,ae,af),hv.pu 8,ha.u,zt,j⟩
  ·rintro D U w hD ag aq ⟨⟨ah,ai,aj,ak,ae,af⟩,hv,ha,_,j⟩
   obtain⟨O,rfl⟩:=(az (U:=U)).eQ
   have j:=(j.bS 4 (nh aq hD 11)).bS 4 hD
   refine RL.alloc j pT.z fun aw w j=>?_
   have j:=((j.pl 8 [1,2,3,4,0,6,7]).bZ 4 true rfl aW).fT 4 (D 11) (nh aq hD 11) (bx 75 aw o)
   exact RL.nil ⟨rfl,(ah,ai,aj,ak,aw,af),hv.pu 9,ha.u,zt,j⟩
  ·rintro D U w hD ag aq ⟨⟨ah,ai,aj,ak,ae,af⟩,hv,ha,_,j⟩
   obtain⟨O,rfl⟩:=(az (U:=U)).eQ
   have j:=(j.bS 5 (nh aq hD 12)).bS 5 hD
   refine RL.alloc j pT.z fun ax w j=>?_
   have j:=((j.pl 8 [1,2,3,4,5,0,7]).bZ 5 true rfl aW).fT 5 (D 12) (nh aq hD 12) (bx 75 ax aa)
   exact RL.nil ⟨rfl,(ah,ai,aj,ak,ae,ax),hv.pu 10,ha.u,zt,j⟩
  ·rintro D U w hD ag aq ⟨⟨ah,ai,aj,ak,ae,af⟩,hv,ha,_,j⟩
   obtain⟨O,rfl⟩:=(ac (hv.at 4 rfl (ag.2.1 rfl)) (ac (hv.at 9 rfl (ag.1 rfl)) az)).eQ
   have j:=((j.bY 1 (ag.2.1 rfl)).bS 4 hD).bY 4 (ag.1 rfl)
   refine RL.bM 4 j 1 zr jd fun w j=>?_
   have j:=(j.bZ 1 (D 4) (ag.2.1 rfl) aW).bZ 4 true rfl (bif D 9 then (raw 75 ae 4) else aW)
   exact RL.nil ⟨rfl,(ah,ai,aj,ak,ae,af),hv.n1,ha,zt,j⟩
  ·rintro D U w hD ag aq ⟨⟨ah,ai,aj,ak,ae,af⟩,hv,ha,_,j⟩
   obtain⟨O,rfl⟩:=(ac (hv.at 8 rfl (ag.2.1 rfl)) (ac (hv.at 10 rfl (ag.1 rfl)) az)).eQ
   have j:=((j.bY 3 (ag.2.1 rfl)).bS 5 hD).bY 5 (ag.1 rfl)
   refine RL.bM 5 j 3 zr jd fun w j=>?_
   have j:=(j.bZ 3 (D 8) (ag.2.1 rfl) aW).bZ 5 true rfl (bif D 10 then (raw 75 af 4) else aW)
   exact RL.nil ⟨rfl,(ah,ai,aj,ak,ae,af),hv.n1,ha,zt,j⟩
  rintro D U w ar ⟨⟨ah,ai,aj,ak,ae,af⟩,hv,ha,_,j⟩
  have j:=(((((j.bY 0 (iT ar 3)).bY 1 (iT ar 4)).bY 2 (iT ar 7)).bY 3 (iT ar 8)).bY 4 (iT ar 11)).bY 5 (iT ar 12)
  obtain⟨O,rfl⟩:=(ac (hv.at 9 rfl (iT ar 9)) (ac (hv.at 10 rfl (iT ar 10)) (ac (ha.at 0 rfl) (ac (ha.at 1 rfl) az)))).eQ
  refine aG (RC.sr (RL.bT zr lE (RL.aX 5 j zr gv dH (RL.bT zr lE (RL.aX 4 j zr gv dH (ic aa.Y0 o.Y0 (mv (vb (decide (aa.Y0<o.Y0))) (RL.gs true (decide (aa.Y0<o.Y0)) (vp af 1) zr zr zr (f9 lE) ?_))))))))
  refine RL.gs true (decide (aa.Y0<o.Y0)) (vi aa.Y0) rfl rfl rfl (cT 5 rfl j (fun h=>by exact(dN h:cv (true&&((decide (aa.Y0<o.Y0))==false)) (vp af 1)= (vp af 1))) rfl gv dH) (RL.gs true (decide (aa.Y0<o.Y0)) (vp ae 1) rfl rfl rfl (f9 lE) (RL.gs true (decide (aa.Y0<o.Y0)) (vi o.Y0) rfl rfl rfl (cT 4 rfl j (fun h=>by exact(dN h:cv (true&&((decide (aa.Y0<o.Y0))==false)) (vp ae 1)= (vp ae 1))) rfl gv dH) (RL.gs true (decide (aa.Y0<o.Y0)) (vb (aa.Y0==o.Y0)) rfl rfl rfl (fN .eql .i64 aa.Y0 o.Y0 rfl (fun h=>by exact(dN h:cv (true&&((decide (aa.Y0<o.Y0))==false)) (vi aa.Y0)= (vi aa.Y0))) (fun h=>by exact(dN h:cv (true&&((decide (aa.Y0<o.Y0))==false)) (vi o.Y0)= (vi o.Y0))) rfl) (RL.gs true (decide (aa.Y0<o.Y0)) (vb (aa.Y0==o.Y0)) rfl rfl rfl (dW (hx:=fun h=>by exact(dN h:cv (true&&((decide (aa.Y0<o.Y0))==false)) (vb (aa.Y0==o.Y0))= (vb (aa.Y0==o.Y0))))) (RL.gs (true&&((decide (aa.Y0<o.Y0))==false)) (aa.Y0==o.Y0) (vp af 0) rfl rfl rfl (f9 kJ) (RL.gs (true&&((decide (aa.Y0<o.Y0))==false)) (aa.Y0==o.Y0) (vi aa.X0) rfl rfl rfl (cT 5 rfl j (fun h=>by exact(dN h:cv ((true&&((decide (aa.Y0<o.Y0))==false))&&((aa.Y0==o.Y0)==true)) (vp af 0)= (vp af 0))) rfl fV dH) (RL.gs (true&&((decide (aa.Y0<o.Y0))==false)) (aa.Y0==o.Y0) (vp ae 0) rfl rfl rfl (f9 kJ) (RL.gs (true&&((decide (aa.Y0<o.Y0))==false)) (aa.Y0==o.Y0) (vi o.X0) rfl rfl rfl (cT 4 rfl j (fun h=>by exact(dN h:cv ((true&&((decide (aa.Y0<o.Y0))==false))&&((aa.Y0==o.Y0)==true)) (vp ae 0)= (vp ae 0))) rfl fV dH) ?_))))))))
  refine RL.gs (true&&((decide (aa.Y0<o.Y0))==false)) (aa.Y0==o.Y0) (vb (decide (aa.X0<=o.X0))) rfl rfl rfl (fN .leq .i64 aa.X0 o.X0 rfl (fun h=>by exact(dN h:cv ((true&&((decide (aa.Y0<o.Y0))==false))&&((aa.Y0==o.Y0)==true)) (vi aa.X0)= (vi aa.X0))) (fun h=>by exact(dN h:cv ((true&&((decide (aa.Y0<o.Y0))==false))&&((aa.Y0==o.Y0)==true)) (vi o.X0)= (vi o.X0))) rfl) (RL.gs true (decide (aa.Y0<o.Y0)) (vb ((aa.Y0==o.Y0)&&(decide (aa.X0<=o.X0)))) rfl rfl rfl (ti (aa.Y0==o.Y0) rfl (fun h=>by exact(dN h:cv (true&&((decide (aa.Y0<o.Y0))==false)) (vb (aa.Y0==o.Y0))= (vb (aa.Y0==o.Y0)))) (fun h=>by exact k7 (h:=h) (true&&((decide (aa.Y0<o.Y0))==false)))) (RL.pick (decide (aa.Y0<o.Y0)) (vb ((decide (aa.Y0<o.Y0))||((aa.Y0==o.Y0)&&(decide (aa.X0<=o.X0))))) (oO true) (RL.nt (fU hb (fun hc hb=>?_) fun hc hb=>?_))))
  ·refine RC.sr (aR (vi 8) (RL.nt (RC.rb (cO ?_))))
   obtain rfl:=oi hb
   exact⟨rfl,cS ⟨rfl,j.drop 7⟩⟩
  refine RC.skip (cG (aG (RC.region (mv (vi ao) (RL.kr ao 1 (aR (vi (IntKind.wrap .i64 (ao+1))) (RL.nil ?_)))))))
  obtain rfl:=oi hb
  exact⟨rfl,j.sp 7 [6]⟩
 ·intro r U w e hK
  subst e
  refine cO ?_
  obtain rfl:=oi hb
  exact hK
 rintro ao _ w rfl ⟨O,rfl,j⟩
 rw [Fo.gw] at hb
 refine aG (RC.seq (RC.sr (mv v0 ?_)))
 obtain⟨bj,a8,hb⟩:=bd hb
 refine RL.call zt zr F3 [v0] zr (aF (lI N (i0:=0) j zr a8) ?_)
 rintro a9 w j
 have j:=j.freeze 0
 obtain⟨bk,ba,hb⟩:=bd hb
 refine RL.call zt zr I1 [a9] zr (aF (mE N (i0:=0) j zr ba) ?_)
 rintro bb w j
 refine mv v0 ?_
 have j:=j.freeze 0
 obtain⟨bc,bf,hb⟩:=bd hb
 refine RL.call zt zr Lj [bb,v0] zr (aF (sF N (i0:=0) (i1:=2) j zr zr bf) ?_)
 rintro _ w ⟨rfl,j⟩
 refine RL.not bc (RL.nt (fU hb (fun hc hb=>?_) fun hc hb=>?_))
 ·refine RC.sr (aR (vi 3) (RL.nt (RC.rt ?_)))
  obtain rfl:=oi hb
  exact cS ⟨rfl,j.drop 3⟩
 refine RC.sx (aR (vi 0) (RL.nt (RC.ret ?_)))
 obtain rfl:=oi hb
 exact cS ⟨rfl,j.drop 3⟩
theorem ko {res:Bool} (o:Holds E w V) (j:fu N p0 p1 p2=some res):
    Calls bN 71 [(vi p0),(vi p1),(vi p2)].toArray w (iv (bH E V res)):=by
 unfold fu at j
 refine enter Tryz.func71 zr zr (RC.sr (aR (vb false) (RL.ns (mv (vi p0) (mv (vi p1) (ic p0 p1 (mv (vb (decide (p0>=p1))) (RL.gs true (decide (p0>=p1)) (vi p0) zr zr zr dW ?_))))))))
 refine RL.gs true (decide (p0>=p1)) (vi p2) rfl rfl rfl dW (RL.gs true (decide (p0>=p1)) (vb (decide (p0<=p2))) rfl rfl rfl (fN .leq .i64 p0 p2 rfl (fun h=>by exact(dN h:cv (true&&((decide (p0>=p1))==true)) (vi p0)= (vi p0))) (fun h=>by exact(dN h:cv (true&&((decide (p0>=p1))==true)) (vi p2)= (vi p2))) rfl) (RL.pick (decide (p0>=p1)) (vb ((decide (p0>=p1))&&(decide (p0<=p2)))) (k7 true) (aR (vb ((decide (p0>=p1))&&(decide (p0<=p2)))) (RL.nt (RC.ret ?_)))))
 obtain rfl:=oi j
 exact cS ⟨rfl,o.drop 0⟩
theorem qw {p0:jE} {res:Bool} (j:Holds E w V) (h0:V[i0]? =some (rd v0 p0)) (hb:iU N p0=some res):
    Calls bN 72 [v0].toArray w (iv (bH E V res)):=by
 unfold iU at hb
 refine enter Tryz.func72 zr zr ?_
 have j:=j.dup (i0+0) h0
 refine RC.sr (RL.cX 0 v0 j zr fun ai w j=>?_)
 refine aR (vb false) (RL.nq ?_)
 obtain⟨ad,o,hb⟩:=bd hb
 refine RC.jn (fun(ad:Bool)=>SH E V [(2,vb ad)] []) ad ?_ ?_
 ·refine RC.region (RL.bT zr AB (RL.aX 0 j zr q8 dH ?_))
  obtain⟨af,ag,o⟩:=bd o
  refine RL.call zt zr zG [(vi p0.X)] zr (aF (kZ N (p0:=p0.X) j ag) ?_)
  rintro _ w ⟨rfl,j⟩
  refine mv (vb af) (gG o (fun aa o=>?_) fun aa o=>?_)
  rotate_left
  ·refine cB aa (cB aa (cB aa (gH aa (vb false) (aR (vb false) (RL.nil ?_)))))
   obtain rfl:=oi o
   exact⟨rfl,j.sp 2 []⟩
  refine RL.bT (hg:=(cg aa)) zr AD (RL.aX (hg:=(cg aa)) 0 j zr q9 dH ?_)
  obtain⟨ae,ah,o⟩:=bd o
  refine RL.call (cg aa) zr zG [(vi p0.Y)] zr (aF (kZ N (p0:=p0.Y) j ah) ?_)
  rintro _ w ⟨rfl,j⟩
  refine gH aa (vb ae) (aR (vb ae) (RL.nil ?_))
  obtain rfl:=oi o
  exact⟨rfl,j.sp 2 []⟩
 rintro _ w ⟨O,rfl,j⟩
 refine aG (RC.ret ?_)
 obtain rfl:=oi hb
 exact cS ⟨rfl,j.drop 0⟩
end Go.Gk
