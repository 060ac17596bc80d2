/-
  Printed texts: Go functions as plain functions, and that they are. No statement of the seed is proved here.
-/
import Derived.Test.YtpgchlbhifkckaaProg
import Derived.Test.YtpgchlbhifkckaaE1
import Derived.Test.YtpgchlbhifkckaaA1
import Derived.Test.YtpgchlbhifkckaaA2
import Derived.Test.YtpgchlbhifkckaaRows
import Derived.Shelf.SlGeneric
import Derived.Ground.SlsfProg
import Derived.Ground.SlgmProg
set_option linter.unusedVariables false
set_option linter.unusedSimpArgs false
set_option linter.unusedSectionVars false
set_option maxRecDepth 100000
set_option maxHeartbeats 40000000
namespace Go.Gk
open Go IntKind Go.Proofs
noncomputable abbrev bE:=Try.prog
abbrev c_(f:Nat)(l:List Value)(w:World)(R:Value->World->Prop):Prop:=Calls bE f l.toArray w (fR R)
def ja(x:bG):=(x.Name,x.W,x.H)
instance instGTBoardKind:GT bG:=GT.via ja
instance instKVBoardKind:KV bG:=instKVvia (λ(x:bG)=>(x.Name,x.W,x.H))
theorem iD:Fd 0 (λx:bG=>x.Name):= .v ja<|.fst .self
theorem fj:Fd 1 (λx:bG=>x.W):= .v ja<|.snd<|.fst .self
theorem fk:Fd 2 (λx:bG=>x.H):= .v ja<|.snd<|.snd<|.self
def jI(x:bA):=(x.X,x.Y)
instance instGTPoint:GT bA:=GT.via jI
instance instKVPoint:KV bA:=instKVvia (λ(x:bA)=>(x.X,x.Y))
theorem cR:Fd 0 (λx:bA=>x.X):= .v jI<|.fst .self
theorem gQ:Fs 0 Int (λ(x:bA)y=>{x with X:=y}):= .v jI<|.fst .self
theorem cY:Fd 1 (λx:bA=>x.Y):= .v jI<|.snd<|.self
theorem iR:Fs 1 Int (λ(x:bA)y=>{x with Y:=y}):= .v jI<|.snd<|.self
def na(x:Slot):=(x.dG,x.aM,x.At)
instance instGTSlot:GT Slot:=GT.via na
theorem kz:Fd 0 (λx:Slot=>x.dG):= .v na<|.fst .self
theorem lY:Fd 1 (λx:Slot=>x.aM):= .v na<|.snd<|.fst .self
theorem iS:Fd 2 (λx:Slot=>x.At):= .v na<|.snd<|.snd<|.self
def gW(x:bX):=(x.W,x.H,x.aU,x.lD,x.dP,x.aX,x.Marks)
instance instGTPanel:GT bX:=GT.via gW
theorem jP:Fd 0 (λx:bX=>x.W):= .v gW<|.fst .self
theorem jQ:Fd 1 (λx:bX=>x.H):= .v gW<|.snd<|.fst .self
theorem jR:Fd 2 (λx:bX=>x.aU):= .v gW<|.snd<|.snd<|.fst .self
theorem mC:Fd 3 (λx:bX=>x.lD):= .v gW<|.snd<|.snd<|.snd<|.fst .self
theorem iT:Fd 4 (λx:bX=>x.dP):= .v gW<|.snd<|.snd<|.snd<|.snd<|.fst .self
theorem kX:Fd 5 (λx:bX=>x.aX):= .v gW<|.snd<|.snd<|.snd<|.snd<|.snd<|.fst .self
theorem mD:Fd 6 (λx:bX=>x.Marks):= .v gW<|.snd<|.snd<|.snd<|.snd<|.snd<|.snd<|.self
def gD(x:aB):=(x.X0,x.Y0,x.X1,x.Y1)
instance instGTRect:GT aB:=GT.via gD
instance instKVRect:KV aB:=instKVvia (λ(x:aB)=>(x.X0,x.Y0,x.X1,x.Y1))
theorem cZ:Fd 0 (λx:aB=>x.X0):= .v gD<|.fst .self
theorem nU:Fs 0 Int (λ(x:aB)y=>{x with X0:=y}):= .v gD<|.fst .self
theorem de:Fd 1 (λx:aB=>x.Y0):= .v gD<|.snd<|.fst .self
theorem nV:Fs 1 Int (λ(x:aB)y=>{x with Y0:=y}):= .v gD<|.snd<|.fst .self
theorem dW:Fd 2 (λx:aB=>x.X1):= .v gD<|.snd<|.snd<|.fst .self
theorem kA:Fs 2 Int (λ(x:aB)y=>{x with X1:=y}):= .v gD<|.snd<|.snd<|.fst .self
theorem fF:Fd 3 (λx:aB=>x.Y1):= .v gD<|.snd<|.snd<|.snd<|.self
theorem kB:Fs 3 Int (λ(x:aB)y=>{x with Y1:=y}):= .v gD<|.snd<|.snd<|.snd<|.self
def eB(x:aA):=(x.Y0,x.Y1,x.Xs)
instance instGTshape_Band:GT aA:=GT.via eB
theorem dI:Fd 0 (λx:aA=>x.Y0):= .v eB<|.fst .self
theorem lf:Fs 0 Int (λ(x:aA)y=>{x with Y0:=y}):= .v eB<|.fst .self
theorem cN:Fd 1 (λx:aA=>x.Y1):= .v eB<|.snd<|.fst .self
theorem ju:Fs 1 Int (λ(x:aA)y=>{x with Y1:=y}):= .v eB<|.snd<|.fst .self
theorem cW:Fd 2 (λx:aA=>x.Xs):= .v eB<|.snd<|.snd<|.self
theorem lg:Fs 2 (List Int) (λ(x:aA)y=>{x with Xs:=y}):= .v eB<|.snd<|.snd<|.self
def kC(x:j9):=(x.xH,x.aM,x.At)
instance instGTTurn:GT j9:=GT.via kC
theorem u5:Fd 0 (λx:j9=>x.xH):= .v kC<|.fst .self
theorem u6:Fd 1 (λx:j9=>x.aM):= .v kC<|.snd<|.fst .self
theorem u7:Fs 1 Int (λ(x:j9)y=>{x with aM:=y}):= .v kC<|.snd<|.fst .self
theorem qN:Fd 2 (λx:j9=>x.At):= .v kC<|.snd<|.snd<|.self
theorem u9:Fs 2 bA (λ(x:j9)y=>{x with At:=y}):= .v kC<|.snd<|.snd<|.self
theorem oZ(M:bV):GT.ok M (#[(.int .i64 0),(.int .i64 0)]:Array Value).toList (⟨0,0⟩:bA):=⟨[(.int .i64 0)],[(.int .i64 0)],rfl,(show GT.ok M [(.int .i64 0)] (0:Int)from rfl),(show GT.ok M [(.int .i64 0)] (0:Int)from rfl)⟩
theorem nW(M:bV):GT.ok M (#[(.int .i64 0),(.int .i64 0),(.int .i64 0),(.int .i64 0)]:Array Value).toList (⟨0,0,0,0⟩:aB):=⟨[(.int .i64 0)],[(.int .i64 0),(.int .i64 0),(.int .i64 0)],rfl,(show GT.ok M [(.int .i64 0)] (0:Int)from rfl),⟨[(.int .i64 0)],[(.int .i64 0),(.int .i64 0)],rfl,(show GT.ok M [(.int .i64 0)] (0:Int)from rfl),⟨[(.int .i64 0)],[(.int .i64 0)],rfl,(show GT.ok M [(.int .i64 0)] (0:Int)from rfl),(show GT.ok M [(.int .i64 0)] (0:Int)from rfl)⟩⟩⟩
theorem yK(M:bV):GT.ok M (#[(.bool false),(.int .i64 0),(.int .i64 0),(.int .i64 0)]:Array Value).toList (⟨false,0,⟨0,0⟩⟩:j9):=⟨[(.bool false)],[(.int .i64 0),(.int .i64 0),(.int .i64 0)],rfl,(show GT.ok M [(.bool false)] (false:Bool)from rfl),⟨[(.int .i64 0)],[(.int .i64 0),(.int .i64 0)],rfl,(show GT.ok M [(.int .i64 0)] (0:Int)from rfl),(show GT.ok M [(.int .i64 0),(.int .i64 0)] (⟨0,0⟩:bA)from oZ M)⟩⟩
theorem nb(M:bV):GT.ok M (#[(.int .i64 0),(.int .i64 0),n_]:Array Value).toList (⟨0,0,[]⟩:aA):=⟨[(.int .i64 0)],[(.int .i64 0),n_],rfl,(show GT.ok M [(.int .i64 0)] (0:Int)from rfl),⟨[(.int .i64 0)],[n_],rfl,(show GT.ok M [(.int .i64 0)] (0:Int)from rfl),(show GT.ok M [n_] ([]:List Int)from⟨_,rfl,none,0,0,rfl,rfl,bB _,by simp[maxLen],λ_ _ h=>by simp at h⟩)⟩⟩
theorem oI:j6 bE 26 true 7:=tD
theorem pz:md bE 26 0 0:=oH
theorem bJ:j6 bE 3 false 1:=tD
theorem pA:gC bE 37:=iL Try.func37
theorem pB:md bE 26 1 1:=oH
theorem pC:md bE 26 2 2:=oH
theorem tV:md bE 26 3 3:=oH
theorem nX:md bE 26 4 4:=oH
theorem va:j6 bE 22 false 1:=tD
theorem yL:Try.prog.underlying 22=some (.slice 50):=by kernel_rfl
theorem tW:qn bE 22 50 3:=yl
theorem vc:j6 bE 50 true 3:=tD
theorem zz:vY bE 50 3:=xJ<|.agg #[(.string ⟨#[]⟩),(.int .i64 0),(.int .i64 0)]
theorem rz:md bE 50 0 0:=oH
theorem xl:j6 bE 9 false 1:=tD
theorem Aa:Try.prog.underlying 9=some (.string):=by kernel_rfl
theorem nY:md bE 50 1 1:=oH
theorem nZ:md bE 50 2 2:=oH
theorem mixed:Try.prog.follows .mixedOrders=true:=by kernel_rfl
theorem rA:md bE 26 5 5:=oH
theorem xK:j6 bE 23 false 1:=tD
theorem xL:Try.prog.underlying 23=some (.slice 35):=by kernel_rfl
theorem yM:qn bE 23 35 4:=yl
theorem sU:j6 bE 35 true 4:=tD
theorem yN:vY bE 35 4:=xJ<|.agg #[(.string ⟨#[]⟩),(.int .i64 0),(.int .i64 0),(.int .i64 0)]
theorem pD:md bE 35 0 0:=oH
theorem Ab:gC bE 9:=iL Try.func9
theorem rB:md bE 35 1 1:=oH
theorem mE:md bE 35 2 2:=oH
theorem fm:md bE 33 0 0:=oH
theorem fL:md bE 33 1 1:=oH
theorem kD:vY bE 52 4:=xJ<|.agg #[(.int .i64 0),(.int .i64 0),(.int .i64 0),(.int .i64 0)]
theorem wu:vX bE 52 [(0,1),(1,1),(2,1),(3,1)] #[(.int .i64 0),(.int .i64 0),(.int .i64 0),(.int .i64 0)]:=vX.of (.agg #[(.int .i64 0),(.int .i64 0),(.int .i64 0),(.int .i64 0)]) Try.underlying52
theorem eU:j6 bE 52 true 4:=tD
theorem ga:md bE 52 0 0:=oH
theorem gb:md bE 52 1 1:=oH
theorem iE:md bE 52 2 2:=oH
theorem ko:md bE 52 3 3:=oH
theorem ln:Try.prog.underlying 27=some (.slice 52):=by kernel_rfl
theorem gE:qn bE 27 52 4:=yl
theorem yO:gC bE 49:=iL Try.func49
theorem zA:gC bE 41:=iL Try.func41
theorem tX:sg bE 27 52 4 32:=sg.of (.agg #[(.int .i64 0),(.int .i64 0),(.int .i64 0),(.int .i64 0)]) rfl
theorem tY:md bE 26 6 6:=oH
theorem yP:j6 bE 24 false 1:=tD
theorem yQ:Try.prog.underlying 24=some (.slice 33):=by kernel_rfl
theorem yR:qn bE 24 33 2:=yl
theorem mF:j6 bE 33 true 2:=tD
theorem wv:vY bE 33 2:=xJ<|.agg #[(.int .i64 0),(.int .i64 0)]
theorem yS:Try.prog.underlying 3=some (.int .i64):=by kernel_rfl
theorem zB:zb bE 33 bA:=⟨λM cs ds a b w ha hb=>by
  obtain⟨_,_,rfl,rfl,rfl⟩:=ha
  obtain⟨_,_,rfl,rfl,rfl⟩:=hb
  refine(ku 9999 Try.underlying33<|vN.cons (by decide) (eH bJ _) (eH bJ _) (gM yS _ _ w)<|vN.cons (by decide) (eH bJ _) (eH bJ _) (gM yS _ _ w) vN.nil).trans ?_
  congr 1
  cases a;cases b;unfold jI
  rw[jw]
  simp,by kernel_rfl⟩
theorem xM:gC bE 60:=iL Try.func60
theorem zC:gC bE 25:=iL Try.func25
theorem zD:Bu bE 69 [n_]:=⟨n_,λ_=>by kernel_rfl,rfl⟩
theorem iO:j6 bE 69 false 1:=tD
theorem fC:qn bE 69 3 1:=yl
theorem zF:vY bE 3 1:=xJ<|.int .i64 0
theorem wx:sg bE 69 3 1 8:=sg.of (.int .i64 0) rfl
theorem kY:Try.prog.underlying 69=some (.slice 3):=by kernel_rfl
theorem Bz:ye bE 3 (0:Int):=ye.of (.int .i64 0)<|λM=>rfl
theorem AO:ye bE 52 (⟨0,0,0,0⟩:aB):=ye.of (.agg #[(.int .i64 0),(.int .i64 0),(.int .i64 0),(.int .i64 0)])<|λM=>nW M
theorem zG:vX bE 77 [(0,1),(1,1),(2,1)] #[(.int .i64 0),(.int .i64 0),n_]:=vX.of (.agg #[(.int .i64 0),(.int .i64 0),n_]) Try.underlying77
theorem kZ:md bE 77 2 2:=oH
theorem jS:md bE 77 1 1:=oH
theorem lH:md bE 77 0 0:=oH
theorem nc:Try.prog.underlying 46=some (.slice 77):=by kernel_rfl
theorem kE:qn bE 46 77 3:=yl
theorem tZ:j6 bE 77 true 3:=tD
theorem xN:vY bE 77 3:=xJ<|.agg #[(.int .i64 0),(.int .i64 0),n_]
theorem AV:sg bE 46 77 3 40:=sg.of (.agg #[(.int .i64 0),(.int .i64 0),n_]) rfl
theorem zH:gC bE 31:=iL Try.func31
theorem vd:gC bE 11:=iL Try.func11
theorem xO:gC bE 18:=iL Try.func18
theorem zI:zb bE 52 aB:=⟨λM cs ds a b w ha hb=>by
  obtain⟨_,_,rfl,rfl,⟨_,_,rfl,rfl,⟨_,_,rfl,rfl,rfl⟩⟩⟩:=ha
  obtain⟨_,_,rfl,rfl,⟨_,_,rfl,rfl,⟨_,_,rfl,rfl,rfl⟩⟩⟩:=hb
  refine(ku 9999 Try.underlying52<|vN.cons (by decide) (eH bJ _) (eH bJ _) (gM yS _ _ w)<|vN.cons (by decide) (eH bJ _) (eH bJ _) (gM yS _ _ w)<|vN.cons (by decide) (eH bJ _) (eH bJ _) (gM yS _ _ w)<|vN.cons (by decide) (eH bJ _) (eH bJ _) (gM yS _ _ w) vN.nil).trans ?_
  congr 1
  cases a;cases b;unfold gD
  rw[jw]
  simp,by kernel_rfl⟩
theorem yT:gC bE 10:=iL Try.func10
theorem xP:qn bE 59 46 1:=yl
theorem zJ:vY bE 46 1:=xJ<|.slice none 0 0
theorem zK:Try.prog.underlying 59=some (.slice 46):=by kernel_rfl
theorem zL:j6 bE 46 false 1:=tD
theorem zM:gC bE 80:=iL Try.func80
theorem BM:Try.prog.underlying 4=some (.bool):=by kernel_rfl
theorem zN:vY bE 54 4:=xJ<|.agg #[(.bool false),(.int .i64 0),(.int .i64 0),(.int .i64 0)]
theorem A2:vX bE 54 [(0,1),(1,1),(2,2)] #[(.bool false),(.int .i64 0),(.int .i64 0),(.int .i64 0)]:=vX.of (.agg #[(.bool false),(.int .i64 0),(.int .i64 0),(.int .i64 0)]) Try.underlying54
theorem ve:j6 bE 54 true 4:=tD
theorem yU:vX bE 33 [(0,1),(1,1)] #[(.int .i64 0),(.int .i64 0)]:=vX.of (.agg #[(.int .i64 0),(.int .i64 0)]) Try.underlying33
theorem yV:md bE 54 0 0:=oH
theorem BN:j6 bE 4 false 1:=tD
theorem yW:md bE 54 1 1:=oH
theorem wy:md bE 54 2 2:=oH
theorem zO:gC bE 34:=iL Try.func34
theorem A8:gC bE 6:=iL Try.func6
theorem A9:gC bE 5:=iL Try.func5
theorem yX:gC bE 36:=iL Try.func36
theorem zP:xx bE 82 3 3 Int Int (0:Int):=⟨by kernel_rfl,qp.int yS,xz (Z:=(.int .i64 0)) (by kernel_rfl)<|λM=>⟨_,rfl,rfl⟩⟩
theorem xQ:Try.prog.underlying 38=some (.slice 27):=by kernel_rfl
theorem wz:qn bE 38 27 1:=yl
theorem zQ:vY bE 27 1:=xJ<|.slice none 0 0
theorem zR:sg bE 38 27 1 24:=sg.of n_ rfl
theorem yY:j6 bE 27 false 1:=tD
theorem Ba:sg bE 59 46 1 24:=sg.of n_ rfl
theorem BA:gC bE 7:=iL Try.func7
def gh(E:World)(V:List HP)(res:List Int)(v:Value)(w:World):Prop:=Holds E w<|[own 3 v res]++V
def gy(E:World)(V:List HP)(res:List aA)(v:Value)(w:World):Prop:=Holds E w<|[own 77 v res]++V
def aT(E:World)(V:List HP)(res:Bool)(v:Value)(w:World):Prop:=v= vb res/\Holds E w V
def aS(E:World)(V:List HP)(res:Int)(v:Value)(w:World):Prop:=v= vi res/\Holds E w V
def lI(E:World)(V:List HP)(res:Int×Int)(v:Value)(w:World):Prop:=v = .tuple #[vi res.1,vi res.2]/\Holds E w V
def lJ(E:World)(V:List HP)(res:aB)(v:Value)(w:World):Prop:=Holds E w<|[rd v res]++V
def jc(E:World)(V:List HP)(res:List aB×Int)(v:Value)(w:World):Prop:=∃u0:Value,v = .tuple #[u0,vi res.2]/\Holds E w ([own 52 u0 res.1]++V)
def gB(E:World)(V:List HP)(res:List aB)(v:Value)(w:World):Prop:=Holds E w<|[own 52 v res]++V
def qR(H:Type)(d:DataW H):Nat:=Ytpgchlbhifkckaa.Rows.uptoBulk d
def zS(H:Type)(d:List (DataW H)):Nat:=Ytpgchlbhifkckaa.Rows.uptoBulkAll d
theorem eF:UB qR zS where
  str:=λH b=>by simp[qR,Ytpgchlbhifkckaa.Rows.uptoBulk]
  pos:=λH d=>by
    unfold qR
    cases d with
    |lit l=>cases l <;> simp[Ytpgchlbhifkckaa.Rows.uptoBulk]
    |nil=>simp[Ytpgchlbhifkckaa.Rows.uptoBulk]
    |ptr d=>simp[Ytpgchlbhifkckaa.Rows.uptoBulk]
    |slice elems spare=>simp[Ytpgchlbhifkckaa.Rows.uptoBulk]
    |agg parts=>simp[Ytpgchlbhifkckaa.Rows.uptoBulk]
    |iface t d=>simp[Ytpgchlbhifkckaa.Rows.uptoBulk]
    |map entries=>simp[Ytpgchlbhifkckaa.Rows.uptoBulk]
    |held h=>simp[Ytpgchlbhifkckaa.Rows.uptoBulk]
  sl:=λH e s=>by simp[qR,zS,Ytpgchlbhifkckaa.Rows.uptoBulk]
  ag:=λH l=>by simp[qR,zS,Ytpgchlbhifkckaa.Rows.uptoBulk]
  nil:=λH=>by simp[zS,Ytpgchlbhifkckaa.Rows.uptoBulkAll]
  cons:=λH x l=>by simp[qR,zS,Ytpgchlbhifkckaa.Rows.uptoBulkAll]
theorem vn:fq qR Try.prog 3 Int:=vk eF (by kernel_rfl)
theorem Be:fq qR Try.prog 9 fy:=vl eF (by kernel_rfl)
theorem Bf:fq qR Try.prog 50 bG:=iG eF (λ(x:bG)=>(x.Name,x.W,x.H)) (λb=>⟨b.1,b.2.1,b.2.2⟩) (λb=>rfl) Try.underlying50 (dF eF Be<|dF eF vn<|kH eF vn rfl) (λb=>by simp only[ng];omega)
theorem Bg:fq qR Try.prog 22 (List bG):=k6 (e:=50) eF Bf
theorem zT:fq qR Try.prog 33 bA:=iG eF (λ(x:bA)=>(x.X,x.Y)) (λb=>⟨b.1,b.2⟩) (λb=>rfl) Try.underlying33 (dF eF vn<|kH eF vn rfl) (λb=>by simp only[wJ];omega)
theorem Bh:fq qR Try.prog 35 Slot:=iG eF (λ(x:Slot)=>(x.dG,x.aM,x.At)) (λb=>⟨b.1,b.2.1,b.2.2⟩) (λb=>rfl) Try.underlying35 (dF eF Be<|dF eF vn<|kH eF zT rfl) (λb=>by simp only[xV];omega)
theorem Bi:fq qR Try.prog 23 (List Slot):=k6 (e:=35) eF Bh
theorem Bj:fq qR Try.prog 24 (List bA):=k6 (e:=33) eF zT
theorem Bl:fq qR Try.prog 26 bX:=iG eF (λ(x:bX)=>(x.W,x.H,x.aU,x.lD,x.dP,x.aX,x.Marks)) (λb=>⟨b.1,b.2.1,b.2.2.1,b.2.2.2.1,b.2.2.2.2.1,b.2.2.2.2.2.1,b.2.2.2.2.2.2⟩) (λb=>rfl) Try.underlying26 (dF eF vn<|dF eF vn<|dF eF vn<|dF eF vn<|dF eF Bg<|dF eF Bi<|kH eF Bj rfl) (λb=>by simp only[s8];omega)
theorem Bm:fq qR Try.prog 52 aB:=iG eF (λ(x:aB)=>(x.X0,x.Y0,x.X1,x.Y1)) (λb=>⟨b.1,b.2.1,b.2.2.1,b.2.2.2⟩) (λb=>rfl) Try.underlying52 (dF eF vn<|dF eF vn<|dF eF vn<|kH eF vn rfl) (λb=>by simp only[xW];omega)
theorem Bn:fq qR Try.prog 27 (List aB):=k6 (e:=52) eF Bm
end Go.Gk
namespace Go.Proofs
open Go.Shelf Go.RowKit Go.Lib Go.Sort
def Try.lay25_ren : Go.Shelf.Ren := ⟨fun | 6 => 25 | 15 => 47 | 14 => 46 | 28 => 69 | 29 => 70 | 20 => 61 | 21 => 62 | 22 => 63 | 23 => 64 | 24 => 65 | 25 => 66 | 26 => 67 | 27 => 68 | 46 => 84 | 47 => 85 | 48 => 86 | 49 => 87 | 50 => 88 | 57 => 93 | n => n, fun | 22 => 27 | 24 => 52 | 25 => 68 | 3 => 3 | 39 => 92 | 0 => 0 | 53 => 112 | 55 => 114 | 4 => 4 | 46 => 106 | 45 => 105 | 50 => 83 | 5 => 5 | 9 => 9 | 66 => 126 | 70 => 130 | 76 => 134 | 77 => 124 | n => n, fun | n => n⟩
theorem Try.lay25 : Go.Proofs.SlLaysF0.n6 Try.prog Try.lay25_ren := {
  mixed := by kernel_rfl
  f6 := ⟨Try.f25.name, by decide, Try.func25.trans (congrArg some (by kernel_rfl))⟩
  f14 := ⟨Try.f46.name, by decide, Try.func46.trans (congrArg some (by kernel_rfl))⟩
  f15 := Try.func47.trans (congrArg some (by kernel_rfl))
  f20 := ⟨Try.f61.name, by decide, Try.func61.trans (congrArg some (by kernel_rfl))⟩
  f21 := ⟨Try.f62.name, by decide, Try.func62.trans (congrArg some (by kernel_rfl))⟩
  f22 := ⟨Try.f63.name, by decide, Try.func63.trans (congrArg some (by kernel_rfl))⟩
  f23 := ⟨Try.f64.name, by decide, Try.func64.trans (congrArg some (by kernel_rfl))⟩
  f24 := ⟨Try.f65.name, by decide, Try.func65.trans (congrArg some (by kernel_rfl))⟩
  f25 := ⟨Try.f66.name, by decide, Try.func66.trans (congrArg some (by kernel_rfl))⟩
  f26 := ⟨Try.f67.name, by decide, Try.func67.trans (congrArg some (by kernel_rfl))⟩
  f27 := ⟨Try.f68.name, by decide, Try.func68.trans (congrArg some (by kernel_rfl))⟩
  f28 := Try.func69.trans (congrArg some (by kernel_rfl))
  f29 := Try.func70.trans (congrArg some (by kernel_rfl))
  f46 := ⟨Try.f84.name, by decide, Try.func84.trans (congrArg some (by kernel_rfl))⟩
  f47 := Try.func85.trans (congrArg some (by kernel_rfl))
  f48 := Try.func86.trans (congrArg some (by kernel_rfl))
  f49 := ⟨Try.f87.name, by decide, Try.func87.trans (congrArg some (by kernel_rfl))⟩
  f50 := ⟨Try.f88.name, by decide, Try.func88.trans (congrArg some (by kernel_rfl))⟩
  f57 := ⟨Try.f93.name, by decide, Try.func93.trans (congrArg some (by kernel_rfl))⟩
  t0 := Try.underlying0
  a0 := Try.isAgg0
  z0 := Try.sizeOf0
  v0 := Try.zeroValue0
  t3 := Try.underlying3
  a3 := Try.isAgg3
  z3 := Try.sizeOf3
  v3 := Try.zeroValue3
  t4 := Try.underlying4
  a4 := Try.isAgg4
  z4 := Try.sizeOf4
  v4 := Try.zeroValue4
  t5 := Try.underlying5
  a5 := Try.isAgg5
  z5 := Try.sizeOf5
  v5 := Try.zeroValue5
  t9 := Try.underlying9
  a9 := Try.isAgg9
  z9 := Try.sizeOf9
  v9 := Try.zeroValue9
  t22 := Try.underlying27
  a22 := Try.isAgg27
  z22 := Try.sizeOf27
  v22 := Try.zeroValue27
  t25 := Try.underlying68
  a25 := Try.isAgg68
  z25 := Try.sizeOf68
  v25 := Try.zeroValue68
  t39 := Try.underlying92
  a39 := Try.isAgg92
  z39 := Try.sizeOf92
  v39 := Try.zeroValue92
  t45 := Try.underlying105
  a45 := Try.isAgg105
  z45 := Try.sizeOf105
  v45 := Try.zeroValue105
  t46 := Try.underlying106
  a46 := Try.isAgg106
  z46 := Try.sizeOf106
  v46 := Try.zeroValue106
  t50 := Try.underlying83
  a50 := Try.isAgg83
  z50 := Try.sizeOf83
  v50 := Try.zeroValue83
  t53 := Try.underlying112
  a53 := Try.isAgg112
  z53 := Try.sizeOf112
  v53 := Try.zeroValue112
  t55 := Try.underlying114
  a55 := Try.isAgg114
  z55 := Try.sizeOf114
  v55 := Try.zeroValue114
  t66 := Try.underlying126
  a66 := Try.isAgg126
  z66 := Try.sizeOf126
  v66 := Try.zeroValue126
  t70 := Try.underlying130
  a70 := Try.isAgg130
  z70 := Try.sizeOf130
  v70 := Try.zeroValue130
  t76 := Try.underlying134
  a76 := Try.isAgg134
  z76 := Try.sizeOf134
  v76 := Try.zeroValue134
  t77 := Try.underlying124
  a77 := Try.isAgg124
  z77 := Try.sizeOf124
  v77 := Try.zeroValue124 }
def Try.lay27_ren : Go.Shelf.Ren := ⟨fun | 5 => 27 | 8 => 47 | 7 => 48 | 19 => 69 | 20 => 70 | 10 => 71 | 11 => 72 | 12 => 73 | 13 => 74 | 14 => 75 | 15 => 76 | 16 => 77 | 17 => 78 | 18 => 79 | 30 => 89 | 31 => 85 | 32 => 86 | 33 => 90 | 34 => 91 | 35 => 92 | 40 => 94 | n => n, fun | 23 => 69 | 25 => 3 | 3 => 3 | 32 => 92 | 22 => 69 | 0 => 0 | 44 => 112 | 46 => 114 | 4 => 4 | 36 => 106 | 35 => 105 | 41 => 83 | 5 => 5 | 9 => 9 | 53 => 126 | 57 => 130 | 63 => 134 | 64 => 124 | n => n, fun | n => n⟩
theorem Try.lay27 : Go.Proofs.SlLaysM.n5 Try.prog Try.lay27_ren := {
  mixed := by kernel_rfl
  f5 := ⟨Try.f27.name, by decide, Try.func27.trans (congrArg some (by kernel_rfl))⟩
  f7 := ⟨Try.f48.name, by decide, Try.func48.trans (congrArg some (by kernel_rfl))⟩
  f8 := Try.func47.trans (congrArg some (by kernel_rfl))
  f10 := ⟨Try.f71.name, by decide, Try.func71.trans (congrArg some (by kernel_rfl))⟩
  f11 := ⟨Try.f72.name, by decide, Try.func72.trans (congrArg some (by kernel_rfl))⟩
  f12 := ⟨Try.f73.name, by decide, Try.func73.trans (congrArg some (by kernel_rfl))⟩
  f13 := ⟨Try.f74.name, by decide, Try.func74.trans (congrArg some (by kernel_rfl))⟩
  f14 := ⟨Try.f75.name, by decide, Try.func75.trans (congrArg some (by kernel_rfl))⟩
  f15 := ⟨Try.f76.name, by decide, Try.func76.trans (congrArg some (by kernel_rfl))⟩
  f16 := ⟨Try.f77.name, by decide, Try.func77.trans (congrArg some (by kernel_rfl))⟩
  f17 := ⟨Try.f78.name, by decide, Try.func78.trans (congrArg some (by kernel_rfl))⟩
  f18 := ⟨Try.f79.name, by decide, Try.func79.trans (congrArg some (by kernel_rfl))⟩
  f19 := Try.func69.trans (congrArg some (by kernel_rfl))
  f20 := Try.func70.trans (congrArg some (by kernel_rfl))
  f30 := ⟨Try.f89.name, by decide, Try.func89.trans (congrArg some (by kernel_rfl))⟩
  f31 := Try.func85.trans (congrArg some (by kernel_rfl))
  f32 := Try.func86.trans (congrArg some (by kernel_rfl))
  f33 := ⟨Try.f90.name, by decide, Try.func90.trans (congrArg some (by kernel_rfl))⟩
  f34 := ⟨Try.f91.name, by decide, Try.func91.trans (congrArg some (by kernel_rfl))⟩
  f35 := ⟨Try.f92.name, by decide, Try.func92.trans (congrArg some (by kernel_rfl))⟩
  f40 := ⟨Try.f94.name, by decide, Try.func94.trans (congrArg some (by kernel_rfl))⟩
  t0 := Try.underlying0
  a0 := Try.isAgg0
  z0 := Try.sizeOf0
  v0 := Try.zeroValue0
  t3 := Try.underlying3
  a3 := Try.isAgg3
  z3 := Try.sizeOf3
  v3 := Try.zeroValue3
  t4 := Try.underlying4
  a4 := Try.isAgg4
  z4 := Try.sizeOf4
  v4 := Try.zeroValue4
  t5 := Try.underlying5
  a5 := Try.isAgg5
  z5 := Try.sizeOf5
  v5 := Try.zeroValue5
  t9 := Try.underlying9
  a9 := Try.isAgg9
  z9 := Try.sizeOf9
  v9 := Try.zeroValue9
  t22 := Try.underlying69
  a22 := Try.isAgg69
  z22 := Try.sizeOf69
  v22 := Try.zeroValue69
  t23 := Try.underlying69
  a23 := Try.isAgg69
  z23 := Try.sizeOf69
  v23 := Try.zeroValue69
  t25 := Try.underlying3
  a25 := Try.isAgg3
  z25 := Try.sizeOf3
  v25 := Try.zeroValue3
  t32 := Try.underlying92
  a32 := Try.isAgg92
  z32 := Try.sizeOf92
  v32 := Try.zeroValue92
  t35 := Try.underlying105
  a35 := Try.isAgg105
  z35 := Try.sizeOf105
  v35 := Try.zeroValue105
  t36 := Try.underlying106
  a36 := Try.isAgg106
  z36 := Try.sizeOf106
  v36 := Try.zeroValue106
  t41 := Try.underlying83
  a41 := Try.isAgg83
  z41 := Try.sizeOf83
  v41 := Try.zeroValue83
  t44 := Try.underlying112
  a44 := Try.isAgg112
  z44 := Try.sizeOf112
  v44 := Try.zeroValue112
  t46 := Try.underlying114
  a46 := Try.isAgg114
  z46 := Try.sizeOf114
  v46 := Try.zeroValue114
  t53 := Try.underlying126
  a53 := Try.isAgg126
  z53 := Try.sizeOf126
  v53 := Try.zeroValue126
  t57 := Try.underlying130
  a57 := Try.isAgg130
  z57 := Try.sizeOf130
  v57 := Try.zeroValue130
  t63 := Try.underlying134
  a63 := Try.isAgg134
  z63 := Try.sizeOf134
  v63 := Try.zeroValue134
  t64 := Try.underlying124
  a64 := Try.isAgg124
  z64 := Try.sizeOf124
  v64 := Try.zeroValue124 }
end Go.Proofs
namespace Go.Gk
open Go IntKind Go.Proofs
variable (N:Nat){E w:World}{i0 i1 i2:Nat}{p0 p1 p2 res:Int}{v0 v1 v2:Value}{V:List HP}
theorem cG{res:Bool}(o:Holds E w V)(j:aY N p0 p1 p2=some res):c_ 37 [vi p0,vi p1,vi p2] w<|aT E V res:=by
 unfold aY at j;refine enter Try.func37 zr zr<|f_<|bY false<|o_<|bH p0<|bH p1<|ic p0 p1<|fK (decide<|p0>=p1)<|u_ (vi p0) zr zr mo ?_;refine u_ (vi p2) zr zr mo<|u_ (vb<|decide<|p0<=p2) zr zr (mq .leq)<|BV (b:=decide<|p0>=p1) (v:=vb<|decide (p0>=p1)&&decide (p0<=p2)) zt zr zr (fI true)<|bY (decide (p0>=p1)&&decide (p0<=p2))<|g_<|t_ ?_;exact oi j▸cH ⟨rfl,o.drop 0⟩
theorem pH{p0:fy}{res:Bool}(hw:Holds E w V)(o:jf N p0=some res):c_ 54 [str p0] w<|aT E V res:=by
 unfold jf at o;refine enter Try.func54 zr zr<|f_<|bY false<|p_<|f_<|mv (str p0)<|Dt p0 zt zr zr Aa<|bH 0<|g_<|CG E V (λ(ad:Unit)=>[]) (λ_=>[(0,str p0)]) (λaa _=>[(7,vi p0.hL.length),(8,vi aa)]) (λr=>lx bE 59 Try.f54 (aT E V r) .ret) o ?_ ?_ ?_ ?_;exact hw.sp 0 [];rintro hm aa ad fl _ w hk⟨O,rfl,hw⟩o;refine m_<|B2<|bH (aa:Int)<|aP (aa:Int)<|o_<|mv (str p0)<|bH (aa:Int)<|q_ o λj ag o=>DL (s:=p0) (i:=(aa:Int)) (c:=j) zt zr zr zr Aa ag<|dT (.int .u8 (j.toNat:Int))<|o_<|mv (.int .u8 (j.toNat:Int))<|ic ((j.toNat:Int)) 97<|fK (decide<|(j.toNat:Int)>=97)<|u_ (.int .u8 (j.toNat:Int)) zr zr mo<|u_ (vb<|decide<|(j.toNat:Int)<=122) zr zr (mq .leq)<|BV (b:=decide<|(j.toNat:Int)>=97) (v:=vb<|decide ((j.toNat:Int)>=97)&&decide ((j.toNat:Int)<=122)) zt zr zr (fI true) ?_;refine fK (decide ((j.toNat:Int)>=97)&&decide ((j.toNat:Int)<=122))<|u_ (.int .u8 (j.toNat:Int)) zr zr mo<|u_ (vb<|decide<|(j.toNat:Int)>=65) zr zr (mq .geq)<|u_ (vb<|decide<|(j.toNat:Int)>=65) zr zr mo<|Cf (.int .u8 (j.toNat:Int)) zr zr mo<|Cf (vb<|decide<|(j.toNat:Int)<=90) zr zr (mq .leq)<|u_ (vb<|decide ((j.toNat:Int)>=65)&&decide ((j.toNat:Int)<=90)) zr zr z9<|BV (b:=decide ((j.toNat:Int)>=97)&&decide ((j.toNat:Int)<=122)) (v:=vb<|(decide ((j.toNat:Int)>=97)&&decide ((j.toNat:Int)<=122))||(decide ((j.toNat:Int)>=65)&&decide ((j.toNat:Int)<=90))) zt zr zr (ly true)<|bY ((decide ((j.toNat:Int)>=97)&&decide ((j.toNat:Int)<=122))||(decide ((j.toNat:Int)>=65)&&decide ((j.toNat:Int)<=90))) ?_;refine o_<|fK ((decide ((j.toNat:Int)>=97)&&decide ((j.toNat:Int)<=122))||(decide ((j.toNat:Int)>=65)&&decide ((j.toNat:Int)<=90)))<|Cd ((decide ((j.toNat:Int)>=97)&&decide ((j.toNat:Int)<=122))||(decide ((j.toNat:Int)>=65)&&decide ((j.toNat:Int)<=90)))<|fK (!((decide ((j.toNat:Int)>=97)&&decide ((j.toNat:Int)<=122))||(decide ((j.toNat:Int)>=65)&&decide ((j.toNat:Int)<=90))))<|u_ (vi aa) zr zr mo<|u_ (vb<|(aa:Int)==0) zr zr (mq .eql)<|u_ (vb<|(aa:Int)==0) zr zr mo<|Cf (.int .u8 (j.toNat:Int)) zr zr mo<|Cf (vb<|decide<|(j.toNat:Int)<48) zr zr (mq .lss) ?_;refine Cf (vb<|decide<|(j.toNat:Int)<48) zr zr mo<|Cf (.int .u8 (j.toNat:Int)) zr zr mo<|Cf (vb<|decide<|(j.toNat:Int)>57) zr zr (mq .gtr)<|Cf (vb<|decide ((j.toNat:Int)<48)||decide ((j.toNat:Int)>57)) zr zr Bx<|Cf (vb<|decide ((j.toNat:Int)<48)||decide ((j.toNat:Int)>57)) zr zr mo<|Cf (.int .u8 (j.toNat:Int)) zr zr mo<|Cf (vb<|(j.toNat:Int) != 95) zr zr (mq .neq)<|Cf (vb<|(decide ((j.toNat:Int)<48)||decide ((j.toNat:Int)>57))&&((j.toNat:Int) != 95)) zr zr z9<|Cf (vb<|(decide ((j.toNat:Int)<48)||decide ((j.toNat:Int)>57))&&((j.toNat:Int) != 95)) zr zr mo ?_;refine Cf (.int .u8 (j.toNat:Int)) zr zr mo<|Cf (vb<|(j.toNat:Int) != 45) zr zr (mq .neq)<|Cf (vb<|((decide ((j.toNat:Int)<48)||decide ((j.toNat:Int)>57))&&((j.toNat:Int) != 95))&&((j.toNat:Int) != 45)) zr zr z9<|u_ (vb<|((aa:Int)==0)||(((decide ((j.toNat:Int)<48)||decide ((j.toNat:Int)>57))&&((j.toNat:Int) != 95))&&((j.toNat:Int) != 45))) zr zr Bx<|BV (b:=(!((decide ((j.toNat:Int)>=97)&&decide ((j.toNat:Int)<=122))||(decide ((j.toNat:Int)>=65)&&decide ((j.toNat:Int)<=90))))) (v:=vb<|(!((decide ((j.toNat:Int)>=97)&&decide ((j.toNat:Int)<=122))||(decide ((j.toNat:Int)>=65)&&decide ((j.toNat:Int)<=90))))&&(((aa:Int)==0)||(((decide ((j.toNat:Int)<48)||decide ((j.toNat:Int)>57))&&((j.toNat:Int) != 95))&&((j.toNat:Int) != 45)))) zt zr zr (fI true)<|g_<|fp o (λo=>?_) λo=>?_;exact f_<|bY false<|g_<|Cl<|bL<|oi o▸⟨rfl,cH ⟨rfl,hw.drop 0⟩⟩;exact B6<|bT<|aF<|l_<|Ca hk hm<|bH ((aa+1:Nat):Int)<|i_<|oi o▸⟨rfl,hw.sp 0 []⟩;intro r U w o hK;exact bL<|oi o▸hK;rintro ad _ w o⟨O,rfl,hw⟩;refine aF<|f_<|mv (str p0)<|Dt p0 trivial rfl rfl Aa<|ic ((p0.hL.length:Int)) 1<|fK (decide<|(p0.hL.length:Int)>=1)<|u_ (str p0) rfl rfl mo<|s_ true (decide<|(p0.hL.length:Int)>=1) (vi p0.hL.length) rfl rfl rfl (xq (s:=p0) rfl (by exact z_ (str p0)) Aa)<|u_ (vb<|decide<|(p0.hL.length:Int)<=40) rfl rfl (mq .leq) ?_;exact BV (b:=decide<|(p0.hL.length:Int)>=1) (v:=vb<|decide ((p0.hL.length:Int)>=1)&&decide ((p0.hL.length:Int)<=40)) zt zr zr (fI true)<|bY (decide ((p0.hL.length:Int)>=1)&&decide ((p0.hL.length:Int)<=40))<|g_<|t_<|oi o▸cH ⟨rfl,hw.drop 0⟩
theorem mf{p0:List bG}(j:Holds E w V)(h0:V[i0]? =some (rd v0 p0))(o:fc N p0=some res):c_ 38 [v0] w<|aS E V res:=by
 unfold fc at o;refine enter Try.func38 zr zr ?_;have j:=j.dup (i0+0) h0;refine f_<|aP 0<|p_<|f_<|mv v0<|AT 0 p0 j yL<|ic ((p0.length:Int)) 50<|g_<|fp o (λo=>?_) λo=>?_;exact f_<|aP 2<|g_<|B1<|oi o▸cH ⟨rfl,j.drop 1⟩;refine Cc<|f_<|mv v0<|AT 0 p0 j yL<|bH 0<|g_<|CG E V (λ(ak:Unit)=>[rd v0 p0]) (λ_=>[]) (λad _=>[(0,v0),(8,v0),(9,vi p0.length),(10,vi ad)]) (λr=>lx bE 46 Try.f38 (aS E V r) .ret) o ?_ ?_ ?_ ?_;exact j.sp 1 [0];rintro hm ad ak fl _ w hk⟨O,rfl,j⟩o;refine m_<|B2<|bH (ad:Int)<|q_ o λaf au o=>AI 0 j tW au λa1 j=>BY 0 af j vc λa2 j=>B4 j zz.z λal w j=>?_;refine aP (ad:Int)<|B5 0 j 1 zr vc λw j=>?_;refine g_<|B2<|h_ zr rz<|j_ 0 j zr iD xl<|q_ o λan av o=>v_ (iL Try.func54) (pH N (p0:=af.Name) j av) λw j=>Cd an<|bY (!an)<|g_<|fp o (λo=>?_) λo=>?_;exact f_<|aP 5<|g_<|Cl<|jr<|bL<|oi o▸⟨rfl,cH ⟨rfl,j.drop 4⟩⟩;refine m_<|q_ o λah hj o=>BU (λ(ah:Bool)=>SH E V [(0,v0),(3,vi ad),(4,vp al 0),(8,v0),(9,vi p0.length),(10,vi ad),(20,vb ah)] [rd v0 p0,bx 50 al af]) ah ?_ ?_;refine l_<|h_ zr nY<|j_ 0 j zr fj bJ<|q_ hj λao aw hj=>v_ pA (cG N (p0:=af.W) (p1:=1) (p2:=1000000) j aw) λw j=>Cd ao<|fK (!ao)<|iB hj (λae hj=>?_) λae hj=>?_;exact cD ae<|cD ae<|cD ae<|cD ae<|iC ae (vb true)<|bY true<|i_<|oi hj▸⟨rfl,j.sp 4 [3,0]⟩;exact h_ (hg:=cg ae) zr nZ<|j_ (hg:=cg ae) 0 j zr fk bJ<|q_ hj λai ax hj=>v_ (hg:=cg ae) pA (cG N (p0:=af.H) (p1:=1) (p2:=1000000) j ax) λw j=>Cd (hg:=cg ae) ai<|iC ae (vb<|!ai)<|bY (!ai)<|i_<|oi hj▸⟨rfl,j.sp 4 [3,0]⟩;rintro _ w⟨O,rfl,j⟩;refine aF<|fp o (λo=>?_) λo=>?_;exact f_<|aP 1<|g_<|Cl<|jr<|bL<|oi o▸⟨rfl,cH ⟨rfl,j.drop 2⟩⟩;refine m_<|q_ o λaj hj o=>BU (λ(aj:Bool)=>SH E V [(0,v0),(8,v0),(9,vi p0.length),(10,vi ad),(31,vb aj)] [rd v0 p0]) aj ?_ ?_;refine Cj mixed ?_;have j:=j.drew;refine Ci<|bH (ad:Int)<|e_<|ic ((ad:Int)) 0<|e_<|fK (decide<|(ad:Int)>0)<|iB hj (λaa hj=>?_) λaa hj=>?_;refine e_<|h_ (hg:=cg aa) zr rz<|e_<|j_ (hg:=cg aa) 1 j zr iD xl<|e_<|By v0 (cg aa)<|e_<|By (vi ad) (cg aa)<|e_<|y_ (hg:=cg aa) (ad:Int) 1<|e_ ?_;refine q_ hj λag ay hj=>AI (hg:=cg aa) 0 j tW ay λa3 j=>e_<|B7 (hg:=cg aa) 0 j zr rz iD λa4 j=>e_<|BW (hg:=cg aa) ag.Name 0 j xl<|e_<|C4 af.Name ag.Name (cg aa) zr zr zr zr<|e_<|iC aa (vb<|af.Name.vM ag.Name||af.Name.mV ag.Name)<|e_<|bY (af.Name.vM ag.Name||af.Name.mV ag.Name)<|B9 ?_;exact oi hj▸⟨rfl,j.sp 4 [2]⟩;refine e_<|cD aa<|e_<|cD aa<|e_<|cD aa<|e_<|cD aa<|e_<|cD aa<|e_<|cD aa<|e_<|cD aa<|e_<|cD aa<|e_<|cD aa ?_;exact e_<|iC aa (vb false)<|e_<|bY false<|B9<|oi hj▸⟨rfl,j.sp 2 [0]⟩;rintro _ w⟨O,rfl,j⟩;refine aF<|fp o (λo=>?_) λo=>?_;exact f_<|aP 8<|g_<|Cl<|jr<|bL<|oi o▸⟨rfl,cH ⟨rfl,j.drop 1⟩⟩;exact B6<|bT<|bT<|aF<|l_<|Ca hk hm<|bH ((ad+1:Nat):Int)<|i_<|oi o▸⟨rfl,j.sp 1 [0]⟩;intro r U w o hK;exact bL<|oi o▸hK;rintro ak _ w o⟨O,rfl,j⟩;exact aF<|f_<|aP 0<|g_<|t_<|oi o▸cH ⟨rfl,j.drop 1⟩
theorem mH{p0:bG}{p1:fy}{res:Bool}(j:Holds E w V)(h0:V[i0]? =some (rd v0 p0))(h1:V[i1]? =some (pt v1 p1))(o:eJ N p0 p1=some res):c_ 21 [v0,v1] w<|aT E V res:=by
 unfold eJ at o;refine enter Try.func21 zr zr ?_;have j:=(j.dup (i0+0) h0).nR (i:=i1+1) h1;refine f_<|BX 1 v0 j zr λaa w j=>?_;exact bY false<|o_<|h_ zr rz<|j_ 0 j zr iD xl<|BW p1 1 j xl<|C4 p0.Name p1 zt zr zr zr zr<|bY (p0.Name.mV p1)<|g_<|t_<|oi o▸cH ⟨rfl,j.drop 3⟩
theorem ji{p0:List bG}{p1:bG->Option Bool}(o:Holds E w V)(h0:V[i0]? =some (rd v0 p0))(h1:xg bE E V v1 p1 (λ(r:Bool)=>Value.bool r))(j:dD N p0 p1=some res):c_ 20 [v0,v1] w<|aS E V res:=by
 unfold dD at j;refine enter Try.func20 zr zr ?_;have o:=o.dup (i0+0) h0;refine f_<|aP 0<|p_<|f_<|mv v0<|AT 0 p0 o yL<|bH 0<|g_<|CG E V (λ(ab:Unit)=>[rd v0 p0]) (λ_=>[]) (λaa _=>[(0,v0),(1,v1),(7,vi p0.length),(8,vi aa)]) (λr=>lx bE 19 Try.f20 (aS E V r) .ret) j ?_ ?_ ?_ ?_;exact o.sp 1 [0];rintro hm aa ab fl _ w hk⟨O,rfl,o⟩j;refine m_<|B2<|bH (aa:Int)<|aP (aa:Int)<|o_<|mv v1<|mv v0<|bH (aa:Int)<|q_ j λaf ag j=>AI 0 o tW ag λak o=>BY 0 af o vc λal o=>?_;refine q_ j λan ah j=>C5 0 zr o zr h1 3 zr zr zr ah λw o=>g_<|fp j (λj=>?_) λj=>?_;exact f_<|bH (aa:Int)<|aP (aa:Int)<|g_<|Cl<|bL<|oi j▸⟨rfl,cH ⟨rfl,o.drop 3⟩⟩;exact B6<|bT<|aF<|l_<|Ca hk hm<|bH ((aa+1:Nat):Int)<|i_<|oi j▸⟨rfl,o.sp 3 [2]⟩;intro r U w j hK;exact bL<|oi j▸hK;rintro ab _ w j⟨O,rfl,o⟩;exact aF<|f_<|aP (-1)<|g_<|t_<|oi j▸cH ⟨rfl,o.drop 1⟩
theorem gL{p0:bX}{p1:fy}(j:Holds E w V)(h0:V[i0]? =some (rd v0 p0))(o:eO N p0 p1=some res):c_ 9 [v0,str p1] w<|aS E V res:=by
 unfold eO at o;refine enter Try.func9 zr zr ?_;have j:=j.dup (i0+0) h0;refine f_<|BX 0 v0 j zr λae w j=>?_;have j:=j.sc fy p1;refine BX 0 (str p1) j zr λaa w j=>?_;have j:=j.gT (i:=0) rfl;refine aP 0<|o_<|h_ zr nX<|Cg 2 j zr iT va λaf j=>CW zr [vp aa 0] zr ?_;refine q_ o λab ad o=>v_ (iL Try.func20) (ji N (i0:=0) j rfl ⟨21,[vp aa 0],rfl,(iL Try.func21),λw Γl v y0 r i j hi hr=>by exact eG (mH N (i0:=i) (i1:=Γl.length+1) j hi nQ hr) λ_ _ h=>h⟩ ad) λw j=>aP ab<|g_<|t_ ?_;exact oi o▸cH ⟨rfl,j.drop 5⟩
theorem oJ{p0:bG}{res:Int×Int}(j:Holds E w V)(h0:V[i0]? =some (rd v0 p0))(o:jA N p0 p1=some res):c_ 82 [v0,vi p1] w<|lI E V res:=by
 unfold jA at o;refine enter Try.func82 zr zr ?_;have j:=j.dup (i0+0) h0;refine f_<|BX 0 v0 j zr λaa w j=>?_;refine aP 0<|aP 0<|p_<|f_<|bH p1<|D1 (a:=p1) (b:=2) zt zr zr zr zr<|ic (Int.tmod p1 2) 1<|g_<|fp o (λo=>?_) λo=>?_;refine m_<|Cj mixed ?_;have j:=j.drew;refine Ci<|h_ zr nZ<|e_<|j_ 0 j zr fk bJ<|e_<|h_ zr nY<|e_<|j_ 0 j zr fj bJ<|e_<|aP p0.H<|e_<|aP p0.W<|B9<|aF<|B1 ?_;exact oi o▸gY ⟨rfl,j.drop 2⟩;refine Cc<|Cj mixed ?_;have j:=j.drew;refine Ci<|h_ zr nY<|e_<|j_ 0 j zr fj bJ<|e_<|h_ zr nZ<|e_<|j_ 0 j zr fk bJ<|e_<|aP p0.W<|e_<|aP p0.H<|B9<|aF<|t_ ?_;exact oi o▸gY ⟨rfl,j.drop 2⟩
theorem oK{p0:bX}{p1:Slot}{res:aB}(j:Holds E w V)(h0:V[i0]? =some (rd v0 p0))(h1:V[i1]? =some (rd v1 p1))(hb:ij N p0 p1=some res):c_ 55 [v0,v1] w<|lJ E V res:=by
 unfold ij at hb;refine enter Try.func55 zr zr ?_;have j:=(j.dup (i0+0) h0).dup (i1+1) h1;refine f_<|BX 1 v0 j zr λag w j=>?_;have j:=j.gT (i:=0) rfl;refine BX 1 v1 j zr λah w j=>?_;have j:=j.gT (i:=0) rfl;refine B4 j kD.z λai w j=>?_;refine p_<|CJ mixed [1,1,0,0,0,2,0,0,1,1,2,0,0,0,0,0] [0,1,2,3,4,8,9,5,6,7,10,11,12,13,14,15] ?_;have j:=j.drew;refine DG 2 zr zr zt zr j zr zr nX iT λaj j=>C7 p0.dP 0 zr zr zt zr j zr zr va λak a36 al j=>Ce zr zr<|BY 5 p0 j oI λan j=>dY zr<|B7 5 j zr pD kz λao j=>dY zr<|BW p1.dG 0 j xl<|Ct<|DG 6 zr zr zt zr j zr zr rB lY λaq j=>CY p1.aM 0 zr zr zr j zr zr bJ λa41 ar j=>Dj zr zr<|q_ hb λau ab hb=>v_ Ab (gL N (p1:=p1.dG) (i0:=3) j zr ab) λw j=>CE (⟨⟨zt,j.lG 4⟩,j.lG 0⟩)<|Ce zr zr<|q_ hb λad ae hb=>AI 5 j tW ae λav j=>dY zr<|BY 0 ad j vc λaw j=>u4 zr ?_;refine q_ hb λo af hb=>v_ (iL Try.func82) (oJ N (p1:=p1.aM) (i0:=0) j zr af) λw j=>CE (⟨⟨zt,j.lG 6⟩,j.lG 2⟩)<|Ce zr zr<|mv (.tuple #[vi o.1,vi o.2])<|dY zr<|B8 (vi o.1)<|dY zr<|B8 (vi o.2)<|dY zr<|aP o.1<|dY zr<|aP o.2<|Ct ?_;have j:=j.pl 14 [0,1,3,4,5,7,8,9,10,11,12,13];refine CB<|aF<|f_<|B7 8 j zr mE iS λax j=>B7 0 j zr fm cR λay j=>BW p1.At.X 0 j bJ<|B7 10 j zr mE iS λaz j=>B7 0 j zr fL cY λa0 j=>BW p1.At.Y 0 j bJ<|B7 12 j zr mE iS λa1 j=>B7 0 j zr fm cR λa2 j=>BW p1.At.X 0 j bJ<|bH o.1<|y_ p1.At.X o.1<|B7 14 j zr mE iS λa3 j=>B7 0 j zr fL cY λa4 j=>BW p1.At.Y 0 j bJ<|bH o.2 ?_;refine y_ p1.At.Y o.2 ?_;have j:=(((j.sc Int p1.At.X).sc Int p1.At.Y).sc Int<|wrap .i64<|p1.At.X+o.1).sc Int<|wrap .i64<|p1.At.Y+o.2;refine Cz (⟨p1.At.X,p1.At.Y,wrap .i64<|p1.At.X+o.1,wrap .i64<|p1.At.Y+o.2⟩:aB) trivial rfl j [(0,vi p1.At.X),(1,vi p1.At.Y),(2,vi<|wrap .i64<|p1.At.X+o.1),(3,vi<|wrap .i64<|p1.At.Y+o.2)] rfl wu rfl (λM hs g=>by have h:=nW M;exact cM.cons (f:=λ(x:aB)y=>{x with X0:=y}) h nU (g.sat 3 _ rfl).1 λ_ h=>cM.cons (f:=λ(x:aB)y=>{x with Y0:=y}) h nV (g.sat 2 _ rfl).1 λ_ h=>cM.cons (f:=λ(x:aB)y=>{x with X1:=y}) h kA (g.sat 1 _ rfl).1 λ_ h=>cM.cons (f:=λ(x:aB)y=>{x with Y1:=y}) h kB (g.sat 0 _ rfl).1 λ_ h=>cM.nil h) λa5 j=>?_;refine B5 20 j 0 zr eU λw j=>?_;refine g_<|t_ ?_;obtain rfl:=oi hb;exact xu 20 zr j zr zr eU λa6 j=>j.pk 26 [0]
theorem qt{p0:bX}{p1:aB}{res:Bool}(j:Holds E w V)(h0:V[i0]? =some (rd v0 p0))(h1:V[i1]? =some (rd v1 p1))(hb:kR N p0 p1=some res):c_ 56 [v0,v1] w<|aT E V res:=by
 unfold kR at hb;refine enter Try.func56 zr zr ?_;have j:=(j.dup (i0+0) h0).dup (i1+1) h1;refine f_<|BX 1 v0 j zr λo w j=>?_;refine BX 1 v1 j zr λaa w j=>?_;refine bY false<|o_<|h_ zr ga<|j_ 0 j zr cZ bJ<|h_ zr pC<|j_ 1 j zr jR bJ<|ic p1.X0 p0.aU<|fK (decide<|p1.X0>=p0.aU)<|s_ true (decide<|p1.X0>=p0.aU) (vp aa 1) zr zr zr (bW gb) ?_;refine s_ true (decide<|p1.X0>=p0.aU) (vi p1.Y0) rfl rfl rfl (aR 0 rfl j (by exact z_ (vp aa 1)) rfl de bJ)<|s_ true (decide<|p1.X0>=p0.aU) (vp o 2) rfl rfl rfl (bW pC)<|s_ true (decide<|p1.X0>=p0.aU) (vi p0.aU) rfl rfl rfl (aR 1 rfl j (by exact z_ (vp o 2)) rfl jR bJ)<|u_ (vb<|decide<|p1.Y0>=p0.aU) rfl rfl (mq .geq)<|BV (b:=decide<|p1.X0>=p0.aU) (v:=vb<|decide (p1.X0>=p0.aU)&&decide (p1.Y0>=p0.aU)) trivial rfl rfl (fI true)<|fK (decide (p1.X0>=p0.aU)&&decide (p1.Y0>=p0.aU))<|s_ true (decide (p1.X0>=p0.aU)&&decide (p1.Y0>=p0.aU)) (vp aa 0) rfl rfl rfl (bW ga)<|s_ true (decide (p1.X0>=p0.aU)&&decide (p1.Y0>=p0.aU)) (vi p1.X0) rfl rfl rfl (aR 0 rfl j (by exact z_ (vp aa 0)) rfl cZ bJ)<|s_ true (decide (p1.X0>=p0.aU)&&decide (p1.Y0>=p0.aU)) (vp o 0) rfl rfl rfl (bW pz) ?_;refine s_ true (decide (p1.X0>=p0.aU)&&decide (p1.Y0>=p0.aU)) (vi p0.W) rfl rfl rfl (aR 1 rfl j (by exact z_ (vp o 0)) rfl jP bJ)<|u_ (vb<|decide<|p1.X0<=p0.W) rfl rfl (mq .leq)<|BV (b:=decide (p1.X0>=p0.aU)&&decide (p1.Y0>=p0.aU)) (v:=vb<|(decide (p1.X0>=p0.aU)&&decide (p1.Y0>=p0.aU))&&decide (p1.X0<=p0.W)) trivial rfl rfl (fI true)<|fK ((decide (p1.X0>=p0.aU)&&decide (p1.Y0>=p0.aU))&&decide (p1.X0<=p0.W))<|s_ true ((decide (p1.X0>=p0.aU)&&decide (p1.Y0>=p0.aU))&&decide (p1.X0<=p0.W)) (vp aa 1) rfl rfl rfl (bW gb)<|s_ true ((decide (p1.X0>=p0.aU)&&decide (p1.Y0>=p0.aU))&&decide (p1.X0<=p0.W)) (vi p1.Y0) rfl rfl rfl (aR 0 rfl j (by exact z_ (vp aa 1)) rfl de bJ)<|s_ true ((decide (p1.X0>=p0.aU)&&decide (p1.Y0>=p0.aU))&&decide (p1.X0<=p0.W)) (vp o 1) rfl rfl rfl (bW pB)<|s_ true ((decide (p1.X0>=p0.aU)&&decide (p1.Y0>=p0.aU))&&decide (p1.X0<=p0.W)) (vi p0.H) rfl rfl rfl (aR 1 rfl j (by exact z_ (vp o 1)) rfl jQ bJ)<|u_ (vb<|decide<|p1.Y0<=p0.H) rfl rfl (mq .leq) ?_;refine BV (b:=(decide (p1.X0>=p0.aU)&&decide (p1.Y0>=p0.aU))&&decide (p1.X0<=p0.W)) (v:=vb<|((decide (p1.X0>=p0.aU)&&decide (p1.Y0>=p0.aU))&&decide (p1.X0<=p0.W))&&decide (p1.Y0<=p0.H)) trivial rfl rfl (fI true)<|fK (((decide (p1.X0>=p0.aU)&&decide (p1.Y0>=p0.aU))&&decide (p1.X0<=p0.W))&&decide (p1.Y0<=p0.H))<|s_ true (((decide (p1.X0>=p0.aU)&&decide (p1.Y0>=p0.aU))&&decide (p1.X0<=p0.W))&&decide (p1.Y0<=p0.H)) (vp aa 2) rfl rfl rfl (bW iE)<|s_ true (((decide (p1.X0>=p0.aU)&&decide (p1.Y0>=p0.aU))&&decide (p1.X0<=p0.W))&&decide (p1.Y0<=p0.H)) (vi p1.X1) rfl rfl rfl (aR 0 rfl j (by exact z_ (vp aa 2)) rfl dW bJ)<|s_ true (((decide (p1.X0>=p0.aU)&&decide (p1.Y0>=p0.aU))&&decide (p1.X0<=p0.W))&&decide (p1.Y0<=p0.H)) (vp o 0) rfl rfl rfl (bW pz)<|s_ true (((decide (p1.X0>=p0.aU)&&decide (p1.Y0>=p0.aU))&&decide (p1.X0<=p0.W))&&decide (p1.Y0<=p0.H)) (vi p0.W) rfl rfl rfl (aR 1 rfl j (by exact z_ (vp o 0)) rfl jP bJ)<|s_ true (((decide (p1.X0>=p0.aU)&&decide (p1.Y0>=p0.aU))&&decide (p1.X0<=p0.W))&&decide (p1.Y0<=p0.H)) (vp o 2) rfl rfl rfl (bW pC)<|s_ true (((decide (p1.X0>=p0.aU)&&decide (p1.Y0>=p0.aU))&&decide (p1.X0<=p0.W))&&decide (p1.Y0<=p0.H)) (vi p0.aU) rfl rfl rfl (aR 1 rfl j (by exact z_ (vp o 2)) rfl jR bJ)<|u_ (vi<|wrap .i64<|p0.W - p0.aU) rfl rfl (yJ .sub) ?_;refine u_ (vb<|decide<|p1.X1<=wrap .i64 (p0.W - p0.aU)) rfl rfl (mq .leq)<|BV (b:=((decide (p1.X0>=p0.aU)&&decide (p1.Y0>=p0.aU))&&decide (p1.X0<=p0.W))&&decide (p1.Y0<=p0.H)) (v:=vb<|(((decide (p1.X0>=p0.aU)&&decide (p1.Y0>=p0.aU))&&decide (p1.X0<=p0.W))&&decide (p1.Y0<=p0.H))&&decide (p1.X1<=wrap .i64 (p0.W - p0.aU))) trivial rfl rfl (fI true)<|fK ((((decide (p1.X0>=p0.aU)&&decide (p1.Y0>=p0.aU))&&decide (p1.X0<=p0.W))&&decide (p1.Y0<=p0.H))&&decide (p1.X1<=wrap .i64 (p0.W - p0.aU)))<|s_ true ((((decide (p1.X0>=p0.aU)&&decide (p1.Y0>=p0.aU))&&decide (p1.X0<=p0.W))&&decide (p1.Y0<=p0.H))&&decide (p1.X1<=wrap .i64 (p0.W - p0.aU))) (vp aa 3) rfl rfl rfl (bW ko)<|s_ true ((((decide (p1.X0>=p0.aU)&&decide (p1.Y0>=p0.aU))&&decide (p1.X0<=p0.W))&&decide (p1.Y0<=p0.H))&&decide (p1.X1<=wrap .i64 (p0.W - p0.aU))) (vi p1.Y1) rfl rfl rfl (aR 0 rfl j (by exact z_ (vp aa 3)) rfl fF bJ)<|s_ true ((((decide (p1.X0>=p0.aU)&&decide (p1.Y0>=p0.aU))&&decide (p1.X0<=p0.W))&&decide (p1.Y0<=p0.H))&&decide (p1.X1<=wrap .i64 (p0.W - p0.aU))) (vp o 1) rfl rfl rfl (bW pB)<|s_ true ((((decide (p1.X0>=p0.aU)&&decide (p1.Y0>=p0.aU))&&decide (p1.X0<=p0.W))&&decide (p1.Y0<=p0.H))&&decide (p1.X1<=wrap .i64 (p0.W - p0.aU))) (vi p0.H) rfl rfl rfl (aR 1 rfl j (by exact z_ (vp o 1)) rfl jQ bJ)<|s_ true ((((decide (p1.X0>=p0.aU)&&decide (p1.Y0>=p0.aU))&&decide (p1.X0<=p0.W))&&decide (p1.Y0<=p0.H))&&decide (p1.X1<=wrap .i64 (p0.W - p0.aU))) (vp o 2) rfl rfl rfl (bW pC)<|s_ true ((((decide (p1.X0>=p0.aU)&&decide (p1.Y0>=p0.aU))&&decide (p1.X0<=p0.W))&&decide (p1.Y0<=p0.H))&&decide (p1.X1<=wrap .i64 (p0.W - p0.aU))) (vi p0.aU) rfl rfl rfl (aR 1 rfl j (by exact z_ (vp o 2)) rfl jR bJ) ?_;refine u_ (vi<|wrap .i64<|p0.H - p0.aU) zr zr (yJ .sub)<|u_ (vb<|decide<|p1.Y1<=wrap .i64 (p0.H - p0.aU)) zr zr (mq .leq)<|BV (b:=(((decide (p1.X0>=p0.aU)&&decide (p1.Y0>=p0.aU))&&decide (p1.X0<=p0.W))&&decide (p1.Y0<=p0.H))&&decide (p1.X1<=wrap .i64 (p0.W - p0.aU))) (v:=vb<|((((decide (p1.X0>=p0.aU)&&decide (p1.Y0>=p0.aU))&&decide (p1.X0<=p0.W))&&decide (p1.Y0<=p0.H))&&decide (p1.X1<=wrap .i64 (p0.W - p0.aU)))&&decide (p1.Y1<=wrap .i64 (p0.H - p0.aU))) zt zr zr (fI true)<|bY (((((decide (p1.X0>=p0.aU)&&decide (p1.Y0>=p0.aU))&&decide (p1.X0<=p0.W))&&decide (p1.Y0<=p0.H))&&decide (p1.X1<=wrap .i64 (p0.W - p0.aU)))&&decide (p1.Y1<=wrap .i64 (p0.H - p0.aU)))<|g_<|t_ ?_;exact oi hb▸cH ⟨rfl,j.drop 4⟩
theorem n0{p0 p1:aB}{res:Bool}(j:Holds E w V)(h0:V[i0]? =some (rd v0 p0))(h1:V[i1]? =some (rd v1 p1))(hb:i9 N p0 p1 p2=some res):c_ 58 [v0,v1,vi p2] w<|aT E V res:=by
 unfold i9 at hb;refine enter Try.func58 zr zr ?_;have j:=(j.dup (i0+0) h0).dup (i1+1) h1;refine f_<|BX 1 v0 j zr λo w j=>?_;refine BX 1 v1 j zr λaa w j=>?_;refine bY false<|o_<|h_ zr iE<|j_ 1 j zr dW bJ<|bH p2<|y_ p0.X1 p2<|h_ zr ga<|j_ 0 j zr cZ bJ<|ic (wrap .i64<|p0.X1+p2) p1.X0 ?_;refine fK (decide<|wrap .i64 (p0.X1+p2)<=p1.X0)<|s_ true (decide<|wrap .i64 (p0.X1+p2)<=p1.X0) (vp aa 2) rfl rfl rfl (bW iE)<|s_ true (decide<|wrap .i64 (p0.X1+p2)<=p1.X0) (vi p1.X1) rfl rfl rfl (aR 0 rfl j (by exact z_ (vp aa 2)) rfl dW bJ)<|u_ (vi p2) rfl rfl mo<|u_ (vi<|wrap .i64<|p1.X1+p2) rfl rfl (yJ .add)<|s_ true (decide<|wrap .i64 (p0.X1+p2)<=p1.X0) (vp o 0) rfl rfl rfl (bW ga)<|s_ true (decide<|wrap .i64 (p0.X1+p2)<=p1.X0) (vi p0.X0) rfl rfl rfl (aR 1 rfl j (by exact z_ (vp o 0)) rfl cZ bJ)<|u_ (vb<|decide<|wrap .i64 (p1.X1+p2)<=p0.X0) rfl rfl (mq .leq)<|BV (b:=decide<|wrap .i64 (p0.X1+p2)<=p1.X0) (v:=vb<|decide (wrap .i64 (p0.X1+p2)<=p1.X0)||decide (wrap .i64 (p1.X1+p2)<=p0.X0)) trivial rfl rfl (ly true) ?_;refine fK (decide (wrap .i64 (p0.X1+p2)<=p1.X0)||decide (wrap .i64 (p1.X1+p2)<=p0.X0))<|s_ true (decide (wrap .i64 (p0.X1+p2)<=p1.X0)||decide (wrap .i64 (p1.X1+p2)<=p0.X0)) (vp o 3) rfl rfl rfl (bW ko)<|s_ true (decide (wrap .i64 (p0.X1+p2)<=p1.X0)||decide (wrap .i64 (p1.X1+p2)<=p0.X0)) (vi p0.Y1) rfl rfl rfl (aR 1 rfl j (by exact z_ (vp o 3)) rfl fF bJ)<|u_ (vi p2) rfl rfl mo<|u_ (vi<|wrap .i64<|p0.Y1+p2) rfl rfl (yJ .add)<|s_ true (decide (wrap .i64 (p0.X1+p2)<=p1.X0)||decide (wrap .i64 (p1.X1+p2)<=p0.X0)) (vp aa 1) rfl rfl rfl (bW gb)<|s_ true (decide (wrap .i64 (p0.X1+p2)<=p1.X0)||decide (wrap .i64 (p1.X1+p2)<=p0.X0)) (vi p1.Y0) rfl rfl rfl (aR 0 rfl j (by exact z_ (vp aa 1)) rfl de bJ)<|u_ (vb<|decide<|wrap .i64 (p0.Y1+p2)<=p1.Y0) rfl rfl (mq .leq)<|BV (b:=decide (wrap .i64 (p0.X1+p2)<=p1.X0)||decide (wrap .i64 (p1.X1+p2)<=p0.X0)) (v:=vb<|(decide (wrap .i64 (p0.X1+p2)<=p1.X0)||decide (wrap .i64 (p1.X1+p2)<=p0.X0))||decide (wrap .i64 (p0.Y1+p2)<=p1.Y0)) trivial rfl rfl (ly true) ?_;refine fK ((decide (wrap .i64 (p0.X1+p2)<=p1.X0)||decide (wrap .i64 (p1.X1+p2)<=p0.X0))||decide (wrap .i64 (p0.Y1+p2)<=p1.Y0))<|s_ true ((decide (wrap .i64 (p0.X1+p2)<=p1.X0)||decide (wrap .i64 (p1.X1+p2)<=p0.X0))||decide (wrap .i64 (p0.Y1+p2)<=p1.Y0)) (vp aa 3) rfl rfl rfl (bW ko)<|s_ true ((decide (wrap .i64 (p0.X1+p2)<=p1.X0)||decide (wrap .i64 (p1.X1+p2)<=p0.X0))||decide (wrap .i64 (p0.Y1+p2)<=p1.Y0)) (vi p1.Y1) rfl rfl rfl (aR 0 rfl j (by exact z_ (vp aa 3)) rfl fF bJ)<|u_ (vi p2) rfl rfl mo<|u_ (vi<|wrap .i64<|p1.Y1+p2) rfl rfl (yJ .add)<|s_ true ((decide (wrap .i64 (p0.X1+p2)<=p1.X0)||decide (wrap .i64 (p1.X1+p2)<=p0.X0))||decide (wrap .i64 (p0.Y1+p2)<=p1.Y0)) (vp o 1) rfl rfl rfl (bW gb)<|s_ true ((decide (wrap .i64 (p0.X1+p2)<=p1.X0)||decide (wrap .i64 (p1.X1+p2)<=p0.X0))||decide (wrap .i64 (p0.Y1+p2)<=p1.Y0)) (vi p0.Y0) rfl rfl rfl (aR 1 rfl j (by exact z_ (vp o 1)) rfl de bJ)<|u_ (vb<|decide<|wrap .i64 (p1.Y1+p2)<=p0.Y0) rfl rfl (mq .leq)<|BV (b:=(decide (wrap .i64 (p0.X1+p2)<=p1.X0)||decide (wrap .i64 (p1.X1+p2)<=p0.X0))||decide (wrap .i64 (p0.Y1+p2)<=p1.Y0)) (v:=vb<|((decide (wrap .i64 (p0.X1+p2)<=p1.X0)||decide (wrap .i64 (p1.X1+p2)<=p0.X0))||decide (wrap .i64 (p0.Y1+p2)<=p1.Y0))||decide (wrap .i64 (p1.Y1+p2)<=p0.Y0)) trivial rfl rfl (ly true) ?_;exact bY (((decide (wrap .i64 (p0.X1+p2)<=p1.X0)||decide (wrap .i64 (p1.X1+p2)<=p0.X0))||decide (wrap .i64 (p0.Y1+p2)<=p1.Y0))||decide (wrap .i64 (p1.Y1+p2)<=p0.Y0))<|g_<|t_<|oi hb▸cH ⟨rfl,j.drop 4⟩
theorem ni{p0 p1:aB}{p2:bX}{res:Bool}(j:Holds E w V)(h0:V[i0]? =some (rd v0 p0))(h1:V[i1]? =some (pt v1 p1))(h2:V[i2]? =some (pt v2 p2))(o:fe N p0 p1 p2=some res):c_ 57 [v0,v1,v2] w<|aT E V res:=by
 unfold fe at o;refine enter Try.func57 zr zr ?_;have j:=((j.dup (i0+0) h0).nR (i:=i1+1) h1).nR (i:=i2+2) h2;refine f_<|BX 2 v0 j zr λad w j=>?_;exact bY false<|o_<|BY 2 p1 j eU λae j=>B_ 1 j zr eU λaf j=>B7 3 j zr tV mC λag j=>BW p2.lD 0 j bJ<|q_ o λaa ab o=>v_ (iL Try.func58) (n0 N (p2:=p2.lD) (i0:=2) (i1:=1) j zr zr ab) λw j=>Cd aa<|bY (!aa)<|g_<|t_<|oi o▸cH ⟨rfl,j.drop 7⟩
theorem kp{p0:List aB}{p1:aB->Option Bool}(o:Holds E w V)(h0:V[i0]? =some (rd v0 p0))(h1:xg bE E V v1 p1 (λ(r:Bool)=>Value.bool r))(j:fJ N p0 p1=some res):c_ 49 [v0,v1] w<|aS E V res:=by
 unfold fJ at j;refine enter Try.func49 zr zr ?_;have o:=o.dup (i0+0) h0;refine f_<|aP 0<|p_<|f_<|mv v0<|AT 0 p0 o ln<|bH 0<|g_<|CG E V (λ(ab:Unit)=>[rd v0 p0]) (λ_=>[]) (λaa _=>[(0,v0),(1,v1),(7,vi p0.length),(8,vi aa)]) (λr=>lx bE 19 Try.f49 (aS E V r) .ret) j ?_ ?_ ?_ ?_;exact o.sp 1 [0];rintro hm aa ab fl _ w hk⟨O,rfl,o⟩j;refine m_<|B2<|bH (aa:Int)<|aP (aa:Int)<|o_<|mv v1<|mv v0<|bH (aa:Int)<|q_ j λaf ag j=>AI 0 o gE ag λak o=>BY 0 af o eU λal o=>?_;refine q_ j λan ah j=>C5 0 zr o zr h1 3 zr zr zr ah λw o=>g_<|fp j (λj=>?_) λj=>?_;exact f_<|bH (aa:Int)<|aP (aa:Int)<|g_<|Cl<|bL<|oi j▸⟨rfl,cH ⟨rfl,o.drop 3⟩⟩;exact B6<|bT<|aF<|l_<|Ca hk hm<|bH ((aa+1:Nat):Int)<|i_<|oi j▸⟨rfl,o.sp 3 [2]⟩;intro r U w j hK;exact bL<|oi j▸hK;rintro ab _ w j⟨O,rfl,o⟩;exact aF<|f_<|aP (-1)<|g_<|t_<|oi j▸cH ⟨rfl,o.drop 1⟩
theorem jD{p0:List aB}{p1:aB->Option Bool}{res:Bool}(j:Holds E w V)(h0:V[i0]? =some (rd v0 p0))(h1:xg bE E V v1 p1 (λ(r:Bool)=>Value.bool r))(o:cT N p0 p1=some res):c_ 41 [v0,v1] w<|aT E V res:=by
 unfold cT at o;refine enter Try.func41 zr zr ?_;have j:=j.dup (i0+0) h0;refine f_<|bY false<|o_<|mv v0<|mv v1<|q_ o λaa ab o=>v_ yO (kp N (i0:=0) j zr (h1.lift 1 zr) ab) λw j=>ic aa 0<|bY (decide<|aa>=0)<|g_<|t_ ?_;exact oi o▸cH ⟨rfl,j.drop 1⟩
def gi(E:World)(V:List HP)(v0:Value)(p0:List aB)(res:Int)(v:Value)(w:World):Prop:=v= vi res/\Holds E w ([own 52 v0 p0]++V)
theorem fQ{p0:List aB}{p1:aB->Option Bool}(o:Holds E w (own 52 v0 p0::V))(h1:xg bE E V v1 p1 (λ(r:Bool)=>Value.bool r))(j:dR N p0 p1=some res):c_ 49 [v0,v1] w<|gi E V v0 p0 res:=by
 unfold dR at j;refine enter Try.func49 zr zr<|f_<|aP 0<|p_<|f_<|mv v0<|Ch (i:=0) (l:=p0) zt zr o zr zr ln<|bH 0<|g_<|CG E V (λ(ab:Unit)=>[own 52 v0 p0]) (λ_=>[(0,v0)]) (λaa _=>[(1,v1),(7,vi p0.length),(8,vi aa)]) (λr=>lx bE 19 Try.f49 (gi E V v0 p0 r) .ret) j ?_ ?_ ?_ ?_;exact o.sp 1 [0];rintro hm aa ab fl _ w hk⟨O,rfl,o⟩j;refine m_<|B2<|bH (aa:Int)<|aP (aa:Int)<|o_<|mv v1<|mv v0<|bH (aa:Int)<|q_ j λaj ad j=>BZ 0 o zr zr gE ad<|CH 0 o ad eU λak o=>?_;refine q_ j λal ag j=>C5 0 zr o zr h1 2 zr zr zr ag λw o=>g_<|fp j (λj=>?_) λj=>?_;exact f_<|bH (aa:Int)<|aP (aa:Int)<|g_<|Cl<|bL<|oi j▸⟨rfl,cH ⟨rfl,o.pk 2 [1]⟩⟩;exact B6<|bT<|aF<|l_<|Ca hk hm<|bH ((aa+1:Nat):Int)<|i_<|oi j▸⟨rfl,o.sp 2 [1]⟩;intro r U w j hK;exact bL<|oi j▸hK;rintro ab _ w j⟨O,rfl,o⟩;exact aF<|f_<|aP (-1)<|g_<|t_<|oi j▸cH ⟨rfl,o.pk 1 [0]⟩
def jk(E:World)(V:List HP)(v0:Value)(p0:List aB)(res:Bool)(v:Value)(w:World):Prop:=v= vb res/\Holds E w ([own 52 v0 p0]++V)
theorem iV{p0:List aB}{p1:aB->Option Bool}{res:Bool}(j:Holds E w (own 52 v0 p0::V))(h1:xg bE E V v1 p1 (λ(r:Bool)=>Value.bool r))(o:dz N p0 p1=some res):c_ 41 [v0,v1] w<|jk E V v0 p0 res:=by
 unfold dz at o;refine enter Try.func41 zr zr<|f_<|bY false<|o_<|mv v0<|mv v1 ?_;have j:=j.pull 0;refine q_ o λaa ab o=>v_ yO (fQ N j (h1.lift 1 zr) ab) λw j=>ic aa 0<|bY (decide<|aa>=0)<|g_<|t_ ?_;exact oi o▸cH ⟨rfl,j.pk 2 [0]⟩
theorem pI{p0:bX}{res:List aB×Int}(j:Holds E w V)(h0:V[i0]? =some (rd v0 p0))(o:jg N p0=some res):c_ 39 [v0] w<|jc E V res:=by
 unfold jg at o;refine enter Try.func39 zr zr ?_;have j:=j.dup (i0+0) h0;refine f_<|BX 0 v0 j zr λae w j=>?_;have j:=j.gT (i:=0) rfl;refine dT n_<|aP 0<|p_<|f_<|B7 0 j zr rA kX λbf j=>BY 0 p0.aX j xK λbg j=>AT 0 p0.aX j xL<|ic ((p0.aX.length:Int)) 500<|g_<|fp o (λo=>?_) λo=>?_;refine f_<|dT n_<|aP 2<|g_<|B1 ?_;obtain rfl:=oi o;have j:=j.cI aB 52;exact gY ⟨n_,zr,j.pk 5 [0]⟩;refine Cq<|dT n_<|p_<|f_<|B7 2 j zr rA kX λbh j=>BY 0 p0.aX j xK λag j=>AT 0 p0.aX j xL<|bH 0<|g_ ?_;have j:=(j.cI aB 52).cI aB 52;refine DH E V (λ(ah:List aB)(ak:Value)=>[pt (vp ae 0) p0,rd ag p0.aX,own 52 ak ah]) (λ_ ak=>[(4,ak)]) (λai _ _=>[(1,vp ae 0),(13,ag),(14,vi p0.aX.length),(15,vi ai)]) (λr=>lx bE 62 Try.f39 (jc E V r) .ret) o ?_ ?_ ?_ ?_;exact⟨n_,j.sp 8 [6,2,0]⟩;rintro hm ai ah fl _ w hk⟨aj,O,rfl,j⟩o;refine m_<|B2<|q_ o λaf a0 o=>AI 1 j yM a0 λbk j=>BY 0 af j sU λbl j=>B4 j yN.z λaq w j=>?_;refine B5 0 j 1 zr sU λw j=>?_;refine p_<|f_<|BY 3 p0 j oI λbm j=>h_ zr pD<|j_ 1 j zr kz xl<|q_ o λa1 a2 o=>v_ Ab (gL N (p1:=af.dG) (i0:=0) j zr a2) λw j=>ic a1 0<|g_<|fp o (λo=>?_) λo=>?_;refine f_<|dT n_<|aP 5<|g_<|B1<|jr<|bL ?_;obtain rfl:=oi o;have j:=j.cI aB 52;exact⟨rfl,gY ⟨n_,zr,j.pk 8 [0]⟩⟩;refine Cc<|m_<|q_ o λal hj o=>BU (λ(al:Bool)=>SH E V [(1,vp ae 0),(4,aj),(6,vp aq 0),(13,ag),(14,vi p0.aX.length),(15,vi ai),(45,vb al)] [pt (vp ae 0) p0,own 52 aj ah,bx 35 aq af,rd ag p0.aX]) al ?_ ?_;refine l_<|h_ zr rB<|j_ 1 j zr lY bJ<|q_ hj λar a3 hj=>v_ pA (cG N (p0:=af.aM) (p1:=0) (p2:=3) j a3) λw j=>Cd ar<|fK (!ar)<|iB hj (λaa hj=>?_) λaa hj=>?_;refine cD aa<|cD aa<|cD aa<|cD aa<|cD aa<|cD aa<|cD aa<|iC aa (vb true)<|fK true<|ll<|ll<|ll<|ll<|ll<|ll<|ll<|BV (b:=true) (v:=vb true) zt zr zr zr<|i_ ?_;exact oi hj▸⟨rfl,j.sp 7 [4,6,1,5]⟩;refine h_ (hg:=cg aa) zr mE<|h_ (hg:=cg aa) zr fm<|j_ (hg:=cg aa) (f:=(λx=>x.At.X)) 1 j zr (Fd.comp (f:=λ(x:Slot)=>x.At) (λ(x:bA)=>x.X) iS cR) bJ<|B7 (hg:=cg aa) 4 j zr pz jP λbn j=>BW (hg:=cg aa) p0.W 0 j bJ<|q_ hj λan a4 hj=>v_ (hg:=cg aa) pA (cG N (p0:=af.At.X) (p1:=0) (p2:=p0.W) j a4) λw j=>Cd (hg:=cg aa) an<|iC aa (vb<|!an)<|fK (!an)<|iB hj (λab hj=>?_) λab hj=>?_;exact cD ab<|cD ab<|cD ab<|cD ab<|cD ab<|cD ab<|cD ab<|iC ab (vb true)<|i_<|oi hj▸⟨rfl,j.sp 8 [5,7,2,6]⟩;exact h_ (hg:=cg ab) zr mE<|h_ (hg:=cg ab) zr fL<|j_ (hg:=cg ab) (f:=(λx=>x.At.Y)) 2 j zr (Fd.comp (f:=λ(x:Slot)=>x.At) (λ(x:bA)=>x.Y) iS cY) bJ<|B7 (hg:=cg ab) 5 j zr pB jQ λbo j=>BW (hg:=cg ab) p0.H 0 j bJ<|q_ hj λau a5 hj=>v_ (hg:=cg ab) pA (cG N (p0:=af.At.Y) (p1:=0) (p2:=p0.H) j a5) λw j=>Cd (hg:=cg ab) au<|iC ab (vb<|!au)<|i_<|oi hj▸⟨rfl,j.sp 9 [6,8,3,7]⟩;rintro _ w⟨O,rfl,j⟩;refine aF<|fp o (λo=>?_) λo=>?_;refine f_<|dT n_<|aP 1<|g_<|B1<|jr<|bL ?_;obtain rfl:=oi o;have j:=j.cI aB 52;exact⟨rfl,gY ⟨n_,zr,j.pk 5 [0]⟩⟩;refine Cq<|BY 0 p0 j oI λbp j=>B_ 3 j zr sU λbq j=>?_;refine q_ o λav a6 o=>B0 (iL Try.func55) (oK N (i0:=1) (i1:=0) j zr zr a6) λbr w j=>B4 j kD.z λaw w j=>?_;refine B5 0 j 1 zr eU λw j=>?_;refine p_<|f_<|BY 4 p0 j oI λbt j=>B_ 1 j zr eU λbu j=>?_;refine q_ o λa7 a8 o=>v_ (iL Try.func56) (qt N (i0:=1) (i1:=0) j zr zr a8) λw j=>Cd a7<|g_<|fp o (λo=>?_) λo=>?_;refine f_<|dT n_<|aP 1<|g_<|B1<|jr<|bL ?_;obtain rfl:=oi o;have j:=j.cI aB 52;exact⟨rfl,gY ⟨n_,zr,j.pk 11 [0]⟩⟩;refine Cc<|f_<|mv aj ?_;have j:=j.gT (i:=2) rfl;refine CW zr [vp aw 0,vp ae 0] zr ?_;have j:=j.pull 7;refine q_ o λbw a9 o=>v_ zA (iV N j ⟨57,[vp aw 0,vp ae 0],rfl,(iL Try.func57),λw Γl v y0 r i j hi hr=>by exact eG (ni N (i0:=i) (i1:=Γl.length+2) (i2:=Γl.length+6) j hi nQ nQ hr) λ_ _ h=>h⟩ a9) λw j=>g_<|fp o (λo=>?_) λo=>?_;refine f_<|dT n_<|aP 12<|g_<|B1<|jr<|bL ?_;obtain rfl:=oi o;have j:=j.cI aB 52;exact⟨rfl,gY ⟨n_,zr,j.pk 12 [0]⟩⟩;refine Cx<|l_<|mv aj<|BY 3 av j eU λba j=>Cp ([av]:List aB) j [ba] gE kD (λM hs g=>⟨(g.sat 0 _ zr).1,zt⟩) λbz w j=>?_;have j:=j.freeze 0;refine q_ o λb0 bb o=>Cu 2 0 j tX bb λax w j=>?_;exact dT ax<|i_<|bT<|aF<|l_<|Ca hk hm<|bH ((ai+1:Nat):Int)<|i_<|oi o▸⟨rfl,ax,j.sp 13 [9,12,2]⟩;intro r U w o hK;exact bL<|oi o▸hK;rintro ah _ w o⟨ao,O,rfl,j⟩;exact aF<|f_<|mv ao<|dT ao<|aP 0<|g_<|t_<|oi o▸gY ⟨ao,zr,j.pk 3 [2]⟩
theorem mI{p0:bX}{p1:bA}{res:Bool}(j:Holds E w V)(h0:V[i0]? =some (rd v0 p0))(h1:V[i1]? =some (rd v1 p1))(hb:eK N p0 p1=some res):c_ 40 [v0,v1] w<|aT E V res:=by
 unfold eK at hb;refine enter Try.func40 zr zr ?_;have j:=(j.dup (i0+0) h0).dup (i1+1) h1;refine f_<|BX 1 v0 j zr λai w j=>?_;refine BX 1 v1 j zr λaj w j=>?_;refine bY false<|p_<|q_ hb λad hj hb=>BU (λ(ad:Bool)=>SH E V [(4,vb ad)] []) ad ?_ ?_;refine l_<|h_ zr fm<|j_ 0 j zr cR bJ<|h_ zr pz<|j_ 1 j zr jP bJ<|q_ hj λaf ag hj=>v_ pA (cG N (p0:=p1.X) (p1:=0) (p2:=p0.W) j ag) λw j=>fK af<|iB hj (λo hj=>?_) λo hj=>?_;exact h_ (hg:=cg o) zr fL<|j_ (hg:=cg o) 0 j zr cY bJ<|h_ (hg:=cg o) zr pB<|j_ (hg:=cg o) 1 j zr jQ bJ<|q_ hj λae ah hj=>v_ (hg:=cg o) pA (cG N (p0:=p1.Y) (p1:=0) (p2:=p0.H) j ah) λw j=>iC o (vb ae)<|bY ae<|i_<|oi hj▸⟨rfl,j.sp 4 []⟩;exact cD o<|cD o<|cD o<|cD o<|cD o<|iC o (vb false)<|bY false<|i_<|oi hj▸⟨rfl,j.sp 4 []⟩;rintro _ w⟨O,rfl,j⟩;exact aF<|t_<|oi hb▸cH ⟨rfl,j.drop 0⟩
theorem nj{p0:aB}{p1:bA}{res:Bool}(j:Holds E w V)(h0:V[i0]? =some (rd v0 p0))(h1:V[i1]? =some (rd v1 p1))(hb:jM N p0 p1=some res):c_ 43 [v0,v1] w<|aT E V res:=by
 unfold jM at hb;refine enter Try.func43 zr zr ?_;have j:=(j.dup (i0+0) h0).dup (i1+1) h1;refine f_<|BX 1 v0 j zr λo w j=>?_;refine BX 1 v1 j zr λaa w j=>?_;refine bY false<|o_<|h_ zr fm<|j_ 0 j zr cR bJ<|h_ zr ga<|j_ 1 j zr cZ bJ<|ic p1.X p0.X0<|fK (decide<|p1.X>p0.X0)<|s_ true (decide<|p1.X>p0.X0) (vp aa 0) zr zr zr (bW fm) ?_;refine s_ true (decide<|p1.X>p0.X0) (vi p1.X) rfl rfl rfl (aR 0 rfl j (by exact z_ (vp aa 0)) rfl cR bJ)<|s_ true (decide<|p1.X>p0.X0) (vp o 2) rfl rfl rfl (bW iE)<|s_ true (decide<|p1.X>p0.X0) (vi p0.X1) rfl rfl rfl (aR 1 rfl j (by exact z_ (vp o 2)) rfl dW bJ)<|u_ (vb<|decide<|p1.X<p0.X1) rfl rfl (mq .lss)<|BV (b:=decide<|p1.X>p0.X0) (v:=vb<|decide (p1.X>p0.X0)&&decide (p1.X<p0.X1)) trivial rfl rfl (fI true)<|fK (decide (p1.X>p0.X0)&&decide (p1.X<p0.X1))<|s_ true (decide (p1.X>p0.X0)&&decide (p1.X<p0.X1)) (vp aa 1) rfl rfl rfl (bW fL)<|s_ true (decide (p1.X>p0.X0)&&decide (p1.X<p0.X1)) (vi p1.Y) rfl rfl rfl (aR 0 rfl j (by exact z_ (vp aa 1)) rfl cY bJ)<|s_ true (decide (p1.X>p0.X0)&&decide (p1.X<p0.X1)) (vp o 1) rfl rfl rfl (bW gb) ?_;refine s_ true (decide (p1.X>p0.X0)&&decide (p1.X<p0.X1)) (vi p0.Y0) rfl rfl rfl (aR 1 rfl j (by exact z_ (vp o 1)) rfl de bJ)<|u_ (vb<|decide<|p1.Y>p0.Y0) rfl rfl (mq .gtr)<|BV (b:=decide (p1.X>p0.X0)&&decide (p1.X<p0.X1)) (v:=vb<|(decide (p1.X>p0.X0)&&decide (p1.X<p0.X1))&&decide (p1.Y>p0.Y0)) trivial rfl rfl (fI true)<|fK ((decide (p1.X>p0.X0)&&decide (p1.X<p0.X1))&&decide (p1.Y>p0.Y0))<|s_ true ((decide (p1.X>p0.X0)&&decide (p1.X<p0.X1))&&decide (p1.Y>p0.Y0)) (vp aa 1) rfl rfl rfl (bW fL)<|s_ true ((decide (p1.X>p0.X0)&&decide (p1.X<p0.X1))&&decide (p1.Y>p0.Y0)) (vi p1.Y) rfl rfl rfl (aR 0 rfl j (by exact z_ (vp aa 1)) rfl cY bJ)<|s_ true ((decide (p1.X>p0.X0)&&decide (p1.X<p0.X1))&&decide (p1.Y>p0.Y0)) (vp o 3) rfl rfl rfl (bW ko)<|s_ true ((decide (p1.X>p0.X0)&&decide (p1.X<p0.X1))&&decide (p1.Y>p0.Y0)) (vi p0.Y1) rfl rfl rfl (aR 1 rfl j (by exact z_ (vp o 3)) rfl fF bJ)<|u_ (vb<|decide<|p1.Y<p0.Y1) rfl rfl (mq .lss) ?_;exact BV (b:=(decide (p1.X>p0.X0)&&decide (p1.X<p0.X1))&&decide (p1.Y>p0.Y0)) (v:=vb<|((decide (p1.X>p0.X0)&&decide (p1.X<p0.X1))&&decide (p1.Y>p0.Y0))&&decide (p1.Y<p0.Y1)) zt zr zr (fI true)<|bY (((decide (p1.X>p0.X0)&&decide (p1.X<p0.X1))&&decide (p1.Y>p0.Y0))&&decide (p1.Y<p0.Y1))<|g_<|t_<|oi hb▸cH ⟨rfl,j.drop 4⟩
theorem n7{p0:aB}{p1:bA}{res:Bool}(j:Holds E w V)(h0:V[i0]? =some (rd v0 p0))(h1:V[i1]? =some (pt v1 p1))(o:fE N p0 p1=some res):c_ 42 [v0,v1] w<|aT E V res:=by
 unfold fE at o;refine enter Try.func42 zr zr ?_;have j:=(j.dup (i0+0) h0).nR (i:=i1+1) h1;refine f_<|BX 1 v0 j zr λad w j=>?_;refine bY false<|o_<|B_ 0 j zr eU λae j=>BY 2 p1 j mF λaf j=>?_;exact q_ o λaa ab o=>v_ (iL Try.func43) (nj N (i0:=1) (i1:=0) j zr zr ab) λw j=>bY aa<|g_<|t_<|oi o▸cH ⟨rfl,j.drop 5⟩
theorem lp{p0:List bA}{p1:bA}(o:Holds E w V)(h0:V[i0]? =some (rd v0 p0))(h1:V[i1]? =some (rd v1 p1))(hb:gN N p0 p1=some res):c_ 59 [v0,v1] w<|aS E V res:=by
 unfold gN at hb;refine enter Try.func59 zr zr ?_;have o:=(o.dup (i0+0) h0).dup (i1+1) h1;refine f_<|BX 0 v1 o zr λad w o=>?_;refine aP 0<|p_<|f_<|mv v0<|AT 2 p0 o yQ<|bH 0<|g_<|CG E V (λ(ae:Unit)=>[rd v0 p0,bx 33 ad p1]) (λ_=>[]) (λab _=>[(0,v0),(3,vp ad 0),(7,vi p0.length),(8,vi ab)]) (λr=>lx bE 19 Try.f59 (aS E V r) .ret) hb ?_ ?_ ?_ ?_;exact o.sp 3 [2,0];rintro hm ab ae fl _ w hk⟨O,rfl,o⟩hb;refine m_<|B2<|bH (ab:Int)<|aP (ab:Int)<|p_<|Cj mixed ?_;have o:=o.drew;refine Ci<|B_ 1 o zr mF λal o=>e_<|mv v0<|e_<|bH (ab:Int)<|e_<|q_ hb λaf ai hb=>AI 1 o yR ai λan o=>e_<|BY 0 af o mF λao o=>e_<|DQ (i:=2) (j:=0) (a:=p1) (b:=af) zt zr o zr zr zr zr zB zr<|B9<|aF<|fp hb (λhb=>?_) λhb=>?_;exact f_<|bH (ab:Int)<|aP (ab:Int)<|g_<|Cl<|bL<|oi hb▸⟨rfl,cH ⟨rfl,o.drop 5⟩⟩;exact B6<|bT<|aF<|l_<|Ca hk hm<|bH ((ab+1:Nat):Int)<|i_<|oi hb▸⟨rfl,o.sp 5 [3,4]⟩;intro r U w hb hK;exact bL<|oi hb▸hK;rintro ae _ w hb⟨O,rfl,o⟩;exact aF<|f_<|aP (-1)<|g_<|t_<|oi hb▸cH ⟨rfl,o.drop 2⟩
theorem kq{p0:List bA}{p1:bA}{res:Bool}(j:Holds E w V)(h0:V[i0]? =some (rd v0 p0))(h1:V[i1]? =some (rd v1 p1))(o:dN N p0 p1=some res):c_ 44 [v0,v1] w<|aT E V res:=by
 unfold dN at o;refine enter Try.func44 zr zr ?_;have j:=(j.dup (i0+0) h0).dup (i1+1) h1;refine f_<|BX 0 v1 j zr λad w j=>?_;refine bY false<|o_<|mv v0<|B_ 0 j zr mF λae j=>?_;refine q_ o λaa ab o=>v_ (iL Try.func59) (lp N (i0:=3) (i1:=0) j zr zr ab) λw j=>ic aa 0<|bY (decide<|aa>=0)<|g_<|t_ ?_;exact oi o▸cH ⟨rfl,j.drop 4⟩
def nk(E:World)(V:List HP)(res:List aB×Int)(v:Value)(w:World):Prop:=∃u0:Value,v = .tuple #[u0,vi res.2]/\Holds E w ([rd u0 res.1]++V)
theorem qx{p0:bX}{res:List aB×Int}(j:Holds E w V)(h0:V[i0]? =some (rd v0 p0))(o:kS N p0=some res):c_ 19 [v0] w<|nk E V res:=by
 unfold kS at o;refine enter Try.func19 zr zr ?_;have j:=j.dup (i0+0) h0;refine f_<|BX 0 v0 j zr λai w j=>?_;refine dT n_<|aP 0<|p_<|m_<|q_ o λak hj o=>BU (λ(ak:Bool)=>SH E V [(1,vp ai 0),(30,vb ak)] [bx 26 ai p0]) ak ?_ ?_;refine l_<|h_ zr pz<|j_ 0 j zr jP bJ<|q_ hj λau a1 hj=>v_ pA (cG N (p0:=p0.W) (p1:=1) (p2:=1000000) j a1) λw j=>Cd au<|fK (!au)<|iB hj (λab hj=>?_) λab hj=>?_;refine cD ab<|cD ab<|cD ab<|cD ab<|iC ab (vb true)<|fK true<|ll<|ll<|ll<|ll<|BV (b:=true) (v:=vb true) zt zr zr zr<|fK true<|ll<|ll<|ll<|ll<|BV (b:=true) (v:=vb true) zt zr zr zr<|i_ ?_;exact oi hj▸⟨rfl,j.sp 2 [0]⟩;refine h_ (hg:=cg ab) zr pB<|j_ (hg:=cg ab) 0 j zr jQ bJ<|q_ hj λal a2 hj=>v_ (hg:=cg ab) pA (cG N (p0:=p0.H) (p1:=1) (p2:=1000000) j a2) λw j=>Cd (hg:=cg ab) al<|iC ab (vb<|!al)<|fK (!al)<|iB hj (λad hj=>?_) λad hj=>?_;refine cD ad<|cD ad<|cD ad<|cD ad<|iC ad (vb true)<|fK true<|ll<|ll<|ll<|ll<|BV (b:=true) (v:=vb true) zt zr zr zr<|i_ ?_;exact oi hj▸⟨rfl,j.sp 2 [0]⟩;refine h_ (hg:=cg ad) zr pC<|j_ (hg:=cg ad) 0 j zr jR bJ<|q_ hj λan a3 hj=>v_ (hg:=cg ad) pA (cG N (p0:=p0.aU) (p1:=0) (p2:=1000000) j a3) λw j=>Cd (hg:=cg ad) an<|iC ad (vb<|!an)<|fK (!an)<|iB hj (λae hj=>?_) λae hj=>?_;exact cD ae<|cD ae<|cD ae<|cD ae<|iC ae (vb true)<|i_<|oi hj▸⟨rfl,j.sp 2 [0]⟩;exact h_ (hg:=cg ae) zr tV<|j_ (hg:=cg ae) 0 j zr mC bJ<|q_ hj λav a4 hj=>v_ (hg:=cg ae) pA (cG N (p0:=p0.lD) (p1:=0) (p2:=1000000) j a4) λw j=>Cd (hg:=cg ae) av<|iC ae (vb<|!av)<|i_<|oi hj▸⟨rfl,j.sp 2 [0]⟩;rintro _ w⟨O,rfl,j⟩;refine aF<|fp o (λo=>?_) λo=>?_;refine f_<|dT n_<|aP 1<|g_<|B1 ?_;obtain rfl:=oi o;have j:=j.kO aB;exact gY ⟨n_,zr,j.pk 2 [0]⟩;refine Cc<|f_<|h_ zr nX<|Cg 0 j zr iT va λbk j=>?_;refine q_ o λah a5 o=>v_ (iL Try.func38) (mf N (i0:=0) j zr a5) λw j=>aP ah<|o_<|bH ah<|ic ah 0<|g_<|fp o (λo=>?_) λo=>?_;refine f_<|bH ah<|dT n_<|aP ah<|g_<|B1 ?_;obtain rfl:=oi o;have j:=j.kO aB;exact gY ⟨n_,zr,j.pk 3 [0]⟩;refine Cq<|B_ 1 j zr oI λbl j=>?_;refine q_ o λaf a6 o=>B0 (iL Try.func39) (pI N (i0:=0) j zr a6) ?_;rintro _ w⟨aj,rfl,j⟩;refine mv (.tuple #[aj,vi af.2])<|B8 aj<|B8 (vi af.2)<|dT aj<|aP af.2<|p_<|f_<|bH af.2<|ic af.2 0<|g_<|fp o (λo=>?_) λo=>?_;refine f_<|bH af.2<|dT n_<|aP af.2<|g_<|B1 ?_;obtain rfl:=oi o;have j:=j.kO aB;exact gY ⟨n_,zr,j.pk 5 [0]⟩;refine Cc<|f_<|h_ zr tY<|Cg 3 j zr mD yP λbm j=>AT 0 p0.Marks j yQ<|ic ((p0.Marks.length:Int)) 10<|g_<|fp o (λo=>?_) λo=>?_;refine f_<|dT n_<|aP 2<|g_<|B1 ?_;obtain rfl:=oi o;have j:=j.kO aB;exact gY ⟨n_,zr,j.pk 6 [0]⟩;refine Cc<|f_<|h_ zr tY<|Cg 4 j zr mD yP λaw j=>AT 0 p0.Marks j yQ<|bH 0<|g_<|DH E V (λ(ao:List aB)(aq:Value)=>[bx 26 ai p0,rd aw p0.Marks,rd aq ao]) (λ_ aq=>[(5,aq)]) (λag _ _=>[(1,vp ai 0),(50,aw),(51,vi p0.Marks.length),(52,vi ag)]) (λr=>lx bE 75 Try.f19 (nk E V r) .ret) o ?_ ?_ ?_ ?_;have j:=j.freeze 2;exact⟨aj,j.sp 6 [5,0,2]⟩;rintro hm ag ao fl _ w hk⟨ax,O,rfl,j⟩o;refine m_<|B2<|bH (ag:Int)<|q_ o λay a9 o=>AI 1 j yR a9 λbo j=>BY 0 ay j mF λbp j=>B4 j wv.z λaz w j=>?_;refine aP (ag:Int)<|B5 0 j 1 zr mF λw j=>?_;refine g_<|B2<|B_ 3 j zr oI λbq j=>B_ 1 j zr mF λbr j=>?_;refine q_ o λa0 ba o=>v_ (iL Try.func40) (mI N (i0:=1) (i1:=0) j zr zr ba) λw j=>Cd a0<|bY (!a0)<|g_<|fp o (λo=>?_) λo=>?_;refine f_<|dT n_<|aP 1<|g_<|Cl<|jr<|bL ?_;obtain rfl:=oi o;have j:=j.kO aB;exact⟨rfl,gY ⟨n_,zr,j.pk 9 [0]⟩⟩;refine f_<|mv ax ?_;have j:=j.gT (i:=2) rfl;refine CW zr [vp az 0] zr ?_;refine q_ o λbb bc o=>v_ zA (jD N (i0:=7) j rfl ⟨42,[vp az 0],rfl,(iL Try.func42),λw Γl v y0 r i j hi hr=>by exact eG (n7 N (i0:=i) (i1:=Γl.length+2) j hi nQ hr) λ_ _ h=>h⟩ bc) λw j=>bY bb<|g_<|fp o (λo=>?_) λo=>?_;refine f_<|dT n_<|aP 12<|g_<|Cl<|jr<|bL ?_;obtain rfl:=oi o;have j:=j.kO aB;exact⟨rfl,gY ⟨n_,zr,j.pk 9 [0]⟩⟩;refine m_<|CJ mixed [0,0,0,0,0,2,0] [0,1,2,3,4,5,6] ?_;have j:=j.drew;refine Ce zr zr<|h_ zr tY<|dY zr<|Cg 5 j zr mD yP λbt j=>dY zr<|bH (ag:Int)<|dY zr<|q_ o λbu bf o=>CV (hl:= .inr ⟨rfl,zr⟩) 0 zr j zr zr yR (.inl zr) bf λbw j=>dY zr<|BY 4 ay j mF λbz j=>u4 zr<|q_ o λbg bh o=>v_ (iL Try.func44) (kq N (i0:=1) (i1:=0) j zr zr bh) λw j=>ze zr<|bY bg<|Ct<|CB<|aF<|fp o (λo=>?_) λo=>?_;refine f_<|dT n_<|aP 7<|g_<|Cl<|jr<|bL ?_;obtain rfl:=oi o;have j:=j.kO aB;exact⟨rfl,gY ⟨n_,zr,j.pk 12 [0]⟩⟩;exact B6<|bT<|bT<|aF<|l_<|Ca hk hm<|bH ((ag+1:Nat):Int)<|i_<|oi o▸⟨rfl,ax,j.sp 11 [8,9,10]⟩;intro r U w o hK;exact bL<|oi o▸hK;rintro ao _ w o⟨ar,O,rfl,j⟩;exact aF<|f_<|mv ar<|dT ar<|aP 0<|g_<|t_<|oi o▸gY ⟨ar,zr,j.pk 3 [2]⟩
theorem mg{p0:bX}(j:Holds E w V)(h0:V[i0]? =some (rd v0 p0))(hb:ff N p0=some res):c_ 8 [v0] w<|aS E V res:=by
 unfold ff at hb;refine enter Try.func8 zr zr ?_;have j:=j.dup (i0+0) h0;refine f_<|BX 0 v0 j zr λae w j=>?_;refine aP 0<|o_<|B_ 0 j zr oI λaf j=>?_;refine q_ hb λo ad hb=>B0 (iL Try.func19) (qx N (i0:=0) j zr ad) ?_;rintro _ w⟨ab,rfl,j⟩;refine mv (.tuple #[ab,vi o.2])<|B8 ab<|B8 (vi o.2)<|dT ab<|aP o.2<|o_<|bH o.2<|aP o.2<|g_<|t_ ?_;exact oi hb▸cH ⟨rfl,j.drop 4⟩
theorem oL{res:Bool}(o:Holds E w V)(j:kT N p0 p1 p2=some res):c_ 83 [vi p0,vi p1,vi p2] w<|aT E V res:=by
 unfold kT at j;refine enter Try.func83 zr zr<|f_<|bY false<|o_<|bH p0<|bH p1<|ic p0 p1<|fK (decide<|p0>=p1)<|u_ (vi p0) zr zr mo ?_;refine u_ (vi p2) zr zr mo<|u_ (vb<|decide<|p0<=p2) zr zr (mq .leq)<|BV (b:=decide<|p0>=p1) (v:=vb<|decide (p0>=p1)&&decide (p0<=p2)) zt zr zr (fI true)<|bY (decide (p0>=p1)&&decide (p0<=p2))<|g_<|t_ ?_;exact oi j▸cH ⟨rfl,o.drop 0⟩
theorem je{res:Bool}(o:Holds E w V)(j:gO N p0=some res):c_ 60 [vi p0] w<|aT E V res:=by
 unfold gO at j;exact enter Try.func60 zr zr<|f_<|bY false<|o_<|bH p0<|q_ j λaa ab j=>v_ (iL Try.func83) (oL N (p0:=p0) (p1:=(-1000000)) (p2:=1000000) o ab) λw o=>bY aa<|g_<|t_<|oi j▸cH ⟨rfl,o.drop 0⟩
theorem oM{p0:aB}{res:Bool}(j:Holds E w V)(h0:V[i0]? =some (rd v0 p0))(hb:ik N p0=some res):c_ 45 [v0] w<|aT E V res:=by
 unfold ik at hb;refine enter Try.func45 zr zr ?_;have j:=j.dup (i0+0) h0;refine f_<|BX 0 v0 j zr λaq w j=>?_;refine bY false<|p_<|q_ hb λaf o hb=>BU (λ(af:Bool)=>SH E V [(2,vb af)] []) af ?_ ?_;refine l_<|h_ zr ga<|j_ 0 j zr cZ bJ<|q_ o λaj ak o=>v_ xM (je N (p0:=p0.X0) j ak) λw j=>fK aj<|iB o (λaa o=>?_) λaa o=>?_;refine h_ (hg:=cg aa) zr gb<|j_ (hg:=cg aa) 0 j zr de bJ<|q_ o λag al o=>v_ (hg:=cg aa) xM (je N (p0:=p0.Y0) j al) λw j=>iC aa (vb ag)<|fK ag<|iB o (λab o=>?_) λab o=>?_;refine h_ (hg:=cg ab) zr iE<|j_ (hg:=cg ab) 0 j zr dW bJ<|q_ o λah an o=>v_ (hg:=cg ab) xM (je N (p0:=p0.X1) j an) λw j=>iC ab (vb ah)<|fK ah<|iB o (λad o=>?_) λad o=>?_;exact h_ (hg:=cg ad) zr ko<|j_ (hg:=cg ad) 0 j zr fF bJ<|q_ o λai ao o=>v_ (hg:=cg ad) xM (je N (p0:=p0.Y1) j ao) λw j=>iC ad (vb ai)<|bY ai<|i_<|oi o▸⟨rfl,j.sp 2 []⟩;exact cD ad<|cD ad<|cD ad<|iC ad (vb false)<|bY false<|i_<|oi o▸⟨rfl,j.sp 2 []⟩;refine cD ab<|cD ab<|cD ab<|iC ab (vb false)<|fK false<|ll<|ll<|ll<|BV (b:=false) (v:=vb false) zt zr zr zr<|bY false<|i_ ?_;exact oi o▸⟨rfl,j.sp 2 []⟩;refine cD aa<|cD aa<|cD aa<|iC aa (vb false)<|fK false<|ll<|ll<|ll<|BV (b:=false) (v:=vb false) zt zr zr zr<|fK false<|ll<|ll<|ll<|BV (b:=false) (v:=vb false) zt zr zr zr<|bY false<|i_ ?_;exact oi o▸⟨rfl,j.sp 2 []⟩;rintro _ w⟨O,rfl,j⟩;exact aF<|t_<|oi hb▸cH ⟨rfl,j.drop 0⟩
theorem mh{p0:List aB}(j:Holds E w V)(h0:V[i0]? =some (rd v0 p0))(hb:fg N p0=some res):c_ 22 [v0] w<|aS E V res:=by
 unfold fg at hb;refine enter Try.func22 zr zr ?_;have j:=j.dup (i0+0) h0;refine f_<|aP 0<|p_<|f_<|mv v0<|AT 0 p0 j ln<|ic ((p0.length:Int)) 2000<|g_<|fp hb (λhb=>?_) λhb=>?_;exact f_<|aP 2<|g_<|B1<|oi hb▸cH ⟨rfl,j.drop 1⟩;refine Cc<|f_<|mv v0<|AT 0 p0 j ln<|bH 0<|g_<|CG E V (λ(ae:Unit)=>[rd v0 p0]) (λ_=>[]) (λad _=>[(8,v0),(9,vi p0.length),(10,vi ad)]) (λr=>lx bE 30 Try.f22 (aS E V r) .ret) hb ?_ ?_ ?_ ?_;exact j.sp 1 [0];rintro hm ad ae fl _ w hk⟨O,rfl,j⟩hb;refine m_<|B2<|q_ hb λo ah hb=>AI 0 j gE ah λan j=>BY 0 o j eU λao j=>B4 j kD.z λab w j=>?_;refine B5 0 j 1 zr eU λw j=>?_;refine p_<|f_<|B_ 0 j zr eU λaq j=>?_;refine q_ hb λai aj hb=>v_ (iL Try.func45) (oM N (i0:=0) j zr aj) λw j=>Cd ai<|g_<|fp hb (λhb=>?_) λhb=>?_;exact f_<|aP 1<|g_<|B1<|jr<|bL<|oi hb▸⟨rfl,cH ⟨rfl,j.drop 5⟩⟩;refine Cq<|h_ rfl iE<|j_ 1 j rfl dW bJ<|h_ rfl ga<|j_ 1 j rfl cZ bJ<|ic o.X1 o.X0<|fK (decide<|o.X1<=o.X0)<|s_ true (decide<|o.X1<=o.X0) (vp ab 3) rfl rfl rfl (bW ko)<|s_ true (decide<|o.X1<=o.X0) (vi o.Y1) rfl rfl rfl (aR 1 rfl j (by exact z_ (vp ab 3)) rfl fF bJ) ?_;refine s_ true (decide<|o.X1<=o.X0) (vp ab 1) rfl rfl rfl (bW gb)<|s_ true (decide<|o.X1<=o.X0) (vi o.Y0) rfl rfl rfl (aR 1 rfl j (by exact z_ (vp ab 1)) rfl de bJ)<|u_ (vb<|decide<|o.Y1<=o.Y0) rfl rfl (mq .leq)<|BV (b:=decide<|o.X1<=o.X0) (v:=vb<|decide (o.X1<=o.X0)||decide (o.Y1<=o.Y0)) trivial rfl rfl (ly true)<|g_<|fp hb (λhb=>?_) λhb=>?_;exact f_<|aP 13<|g_<|Cl<|bL<|oi hb▸⟨rfl,cH ⟨rfl,j.drop 5⟩⟩;exact B6<|bT<|aF<|l_<|Ca hk hm<|bH ((ad+1:Nat):Int)<|i_<|oi hb▸⟨rfl,j.sp 5 [4]⟩;intro r U w hb hK;exact bL<|oi hb▸hK;rintro ae _ w hb⟨O,rfl,j⟩;exact aF<|f_<|aP 0<|g_<|t_<|oi hb▸cH ⟨rfl,j.drop 1⟩
theorem lL{p0:List aB}{res:List aB}(j:Holds E w V)(h0:V[i0]? =some (rd v0 p0))(o:eP N p0=some res):
    c_ 24 [v0] w<|gB E V res:=by
 unfold eP at o
 refine enter Try.func24 zr zr ?_
 have j:=j.dup (i0+0) h0
 refine f_<|dT n_<|p_<|f_<|mv v0<|D0 (i:=0) zt zr j zr zr zr ln<|g_<|C2 (b:=xB v0) zr (λhc=>?_)<|λhc=>?_
 ·have hx:=j.Aj (i:=0) rfl hc
  rw[hx]at o
  replace o:some ([]:List aB)=_:=o
  refine f_<|dT n_<|g_<|B1 ?_
  obtain rfl:=oi o
  have j:=j.cI aB 52
  exact cH<|j.pk 2 [0]
 refine Cq<|Cp ([]:List aB) j [] gE kD (λM hs g=>zt) λae w j=>mv v0 ?_
 obtain⟨af,ab,o⟩:=bd o
 refine Cu 0 1 j tX ab λad w j=>?_
 refine dT ad<|g_<|t_ ?_
 obtain rfl:=oi o
 exact cH<|j.pk 2 [0]
theorem nm{p0 p1:aB}(j:Holds E w V)(h0:V[i0]? =some (rd v0 p0))(h1:V[i1]? =some (rd v1 p1))(o:fY N p0 p1=some res):c_ 26 [v0,v1] w<|aS E V res:=by
 unfold fY at o;refine enter Try.func26 zr zr ?_;have j:=(j.dup (i0+0) h0).dup (i1+1) h1;refine f_<|BX 1 v0 j zr λaa w j=>?_;refine BX 1 v1 j zr λab w j=>?_;refine aP 0<|o_<|h_ zr gb<|j_ 1 j zr de bJ<|h_ zr gb<|j_ 0 j zr de bJ<|y_ p0.Y0 p1.Y0<|aP (wrap .i64<|p0.Y0 - p1.Y0)<|g_ ?_;exact t_<|oi o▸cH ⟨rfl,j.drop 4⟩
end Go.Gk
