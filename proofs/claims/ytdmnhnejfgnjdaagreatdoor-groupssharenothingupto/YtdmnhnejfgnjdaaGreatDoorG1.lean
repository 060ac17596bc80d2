/-
  Printed texts: Go functions as plain functions, and that they are. No statement of the seed is proved here.
-/
import Derived.Test.YtdmnhnejfgnjdaaGreatDoorProg
import Derived.Test.YtdmnhnejfgnjdaaGreatDoorE1
import Derived.Test.YtdmnhnejfgnjdaaGreatDoorA1
import Derived.Test.YtdmnhnejfgnjdaaGreatDoorA2
import Derived.Test.YtdmnhnejfgnjdaaGreatDoorRows
import Derived.Shelf.SlGeneric
import Derived.Ground.SlsfProg
import Derived.Ground.SlgmProg
set_option linter.unusedVariables false
set_option linter.unusedSimpArgs false
set_option linter.unusedSectionVars false
set_option maxRecDepth 100000
set_option maxHeartbeats 4000000
namespace Go.Gk
open Go Go.Proofs
instance instGTRect:GT aD:=GT.via (fun x=>(x.X0,x.Y0,x.X1,x.Y1))
instance instKVRect:KV aD:=instKVvia (fun(x:aD)=>(x.X0,x.Y0,x.X1,x.Y1))
theorem cS:Fd 0 (fun x:aD=>x.X0):=fun M cs x h=>(Fd.fst (α:=Int) (β:=Int×Int×Int) Fd.self (by decide)) M cs (x.X0,x.Y0,x.X1,x.Y1) h
theorem k9:Fs 0 Int (fun(x:aD) y=>{x with X0:=y}):=fun M cs ds x y h h2=>(Fs.fst (α:=Int) (β:=Int×Int×Int) Fs.self (by decide)) M cs ds (x.X0,x.Y0,x.X1,x.Y1) y h h2
theorem cZ:Fd 1 (fun x:aD=>x.Y0):=fun M cs x h=>(Fd.snd (α:=Int) (β:=Int×Int×Int) (Fd.fst (α:=Int) (β:=Int×Int) Fd.self (by decide)) rfl) M cs (x.X0,x.Y0,x.X1,x.Y1) h
theorem ng:Fs 1 Int (fun(x:aD) y=>{x with Y0:=y}):=fun M cs ds x y h h2=>(Fs.snd (α:=Int) (β:=Int×Int×Int) (Fs.fst (α:=Int) (β:=Int×Int) Fs.self (by decide)) rfl) M cs ds (x.X0,x.Y0,x.X1,x.Y1) y h h2
theorem dM:Fd 2 (fun x:aD=>x.X1):=fun M cs x h=>(Fd.snd (α:=Int) (β:=Int×Int×Int) (Fd.snd (α:=Int) (β:=Int×Int) (Fd.fst (α:=Int) (β:=Int) Fd.self (by decide)) rfl) rfl) M cs (x.X0,x.Y0,x.X1,x.Y1) h
theorem ld:Fs 2 Int (fun(x:aD) y=>{x with X1:=y}):=fun M cs ds x y h h2=>(Fs.snd (α:=Int) (β:=Int×Int×Int) (Fs.snd (α:=Int) (β:=Int×Int) (Fs.fst (α:=Int) (β:=Int) Fs.self (by decide)) rfl) rfl) M cs ds (x.X0,x.Y0,x.X1,x.Y1) y h h2
theorem fy:Fd 3 (fun x:aD=>x.Y1):=fun M cs x h=>(Fd.snd (α:=Int) (β:=Int×Int×Int) (Fd.snd (α:=Int) (β:=Int×Int) (Fd.snd (α:=Int) (β:=Int) Fd.self rfl) rfl) rfl) M cs (x.X0,x.Y0,x.X1,x.Y1) h
theorem nh:Fs 3 Int (fun(x:aD) y=>{x with Y1:=y}):=fun M cs ds x y h h2=>(Fs.snd (α:=Int) (β:=Int×Int×Int) (Fs.snd (α:=Int) (β:=Int×Int) (Fs.snd (α:=Int) (β:=Int) Fs.self rfl) rfl) rfl) M cs ds (x.X0,x.Y0,x.X1,x.Y1) y h h2
instance instGTPoint:GT bX:=GT.via (fun x=>(x.X,x.Y))
instance instKVPoint:KV bX:=instKVvia (fun(x:bX)=>(x.X,x.Y))
theorem lN:Fd 0 (fun x:bX=>x.X):=fun M cs x h=>(Fd.fst (α:=Int) (β:=Int) Fd.self (by decide)) M cs (x.X,x.Y) h
theorem v7:Fs 0 Int (fun(x:bX) y=>{x with X:=y}):=fun M cs ds x y h h2=>(Fs.fst (α:=Int) (β:=Int) Fs.self (by decide)) M cs ds (x.X,x.Y) y h h2
theorem lO:Fd 1 (fun x:bX=>x.Y):=fun M cs x h=>(Fd.snd (α:=Int) (β:=Int) Fd.self rfl) M cs (x.X,x.Y) h
theorem v8:Fs 1 Int (fun(x:bX) y=>{x with Y:=y}):=fun M cs ds x y h h2=>(Fs.snd (α:=Int) (β:=Int) Fs.self rfl) M cs ds (x.X,x.Y) y h h2
instance instGTBore:GT bB:=GT.via (fun x=>(x.At,x.cH,x.bN,x.To,x.bP))
theorem pZ:Fd 0 (fun x:bB=>x.At):=fun M cs x h=>(Fd.fst (α:=bX) (β:=Int×Int×Int×Bool) Fd.self (by decide)) M cs (x.At,x.cH,x.bN,x.To,x.bP) h
theorem lf:Fd 2 (fun x:bB=>x.cH):=fun M cs x h=>(Fd.snd (α:=bX) (β:=Int×Int×Int×Bool) (Fd.fst (α:=Int) (β:=Int×Int×Bool) Fd.self (by decide)) rfl) M cs (x.At,x.cH,x.bN,x.To,x.bP) h
theorem xE:Fs 2 Int (fun(x:bB) y=>{x with cH:=y}):=fun M cs ds x y h h2=>(Fs.snd (α:=bX) (β:=Int×Int×Int×Bool) (Fs.fst (α:=Int) (β:=Int×Int×Bool) Fs.self (by decide)) rfl) M cs ds (x.At,x.cH,x.bN,x.To,x.bP) y h h2
theorem jk:Fd 3 (fun x:bB=>x.bN):=fun M cs x h=>(Fd.snd (α:=bX) (β:=Int×Int×Int×Bool) (Fd.snd (α:=Int) (β:=Int×Int×Bool) (Fd.fst (α:=Int) (β:=Int×Bool) Fd.self (by decide)) rfl) rfl) M cs (x.At,x.cH,x.bN,x.To,x.bP) h
theorem j4:Fd 4 (fun x:bB=>x.To):=fun M cs x h=>(Fd.snd (α:=bX) (β:=Int×Int×Int×Bool) (Fd.snd (α:=Int) (β:=Int×Int×Bool) (Fd.snd (α:=Int) (β:=Int×Bool) (Fd.fst (α:=Int) (β:=Bool) Fd.self (by decide)) rfl) rfl) rfl) M cs (x.At,x.cH,x.bN,x.To,x.bP) h
theorem j5:Fd 5 (fun x:bB=>x.bP):=fun M cs x h=>(Fd.snd (α:=bX) (β:=Int×Int×Int×Bool) (Fd.snd (α:=Int) (β:=Int×Int×Bool) (Fd.snd (α:=Int) (β:=Int×Bool) (Fd.snd (α:=Int) (β:=Bool) Fd.self rfl) rfl) rfl) rfl) M cs (x.At,x.cH,x.bN,x.To,x.bP) h
instance instGTLand:GT cE:=GT.via (fun x=>(x.Part,x.dC,x.bH,x.At))
theorem tg:Fd 0 (fun x:cE=>x.Part):=fun M cs x h=>(Fd.fst (α:=bS) (β:=bS×Int×bX) Fd.self (by decide)) M cs (x.Part,x.dC,x.bH,x.At) h
theorem th:Fd 1 (fun x:cE=>x.dC):=fun M cs x h=>(Fd.snd (α:=bS) (β:=bS×Int×bX) (Fd.fst (α:=bS) (β:=Int×bX) Fd.self (by decide)) rfl) M cs (x.Part,x.dC,x.bH,x.At) h
theorem ni:Fd 2 (fun x:cE=>x.bH):=fun M cs x h=>(Fd.snd (α:=bS) (β:=bS×Int×bX) (Fd.snd (α:=bS) (β:=Int×bX) (Fd.fst (α:=Int) (β:=bX) Fd.self (by decide)) rfl) rfl) M cs (x.Part,x.dC,x.bH,x.At) h
theorem p4:Fd 3 (fun x:cE=>x.At):=fun M cs x h=>(Fd.snd (α:=bS) (β:=bS×Int×bX) (Fd.snd (α:=bS) (β:=Int×bX) (Fd.snd (α:=Int) (β:=bX) Fd.self rfl) rfl) rfl) M cs (x.Part,x.dC,x.bH,x.At) h
instance instGTArt:GT ju:=GT.via (fun x=>(x.aJ,x.bZ,x.aK,x.aR))
theorem lh:Fd 0 (fun x:ju=>x.aJ):=fun M cs x h=>(Fd.fst (α:=(List (List aD))) (β:=(List aD)×(List bB)×(List cE)) Fd.self (by decide)) M cs (x.aJ,x.bZ,x.aK,x.aR) h
theorem rF:Fd 1 (fun x:ju=>x.bZ):=fun M cs x h=>(Fd.snd (α:=(List (List aD))) (β:=(List aD)×(List bB)×(List cE)) (Fd.fst (α:=(List aD)) (β:=(List bB)×(List cE)) Fd.self (by decide)) rfl) M cs (x.aJ,x.bZ,x.aK,x.aR) h
theorem kb:Fd 2 (fun x:ju=>x.aK):=fun M cs x h=>(Fd.snd (α:=(List (List aD))) (β:=(List aD)×(List bB)×(List cE)) (Fd.snd (α:=(List aD)) (β:=(List bB)×(List cE)) (Fd.fst (α:=(List bB)) (β:=(List cE)) Fd.self (by decide)) rfl) rfl) M cs (x.aJ,x.bZ,x.aK,x.aR) h
theorem mD:Fd 3 (fun x:ju=>x.aR):=fun M cs x h=>(Fd.snd (α:=(List (List aD))) (β:=(List aD)×(List bB)×(List cE)) (Fd.snd (α:=(List aD)) (β:=(List bB)×(List cE)) (Fd.snd (α:=(List bB)) (β:=(List cE)) Fd.self rfl) rfl) rfl) M cs (x.aJ,x.bZ,x.aK,x.aR) h
instance instGTshape_Band:GT aA:=GT.via (fun x=>(x.Y0,x.Y1,x.Xs))
theorem cQ:Fd 0 (fun x:aA=>x.Y0):=fun M cs x h=>(Fd.fst (α:=Int) (β:=Int×(List Int)) Fd.self (by decide)) M cs (x.Y0,x.Y1,x.Xs) h
theorem l4:Fs 0 Int (fun(x:aA) y=>{x with Y0:=y}):=fun M cs ds x y h h2=>(Fs.fst (α:=Int) (β:=Int×(List Int)) Fs.self (by decide)) M cs ds (x.Y0,x.Y1,x.Xs) y h h2
theorem cL:Fd 1 (fun x:aA=>x.Y1):=fun M cs x h=>(Fd.snd (α:=Int) (β:=Int×(List Int)) (Fd.fst (α:=Int) (β:=(List Int)) Fd.self (by decide)) rfl) M cs (x.Y0,x.Y1,x.Xs) h
theorem jJ:Fs 1 Int (fun(x:aA) y=>{x with Y1:=y}):=fun M cs ds x y h h2=>(Fs.snd (α:=Int) (β:=Int×(List Int)) (Fs.fst (α:=Int) (β:=(List Int)) Fs.self (by decide)) rfl) M cs ds (x.Y0,x.Y1,x.Xs) y h h2
theorem bR:Fd 2 (fun x:aA=>x.Xs):=fun M cs x h=>(Fd.snd (α:=Int) (β:=Int×(List Int)) (Fd.snd (α:=Int) (β:=(List Int)) Fd.self rfl) rfl) M cs (x.Y0,x.Y1,x.Xs) h
theorem l5:Fs 2 (List Int) (fun(x:aA) y=>{x with Xs:=y}):=fun M cs ds x y h h2=>(Fs.snd (α:=Int) (β:=Int×(List Int)) (Fs.snd (α:=Int) (β:=(List Int)) Fs.self rfl) rfl) M cs ds (x.Y0,x.Y1,x.Xs) y h h2
instance instGTPin:GT dC:=GT.via (fun x=>(x.Part,x.dC))
instance instKVPin:KV dC:=instKVvia (fun(x:dC)=>(x.Part,x.dC))
theorem u7:Fd 0 (fun x:dC=>x.Part):=fun M cs x h=>(Fd.fst (α:=bS) (β:=bS) Fd.self (by decide)) M cs (x.Part,x.dC) h
theorem yP:Fs 0 bS (fun(x:dC) y=>{x with Part:=y}):=fun M cs ds x y h h2=>(Fs.fst (α:=bS) (β:=bS) Fs.self (by decide)) M cs ds (x.Part,x.dC) y h h2
theorem u9:Fd 1 (fun x:dC=>x.dC):=fun M cs x h=>(Fd.snd (α:=bS) (β:=bS) Fd.self rfl) M cs (x.Part,x.dC) h
theorem yQ:Fs 1 bS (fun(x:dC) y=>{x with dC:=y}):=fun M cs ds x y h h2=>(Fs.snd (α:=bS) (β:=bS) Fs.self rfl) M cs ds (x.Part,x.dC) y h h2
instance instGTcopper_Piece:GT aC:=GT.via (fun x=>(x.bH,x.Set,x.fL))
theorem iX:Fd 0 (fun x:aC=>x.bH):=fun M cs x h=>(Fd.fst (α:=Int) (β:=(List aA)×(List aD)) Fd.self (by decide)) M cs (x.bH,x.Set,x.fL) h
theorem oQ:Fs 0 Int (fun(x:aC) y=>{x with bH:=y}):=fun M cs ds x y h h2=>(Fs.fst (α:=Int) (β:=(List aA)×(List aD)) Fs.self (by decide)) M cs ds (x.bH,x.Set,x.fL) y h h2
theorem oR:Fd 1 (fun x:aC=>x.Set):=fun M cs x h=>(Fd.snd (α:=Int) (β:=(List aA)×(List aD)) (Fd.fst (α:=(List aA)) (β:=(List aD)) Fd.self (by decide)) rfl) M cs (x.bH,x.Set,x.fL) h
theorem oS:Fs 1 (List aA) (fun(x:aC) y=>{x with Set:=y}):=fun M cs ds x y h h2=>(Fs.snd (α:=Int) (β:=(List aA)×(List aD)) (Fs.fst (α:=(List aA)) (β:=(List aD)) Fs.self (by decide)) rfl) M cs ds (x.bH,x.Set,x.fL) y h h2
theorem iY:Fd 2 (fun x:aC=>x.fL):=fun M cs x h=>(Fd.snd (α:=Int) (β:=(List aA)×(List aD)) (Fd.snd (α:=(List aA)) (β:=(List aD)) Fd.self rfl) rfl) M cs (x.bH,x.Set,x.fL) h
theorem oT:Fs 2 (List aD) (fun(x:aC) y=>{x with fL:=y}):=fun M cs ds x y h h2=>(Fs.snd (α:=Int) (β:=(List aA)×(List aD)) (Fs.snd (α:=(List aA)) (β:=(List aD)) Fs.self rfl) rfl) M cs ds (x.bH,x.Set,x.fL) y h h2
instance instGTGroup:GT aX:=GT.via (fun x=>(x.bY,x.aK,x.cB))
theorem lP:Fd 0 (fun x:aX=>x.bY):=fun M cs x h=>(Fd.fst (α:=(List Int)) (β:=(List Int)×(List dC)) Fd.self (by decide)) M cs (x.bY,x.aK,x.cB) h
theorem v9:Fd 1 (fun x:aX=>x.aK):=fun M cs x h=>(Fd.snd (α:=(List Int)) (β:=(List Int)×(List dC)) (Fd.fst (α:=(List Int)) (β:=(List dC)) Fd.self (by decide)) rfl) M cs (x.bY,x.aK,x.cB) h
theorem rG:Fd 2 (fun x:aX=>x.cB):=fun M cs x h=>(Fd.snd (α:=(List Int)) (β:=(List Int)×(List dC)) (Fd.snd (α:=(List Int)) (β:=(List dC)) Fd.self rfl) rfl) M cs (x.bY,x.aK,x.cB) h
instance instGTHop:GT fZ:=GT.via (fun x=>(x.bB,x.Number))
instance instKVHop:KV fZ:=instKVvia (fun(x:fZ)=>(x.bB,x.Number))
theorem yR:Fd 0 (fun x:fZ=>x.bB):=fun M cs x h=>(Fd.fst (α:=Bool) (β:=Int) Fd.self (by decide)) M cs (x.bB,x.Number) h
theorem yS:Fs 0 Bool (fun(x:fZ) y=>{x with bB:=y}):=fun M cs ds x y h h2=>(Fs.fst (α:=Bool) (β:=Int) Fs.self (by decide)) M cs ds (x.bB,x.Number) y h h2
theorem va:Fd 1 (fun x:fZ=>x.Number):=fun M cs x h=>(Fd.snd (α:=Bool) (β:=Int) Fd.self rfl) M cs (x.bB,x.Number) h
theorem vc:Fs 1 Int (fun(x:fZ) y=>{x with Number:=y}):=fun M cs ds x y h h2=>(Fs.snd (α:=Bool) (β:=Int) Fs.self rfl) M cs ds (x.bB,x.Number) y h h2
instance instGTPiece:GT Piece:=GT.via (fun x=>(x.bH,x.rA,x.v5))
theorem wc:Fs 0 Int (fun(x:Piece) y=>{x with bH:=y}):=fun M cs ds x y h h2=>(Fs.fst (α:=Int) (β:=bX×Int) Fs.self (by decide)) M cs ds (x.bH,x.rA,x.v5) y h h2
theorem we:Fs 1 bX (fun(x:Piece) y=>{x with rA:=y}):=fun M cs ds x y h h2=>(Fs.snd (α:=Int) (β:=bX×Int) (Fs.fst (α:=bX) (β:=Int) Fs.self (by decide)) rfl) M cs ds (x.bH,x.rA,x.v5) y h h2
theorem wg:Fs 3 Int (fun(x:Piece) y=>{x with v5:=y}):=fun M cs ds x y h h2=>(Fs.snd (α:=Int) (β:=bX×Int) (Fs.snd (α:=bX) (β:=Int) Fs.self rfl) rfl) M cs ds (x.bH,x.rA,x.v5) y h h2
theorem tP (M:cA):GT.ok M (#[(.int .i64 0),(.int .i64 0)]:Array Value).toList (⟨0,0⟩:bX):=⟨[(.int .i64 0)],[(.int .i64 0)],rfl,(show GT.ok M [(.int .i64 0)] (0:Int) from rfl),(show GT.ok M [(.int .i64 0)] (0:Int) from rfl)⟩
theorem Bo (M:cA):GT.ok M (#[(.int .i64 0),(.int .i64 0),(.int .i64 0),(.int .i64 0),(.int .i64 0),(.bool false)]:Array Value).toList (⟨⟨0,0⟩,0,0,0,false⟩:bB):=⟨[(.int .i64 0),(.int .i64 0)],[(.int .i64 0),(.int .i64 0),(.int .i64 0),(.bool false)],rfl,(show GT.ok M [(.int .i64 0),(.int .i64 0)] (⟨0,0⟩:bX) from tP M),⟨[(.int .i64 0)],[(.int .i64 0),(.int .i64 0),(.bool false)],rfl,(show GT.ok M [(.int .i64 0)] (0:Int) from rfl),⟨[(.int .i64 0)],[(.int .i64 0),(.bool false)],rfl,(show GT.ok M [(.int .i64 0)] (0:Int) from rfl),⟨[(.int .i64 0)],[(.bool false)],rfl,(show GT.ok M [(.int .i64 0)] (0:Int) from rfl),(show GT.ok M [(.bool false)] (false:Bool) from rfl)⟩⟩⟩⟩
theorem n9 (M:cA):GT.ok M (#[(.int .i64 0),(.int .i64 0),(.int .i64 0),(.int .i64 0)]:Array Value).toList (⟨0,0,0,0⟩:aD):=⟨[(.int .i64 0)],[(.int .i64 0),(.int .i64 0),(.int .i64 0)],rfl,(show GT.ok M [(.int .i64 0)] (0:Int) from rfl),⟨[(.int .i64 0)],[(.int .i64 0),(.int .i64 0)],rfl,(show GT.ok M [(.int .i64 0)] (0:Int) from rfl),⟨[(.int .i64 0)],[(.int .i64 0)],rfl,(show GT.ok M [(.int .i64 0)] (0:Int) from rfl),(show GT.ok M [(.int .i64 0)] (0:Int) from rfl)⟩⟩⟩
theorem rH (M:cA):GT.ok M (#[(.int .i64 0),(.slice none 0 0),(.slice none 0 0)]:Array Value).toList (⟨0,[],[]⟩:aC):=⟨[(.int .i64 0)],[(.slice none 0 0),(.slice none 0 0)],rfl,(show GT.ok M [(.int .i64 0)] (0:Int) from rfl),⟨[(.slice none 0 0)],[(.slice none 0 0)],rfl,(show GT.ok M [(.slice none 0 0)] ([]: (List aA)) from ⟨_,rfl,none,0,0,rfl,rfl,Nat.le_refl _,by simp [maxLen],fun _ _ h=>by simp at h⟩),(show GT.ok M [(.slice none 0 0)] ([]: (List aD)) from ⟨_,rfl,none,0,0,rfl,rfl,Nat.le_refl _,by simp [maxLen],fun _ _ h=>by simp at h⟩)⟩⟩
theorem Ao (M:cA):GT.ok M (#[(.int .i64 0),(.int .i64 0),(.int .i64 0),(.int .i64 0)]:Array Value).toList (⟨0,⟨0,0⟩,0⟩:Piece):=⟨[(.int .i64 0)],[(.int .i64 0),(.int .i64 0),(.int .i64 0)],rfl,(show GT.ok M [(.int .i64 0)] (0:Int) from rfl),⟨[(.int .i64 0),(.int .i64 0)],[(.int .i64 0)],rfl,(show GT.ok M [(.int .i64 0),(.int .i64 0)] (⟨0,0⟩:bX) from tP M),(show GT.ok M [(.int .i64 0)] (0:Int) from rfl)⟩⟩
theorem B3 (M:cA):GT.ok M (#[(.string ⟨#[]⟩),(.string ⟨#[]⟩)]:Array Value).toList (⟨⟨[]⟩,⟨[]⟩⟩:dC):=⟨[(.string ⟨#[]⟩)],[(.string ⟨#[]⟩)],rfl,(show GT.ok M [(.string ⟨#[]⟩)] (⟨[]⟩:bS) from rfl),(show GT.ok M [(.string ⟨#[]⟩)] (⟨[]⟩:bS) from rfl)⟩
theorem oU (M:cA):GT.ok M (#[(.int .i64 0),(.int .i64 0),(.slice none 0 0)]:Array Value).toList (⟨0,0,[]⟩:aA):=⟨[(.int .i64 0)],[(.int .i64 0),(.slice none 0 0)],rfl,(show GT.ok M [(.int .i64 0)] (0:Int) from rfl),⟨[(.int .i64 0)],[(.slice none 0 0)],rfl,(show GT.ok M [(.int .i64 0)] (0:Int) from rfl),(show GT.ok M [(.slice none 0 0)] ([]: (List Int)) from ⟨_,rfl,none,0,0,rfl,rfl,Nat.le_refl _,by simp [maxLen],fun _ _ h=>by simp at h⟩)⟩⟩
theorem yT (M:cA):GT.ok M (#[(.bool false),(.int .i64 0)]:Array Value).toList (⟨false,0⟩:fZ):=⟨[(.bool false)],[(.int .i64 0)],rfl,(show GT.ok M [(.bool false)] (false:Bool) from rfl),(show GT.ok M [(.int .i64 0)] (0:Int) from rfl)⟩
structure aW where
  bY: (List Int)
  aK: (List Int)
  cB:RV
  deriving Inhabited
instance instGTGroup_r2:GT aW:=GT.via (fun x=>(x.bY,x.aK,x.cB))
theorem sI:Fd 2 (fun x:aW=>x.cB):=fun M cs x h=>(Fd.snd (α:=(List Int)) (β:=(List Int)×RV) (Fd.snd (α:=(List Int)) (β:=RV) Fd.self rfl) rfl) M cs (x.bY,x.aK,x.cB) h
theorem sJ:Fs 2 RV (fun(x:aW) y=>{x with cB:=y}):=fun M cs ds x y h h2=>(Fs.snd (α:=(List Int)) (β:=(List Int)×RV) (Fs.snd (α:=(List Int)) (β:=RV) Fs.self rfl) rfl) M cs ds (x.bY,x.aK,x.cB) y h h2
def aV:XT aW aX:=⟨fun u x=>u.bY=x.bY∧u.aK=x.aK,fun M h u x=>(u.bY=x.bY∧u.aK=x.aK)∧nZ 73 M h u.cB.v x.cB,fun{M M' h u x} hk hh=>⟨hh.1,(own 73 u.cB.v x.cB).mono hk hh.2⟩,fun h=>h.1⟩
theorem mE:XO aV 73 2 (fun u=>u.cB) (fun u r=>{u with cB:=r}) (fun x=>x.cB) (fun x y=>{x with cB:=y}):=⟨sI,sJ,by decide,fun h=>h.2,fun hr ho=>⟨hr,ho⟩⟩
theorem tQ (M h:cA) (u:aW) (x:aX) (cs:List Value) (hd: ∀b o,h b=some o→M b=none) (hx:aV.ok M h u x) (hc:GT.ok M cs u):GT.ok (lI M h) cs x:=by
  obtain⟨⟨e0,e1⟩,ho⟩:=hx
  obtain⟨c0,d0,hd0,a0,c1,d1,hd1,a1,a2⟩:=hc
  exact⟨c0,d0,hd0,GT.mono (na M h) (show GT.ok M c0 x.bY from e0▸(show GT.ok M c0 u.bY from a0)),⟨c1,d1,hd1,GT.mono (na M h) (show GT.ok M c1 x.aK from e1▸(show GT.ok M c1 u.aK from a1)),⟨u.cB.v,a2,nZ.sl hd ho⟩⟩⟩
theorem tR:jH Tryz.prog 27 true 4:=⟨fun _=>by kernel_rfl,fun _=>by kernel_rfl⟩
theorem p5:j3 Tryz.prog 27 0 0:=⟨fun _ _=>by kernel_rfl⟩
theorem xF:jH Tryz.prog 22 false 1:=⟨fun _=>by kernel_rfl,fun _=>by kernel_rfl⟩
theorem vd:Tryz.prog.underlying 22=some (.slice 23):=by kernel_rfl
theorem yU:j3 Tryz.prog 27 1 1:=⟨fun _ _=>by kernel_rfl⟩
theorem sK:jH Tryz.prog 23 false 1:=⟨fun _=>by kernel_rfl,fun _=>by kernel_rfl⟩
theorem mc:Tryz.prog.underlying 23=some (.slice 59):=by kernel_rfl
theorem xG:pS Tryz.prog 22 23 1:=⟨by kernel_rfl,fun _=>by kernel_rfl⟩
theorem iN:pS Tryz.prog 23 59 4:=⟨by kernel_rfl,fun _=>by kernel_rfl⟩
theorem eW:jH Tryz.prog 59 true 4:=⟨fun _=>by kernel_rfl,fun _=>by kernel_rfl⟩
theorem kA:vL Tryz.prog 59 4:=⟨⟨(.agg #[(.int .i64 0),(.int .i64 0),(.int .i64 0),(.int .i64 0)]),fun _=>by kernel_rfl,rfl⟩,fun _=>by kernel_rfl⟩
theorem fX:j3 Tryz.prog 59 0 0:=⟨fun _ _=>by kernel_rfl⟩
theorem bV:jH Tryz.prog 3 false 1:=⟨fun _=>by kernel_rfl,fun _=>by kernel_rfl⟩
theorem C6:fP Tryz.prog 69:=⟨fun _ _=>aH Tryz.func69 (by kernel_rfl) rfl⟩
theorem xH:fP Tryz.prog 46:=⟨fun _ _=>aH Tryz.func46 (by kernel_rfl) rfl⟩
theorem gF:j3 Tryz.prog 59 1 1:=⟨fun _ _=>by kernel_rfl⟩
theorem gG:j3 Tryz.prog 59 2 2:=⟨fun _ _=>by kernel_rfl⟩
theorem jK:j3 Tryz.prog 59 3 3:=⟨fun _ _=>by kernel_rfl⟩
theorem B4:fP Tryz.prog 56:=⟨fun _ _=>aH Tryz.func56 (by kernel_rfl) rfl⟩
theorem C7:fP Tryz.prog 27:=⟨fun _ _=>aH Tryz.func27 (by kernel_rfl) rfl⟩
theorem mixed:Tryz.prog.follows .mixedOrders=true:=by kernel_rfl
theorem xI:nc Tryz.prog 23 59 4 32:=nc.of (z:=(.agg #[(.int .i64 0),(.int .i64 0),(.int .i64 0),(.int .i64 0)])) (by kernel_rfl) (by kernel_rfl) rfl (by decide)
theorem C8:fP Tryz.prog 47:=⟨fun _ _=>aH Tryz.func47 (by kernel_rfl) rfl⟩
theorem C9:fP Tryz.prog 49:=⟨fun _ _=>aH Tryz.func49 (by kernel_rfl) rfl⟩
theorem B5:fP Tryz.prog 48:=⟨fun _ _=>aH Tryz.func48 (by kernel_rfl) rfl⟩
theorem B6:C2 Tryz.prog 39 [(.slice none 0 0)]:=⟨(.slice none 0 0),fun _=>by kernel_rfl,rfl⟩
theorem cT:jH Tryz.prog 39 false 1:=⟨fun _=>by kernel_rfl,fun _=>by kernel_rfl⟩
theorem dB:pS Tryz.prog 39 3 1:=⟨by kernel_rfl,fun _=>by kernel_rfl⟩
theorem zY:vL Tryz.prog 3 1:=⟨⟨(.int .i64 0),fun _=>by kernel_rfl,rfl⟩,fun _=>by kernel_rfl⟩
theorem p6:nc Tryz.prog 39 3 1 8:=nc.of (z:=(.int .i64 0)) (by kernel_rfl) (by kernel_rfl) rfl (by decide)
theorem Da:fP Tryz.prog 50:=⟨fun _ _=>aH Tryz.func50 (by kernel_rfl) rfl⟩
theorem iO:Tryz.prog.underlying 39=some (.slice 3):=by kernel_rfl
theorem B7:zW Tryz.prog 3 (0:Int):=zW.of (Z:=(.int .i64 0)) (by kernel_rfl) (fun M=>rfl)
theorem Db:fP Tryz.prog 51:=⟨fun _ _=>aH Tryz.func51 (by kernel_rfl) rfl⟩
theorem B8:fP Tryz.prog 66:=⟨fun _ _=>aH Tryz.func66 (by kernel_rfl) rfl⟩
theorem Dc:zW Tryz.prog 59 (⟨0,0,0,0⟩:aD):=zW.of (Z:=(.agg #[(.int .i64 0),(.int .i64 0),(.int .i64 0),(.int .i64 0)])) (by kernel_rfl) (fun M=>(n9 M))
theorem Dd:fP Tryz.prog 53:=⟨fun _ _=>aH Tryz.func53 (by kernel_rfl) rfl⟩
theorem De:fP Tryz.prog 52:=⟨fun _ _=>aH Tryz.func52 (by kernel_rfl) rfl⟩
theorem Df:fP Tryz.prog 74:=⟨fun _ _=>aH Tryz.func74 (by kernel_rfl) rfl⟩
theorem Dg:fP Tryz.prog 55:=⟨fun _ _=>aH Tryz.func55 (by kernel_rfl) rfl⟩
theorem B9:StT Tryz.prog 84 [(0,1),(1,1),(2,1)] #[(.int .i64 0),(.int .i64 0),(.slice none 0 0)]:=StT.of Tryz.underlying84 (z:=(.agg #[(.int .i64 0),(.int .i64 0),(.slice none 0 0)])) (fun _=>by kernel_rfl) (fun _=>by kernel_rfl)
theorem iF:j3 Tryz.prog 84 2 2:=⟨fun _ _=>by kernel_rfl⟩
theorem jL:j3 Tryz.prog 84 1 1:=⟨fun _ _=>by kernel_rfl⟩
theorem kQ:j3 Tryz.prog 84 0 0:=⟨fun _ _=>by kernel_rfl⟩
theorem nA:Tryz.prog.underlying 63=some (.slice 84):=by kernel_rfl
theorem jl:pS Tryz.prog 63 84 3:=⟨by kernel_rfl,fun _=>by kernel_rfl⟩
theorem Dh:fP Tryz.prog 73:=⟨fun _ _=>aH Tryz.func73 (by kernel_rfl) rfl⟩
theorem tS:jH Tryz.prog 84 true 3:=⟨fun _=>by kernel_rfl,fun _=>by kernel_rfl⟩
theorem yV:vL Tryz.prog 84 3:=⟨⟨(.agg #[(.int .i64 0),(.int .i64 0),(.slice none 0 0)]),fun _=>by kernel_rfl,rfl⟩,fun _=>by kernel_rfl⟩
theorem Di:nc Tryz.prog 63 84 3 40:=nc.of (z:=(.agg #[(.int .i64 0),(.int .i64 0),(.slice none 0 0)])) (by kernel_rfl) (by kernel_rfl) rfl (by decide)
theorem Ca:fP Tryz.prog 54:=⟨fun _ _=>aH Tryz.func54 (by kernel_rfl) rfl⟩
theorem yW:fP Tryz.prog 25:=⟨fun _ _=>aH Tryz.func25 (by kernel_rfl) rfl⟩
theorem xJ:StT Tryz.prog 59 [(0,1),(1,1),(2,1),(3,1)] #[(.int .i64 0),(.int .i64 0),(.int .i64 0),(.int .i64 0)]:=StT.of Tryz.underlying59 (z:=(.agg #[(.int .i64 0),(.int .i64 0),(.int .i64 0),(.int .i64 0)])) (fun _=>by kernel_rfl) (fun _=>by kernel_rfl)
theorem Bp:fP Tryz.prog 29:=⟨fun _ _=>aH Tryz.func29 (by kernel_rfl) rfl⟩
theorem Cb:Tryz.prog.underlying 3=some (.int .i64):=by kernel_rfl
theorem AW:BS Tryz.prog 59 aD:=⟨fun M cs ds a b w ha hb=>by
  obtain⟨_,_,rfl,rfl,⟨_,_,rfl,rfl,⟨_,_,rfl,rfl,rfl⟩⟩⟩:=ha
  obtain⟨_,_,rfl,rfl,⟨_,_,rfl,rfl,⟨_,_,rfl,rfl,rfl⟩⟩⟩:=hb
  refine(pU (d:=9999) Tryz.underlying59 (by kernel_rfl) (Ac.cons (by decide) (iJ bV rfl _) (iJ bV rfl _) (j8 Cb _ _ w) (Ac.cons (by decide) (iJ bV rfl _) (iJ bV rfl _) (j8 Cb _ _ w) (Ac.cons (by decide) (iJ bV rfl _) (iJ bV rfl _) (j8 Cb _ _ w) (Ac.cons (by decide) (iJ bV rfl _) (iJ bV rfl _) (j8 Cb _ _ w) Ac.nil))))).trans ?_
  congr 1
  cases a;cases b
  rw [Bool.eq_iff_iff]
  simp,by kernel_rfl⟩
theorem Dj:fP Tryz.prog 28:=⟨fun _ _=>aH Tryz.func28 (by kernel_rfl) rfl⟩
theorem Cc:fP Tryz.prog 15:=⟨fun _ _=>aH Tryz.func15 (by kernel_rfl) rfl⟩
theorem jM:j3 Tryz.prog 27 2 2:=⟨fun _ _=>by kernel_rfl⟩
theorem qQ:jH Tryz.prog 24 false 1:=⟨fun _=>by kernel_rfl,fun _=>by kernel_rfl⟩
theorem sL:Tryz.prog.underlying 24=some (.slice 47):=by kernel_rfl
theorem tT:pS Tryz.prog 24 47 6:=⟨by kernel_rfl,fun _=>by kernel_rfl⟩
theorem kc:jH Tryz.prog 47 true 6:=⟨fun _=>by kernel_rfl,fun _=>by kernel_rfl⟩
theorem xK:vL Tryz.prog 47 6:=⟨⟨(.agg #[(.int .i64 0),(.int .i64 0),(.int .i64 0),(.int .i64 0),(.int .i64 0),(.bool false)]),fun _=>by kernel_rfl,rfl⟩,fun _=>by kernel_rfl⟩
theorem rI:j3 Tryz.prog 47 1 2:=⟨fun _ _=>by kernel_rfl⟩
theorem Ap:fP Tryz.prog 23:=⟨fun _ _=>aH Tryz.func23 (by kernel_rfl) rfl⟩
theorem wh:j3 Tryz.prog 47 0 0:=⟨fun _ _=>by kernel_rfl⟩
theorem xL:jH Tryz.prog 45 true 2:=⟨fun _=>by kernel_rfl,fun _=>by kernel_rfl⟩
theorem tU:j3 Tryz.prog 45 0 0:=⟨fun _ _=>by kernel_rfl⟩
theorem tV:j3 Tryz.prog 45 1 1:=⟨fun _ _=>by kernel_rfl⟩
theorem Cd:fP Tryz.prog 24:=⟨fun _ _=>aH Tryz.func24 (by kernel_rfl) rfl⟩
theorem xM:fP Tryz.prog 19:=⟨fun _ _=>aH Tryz.func19 (by kernel_rfl) rfl⟩
theorem Dk:fP Tryz.prog 57:=⟨fun _ _=>aH Tryz.func57 (by kernel_rfl) rfl⟩
theorem Dl:fP Tryz.prog 26:=⟨fun _ _=>aH Tryz.func26 (by kernel_rfl) rfl⟩
theorem Ce:fP Tryz.prog 10:=⟨fun _ _=>aH Tryz.func10 (by kernel_rfl) rfl⟩
theorem oc:j3 Tryz.prog 47 2 3:=⟨fun _ _=>by kernel_rfl⟩
theorem p7:j3 Tryz.prog 47 3 4:=⟨fun _ _=>by kernel_rfl⟩
theorem Dm:fP Tryz.prog 16:=⟨fun _ _=>aH Tryz.func16 (by kernel_rfl) rfl⟩
theorem p8:j3 Tryz.prog 27 3 3:=⟨fun _ _=>by kernel_rfl⟩
theorem xN:jH Tryz.prog 25 false 1:=⟨fun _=>by kernel_rfl,fun _=>by kernel_rfl⟩
theorem yX:Tryz.prog.underlying 25=some (.slice 71):=by kernel_rfl
theorem Aq:pS Tryz.prog 25 71 5:=⟨by kernel_rfl,fun _=>by kernel_rfl⟩
theorem rJ:jH Tryz.prog 71 true 5:=⟨fun _=>by kernel_rfl,fun _=>by kernel_rfl⟩
theorem Bq:vL Tryz.prog 71 5:=⟨⟨(.agg #[(.string ⟨#[]⟩),(.string ⟨#[]⟩),(.int .i64 0),(.int .i64 0),(.int .i64 0)]),fun _=>by kernel_rfl,rfl⟩,fun _=>by kernel_rfl⟩
theorem yY:j3 Tryz.prog 71 0 0:=⟨fun _ _=>by kernel_rfl⟩
theorem yZ:jH Tryz.prog 9 false 1:=⟨fun _=>by kernel_rfl,fun _=>by kernel_rfl⟩
theorem ve:Tryz.prog.underlying 9=some (.string):=by kernel_rfl
theorem eH (a:bS) (b:Int) (w:World): (callFunc 117 [(str a),(.int .u8 b)].toArray).run Tryz.prog w = .ok (.value (vi ((Lib.countByte a.bM (Int.toNat b).toUInt8:Nat):Int))) w:=rq Tryz.func117 (by kernel_rfl) (by kernel_rfl) (by kernel_rfl) (e:=Extern.BytealgCount.count) (by kernel_rfl) (Lib.run_countString _ _ w)
theorem Dn (a:bS) (b:Int) (w:World): (callFunc 104 [(str a),(.int .u8 b)].toArray).run Tryz.prog w = .ok (.value (vi (Lib.indexByte a.bM (Int.toNat b).toUInt8))) w:=rq Tryz.func104 (by kernel_rfl) (by kernel_rfl) (by kernel_rfl) (e:=Extern.BytealgIndexByte.indexByte) (by kernel_rfl) (Lib.run_indexByteString _ _ w)
theorem Cf:fP Tryz.prog 77:=⟨fun _ _=>aH Tryz.func77 (by kernel_rfl) rfl⟩
theorem Cg:fP Tryz.prog 118:=⟨fun _ _=>aH Tryz.func118 (by kernel_rfl) rfl⟩
theorem AX:fP Tryz.prog 103:=⟨fun _ _=>aH Tryz.func103 (by kernel_rfl) rfl⟩
theorem Ch:fP Tryz.prog 102:=⟨fun _ _=>aH Tryz.func102 (by kernel_rfl) rfl⟩
theorem Ci:nc Tryz.prog 116 9 1 16:=nc.of (z:=(.string ⟨#[]⟩)) (by kernel_rfl) (by kernel_rfl) rfl (by decide)
theorem EG:zW Tryz.prog 9 (⟨[]⟩:bS):=zW.of (Z:=(.string ⟨#[]⟩)) (by kernel_rfl) (fun M=>rfl)
theorem wZ:pS Tryz.prog 116 9 1:=⟨by kernel_rfl,fun _=>by kernel_rfl⟩
theorem Dp:fP Tryz.prog 76:=⟨fun _ _=>aH Tryz.func76 (by kernel_rfl) rfl⟩
theorem Dq:fP Tryz.prog 59:=⟨fun _ _=>aH Tryz.func59 (by kernel_rfl) rfl⟩
theorem Cj:Tryz.prog.underlying 116=some (.slice 9):=by kernel_rfl
theorem Dr:fP Tryz.prog 75:=⟨fun _ _=>aH Tryz.func75 (by kernel_rfl) rfl⟩
theorem Ds:fP Tryz.prog 61:=⟨fun _ _=>aH Tryz.func61 (by kernel_rfl) rfl⟩
theorem Ck:fP Tryz.prog 31:=⟨fun _ _=>aH Tryz.func31 (by kernel_rfl) rfl⟩
theorem Dt:fP Tryz.prog 60:=⟨fun _ _=>aH Tryz.func60 (by kernel_rfl) rfl⟩
theorem Du:fP Tryz.prog 58:=⟨fun _ _=>aH Tryz.func58 (by kernel_rfl) rfl⟩
theorem Dv:fP Tryz.prog 30:=⟨fun _ _=>aH Tryz.func30 (by kernel_rfl) rfl⟩
theorem y4:j3 Tryz.prog 71 1 1:=⟨fun _ _=>by kernel_rfl⟩
theorem tW:j3 Tryz.prog 71 2 2:=⟨fun _ _=>by kernel_rfl⟩
theorem wi:j3 Tryz.prog 71 3 3:=⟨fun _ _=>by kernel_rfl⟩
theorem Bs:vL Tryz.prog 73 2:=⟨⟨(.agg #[(.string ⟨#[]⟩),(.string ⟨#[]⟩)]),fun _=>by kernel_rfl,rfl⟩,fun _=>by kernel_rfl⟩
theorem Dw:StT Tryz.prog 73 [(0,1),(1,1)] #[(.string ⟨#[]⟩),(.string ⟨#[]⟩)]:=StT.of Tryz.underlying73 (z:=(.agg #[(.string ⟨#[]⟩),(.string ⟨#[]⟩)])) (fun _=>by kernel_rfl) (fun _=>by kernel_rfl)
theorem Cl:jH Tryz.prog 73 true 2:=⟨fun _=>by kernel_rfl,fun _=>by kernel_rfl⟩
theorem Ar:fP Tryz.prog 13:=⟨fun _ _=>aH Tryz.func13 (by kernel_rfl) rfl⟩
theorem y5:j3 Tryz.prog 73 0 0:=⟨fun _ _=>by kernel_rfl⟩
theorem iT (a:bS) (b:bS) (w:World): (callFunc 105 [(str a),(str b)].toArray).run Tryz.prog w = .ok (.value (vi (Lib.compareBytes a.bM b.bM))) w:=rq Tryz.func105 (by kernel_rfl) (by kernel_rfl) (by kernel_rfl) (e:=Extern.BytealgCompare.compare) (by kernel_rfl) (Lib.run_compareString _ _ w)
theorem Dx:fP Tryz.prog 78:=⟨fun _ _=>aH Tryz.func78 (by kernel_rfl) rfl⟩
theorem Cm:fP Tryz.prog 62:=⟨fun _ _=>aH Tryz.func62 (by kernel_rfl) rfl⟩
theorem y6:j3 Tryz.prog 73 1 1:=⟨fun _ _=>by kernel_rfl⟩
theorem Dy:fP Tryz.prog 32:=⟨fun _ _=>aH Tryz.func32 (by kernel_rfl) rfl⟩
theorem Dz:fP Tryz.prog 17:=⟨fun _ _=>aH Tryz.func17 (by kernel_rfl) rfl⟩
theorem Cn:fP Tryz.prog 33:=⟨fun _ _=>aH Tryz.func33 (by kernel_rfl) rfl⟩
theorem DA:fP Tryz.prog 18:=⟨fun _ _=>aH Tryz.func18 (by kernel_rfl) rfl⟩
theorem DB:StT Tryz.prog 57 [(0,4),(4,1),(5,1),(6,1),(7,1),(8,1),(9,1),(10,1),(11,1)] #[(.slice none 0 0),(.slice none 0 0),(.slice none 0 0),(.slice none 0 0),(.slice none 0 0),(.slice none 0 0),(.slice none 0 0),(.slice none 0 0),(.slice none 0 0),(.slice none 0 0),(.slice none 0 0),(.slice none 0 0)]:=StT.of Tryz.underlying57 (z:=(.agg #[(.slice none 0 0),(.slice none 0 0),(.slice none 0 0),(.slice none 0 0),(.slice none 0 0),(.slice none 0 0),(.slice none 0 0),(.slice none 0 0),(.slice none 0 0),(.slice none 0 0),(.slice none 0 0),(.slice none 0 0)])) (fun _=>by kernel_rfl) (fun _=>by kernel_rfl)
theorem lQ:j3 Tryz.prog 57 0 0:=⟨fun _ _=>by kernel_rfl⟩
theorem As:fP Tryz.prog 34:=⟨fun _ _=>aH Tryz.func34 (by kernel_rfl) rfl⟩
theorem y7:pS Tryz.prog 52 63 1:=⟨by kernel_rfl,fun _=>by kernel_rfl⟩
theorem Bt:vL Tryz.prog 63 1:=⟨⟨(.slice none 0 0),fun _=>by kernel_rfl,rfl⟩,fun _=>by kernel_rfl⟩
theorem Co:Tryz.prog.underlying 52=some (.slice 63):=by kernel_rfl
theorem Bu:jH Tryz.prog 63 false 1:=⟨fun _=>by kernel_rfl,fun _=>by kernel_rfl⟩
theorem Cp:fP Tryz.prog 79:=⟨fun _ _=>aH Tryz.func79 (by kernel_rfl) rfl⟩
theorem EH:Tryz.prog.underlying 4=some (.bool):=by kernel_rfl
theorem DC:fP Tryz.prog 80:=⟨fun _ _=>aH Tryz.func80 (by kernel_rfl) rfl⟩
theorem DD:fP Tryz.prog 64:=⟨fun _ _=>aH Tryz.func64 (by kernel_rfl) rfl⟩
theorem DE:fP Tryz.prog 63:=⟨fun _ _=>aH Tryz.func63 (by kernel_rfl) rfl⟩
theorem DF:fP Tryz.prog 35:=⟨fun _ _=>aH Tryz.func35 (by kernel_rfl) rfl⟩
theorem DG:fP Tryz.prog 36:=⟨fun _ _=>aH Tryz.func36 (by kernel_rfl) rfl⟩
theorem y8:j3 Tryz.prog 57 1 4:=⟨fun _ _=>by kernel_rfl⟩
theorem Cq:jH Tryz.prog 52 false 1:=⟨fun _=>by kernel_rfl,fun _=>by kernel_rfl⟩
theorem Cr:nc Tryz.prog 52 63 1 24:=nc.of (z:=(.slice none 0 0)) (by kernel_rfl) (by kernel_rfl) rfl (by decide)
theorem Bv:fP Tryz.prog 65:=⟨fun _ _=>aH Tryz.func65 (by kernel_rfl) rfl⟩
theorem vf:xz Tryz.prog 123 3 3 Int Int (0:Int):=⟨by kernel_rfl,(sF.int Cb),Ag (Z:=(.int .i64 0)) (by kernel_rfl) (fun M=>⟨_,rfl,rfl⟩)⟩
theorem DH:vL Tryz.prog 23 1:=⟨⟨(.slice none 0 0),fun _=>by kernel_rfl,rfl⟩,fun _=>by kernel_rfl⟩
theorem DI:nc Tryz.prog 22 23 1 24:=nc.of (z:=(.slice none 0 0)) (by kernel_rfl) (by kernel_rfl) rfl (by decide)
theorem DJ:fP Tryz.prog 37:=⟨fun _ _=>aH Tryz.func37 (by kernel_rfl) rfl⟩
theorem oe:j3 Tryz.prog 57 2 5:=⟨fun _ _=>by kernel_rfl⟩
theorem wj:jH Tryz.prog 53 false 1:=⟨fun _=>by kernel_rfl,fun _=>by kernel_rfl⟩
theorem DK:StT Tryz.prog 65 [(0,1),(1,1),(2,1)] #[(.int .i64 0),(.slice none 0 0),(.slice none 0 0)]:=StT.of Tryz.underlying65 (z:=(.agg #[(.int .i64 0),(.slice none 0 0),(.slice none 0 0)])) (fun _=>by kernel_rfl) (fun _=>by kernel_rfl)
theorem Au:pS Tryz.prog 53 65 3:=⟨by kernel_rfl,fun _=>by kernel_rfl⟩
theorem Av:vL Tryz.prog 65 3:=⟨⟨(.agg #[(.int .i64 0),(.slice none 0 0),(.slice none 0 0)]),fun _=>by kernel_rfl,rfl⟩,fun _=>by kernel_rfl⟩
theorem DL:nc Tryz.prog 53 65 3 56:=nc.of (z:=(.agg #[(.int .i64 0),(.slice none 0 0),(.slice none 0 0)])) (by kernel_rfl) (by kernel_rfl) rfl (by decide)
theorem y9:Tryz.prog.underlying 53=some (.slice 65):=by kernel_rfl
theorem DM:fP Tryz.prog 20:=⟨fun _ _=>aH Tryz.func20 (by kernel_rfl) rfl⟩
theorem DN:fP Tryz.prog 40:=⟨fun _ _=>aH Tryz.func40 (by kernel_rfl) rfl⟩
theorem xO:jH Tryz.prog 65 true 3:=⟨fun _=>by kernel_rfl,fun _=>by kernel_rfl⟩
theorem p9:j3 Tryz.prog 47 4 5:=⟨fun _ _=>by kernel_rfl⟩
theorem Bw:jH Tryz.prog 4 false 1:=⟨fun _=>by kernel_rfl,fun _=>by kernel_rfl⟩
theorem wk:j3 Tryz.prog 65 0 0:=⟨fun _ _=>by kernel_rfl⟩
theorem wm:j3 Tryz.prog 65 2 2:=⟨fun _ _=>by kernel_rfl⟩
theorem DO:fP Tryz.prog 39:=⟨fun _ _=>aH Tryz.func39 (by kernel_rfl) rfl⟩
theorem Cs:fP Tryz.prog 38:=⟨fun _ _=>aH Tryz.func38 (by kernel_rfl) rfl⟩
theorem wo:j3 Tryz.prog 57 3 6:=⟨fun _ _=>by kernel_rfl⟩
theorem Bx:jH Tryz.prog 54 false 1:=⟨fun _=>by kernel_rfl,fun _=>by kernel_rfl⟩
theorem xP:pS Tryz.prog 54 39 1:=⟨by kernel_rfl,fun _=>by kernel_rfl⟩
theorem Ct:vL Tryz.prog 39 1:=⟨⟨(.slice none 0 0),fun _=>by kernel_rfl,rfl⟩,fun _=>by kernel_rfl⟩
theorem Cu:nc Tryz.prog 54 39 1 24:=nc.of (z:=(.slice none 0 0)) (by kernel_rfl) (by kernel_rfl) rfl (by decide)
theorem DQ:fP Tryz.prog 21:=⟨fun _ _=>aH Tryz.func21 (by kernel_rfl) rfl⟩
theorem Cv:StT Tryz.prog 127 [(0,1)] #[(.slice none 0 0)]:=StT.of Tryz.underlying127 (z:=(.agg #[(.slice none 0 0)])) (fun _=>by kernel_rfl) (fun _=>by kernel_rfl)
theorem jV:j3 Tryz.prog 127 0 0:=⟨fun _ _=>by kernel_rfl⟩
theorem DR:fP Tryz.prog 41:=⟨fun _ _=>aH Tryz.func41 (by kernel_rfl) rfl⟩
theorem Bz:Tryz.prog.underlying 54=some (.slice 39):=by kernel_rfl
theorem BA:fP Tryz.prog 67:=⟨fun _ _=>aH Tryz.func67 (by kernel_rfl) rfl⟩
theorem DS:fP Tryz.prog 42:=⟨fun _ _=>aH Tryz.func42 (by kernel_rfl) rfl⟩
theorem wq:j3 Tryz.prog 57 5 8:=⟨fun _ _=>by kernel_rfl⟩
theorem tX:j3 Tryz.prog 57 6 9:=⟨fun _ _=>by kernel_rfl⟩
theorem DT:fP Tryz.prog 43:=⟨fun _ _=>aH Tryz.func43 (by kernel_rfl) rfl⟩
theorem DU:C2 Tryz.prog 42 [(.slice none 0 0),(.slice none 0 0),(.slice none 0 0)]:=⟨(.agg #[(.slice none 0 0),(.slice none 0 0),(.slice none 0 0)]),fun _=>by kernel_rfl,rfl⟩
theorem mF:j3 Tryz.prog 57 4 7:=⟨fun _ _=>by kernel_rfl⟩
theorem vg:jH Tryz.prog 28 false 1:=⟨fun _=>by kernel_rfl,fun _=>by kernel_rfl⟩
theorem za:Tryz.prog.underlying 28=some (.slice 42):=by kernel_rfl
theorem og:j3 Tryz.prog 42 0 0:=⟨fun _ _=>by kernel_rfl⟩
theorem tY:j3 Tryz.prog 42 1 1:=⟨fun _ _=>by kernel_rfl⟩
theorem BB:jH Tryz.prog 42 true 3:=⟨fun _=>by kernel_rfl,fun _=>by kernel_rfl⟩
theorem tZ:pS Tryz.prog 28 42 3:=⟨by kernel_rfl,fun _=>by kernel_rfl⟩
theorem Cw:vL Tryz.prog 42 3:=⟨⟨(.agg #[(.slice none 0 0),(.slice none 0 0),(.slice none 0 0)]),fun _=>by kernel_rfl,rfl⟩,fun _=>by kernel_rfl⟩
theorem DV:nc Tryz.prog 28 42 3 72:=nc.of (z:=(.agg #[(.slice none 0 0),(.slice none 0 0),(.slice none 0 0)])) (by kernel_rfl) (by kernel_rfl) rfl (by decide)
theorem zb:vL Tryz.prog 102 2:=⟨⟨(.agg #[(.bool false),(.int .i64 0)]),fun _=>by kernel_rfl,rfl⟩,fun _=>by kernel_rfl⟩
theorem DW:fP Tryz.prog 81:=⟨fun _ _=>aH Tryz.func81 (by kernel_rfl) rfl⟩
theorem Cx:fP Tryz.prog 68:=⟨fun _ _=>aH Tryz.func68 (by kernel_rfl) rfl⟩
theorem zc:StT Tryz.prog 102 [(0,1),(1,1)] #[(.bool false),(.int .i64 0)]:=StT.of Tryz.underlying102 (z:=(.agg #[(.bool false),(.int .i64 0)])) (fun _=>by kernel_rfl) (fun _=>by kernel_rfl)
theorem oV:jH Tryz.prog 102 true 2:=⟨fun _=>by kernel_rfl,fun _=>by kernel_rfl⟩
theorem DX:fP Tryz.prog 44:=⟨fun _ _=>aH Tryz.func44 (by kernel_rfl) rfl⟩
theorem Aw:j3 Tryz.prog 102 0 0:=⟨fun _ _=>by kernel_rfl⟩
theorem w3:j3 Tryz.prog 102 1 1:=⟨fun _ _=>by kernel_rfl⟩
theorem DY:fP Tryz.prog 45:=⟨fun _ _=>aH Tryz.func45 (by kernel_rfl) rfl⟩
theorem t3:j3 Tryz.prog 42 2 2:=⟨fun _ _=>by kernel_rfl⟩
theorem zd:jH Tryz.prog 40 false 1:=⟨fun _=>by kernel_rfl,fun _=>by kernel_rfl⟩
theorem Cy:pS Tryz.prog 40 73 2:=⟨by kernel_rfl,fun _=>by kernel_rfl⟩
theorem DZ:nc Tryz.prog 40 73 2 32:=nc.of (z:=(.agg #[(.string ⟨#[]⟩),(.string ⟨#[]⟩)])) (by kernel_rfl) (by kernel_rfl) rfl (by decide)
theorem wu:j3 Tryz.prog 57 7 10:=⟨fun _ _=>by kernel_rfl⟩
theorem ze:j3 Tryz.prog 57 8 11:=⟨fun _ _=>by kernel_rfl⟩
theorem Cz:jH Tryz.prog 55 false 1:=⟨fun _=>by kernel_rfl,fun _=>by kernel_rfl⟩
theorem D0:pS Tryz.prog 55 102 2:=⟨by kernel_rfl,fun _=>by kernel_rfl⟩
theorem D1:nc Tryz.prog 55 102 2 16:=nc.of (z:=(.agg #[(.bool false),(.int .i64 0)])) (by kernel_rfl) (by kernel_rfl) rfl (by decide)
theorem D2:fP Tryz.prog 22:=⟨fun _ _=>aH Tryz.func22 (by kernel_rfl) rfl⟩
theorem D3:fP Tryz.prog 9:=⟨fun _ _=>aH Tryz.func9 (by kernel_rfl) rfl⟩
theorem EI:fP Tryz.prog 4:=⟨fun _ _=>aH Tryz.func4 (by kernel_rfl) rfl⟩
theorem D4:StT Tryz.prog 47 [(0,2),(2,1),(3,1),(4,1),(5,1)] #[(.int .i64 0),(.int .i64 0),(.int .i64 0),(.int .i64 0),(.int .i64 0),(.bool false)]:=StT.of Tryz.underlying47 (z:=(.agg #[(.int .i64 0),(.int .i64 0),(.int .i64 0),(.int .i64 0),(.int .i64 0),(.bool false)])) (fun _=>by kernel_rfl) (fun _=>by kernel_rfl)
theorem Eu:fP Tryz.prog 5:=⟨fun _ _=>aH Tryz.func5 (by kernel_rfl) rfl⟩
theorem BC:j3 Tryz.prog 65 1 1:=⟨fun _ _=>by kernel_rfl⟩
theorem D5:vL Tryz.prog 45 2:=⟨⟨(.agg #[(.int .i64 0),(.int .i64 0)]),fun _=>by kernel_rfl,rfl⟩,fun _=>by kernel_rfl⟩
theorem D6:StT Tryz.prog 45 [(0,1),(1,1)] #[(.int .i64 0),(.int .i64 0)]:=StT.of Tryz.underlying45 (z:=(.agg #[(.int .i64 0),(.int .i64 0)])) (fun _=>by kernel_rfl) (fun _=>by kernel_rfl)
theorem D7:fP Tryz.prog 11:=⟨fun _ _=>aH Tryz.func11 (by kernel_rfl) rfl⟩
theorem D8:fP Tryz.prog 12:=⟨fun _ _=>aH Tryz.func12 (by kernel_rfl) rfl⟩
theorem D9:StT Tryz.prog 69 [(0,1),(1,2),(3,1)] #[(.int .i64 0),(.int .i64 0),(.int .i64 0),(.int .i64 0)]:=StT.of Tryz.underlying69 (z:=(.agg #[(.int .i64 0),(.int .i64 0),(.int .i64 0),(.int .i64 0)])) (fun _=>by kernel_rfl) (fun _=>by kernel_rfl)
theorem Ea:pS Tryz.prog 33 69 4:=⟨by kernel_rfl,fun _=>by kernel_rfl⟩
theorem Eb:vL Tryz.prog 69 4:=⟨⟨(.agg #[(.int .i64 0),(.int .i64 0),(.int .i64 0),(.int .i64 0)]),fun _=>by kernel_rfl,rfl⟩,fun _=>by kernel_rfl⟩
theorem Ec:nc Tryz.prog 33 69 4 32:=nc.of (z:=(.agg #[(.int .i64 0),(.int .i64 0),(.int .i64 0),(.int .i64 0)])) (by kernel_rfl) (by kernel_rfl) rfl (by decide)
theorem EJ:fP Tryz.prog 6:=⟨fun _ _=>aH Tryz.func6 (by kernel_rfl) rfl⟩
theorem CA:Tryz.prog.underlying 40=some (.slice 73):=by kernel_rfl
theorem BD:pS Tryz.prog 36 40 1:=⟨by kernel_rfl,fun _=>by kernel_rfl⟩
theorem CB:vL Tryz.prog 40 1:=⟨⟨(.slice none 0 0),fun _=>by kernel_rfl,rfl⟩,fun _=>by kernel_rfl⟩
theorem CC:nc Tryz.prog 36 40 1 24:=nc.of (z:=(.slice none 0 0)) (by kernel_rfl) (by kernel_rfl) rfl (by decide)
theorem EK:fP Tryz.prog 7:=⟨fun _ _=>aH Tryz.func7 (by kernel_rfl) rfl⟩
theorem Ed:fP Tryz.prog 14:=⟨fun _ _=>aH Tryz.func14 (by kernel_rfl) rfl⟩
theorem EL:fP Tryz.prog 8:=⟨fun _ _=>aH Tryz.func8 (by kernel_rfl) rfl⟩
theorem Ee:Tryz.prog.underlying 36=some (.slice 40):=by kernel_rfl
theorem Ef:Tryz.prog.underlying 33=some (.slice 69):=by kernel_rfl
end Go.Gk
namespace Go.Gk
open Go Go.Proofs
def t7 (H:Type) (d:DataW H):Nat:=YtdmnhnejfgnjdaaGreatDoor.Rows.uptoBulk d
def CF (H:Type) (d:List (DataW H)):Nat:=YtdmnhnejfgnjdaaGreatDoor.Rows.uptoBulkAll d
theorem fm:UB t7 CF where
  str:=fun H b=>by simp [t7,YtdmnhnejfgnjdaaGreatDoor.Rows.uptoBulk]
  pos:=fun H d=>by
    unfold t7
    cases d with
    | lit l=>cases l <;> simp [YtdmnhnejfgnjdaaGreatDoor.Rows.uptoBulk]
    | nil=>simp [YtdmnhnejfgnjdaaGreatDoor.Rows.uptoBulk]
    | ptr d=>simp [YtdmnhnejfgnjdaaGreatDoor.Rows.uptoBulk]
    | slice elems spare=>simp [YtdmnhnejfgnjdaaGreatDoor.Rows.uptoBulk]
    | agg parts=>simp [YtdmnhnejfgnjdaaGreatDoor.Rows.uptoBulk]
    | iface t d=>simp [YtdmnhnejfgnjdaaGreatDoor.Rows.uptoBulk]
    | map entries=>simp [YtdmnhnejfgnjdaaGreatDoor.Rows.uptoBulk]
    | held h=>simp [YtdmnhnejfgnjdaaGreatDoor.Rows.uptoBulk]
  sl:=fun H e s=>by simp [t7,CF,YtdmnhnejfgnjdaaGreatDoor.Rows.uptoBulk]
  ag:=fun H l=>by simp [t7,CF,YtdmnhnejfgnjdaaGreatDoor.Rows.uptoBulk]
  nil:=fun H=>by simp [CF,YtdmnhnejfgnjdaaGreatDoor.Rows.uptoBulkAll]
  cons:=fun H x l=>by simp [t7,CF,YtdmnhnejfgnjdaaGreatDoor.Rows.uptoBulkAll]
theorem zZ:gK t7 Tryz.prog 3 Int:=xS fm (by kernel_rfl)
theorem Eg:gK t7 Tryz.prog 59 aD:=iZ fm (fun(x:aD)=>(x.X0,x.Y0,x.X1,x.Y1)) (fun b=>⟨b.1,b.2.1,b.2.2.1,b.2.2.2⟩) (fun b=>rfl) Tryz.underlying59 (by kernel_rfl) (dV fm zZ rfl (by kernel_rfl) rfl (dV fm zZ rfl (by kernel_rfl) rfl (dV fm zZ rfl (by kernel_rfl) rfl (ln fm zZ rfl (by kernel_rfl))))) (fun b=>by simp only [AD];omega)
theorem CG:gK t7 Tryz.prog 23 (List aD):=lS fm (e:=59) (by kernel_rfl) (by kernel_rfl) Eg
theorem Eh:gK t7 Tryz.prog 22 (List (List aD)):=lS fm (e:=23) (by kernel_rfl) (by kernel_rfl) CG
theorem CH:gK t7 Tryz.prog 45 bX:=iZ fm (fun(x:bX)=>(x.X,x.Y)) (fun b=>⟨b.1,b.2⟩) (fun b=>rfl) Tryz.underlying45 (by kernel_rfl) (dV fm zZ rfl (by kernel_rfl) rfl (ln fm zZ rfl (by kernel_rfl))) (fun b=>by simp only [zn];omega)
theorem EM:gK t7 Tryz.prog 4 Bool:=wz fm (by kernel_rfl)
theorem Ei:gK t7 Tryz.prog 47 bB:=iZ fm (fun(x:bB)=>(x.At,x.cH,x.bN,x.To,x.bP)) (fun b=>⟨b.1,b.2.1,b.2.2.1,b.2.2.2.1,b.2.2.2.2⟩) (fun b=>rfl) Tryz.underlying47 (by kernel_rfl) (dV fm CH rfl (by kernel_rfl) rfl (dV fm zZ rfl (by kernel_rfl) rfl (dV fm zZ rfl (by kernel_rfl) rfl (dV fm zZ rfl (by kernel_rfl) rfl (ln fm EM rfl (by kernel_rfl)))))) (fun b=>by simp only [AE];omega)
theorem Ej:gK t7 Tryz.prog 24 (List bB):=lS fm (e:=47) (by kernel_rfl) (by kernel_rfl) Ei
theorem Ev:gK t7 Tryz.prog 9 bS:=xT fm (by kernel_rfl)
theorem Ek:gK t7 Tryz.prog 71 cE:=iZ fm (fun(x:cE)=>(x.Part,x.dC,x.bH,x.At)) (fun b=>⟨b.1,b.2.1,b.2.2.1,b.2.2.2⟩) (fun b=>rfl) Tryz.underlying71 (by kernel_rfl) (dV fm Ev rfl (by kernel_rfl) rfl (dV fm Ev rfl (by kernel_rfl) rfl (dV fm zZ rfl (by kernel_rfl) rfl (ln fm CH rfl (by kernel_rfl))))) (fun b=>by simp only [w5];omega)
theorem El:gK t7 Tryz.prog 25 (List cE):=lS fm (e:=71) (by kernel_rfl) (by kernel_rfl) Ek
theorem Em:gK t7 Tryz.prog 27 ju:=iZ fm (fun(x:ju)=>(x.aJ,x.bZ,x.aK,x.aR)) (fun b=>⟨b.1,b.2.1,b.2.2.1,b.2.2.2⟩) (fun b=>rfl) Tryz.underlying27 (by kernel_rfl) (dV fm Eh rfl (by kernel_rfl) rfl (dV fm CG rfl (by kernel_rfl) rfl (dV fm Ej rfl (by kernel_rfl) rfl (ln fm El rfl (by kernel_rfl))))) (fun b=>by simp only [zo];omega)
end Go.Gk
namespace Go.Proofs
open Go.Shelf Go.RowKit Go.Lib Go.Sort
def Tryz.lay48_ren : Go.Shelf.Ren := ⟨fun | 6 => 48 | 15 => 71 | 14 => 70 | 28 => 90 | 29 => 91 | 20 => 82 | 21 => 83 | 22 => 84 | 23 => 85 | 24 => 86 | 25 => 87 | 26 => 88 | 27 => 89 | 46 => 106 | 47 => 107 | 48 => 108 | 49 => 109 | 50 => 110 | 57 => 119 | n => n, fun | 22 => 23 | 24 => 59 | 25 => 78 | 3 => 3 | 39 => 131 | 0 => 0 | 53 => 147 | 55 => 149 | 4 => 4 | 46 => 141 | 45 => 140 | 50 => 124 | 5 => 5 | 9 => 9 | 66 => 157 | 70 => 161 | 76 => 168 | 77 => 169 | n => n, fun | n => n⟩
theorem Tryz.lay48 : Go.Proofs.SlLaysF0.n6 Tryz.prog Tryz.lay48_ren := {
  mixed := by kernel_rfl
  f6 := ⟨Tryz.f48.name, by decide, Tryz.func48.trans (congrArg some (by kernel_rfl))⟩
  f14 := ⟨Tryz.f70.name, by decide, Tryz.func70.trans (congrArg some (by kernel_rfl))⟩
  f15 := Tryz.func71.trans (congrArg some (by kernel_rfl))
  f20 := ⟨Tryz.f82.name, by decide, Tryz.func82.trans (congrArg some (by kernel_rfl))⟩
  f21 := ⟨Tryz.f83.name, by decide, Tryz.func83.trans (congrArg some (by kernel_rfl))⟩
  f22 := ⟨Tryz.f84.name, by decide, Tryz.func84.trans (congrArg some (by kernel_rfl))⟩
  f23 := ⟨Tryz.f85.name, by decide, Tryz.func85.trans (congrArg some (by kernel_rfl))⟩
  f24 := ⟨Tryz.f86.name, by decide, Tryz.func86.trans (congrArg some (by kernel_rfl))⟩
  f25 := ⟨Tryz.f87.name, by decide, Tryz.func87.trans (congrArg some (by kernel_rfl))⟩
  f26 := ⟨Tryz.f88.name, by decide, Tryz.func88.trans (congrArg some (by kernel_rfl))⟩
  f27 := ⟨Tryz.f89.name, by decide, Tryz.func89.trans (congrArg some (by kernel_rfl))⟩
  f28 := Tryz.func90.trans (congrArg some (by kernel_rfl))
  f29 := Tryz.func91.trans (congrArg some (by kernel_rfl))
  f46 := ⟨Tryz.f106.name, by decide, Tryz.func106.trans (congrArg some (by kernel_rfl))⟩
  f47 := Tryz.func107.trans (congrArg some (by kernel_rfl))
  f48 := Tryz.func108.trans (congrArg some (by kernel_rfl))
  f49 := ⟨Tryz.f109.name, by decide, Tryz.func109.trans (congrArg some (by kernel_rfl))⟩
  f50 := ⟨Tryz.f110.name, by decide, Tryz.func110.trans (congrArg some (by kernel_rfl))⟩
  f57 := ⟨Tryz.f119.name, by decide, Tryz.func119.trans (congrArg some (by kernel_rfl))⟩
  t0 := Tryz.underlying0
  a0 := Tryz.isAgg0
  z0 := Tryz.sizeOf0
  v0 := Tryz.zeroValue0
  t3 := Tryz.underlying3
  a3 := Tryz.isAgg3
  z3 := Tryz.sizeOf3
  v3 := Tryz.zeroValue3
  t4 := Tryz.underlying4
  a4 := Tryz.isAgg4
  z4 := Tryz.sizeOf4
  v4 := Tryz.zeroValue4
  t5 := Tryz.underlying5
  a5 := Tryz.isAgg5
  z5 := Tryz.sizeOf5
  v5 := Tryz.zeroValue5
  t9 := Tryz.underlying9
  a9 := Tryz.isAgg9
  z9 := Tryz.sizeOf9
  v9 := Tryz.zeroValue9
  t22 := Tryz.underlying23
  a22 := Tryz.isAgg23
  z22 := Tryz.sizeOf23
  v22 := Tryz.zeroValue23
  t25 := Tryz.underlying78
  a25 := Tryz.isAgg78
  z25 := Tryz.sizeOf78
  v25 := Tryz.zeroValue78
  t39 := Tryz.underlying131
  a39 := Tryz.isAgg131
  z39 := Tryz.sizeOf131
  v39 := Tryz.zeroValue131
  t45 := Tryz.underlying140
  a45 := Tryz.isAgg140
  z45 := Tryz.sizeOf140
  v45 := Tryz.zeroValue140
  t46 := Tryz.underlying141
  a46 := Tryz.isAgg141
  z46 := Tryz.sizeOf141
  v46 := Tryz.zeroValue141
  t50 := Tryz.underlying124
  a50 := Tryz.isAgg124
  z50 := Tryz.sizeOf124
  v50 := Tryz.zeroValue124
  t53 := Tryz.underlying147
  a53 := Tryz.isAgg147
  z53 := Tryz.sizeOf147
  v53 := Tryz.zeroValue147
  t55 := Tryz.underlying149
  a55 := Tryz.isAgg149
  z55 := Tryz.sizeOf149
  v55 := Tryz.zeroValue149
  t66 := Tryz.underlying157
  a66 := Tryz.isAgg157
  z66 := Tryz.sizeOf157
  v66 := Tryz.zeroValue157
  t70 := Tryz.underlying161
  a70 := Tryz.isAgg161
  z70 := Tryz.sizeOf161
  v70 := Tryz.zeroValue161
  t76 := Tryz.underlying168
  a76 := Tryz.isAgg168
  z76 := Tryz.sizeOf168
  v76 := Tryz.zeroValue168
  t77 := Tryz.underlying169
  a77 := Tryz.isAgg169
  z77 := Tryz.sizeOf169
  v77 := Tryz.zeroValue169 }
def Tryz.lay50_ren : Go.Shelf.Ren := ⟨fun | 5 => 50 | 8 => 71 | 7 => 72 | 19 => 90 | 20 => 91 | 10 => 92 | 11 => 93 | 12 => 94 | 13 => 95 | 14 => 96 | 15 => 97 | 16 => 98 | 17 => 99 | 18 => 100 | 30 => 111 | 31 => 107 | 32 => 108 | 33 => 112 | 34 => 113 | 35 => 114 | 40 => 120 | n => n, fun | 23 => 39 | 25 => 3 | 3 => 3 | 32 => 131 | 22 => 39 | 0 => 0 | 44 => 147 | 46 => 149 | 4 => 4 | 36 => 141 | 35 => 140 | 41 => 124 | 5 => 5 | 9 => 9 | 53 => 157 | 57 => 161 | 63 => 168 | 64 => 169 | n => n, fun | n => n⟩
theorem Tryz.lay50 : Go.Proofs.SlLaysM.n5 Tryz.prog Tryz.lay50_ren := {
  mixed := by kernel_rfl
  f5 := ⟨Tryz.f50.name, by decide, Tryz.func50.trans (congrArg some (by kernel_rfl))⟩
  f7 := ⟨Tryz.f72.name, by decide, Tryz.func72.trans (congrArg some (by kernel_rfl))⟩
  f8 := Tryz.func71.trans (congrArg some (by kernel_rfl))
  f10 := ⟨Tryz.f92.name, by decide, Tryz.func92.trans (congrArg some (by kernel_rfl))⟩
  f11 := ⟨Tryz.f93.name, by decide, Tryz.func93.trans (congrArg some (by kernel_rfl))⟩
  f12 := ⟨Tryz.f94.name, by decide, Tryz.func94.trans (congrArg some (by kernel_rfl))⟩
  f13 := ⟨Tryz.f95.name, by decide, Tryz.func95.trans (congrArg some (by kernel_rfl))⟩
  f14 := ⟨Tryz.f96.name, by decide, Tryz.func96.trans (congrArg some (by kernel_rfl))⟩
  f15 := ⟨Tryz.f97.name, by decide, Tryz.func97.trans (congrArg some (by kernel_rfl))⟩
  f16 := ⟨Tryz.f98.name, by decide, Tryz.func98.trans (congrArg some (by kernel_rfl))⟩
  f17 := ⟨Tryz.f99.name, by decide, Tryz.func99.trans (congrArg some (by kernel_rfl))⟩
  f18 := ⟨Tryz.f100.name, by decide, Tryz.func100.trans (congrArg some (by kernel_rfl))⟩
  f19 := Tryz.func90.trans (congrArg some (by kernel_rfl))
  f20 := Tryz.func91.trans (congrArg some (by kernel_rfl))
  f30 := ⟨Tryz.f111.name, by decide, Tryz.func111.trans (congrArg some (by kernel_rfl))⟩
  f31 := Tryz.func107.trans (congrArg some (by kernel_rfl))
  f32 := Tryz.func108.trans (congrArg some (by kernel_rfl))
  f33 := ⟨Tryz.f112.name, by decide, Tryz.func112.trans (congrArg some (by kernel_rfl))⟩
  f34 := ⟨Tryz.f113.name, by decide, Tryz.func113.trans (congrArg some (by kernel_rfl))⟩
  f35 := ⟨Tryz.f114.name, by decide, Tryz.func114.trans (congrArg some (by kernel_rfl))⟩
  f40 := ⟨Tryz.f120.name, by decide, Tryz.func120.trans (congrArg some (by kernel_rfl))⟩
  t0 := Tryz.underlying0
  a0 := Tryz.isAgg0
  z0 := Tryz.sizeOf0
  v0 := Tryz.zeroValue0
  t3 := Tryz.underlying3
  a3 := Tryz.isAgg3
  z3 := Tryz.sizeOf3
  v3 := Tryz.zeroValue3
  t4 := Tryz.underlying4
  a4 := Tryz.isAgg4
  z4 := Tryz.sizeOf4
  v4 := Tryz.zeroValue4
  t5 := Tryz.underlying5
  a5 := Tryz.isAgg5
  z5 := Tryz.sizeOf5
  v5 := Tryz.zeroValue5
  t9 := Tryz.underlying9
  a9 := Tryz.isAgg9
  z9 := Tryz.sizeOf9
  v9 := Tryz.zeroValue9
  t22 := Tryz.underlying39
  a22 := Tryz.isAgg39
  z22 := Tryz.sizeOf39
  v22 := Tryz.zeroValue39
  t23 := Tryz.underlying39
  a23 := Tryz.isAgg39
  z23 := Tryz.sizeOf39
  v23 := Tryz.zeroValue39
  t25 := Tryz.underlying3
  a25 := Tryz.isAgg3
  z25 := Tryz.sizeOf3
  v25 := Tryz.zeroValue3
  t32 := Tryz.underlying131
  a32 := Tryz.isAgg131
  z32 := Tryz.sizeOf131
  v32 := Tryz.zeroValue131
  t35 := Tryz.underlying140
  a35 := Tryz.isAgg140
  z35 := Tryz.sizeOf140
  v35 := Tryz.zeroValue140
  t36 := Tryz.underlying141
  a36 := Tryz.isAgg141
  z36 := Tryz.sizeOf141
  v36 := Tryz.zeroValue141
  t41 := Tryz.underlying124
  a41 := Tryz.isAgg124
  z41 := Tryz.sizeOf124
  v41 := Tryz.zeroValue124
  t44 := Tryz.underlying147
  a44 := Tryz.isAgg147
  z44 := Tryz.sizeOf147
  v44 := Tryz.zeroValue147
  t46 := Tryz.underlying149
  a46 := Tryz.isAgg149
  z46 := Tryz.sizeOf149
  v46 := Tryz.zeroValue149
  t53 := Tryz.underlying157
  a53 := Tryz.isAgg157
  z53 := Tryz.sizeOf157
  v53 := Tryz.zeroValue157
  t57 := Tryz.underlying161
  a57 := Tryz.isAgg161
  z57 := Tryz.sizeOf161
  v57 := Tryz.zeroValue161
  t63 := Tryz.underlying168
  a63 := Tryz.isAgg168
  z63 := Tryz.sizeOf168
  v63 := Tryz.zeroValue168
  t64 := Tryz.underlying169
  a64 := Tryz.isAgg169
  z64 := Tryz.sizeOf169
  v64 := Tryz.zeroValue169 }
end Go.Proofs
namespace Go.Gk
open Go Go.Proofs
def rL (E:World) (Γ:List HP) (res:Bool) (v:Value) (w:World):Prop:=v= (vb res)∧Holds E w Γ
theorem qS (N:Nat) {E w:World} {Γ:List HP} {p0:Int} {p1:Int} {p2:Int} {res:Bool} (hw:Holds E w Γ) (hb:lK N p0 p1 p2=some res):
    Calls Tryz.prog 69 [(vi p0),(vi p1),(vi p2)].toArray w (fu (rL E Γ res)):=by
 unfold lK at hb
 refine enter Tryz.func69 zr zr (Nat.le_of_ble_eq_true zr) (RC.sr (aN (vb false) zr zr (RL.ns (mv (vi p0) zr zr (mv (vi p1) zr zr (ic p0 p1 zr zr zr zr (mv (vb (decide (p0≥p1))) zr zr (RL.gs (c:=true) (b:=(decide (p0≥p1))) (v:=(vi p0)) zr zr zr (cR zr (fun _=>zr)) ?_))))))))
 refine RL.gs (c:=true) (b:=(decide (p0≥p1))) (v:=(vi p2)) rfl rfl rfl (cR rfl (fun _=>rfl)) (RL.gs (c:=true) (b:=(decide (p0≥p1))) (v:=(vb (decide (p0≤p2)))) rfl rfl rfl (dO (bop:= .leq) (K:= .i64) (a:=p0) (b:=p2) rfl (fun h=>by exact(cD h:cv (true&&((decide (p0≥p1))==true)) (vi p0)= (vi p0))) (fun h=>by exact(cD h:cv (true&&((decide (p0≥p1))==true)) (vi p2)= (vi p2))) rfl) (RL.pick (b:=(decide (p0≥p1))) (v:=(vb ((decide (p0≥p1))&&(decide (p0≤p2))))) trivial rfl rfl (hZ (c:=true) rfl) (aN (vb ((decide (p0≥p1))&&(decide (p0≤p2)))) rfl rfl (RL.nt (RC.ret ?_)))))
 obtain rfl:=oi hb
 exact bQ zr zr ⟨rfl,hw.drop 0 zr⟩
def t8 (E:World) (Γ:List HP) (res:Bool) (v:Value) (w:World):Prop:=v= (vb res)∧Holds E w Γ
theorem gA (N:Nat) {E w:World} {Γ:List HP} {p0:Int} {res:Bool} (hw:Holds E w Γ) (hb:gk N p0=some res):
    Calls Tryz.prog 46 [(vi p0)].toArray w (fu (t8 E Γ res)):=by
 unfold gk at hb
 refine enter Tryz.func46 zr zr (Nat.le_of_ble_eq_true zr) (RC.sr (aN (vb false) zr zr (RL.ns (mv (vi p0) zr zr ?_))))
 obtain⟨j,o,hb⟩:=bd hb
 refine RL.call zt zr C6 [(vi p0),(vi (-1000000)),(vi 1000000)] zr (aF (qS N (p0:=p0) (p1:=(-1000000)) (p2:=1000000) hw o) ?_)
 rintro _ w ⟨rfl,hw⟩
 refine aN (vb j) zr zr (RL.nt (RC.ret ?_))
 obtain rfl:=oi hb
 exact bQ zr zr ⟨rfl,hw.drop 0 zr⟩
def rM (E:World) (Γ:List HP) (res:Bool) (v:Value) (w:World):Prop:=v= (vb res)∧Holds E w Γ
theorem l6 (N:Nat) {E w:World} {Γ:List HP} {i0:Nat} {v0:Value} {p0:aD} {res:Bool} (hw:Holds E w Γ) (h0:Γ[i0]? =some (rd v0 p0)) (hb:g8 N p0=some res):
    Calls Tryz.prog 56 [v0].toArray w (fu (rM E Γ res)):=by
 unfold g8 at hb
 refine enter Tryz.func56 zr zr (Nat.le_of_ble_eq_true zr) ?_
 have hw:=hw.dup (i:=i0+0) h0
 refine RC.sr (RL.dP (i:=0) (v:=v0) zt zr hw zr zr fun al w hw=>(aN (vb false) zr zr (RL.nq ?_)))
 obtain⟨ae,hj,hb⟩:=bd hb
 refine RC.jn (fun(ae:Bool) (σ:Nat→Value) (w:World)=>agree σ [(2,(vb ae))]∧Holds E w ([]++Γ)) ae ?_ ?_
 ·refine RC.region (RL.bD zt zr zr fX (RL.aL (i:=0) (f:=(fun x=>x.X0)) zt zr hw zr zr cS bV ?_))
  obtain⟨af,ah,hj⟩:=bd hj
  refine RL.call zt zr xH [(vi p0.X0)] zr (aF (gA N (p0:=p0.X0) hw ah) ?_)
  rintro _ w ⟨rfl,hw⟩
  refine mv (vb af) zr zr (fW hj (fun j hj=>?_) fun j hj=>?_)
  rotate_left
  ·refine sk rfl (.inl (cb j)) rfl (sk rfl (.inl (cb j)) rfl (sk rfl (.inl (cb j)) rfl (RL.pick (b:=af) (v:=(vb false)) trivial rfl rfl (by rw [j];rfl) (mv (vb false) rfl rfl (sk rfl (.inl rfl) rfl (sk rfl (.inl rfl) rfl (sk rfl (.inl rfl) rfl (RL.pick (b:=false) (v:=(vb false)) trivial rfl rfl rfl ?_))))))))
   refine mv (vb false) zr zr (sk zr (.inl zr) zr (sk zr (.inl zr) zr (sk zr (.inl zr) zr (RL.pick (b:=false) (v:=(vb false)) zt zr zr zr (aN (vb false) zr zr (RL.nil ?_))))))
   obtain rfl:=oi hj
   exact⟨rfl,⟨rfl,zt⟩,hw.pk 2 [] zr⟩
  refine RL.bD (cg j) zr zr gF (RL.aL (i:=0) (f:=(fun x=>x.Y0)) (cg j) zr hw zr zr cZ bV ?_)
  obtain⟨ab,ai,hj⟩:=bd hj
  refine RL.call (cg j) zr xH [(vi p0.Y0)] zr (aF (gA N (p0:=p0.Y0) hw ai) ?_)
  rintro _ w ⟨rfl,hw⟩
  refine RL.pick (b:=af) (v:=(vb ab)) trivial rfl rfl (by rw [j];rfl) (mv (vb ab) rfl rfl (fW hj (fun o hj=>?_) fun o hj=>?_))
  rotate_left
  ·refine sk rfl (.inl (cb o)) rfl (sk rfl (.inl (cb o)) rfl (sk rfl (.inl (cb o)) rfl (RL.pick (b:=ab) (v:=(vb false)) trivial rfl rfl (by rw [o];rfl) (mv (vb false) rfl rfl (sk rfl (.inl rfl) rfl (sk rfl (.inl rfl) rfl (sk rfl (.inl rfl) rfl (RL.pick (b:=false) (v:=(vb false)) trivial rfl rfl rfl ?_))))))))
   refine aN (vb false) zr zr (RL.nil ?_)
   obtain rfl:=oi hj
   exact⟨rfl,⟨rfl,zt⟩,hw.pk 2 [] zr⟩
  refine RL.bD (cg o) zr zr gG (RL.aL (i:=0) (f:=(fun x=>x.X1)) (cg o) zr hw zr zr dM bV ?_)
  obtain⟨ad,aj,hj⟩:=bd hj
  refine RL.call (cg o) zr xH [(vi p0.X1)] zr (aF (gA N (p0:=p0.X1) hw aj) ?_)
  rintro _ w ⟨rfl,hw⟩
  refine RL.pick (b:=ab) (v:=(vb ad)) trivial rfl rfl (by rw [o];rfl) (mv (vb ad) rfl rfl (fW hj (fun aa hj=>?_) fun aa hj=>?_))
  rotate_left
  ·refine sk rfl (.inl (cb aa)) rfl (sk rfl (.inl (cb aa)) rfl (sk rfl (.inl (cb aa)) rfl (RL.pick (b:=ad) (v:=(vb false)) trivial rfl rfl (by rw [aa];rfl) (aN (vb false) rfl rfl (RL.nil ?_)))))
   obtain rfl:=oi hj
   exact⟨rfl,⟨rfl,zt⟩,hw.pk 2 [] zr⟩
  refine RL.bD (cg aa) zr zr jK (RL.aL (i:=0) (f:=(fun x=>x.Y1)) (cg aa) zr hw zr zr fy bV ?_)
  obtain⟨ag,ak,hj⟩:=bd hj
  refine RL.call (cg aa) zr xH [(vi p0.Y1)] zr (aF (gA N (p0:=p0.Y1) hw ak) ?_)
  rintro _ w ⟨rfl,hw⟩
  refine RL.pick (b:=ad) (v:=(vb ag)) trivial rfl rfl (by rw [aa];rfl) (aN (vb ag) rfl rfl (RL.nil ?_))
  obtain rfl:=oi hj
  exact⟨rfl,⟨rfl,zt⟩,hw.pk 2 [] zr⟩
 rintro σ w ⟨ha,hw⟩
 obtain⟨τ,rfl⟩:=ha.aO
 refine aG (RC.ret ?_)
 obtain rfl:=oi hb
 exact bQ zr zr ⟨rfl,hw.drop 0 zr⟩
def kd (E:World) (Γ:List HP) (res:Int) (v:Value) (w:World):Prop:=v= (vi res)∧Holds E w Γ
def oh (E:World) (Γ:List HP) (r:Int) (σ:Nat→Value) (w:World):Prop:=jU Tryz.prog 30 Tryz.f27 (kd E Γ r) .ret σ w
theorem nB (N:Nat) {E w:World} {Γ:List HP} {i0:Nat} {v0:Value} {p0: (List aD)} {res:Int} (hw:Holds E w Γ) (h0:Γ[i0]? =some (rd v0 p0)) (hb:fR N p0=some res):
    Calls Tryz.prog 27 [v0].toArray w (fu (kd E Γ res)):=by
 unfold fR at hb
 refine enter Tryz.func27 zr zr (Nat.le_of_ble_eq_true zr) ?_
 have hw:=hw.dup (i:=i0+0) h0
 refine RC.sr (aN (vi 0) zr zr (RL.nq (RC.sr (mv v0 zr zr (RL.bA (i:=0) (l:=p0) zt zr hw zr zr mc (ic ((p0.length:Int)) 2000 zr zr zr zr (RL.nt (eI hb zr (fun hc hb=>?_) fun hc hb=>?_))))))))
 ·refine RC.sr (aN (vi 2) zr zr (RL.nt (RC.rt ?_)))
  obtain rfl:=oi hb
  exact bQ zr zr ⟨rfl,hw.drop 1 zr⟩
 refine RC.ss (RC.sr (mv v0 zr zr (RL.bA (i:=0) (l:=p0) zt zr hw zr zr mc (mv (vi 0) zr zr (RL.nt ?_)))))
 obtain⟨aj,hN,hb⟩:=bd hb
 refine RC.range (fun(ab:Nat) (ad:Unit) (σ:Nat→Value) (w:World)=>agree σ [(8,v0),(9,(vi (p0.length:Int))),(10,(vi (ab:Int)))]∧Holds E w ([rd v0 p0]++Γ)) (fun(ad:Unit) (σ:Nat→Value) (w:World)=>agree σ []∧Holds E w ([rd v0 p0]++Γ)) (oh E Γ) hN ?_ ?_ ?_ ?_ ?_
 ·exact⟨(ag zr),hw.pk 1 [0] zr⟩
 ·intro hm ad σ w hI
  obtain⟨ha,hw⟩:=hI
  obtain⟨τ,rfl⟩:=ha.aO
  refine RC.sr (ic ((p0.length:Int)) ((p0.length:Int)) zr zr zr zr (RL.nq (RC.cG k6 (RC.ex ?_))))
  exact⟨rfl,zt,hw.pk 1 [0] zr⟩
 ·intro hm ab ad fl σ w hk hI hb
  obtain⟨ha,hw⟩:=hI
  obtain⟨τ,rfl⟩:=ha.aO
  refine RC.sr (ic ((ab:Int)) ((p0.length:Int)) zr zr zr zr (RL.nq (RC.cF (kZ hk) (RC.ss (RC.bs ?_)))))
  obtain⟨o,ae,hb⟩:=bd hb
  refine RL.bO (i:=0) zt zr hw zr zr zr iN ae fun ak hw=>(RL.bT (i:=0) (x:=o) zt zr hw zr zr eW fun al hw=>(RL.alloc zt zr hw kA.z fun aa w hw=>(RL.bC (i:=0) (j:=1) zt hw zr zr zr zr eW zr fun w hw=>(RL.nq (RC.sr (RL.aU (i:=0) (f:=(fun x=>x)) zt zr hw zr zr Fd.self eW fun af hw=>?_))))))
  obtain⟨ah,ai,hb⟩:=bd hb
  refine RL.call zt zr B4 [af] zr (aF (l6 N (i0:=0) hw zr ai) ?_)
  rintro _ w ⟨rfl,hw⟩
  refine RL.not (b:=ah) zt zr zr (RL.nt (eI hb zr (fun hc hb=>?_) fun hc hb=>?_))
  ·refine RC.sr (aN (vi 1) zr zr (RL.nt (RC.rt (j7 (bK ?_)))))
   obtain rfl:=oi hb
   exact⟨rfl,bQ zr zr ⟨rfl,hw.drop 5 zr⟩⟩
  refine RC.sx (RL.bD trivial rfl rfl gG (RL.aL (i:=1) (f:=(fun x=>x.X1)) trivial rfl hw rfl rfl dM bV (RL.bD trivial rfl rfl fX (RL.aL (i:=1) (f:=(fun x=>x.X0)) trivial rfl hw rfl rfl cS bV (ic (o.X1) (o.X0) rfl rfl rfl rfl (mv (vb (decide (o.X1≤o.X0))) rfl rfl (RL.gs (c:=true) (b:=(decide (o.X1≤o.X0))) (v:=(vp aa 3)) rfl rfl rfl (dE rfl (fun _=>rfl) jK) (RL.gs (c:=true) (b:=(decide (o.X1≤o.X0))) (v:=(vi o.Y1)) rfl rfl rfl (bL (i:=1) (f:=(fun x=>x.Y1)) rfl hw (fun h=>by exact(cD h:cv (true&&((decide (o.X1≤o.X0))==false)) (vp aa 3)= (vp aa 3))) rfl fy bV) ?_))))))))
  refine RL.gs (c:=true) (b:=(decide (o.X1≤o.X0))) (v:=(vp aa 1)) rfl rfl rfl (dE rfl (fun _=>rfl) gF) (RL.gs (c:=true) (b:=(decide (o.X1≤o.X0))) (v:=(vi o.Y0)) rfl rfl rfl (bL (i:=1) (f:=(fun x=>x.Y0)) rfl hw (fun h=>by exact(cD h:cv (true&&((decide (o.X1≤o.X0))==false)) (vp aa 1)= (vp aa 1))) rfl cZ bV) (RL.gs (c:=true) (b:=(decide (o.X1≤o.X0))) (v:=(vb (decide (o.Y1≤o.Y0)))) rfl rfl rfl (dO (bop:= .leq) (K:= .i64) (a:=o.Y1) (b:=o.Y0) rfl (fun h=>by exact(cD h:cv (true&&((decide (o.X1≤o.X0))==false)) (vi o.Y1)= (vi o.Y1))) (fun h=>by exact(cD h:cv (true&&((decide (o.X1≤o.X0))==false)) (vi o.Y0)= (vi o.Y0))) rfl) (RL.pick (b:=(decide (o.X1≤o.X0))) (v:=(vb ((decide (o.X1≤o.X0))||(decide (o.Y1≤o.Y0))))) trivial rfl rfl (mw (c:=true) rfl) (RL.nt (eI hb rfl (fun hc hb=>?_) fun hc hb=>?_)))))
  rotate_left
  ·refine RC.skip (bI (aG (RC.region (RL.inc zt zr hk hm zr zr (mv (vi ((ab+1:Nat):Int)) zr zr (RL.nil ?_))))))
   obtain rfl:=oi hb
   exact⟨rfl,(ag zr),hw.pk 5 [4] zr⟩
  refine RC.sr (aN (vi 13) zr zr (RL.nt (RC.rb (bK ?_))))
  obtain rfl:=oi hb
  exact⟨rfl,bQ zr zr ⟨rfl,hw.drop 5 zr⟩⟩
 ·intro r σ w e hK
  subst e
  refine bK ?_
  obtain rfl:=oi hb
  exact hK
 intro ad σ w e hJ
 subst e
 rw [Fo.eC] at hb
 obtain⟨ha,hw⟩:=hJ
 obtain⟨τ,rfl⟩:=ha.aO
 refine aG (RC.sr (aN (vi 0) zr zr (RL.nt (RC.ret ?_))))
 obtain rfl:=oi hb
 exact bQ zr zr ⟨rfl,hw.drop 1 zr⟩
def nC (E:World) (Γ:List HP) (res: (List aD)) (v:Value) (w:World):Prop:=Holds E w ([own 59 v res]++Γ)
theorem mG (N:Nat) {E w:World} {Γ:List HP} {i0:Nat} {v0:Value} {p0: (List aD)} {res: (List aD)} (hw:Holds E w Γ) (h0:Γ[i0]? =some (rd v0 p0)) (hb:eJ N p0=some res):
    Calls Tryz.prog 47 [v0].toArray w (fu (nC E Γ res)):=by
 unfold eJ at hb
 refine enter Tryz.func47 zr zr (Nat.le_of_ble_eq_true zr) ?_
 have hw:=hw.dup (i:=i0+0) h0
 refine RC.sr (aN (.slice none 0 0) zr zr (RL.nq (RC.sr (mv v0 zr zr (RL.BW (i:=0) zt zr hw zr zr zr mc (RL.nt (RC.cond (b:=(Ah v0)) zr (fun hc=>?_) (fun hc=>?_))))))))
 ·have hx:=hw.C4 (i:=0) rfl hc
  rw [hx] at hb
  replace hb:some ([]: (List aD))=_:=hb
  refine RC.sr (aN (.slice none 0 0) zr zr (RL.nt (RC.rt ?_)))
  obtain rfl:=oi hb
  have hw:=hw.bW aD 59
  exact bQ zr zr (hw.pk 2 [0] zr)
 refine RC.sx (RL.dQ (l:=([]: (List aD))) zt zr hw [] zr zr zr iN kA (fun M hs g=>zt) fun ab w hw=>(mv v0 zr zr ?_))
 obtain⟨ad,o,hb⟩:=bd hb
 refine RL.app (i:=0) (j:=1) zt zr hw zr zr zr zr xI o fun aa w hw=>(aN aa zr zr (RL.nt (RC.ret ?_)))
 obtain rfl:=oi hb
 exact bQ zr zr (hw.pk 2 [0] zr)
def qe (E:World) (Γ:List HP) (res:Int) (v:Value) (w:World):Prop:=v= (vi res)∧Holds E w Γ
theorem oZ (N:Nat) {E w:World} {Γ:List HP} {i0:Nat} {v0:Value} {p0:aD} {i1:Nat} {v1:Value} {p1:aD} {res:Int} (hw:Holds E w Γ) (h0:Γ[i0]? =some (rd v0 p0)) (h1:Γ[i1]? =some (rd v1 p1)) (hb:ff N p0 p1=some res):
    Calls Tryz.prog 49 [v0,v1].toArray w (fu (qe E Γ res)):=by
 unfold ff at hb
 refine enter Tryz.func49 zr zr (Nat.le_of_ble_eq_true zr) ?_
 have hw:=hw.dup (i:=i0+0) h0
 have hw:=hw.dup (i:=i1+1) h1
 refine RC.sr (RL.dP (i:=1) (v:=v0) zt zr hw zr zr fun j w hw=>(RL.dP (i:=1) (v:=v1) zt zr hw zr zr fun o w hw=>(aN (vi 0) zr zr (RL.ns (RL.bD zt zr zr gF (RL.aL (i:=1) (f:=(fun x=>x.Y0)) zt zr hw zr zr cZ bV (RL.bD zt zr zr gF (RL.aL (i:=0) (f:=(fun x=>x.Y0)) zt zr hw zr zr cZ bV ?_))))))))
 refine RL.gq (a:=p0.Y0) (b:=p1.Y0) zt zr zr zr zr (aN (vi (IntKind.wrap .i64 (p0.Y0 - p1.Y0))) zr zr (RL.nt (RC.ret ?_)))
 obtain rfl:=oi hb
 exact bQ zr zr ⟨rfl,hw.drop 4 zr⟩
def jy (E:World) (Γ:List HP) (res: (List Int)) (v:Value) (w:World):Prop:=Holds E w ([own 3 v res]++Γ)
def mH (E:World) (Γ:List HP) (r: (List Int)) (σ:Nat→Value) (w:World):Prop:=jU Tryz.prog 61 Tryz.f51 (jy E Γ r) .ret σ w
theorem me (N:Nat) {E w:World} {Γ:List HP} {v0:Value} {p0: (List Int)} {res: (List Int)} (hw:Holds E w (own 3 v0 p0::Γ)) (hb:dF N p0=some res):
    Calls Tryz.prog 51 [v0].toArray w (fu (jy E Γ res)):=by
 unfold dF at hb
 refine enter Tryz.func51 zr zr (Nat.le_of_ble_eq_true zr) (RC.sr (aN (.slice none 0 0) zr zr (RL.nq (RC.sr (mv v0 zr zr (RL.cW (i:=0) (l:=p0) zt zr hw zr zr iO (ic ((p0.length:Int)) 2 zr zr zr zr (RL.nt ?_))))))))
 refine eI hb zr (fun hc hb=>?_) fun hc hb=>?_
 ·refine RC.sr (mv v0 zr zr (aN v0 zr zr (RL.nt (RC.rt ?_))))
  obtain rfl:=oi hb
  exact bQ zr zr (hw.pk 1 [0] zr)
 refine RC.ss (RC.sr (aN (vi 1) zr zr (RL.nt ?_)))
 obtain⟨ax,hN,hb⟩:=bd hb
 refine RC.iter (fun(aa:Int) (σ:Nat→Value) (w:World)=>agree σ [(0,v0),(3,(vi aa))]∧Holds E w ([own 3 v0 p0]++Γ)) (fun(aa:Int) (σ:Nat→Value) (w:World)=>agree σ [(0,v0)]∧Holds E w ([own 3 v0 p0]++Γ)) (mH E Γ) hN ?_ ?_ ?_ ?_
 ·exact⟨(ag zr),hw.pk 1 [0] zr⟩
 ·intro aa fl σ w hI hb
  obtain⟨ha,hw⟩:=hI
  obtain⟨τ,rfl⟩:=ha.aO
  refine RC.seq (RC.sr (mv (vi aa) zr zr (mv v0 zr zr (RL.cW (i:=0) (l:=p0) zt zr hw zr zr iO (ic aa ((p0.length:Int)) zr zr zr zr (RL.nt (eI hb zr (fun hc hb=>?_) fun hc hb=>?_)))))))
  rotate_left
  ·refine RC.ex ?_
   obtain rfl:=oi hb
   exact⟨rfl,⟨rfl,zt⟩,hw.pk 1 [0] zr⟩
  refine RC.ss (RC.block (RC.seq (RC.uA mixed rfl (by kernel_rfl) ?_)))
  have hw:=hw.drew
  refine RO.go (mv v0 zr zr (RO.nx (mv (vi aa) zr zr (RO.nx ?_))))
  obtain⟨an,ai,hb⟩:=bd hb
  refine RL.aZ (i:=0) zt zr hw zr zr zr dB ai (RO.nx (RL.cK (i:=0) (f:=(fun x=>x)) zt zr hw zr (f0 hw (i:=0) zr ai 0) zr (aP ai).2.1 Fd.self bV (RO.nx (mv v0 zr zr (RO.nx (mv (vi aa) zr zr (RO.nx (RL.gq (a:=aa) (b:=1) zt zr zr zr zr ?_))))))))
  refine RO.nx ?_
  obtain⟨ao,aj,hb⟩:=bd hb
  refine RL.aZ (i:=0) zt zr hw zr zr zr dB aj (RO.nx (RL.cK (i:=0) (f:=(fun x=>x)) zt zr hw zr (f0 hw (i:=0) zr aj 0) zr (aP aj).2.1 Fd.self bV (RO.nx (ic an ao zr zr zr zr (RO.last (aG (eI hb zr (fun hc hb=>?_) fun hc hb=>?_)))))))
  rotate_left
  ·refine RC.skip (bI (aG (RC.region (mv (vi aa) zr zr (RL.gq (a:=aa) (b:=1) zt zr zr zr zr (aN (vi (IntKind.wrap .i64 (aa+1))) zr zr (RL.nil ?_)))))))
   obtain rfl:=oi hb
   exact⟨rfl,(ag zr),hw.pk 1 [0] zr⟩
  refine RC.sr (mv v0 zr zr (mv (vi aa) zr zr ?_))
  obtain⟨ay,ab,hb⟩:=bd hb
  refine RL.view (i:=0) (lo:=aa) zt zr hw zr zr dB (.inl zr) ab (aN (vw v0 (Int.toNat aa) 1) zr zr (RL.nq (RC.sr (aN (vi 1) zr zr (RL.nt ?_)))))
  obtain⟨az,hN,hb⟩:=bd hb
  refine RC.iter (fun(o: (List Int)×Int×Int) (σ:Nat→Value) (w:World)=>agree σ [(0,v0),(3,(vi o.2.1)),(4,(vw v0 (Int.toNat aa) 1)),(5,(vi o.2.2))]∧Holds E w ([own 3 v0 o.1]++Γ)) (fun(o: (List Int)×Int×Int) (σ:Nat→Value) (w:World)=>agree σ [(0,v0),(3,(vi o.2.1))]∧Holds E w ([own 3 v0 o.1]++Γ)) (fun(r:Empty) (_:Nat→Value) (_:World)=>r.elim) hN ?_ ?_ ?_ ?_
  ·exact⟨(ag zr),hw.pk 1 [0] zr⟩
  ·intro o fl σ w hI hb
   obtain⟨ha,hw⟩:=hI
   obtain⟨τ,rfl⟩:=ha.aO
   refine RC.seq (RC.sr (mv (vi o.2.2) zr zr (mv (vw v0 (Int.toNat aa) 1) zr zr (RL.Bi (i:=0) (l:=o.1) zt zr hw zr zr iO (ic (o.2.2) ((((o.1.length - Int.toNat aa):Nat):Int)) zr zr zr zr (RL.nt (eI hb zr (fun hc hb=>?_) fun hc hb=>?_)))))))
   rotate_left
   ·refine RC.ex ?_
    obtain rfl:=oi hb
    exact⟨rfl,(ag zr),hw.pk 1 [0] zr⟩
   refine RC.ss (RC.block (RC.seq (RC.uA mixed rfl (by kernel_rfl) ?_)))
   have hw:=hw.drew
   refine RO.go (mv (vw v0 (Int.toNat aa) 1) zr zr (RO.nx (mv (vi o.2.2) zr zr (RO.nx ?_))))
   obtain⟨aq,ad,hb⟩:=bd hb
   refine RL.yA (i:=0) (lo:=aa) zt zr hw zr zr zr dB (vX ab) (fw ad).1 (fw ad).2 (RO.nx (RL.cK (i:=0) (f:=(fun x=>x)) zt zr hw zr (f0 hw (i:=0) zr (fw ad).2 0) zr (aP (fw ad).2).2.1 Fd.self bV (RO.nx (mv (vw v0 (Int.toNat aa) 1) zr zr (RO.nx (mv (vi o.2.2) zr zr (RO.nx (RL.gq (a:=o.2.2) (b:=1) zt zr zr zr zr ?_))))))))
   refine RO.nx ?_
   obtain⟨ar,ae,hb⟩:=bd hb
   refine RL.yA (i:=0) (lo:=aa) zt zr hw zr zr zr dB (vX ab) (fw ae).1 (fw ae).2 (RO.nx (RL.cK (i:=0) (f:=(fun x=>x)) zt zr hw zr (f0 hw (i:=0) zr (fw ae).2 0) zr (aP (fw ae).2).2.1 Fd.self bV (RO.nx (ic aq ar zr zr zr zr (RO.last (aG ?_))))))
   obtain⟨af,hj,hb⟩:=bd hb
   refine RC.jn (fun(af: (List Int)×Int) (σ:Nat→Value) (w:World)=>agree σ [(0,v0),(3,(vi af.2)),(4,(vw v0 (Int.toNat aa) 1)),(5,(vi o.2.2))]∧Holds E w ([own 3 v0 af.1]++Γ)) af ?_ ?_
   ·refine eI hj zr (fun hc hj=>?_) fun hc hj=>?_
    rotate_left
    ·refine RC.skip ?_
     obtain rfl:=oi hj
     exact⟨rfl,(ag zr),hw.pk 1 [0] zr⟩
    refine RC.sr (mv v0 zr zr (mv (vi o.2.1) zr zr (mv (vw v0 (Int.toNat aa) 1) zr zr (mv (vi o.2.2) zr zr ?_))))
    obtain⟨au,ah,hj⟩:=bd hj
    refine RL.yA (i:=0) (lo:=aa) zt zr hw zr zr zr dB (vX ab) (fw ah).1 (fw ah).2 (RL.cK (i:=0) (f:=(fun x=>x)) zt zr hw zr (f0 hw (i:=0) zr (fw ah).2 0) zr (aP (fw ah).2).2.1 Fd.self bV ?_)
    obtain⟨a0,ak,hj⟩:=bd hj
    refine RL.aZ (i:=0) zt zr hw zr zr zr dB ak ?_
    have hw:=hw.sc (γ:=Int) au
    refine RL.eP (i:=1) (j:=0) (f:=(fun _ y=>y)) trivial hw rfl rfl (f0 hw (i:=1) rfl ak 0) rfl (aP ak).2.1 rfl Fs.self (by decide) bV fun w hw=>(RL.nt (RC.region (mv (vi o.2.1) rfl rfl (RL.gq (a:=o.2.1) (b:=1) trivial rfl rfl rfl rfl (aN (vi (IntKind.wrap .i64 (o.2.1+1))) rfl rfl (RL.nil ?_))))))
    obtain rfl:=oi hj
    exact⟨rfl,(ag zr),hw.pk 2 [1] zr⟩
   rintro σ w ⟨ha,hw⟩
   obtain⟨τ,rfl⟩:=ha.aO
   refine bI (aG (RC.region (mv (vi o.2.2) zr zr (RL.gq (a:=o.2.2) (b:=1) zt zr zr zr zr (aN (vi (IntKind.wrap .i64 (o.2.2+1))) zr zr (RL.nil ?_))))))
   obtain rfl:=oi hb
   exact⟨rfl,(ag zr),hw.pk 1 [0] zr⟩
  ·intro r _ _ _ _
   exact r.elim
  intro o σ w e hJ
  subst e
  rw [Fo.eC] at hb
  obtain⟨ha,hw⟩:=hJ
  obtain⟨τ,rfl⟩:=ha.aO
  refine aG (RC.sr (mv v0 zr zr (mv (vi o.2.1) zr zr ?_)))
  obtain⟨a1,al,hb⟩:=bd hb
  refine RL.view (i:=0) (lo:=o.2.1) zt zr hw zr zr dB (.inl zr) al (RL.uQ (i:=0) zt hw zr zr p6 B7 (yB al) fun w hw=>(RL.ns (mv v0 zr zr (mv (vi o.2.1) zr zr ?_))))
  obtain⟨a2,av,hb⟩:=bd hb
  refine RL.tE (i:=0) zt zr hw zr zr dB (.inr ⟨rfl,zr⟩) (.inl zr) av fun aw hw=>(aN aw zr zr (RL.nt (RC.rb (bK ?_))))
  obtain rfl:=oi hb
  exact⟨rfl,bQ zr zr (hw.pk 1 [0] zr)⟩
 ·intro r σ w e hK
  subst e
  refine bK ?_
  obtain rfl:=oi hb
  exact hK
 intro aa σ w e hJ
 subst e
 rw [Fo.eC] at hb
 obtain⟨ha,hw⟩:=hJ
 obtain⟨τ,rfl⟩:=ha.aO
 refine aG (RC.sr (mv v0 zr zr (aN v0 zr zr (RL.nt (RC.ret ?_)))))
 obtain rfl:=oi hb
 exact bQ zr zr (hw.pk 1 [0] zr)
def qf (E:World) (Γ:List HP) (res:Bool) (v:Value) (w:World):Prop:=v= (vb res)∧Holds E w Γ
theorem o0 (N:Nat) {E w:World} {Γ:List HP} {i0:Nat} {v0:Value} {p0:aD} {i1:Nat} {v1:Value} {p1: (List Int)} {i2:Nat} {v2:Value} {p2:Int} {res:Bool} (hw:Holds E w Γ) (h0:Γ[i0]? =some (rd v0 p0)) (h1:Γ[i1]? =some (pt v1 p1)) (h2:Γ[i2]? =some (pt v2 p2)) (hb:iS N p0 p1 p2=some res):
    Calls Tryz.prog 53 [v0,v1,v2].toArray w (fu (qf E Γ res)):=by
 unfold iS at hb
 refine enter Tryz.func53 zr zr (Nat.le_of_ble_eq_true zr) ?_
 have hw:=hw.dup (i:=i0+0) h0
 have hw:=hw.tD (i:=i1+1) h1
 have hw:=hw.tD (i:=i2+2) h2
 refine RC.sr (RL.dP (i:=2) (v:=v0) trivial rfl hw rfl rfl fun aa w hw=>(aN (vb false) rfl rfl (RL.nq (RC.uA mixed rfl (by kernel_rfl) ?_))))
 have hw:=hw.drew
 refine RO.go (RL.bD zt zr zr jK (RO.nx (RL.aL (i:=0) (f:=(fun x=>x.Y1)) zt zr hw zr zr fy bV (RO.nx (RL.bT (i:=2) (x:=p1) zt zr hw zr zr cT fun ab hw=>(RO.nx (RL.aY (i:=2) (y:=p2) zt zr hw zr zr bV (RO.nx ?_))))))))
 obtain⟨j,o,hb⟩:=bd hb
 refine RL.bO (i:=0) zt zr hw zr zr zr dB o fun ad hw=>(RO.nx (RL.aY (i:=0) (y:=j) zt zr hw zr zr bV (RO.nx (ic (p0.Y1) j zr zr zr zr (RO.nx (aN (vb (decide (p0.Y1≤j))) zr zr (RO.last (aG ?_))))))))
 refine RC.ret ?_
 obtain rfl:=oi hb
 exact bQ zr zr ⟨rfl,hw.drop 6 zr⟩
def iK (E:World) (Γ:List HP) (res:Int) (v:Value) (w:World):Prop:=v= (vi res)∧Holds E w Γ
def lq (E:World) (Γ:List HP) (r:Int) (σ:Nat→Value) (w:World):Prop:=jU Tryz.prog 19 Tryz.f66 (iK E Γ r) .ret σ w
theorem kT (N:Nat) {E w:World} {Γ:List HP} {i0:Nat} {v0:Value} {p0: (List aD)} {v1:Value} {p1:aD→Option Bool} {res:Int} (hw:Holds E w Γ) (h0:Γ[i0]? =some (rd v0 p0)) (h1:zU Tryz.prog E Γ v1 p1 (fun(r:Bool)=>Value.bool r)) (hb:gD N p0 p1=some res):
    Calls Tryz.prog 66 [v0,v1].toArray w (fu (iK E Γ res)):=by
 unfold gD at hb
 refine enter Tryz.func66 zr zr (Nat.le_of_ble_eq_true zr) ?_
 have hw:=hw.dup (i:=i0+0) h0
 refine RC.sr (aN (vi 0) zr zr (RL.nq (RC.sr (mv v0 zr zr (RL.bA (i:=0) (l:=p0) zt zr hw zr zr mc (mv (vi 0) zr zr (RL.nt ?_)))))))
 obtain⟨ae,hN,hb⟩:=bd hb
 refine RC.range (fun(j:Nat) (o:Unit) (σ:Nat→Value) (w:World)=>agree σ [(0,v0),(1,v1),(7,(vi (p0.length:Int))),(8,(vi (j:Int)))]∧Holds E w ([rd v0 p0]++Γ)) (fun(o:Unit) (σ:Nat→Value) (w:World)=>agree σ []∧Holds E w ([rd v0 p0]++Γ)) (lq E Γ) hN ?_ ?_ ?_ ?_ ?_
 ·exact⟨(ag zr),hw.pk 1 [0] zr⟩
 ·intro hm o σ w hI
  obtain⟨ha,hw⟩:=hI
  obtain⟨τ,rfl⟩:=ha.aO
  refine RC.sr (ic ((p0.length:Int)) ((p0.length:Int)) zr zr zr zr (RL.nq (RC.cG k6 (RC.ex ?_))))
  exact⟨rfl,zt,hw.pk 1 [0] zr⟩
 ·intro hm j o fl σ w hk hI hb
  obtain⟨ha,hw⟩:=hI
  obtain⟨τ,rfl⟩:=ha.aO
  refine RC.sr (ic ((j:Int)) ((p0.length:Int)) zr zr zr zr (RL.nq (RC.cF (kZ hk) (RC.ss (RC.bs (mv (vi (j:Int)) zr zr (aN (vi (j:Int)) zr zr (RL.ns ?_))))))))
  refine mv v1 zr zr (mv v0 zr zr (mv (vi (j:Int)) zr zr ?_))
  obtain⟨aa,ab,hb⟩:=bd hb
  refine RL.bO (i:=0) zt zr hw zr zr zr iN ab fun af hw=>(RL.bT (i:=0) (x:=aa) zt zr hw zr zr eW fun ah hw=>?_)
  obtain⟨ai,ad,hb⟩:=bd hb
  refine RL.tC (i:=0) zt zr hw zr h1 3 zr zr zr ad fun w hw=>(RL.nt (eI hb zr (fun hc hb=>?_) fun hc hb=>?_))
  rotate_left
  ·refine RC.skip (bI (aG (RC.region (RL.inc zt zr hk hm zr zr (mv (vi ((j+1:Nat):Int)) zr zr (RL.nil ?_))))))
   obtain rfl:=oi hb
   exact⟨rfl,(ag zr),hw.pk 3 [2] zr⟩
  refine RC.sr (mv (vi (j:Int)) zr zr (aN (vi (j:Int)) zr zr (RL.nt (RC.rb (bK ?_)))))
  obtain rfl:=oi hb
  exact⟨rfl,bQ zr zr ⟨rfl,hw.drop 3 zr⟩⟩
 ·intro r σ w e hK
  subst e
  refine bK ?_
  obtain rfl:=oi hb
  exact hK
 intro o σ w e hJ
 subst e
 rw [Fo.eC] at hb
 obtain⟨ha,hw⟩:=hJ
 obtain⟨τ,rfl⟩:=ha.aO
 refine aG (RC.sr (aN (vi (-1)) zr zr (RL.nt (RC.ret ?_))))
 obtain rfl:=oi hb
 exact bQ zr zr ⟨rfl,hw.drop 1 zr⟩
def gV (E:World) (Γ:List HP) (v0:Value) (p0: (List aD)) (res:Int) (v:Value) (w:World):Prop:=v= (vi res)∧Holds E w ([own 59 v0 p0]++Γ)
def ke (E:World) (Γ:List HP) (v0:Value) (p0: (List aD)) (r:Int) (σ:Nat→Value) (w:World):Prop:=jU Tryz.prog 19 Tryz.f66 (gV E Γ v0 p0 r) .ret σ w
theorem jW (N:Nat) {E w:World} {Γ:List HP} {v0:Value} {p0: (List aD)} {v1:Value} {p1:aD→Option Bool} {res:Int} (hw:Holds E w (own 59 v0 p0::Γ)) (h1:zU Tryz.prog E Γ v1 p1 (fun(r:Bool)=>Value.bool r)) (hb:fG N p0 p1=some res):
    Calls Tryz.prog 66 [v0,v1].toArray w (fu (gV E Γ v0 p0 res)):=by
 unfold fG at hb
 refine enter Tryz.func66 zr zr (Nat.le_of_ble_eq_true zr) (RC.sr (aN (vi 0) zr zr (RL.nq (RC.sr (mv v0 zr zr (RL.cW (i:=0) (l:=p0) zt zr hw zr zr mc (mv (vi 0) zr zr (RL.nt ?_))))))))
 obtain⟨ad,hN,hb⟩:=bd hb
 refine RC.range (fun(j:Nat) (o:Unit) (σ:Nat→Value) (w:World)=>agree σ [(0,v0),(1,v1),(7,(vi (p0.length:Int))),(8,(vi (j:Int)))]∧Holds E w ([own 59 v0 p0]++Γ)) (fun(o:Unit) (σ:Nat→Value) (w:World)=>agree σ [(0,v0)]∧Holds E w ([own 59 v0 p0]++Γ)) (ke E Γ v0 p0) hN ?_ ?_ ?_ ?_ ?_
 ·exact⟨(ag zr),hw.pk 1 [0] zr⟩
 ·intro hm o σ w hI
  obtain⟨ha,hw⟩:=hI
  obtain⟨τ,rfl⟩:=ha.aO
  refine RC.sr (ic ((p0.length:Int)) ((p0.length:Int)) zr zr zr zr (RL.nq (RC.cG k6 (RC.ex ?_))))
  exact⟨rfl,⟨rfl,zt⟩,hw.pk 1 [0] zr⟩
 ·intro hm j o fl σ w hk hI hb
  obtain⟨ha,hw⟩:=hI
  obtain⟨τ,rfl⟩:=ha.aO
  refine RC.sr (ic ((j:Int)) ((p0.length:Int)) zr zr zr zr (RL.nq (RC.cF (kZ hk) (RC.ss (RC.bs (mv (vi (j:Int)) zr zr (aN (vi (j:Int)) zr zr (RL.ns ?_))))))))
  refine mv v1 zr zr (mv v0 zr zr (mv (vi (j:Int)) zr zr ?_))
  obtain⟨ae,aa,hb⟩:=bd hb
  refine RL.aZ (i:=0) zt zr hw zr zr zr iN aa (RL.eV (i:=0) (f:=(fun x=>x)) zt zr hw zr (f0 hw (i:=0) zr aa 0) zr (aP aa).2.1 Fd.self eW fun af hw=>?_)
  obtain⟨ah,ab,hb⟩:=bd hb
  refine RL.tC (i:=0) zt zr hw zr h1 2 zr zr zr ab fun w hw=>(RL.nt (eI hb zr (fun hc hb=>?_) fun hc hb=>?_))
  rotate_left
  ·refine RC.skip (bI (aG (RC.region (RL.inc zt zr hk hm zr zr (mv (vi ((j+1:Nat):Int)) zr zr (RL.nil ?_))))))
   obtain rfl:=oi hb
   exact⟨rfl,(ag zr),hw.pk 2 [1] zr⟩
  refine RC.sr (mv (vi (j:Int)) zr zr (aN (vi (j:Int)) zr zr (RL.nt (RC.rb (bK ?_)))))
  obtain rfl:=oi hb
  exact⟨rfl,bQ zr zr ⟨rfl,hw.pk 2 [1] zr⟩⟩
 ·intro r σ w e hK
  subst e
  refine bK ?_
  obtain rfl:=oi hb
  exact hK
 intro o σ w e hJ
 subst e
 rw [Fo.eC] at hb
 obtain⟨ha,hw⟩:=hJ
 obtain⟨τ,rfl⟩:=ha.aO
 refine aG (RC.sr (aN (vi (-1)) zr zr (RL.nt (RC.ret ?_))))
 obtain rfl:=oi hb
 exact bQ zr zr ⟨rfl,hw.pk 1 [0] zr⟩
def kU (E:World) (Γ:List HP) (res: (List aD)) (v:Value) (w:World):Prop:=Holds E w ([own 59 v res]++Γ)
theorem kB (N:Nat) {E w:World} {Γ:List HP} {v0:Value} {p0: (List aD)} {v1:Value} {p1:aD→Option Bool} {res: (List aD)} (hw:Holds E w (own 59 v0 p0::Γ)) (h1:zU Tryz.prog E Γ v1 p1 (fun(r:Bool)=>Value.bool r)) (hb:dS N p0 p1=some res):
    Calls Tryz.prog 52 [v0,v1].toArray w (fu (kU E Γ res)):=by
 unfold dS at hb
 refine enter Tryz.func52 zr zr (Nat.le_of_ble_eq_true zr) (RC.sr (aN (.slice none 0 0) zr zr (RL.ns (mv v0 zr zr (mv v1 zr zr ?_)))))
 have hw:=hw.pull (i:=0) rfl
 obtain⟨aa,ah,hb⟩:=bd hb
 refine RL.call zt zr B8 [v0,v1] zr (aF (jW N hw (h1.lift 1 zr) ah) ?_)
 rintro _ w ⟨rfl,hw⟩
 refine aN (vi aa) zr zr (RL.nq (RC.sr (mv (vi aa) zr zr (ic aa ((-1)) zr zr zr zr (RL.nt (eI hb zr (fun hc hb=>?_) fun hc hb=>?_))))))
 ·refine RC.sr (mv v0 zr zr (aN v0 zr zr (RL.nt (RC.rt ?_))))
  obtain rfl:=oi hb
  exact bQ zr zr (hw.pk 2 [0] zr)
 refine RC.ss (RC.sr (mv (vi aa) zr zr (RL.gq (a:=aa) (b:=1) zt zr zr zr zr (aN (vi (IntKind.wrap .i64 (aa+1))) zr zr (RL.nt ?_)))))
 obtain⟨an,hN,hb⟩:=bd hb
 refine RC.iter (fun(o: (List aD)×Int×Int) (σ:Nat→Value) (w:World)=>agree σ [(0,v0),(1,v1),(5,(vi o.2.1)),(6,(vi o.2.2))]∧Holds E w ([own 59 v0 o.1]++Γ)) (fun(o: (List aD)×Int×Int) (σ:Nat→Value) (w:World)=>agree σ [(0,v0),(5,(vi o.2.1))]∧Holds E w ([own 59 v0 o.1]++Γ)) (fun(r:Empty) (_:Nat→Value) (_:World)=>r.elim) hN ?_ ?_ ?_ ?_
 ·exact⟨(ag zr),hw.pk 2 [0] zr⟩
 ·intro o fl σ w hI hb
  obtain⟨ha,hw⟩:=hI
  obtain⟨τ,rfl⟩:=ha.aO
  refine RC.seq (RC.sr (mv (vi o.2.2) zr zr (mv v0 zr zr (RL.cW (i:=0) (l:=o.1) zt zr hw zr zr mc (ic (o.2.2) ((o.1.length:Int)) zr zr zr zr (RL.nt (eI hb zr (fun hc hb=>?_) fun hc hb=>?_)))))))
  rotate_left
  ·refine RC.ex ?_
   obtain rfl:=oi hb
   exact⟨rfl,(ag zr),hw.pk 1 [0] zr⟩
  refine RC.ss (RC.bs (mv v0 zr zr (mv (vi o.2.2) zr zr ?_)))
  obtain⟨ao,ad,hb⟩:=bd hb
  refine RL.aZ (i:=0) zt zr hw zr zr zr iN ad (RL.eV (i:=0) (f:=(fun x=>x)) zt zr hw zr (f0 hw (i:=0) zr ad 0) zr (aP ad).2.1 Fd.self eW fun aq hw=>(RL.alloc zt zr hw kA.z fun ar w hw=>(RL.bC (i:=0) (j:=1) zt hw zr zr zr zr eW zr fun w hw=>(RL.ns (mv v1 zr zr (RL.aU (i:=0) (f:=(fun x=>x)) zt zr hw zr zr Fd.self eW fun au hw=>?_))))))
  obtain⟨ai,aj,hb⟩:=bd hb
  refine RL.tC (i:=0) zt zr hw zr h1 4 zr zr zr aj fun w hw=>(RL.not (b:=ai) zt zr zr (RL.nt ?_))
  obtain⟨ab,hj,hb⟩:=bd hb
  refine RC.jn (fun(ab: (List aD)×Int) (σ:Nat→Value) (w:World)=>agree σ [(0,v0),(1,v1),(5,(vi ab.2)),(6,(vi o.2.2))]∧Holds E w ([own 59 v0 ab.1]++Γ)) ab ?_ ?_
  ·refine eI hj zr (fun hc hj=>?_) fun hc hj=>?_
   rotate_left
   ·refine RC.skip ?_
    obtain rfl:=oi hj
    exact⟨rfl,(ag zr),hw.pk 4 [3] zr⟩
   refine RC.sr (mv v0 zr zr (mv (vi o.2.1) zr zr (RL.aU (i:=1) (f:=(fun x=>x)) zt zr hw zr zr Fd.self eW fun av hw=>?_)))
   obtain⟨aw,ae,hj⟩:=bd hj
   refine RL.aZ (i:=4) trivial rfl hw rfl rfl rfl iN ae (RL.eP (i:=4) (j:=0) (f:=(fun _ y=>y)) trivial hw rfl rfl (f0 hw (i:=4) rfl ae 0) rfl (aP ae).2.1 rfl Fs.self (by decide) eW fun w hw=>(RL.nt (RC.region (mv (vi o.2.1) rfl rfl (RL.gq (a:=o.2.1) (b:=1) trivial rfl rfl rfl rfl (aN (vi (IntKind.wrap .i64 (o.2.1+1))) rfl rfl (RL.nil ?_)))))))
   obtain rfl:=oi hj
   exact⟨rfl,(ag zr),hw.pk 5 [4] zr⟩
  rintro σ w ⟨ha,hw⟩
  obtain⟨τ,rfl⟩:=ha.aO
  refine bI (aG (RC.region (mv (vi o.2.2) zr zr (RL.gq (a:=o.2.2) (b:=1) zt zr zr zr zr (aN (vi (IntKind.wrap .i64 (o.2.2+1))) zr zr (RL.nil ?_))))))
  obtain rfl:=oi hb
  exact⟨rfl,(ag zr),hw.pk 1 [0] zr⟩
 ·intro r _ _ _ _
  exact r.elim
 intro o σ w e hJ
 subst e
 rw [Fo.eC] at hb
 obtain⟨ha,hw⟩:=hJ
 obtain⟨τ,rfl⟩:=ha.aO
 refine aG (RC.sr (mv v0 zr zr (mv (vi o.2.1) zr zr ?_)))
 obtain⟨ax,af,hb⟩:=bd hb
 refine RL.view (i:=0) (lo:=o.2.1) zt zr hw zr zr iN (.inl zr) af (RL.uQ (i:=0) zt hw zr zr xI Dc (yB af) fun w hw=>(RL.ns (mv v0 zr zr (mv (vi o.2.1) zr zr ?_))))
 obtain⟨ay,ak,hb⟩:=bd hb
 refine RL.tE (i:=0) zt zr hw zr zr iN (.inr ⟨rfl,zr⟩) (.inl zr) ak fun al hw=>(aN al zr zr (RL.nt (RC.ret ?_)))
 obtain rfl:=oi hb
 exact bQ zr zr (hw.pk 1 [0] zr)
def mI (E:World) (Γ:List HP) (res:Int) (v:Value) (w:World):Prop:=v= (vi res)∧Holds E w Γ
theorem mf (N:Nat) {E w:World} {Γ:List HP} {i0:Nat} {v0:Value} {p0:aD} {i1:Nat} {v1:Value} {p1:aD} {res:Int} (hw:Holds E w Γ) (h0:Γ[i0]? =some (rd v0 p0)) (h1:Γ[i1]? =some (rd v1 p1)) (hb:dG N p0 p1=some res):
    Calls Tryz.prog 74 [v0,v1].toArray w (fu (mI E Γ res)):=by
 unfold dG at hb
 refine enter Tryz.func74 zr zr (Nat.le_of_ble_eq_true zr) ?_
 have hw:=hw.dup (i:=i0+0) h0
 have hw:=hw.dup (i:=i1+1) h1
 refine RC.sr (RL.dP (i:=1) (v:=v0) zt zr hw zr zr fun j w hw=>(RL.dP (i:=1) (v:=v1) zt zr hw zr zr fun o w hw=>(aN (vi 0) zr zr (RL.ns (RL.bD zt zr zr fX (RL.aL (i:=1) (f:=(fun x=>x.X0)) zt zr hw zr zr cS bV (RL.bD zt zr zr fX (RL.aL (i:=0) (f:=(fun x=>x.X0)) zt zr hw zr zr cS bV ?_))))))))
 refine RL.gq (a:=p0.X0) (b:=p1.X0) zt zr zr zr zr (aN (vi (IntKind.wrap .i64 (p0.X0 - p1.X0))) zr zr (RL.nt (RC.ret ?_)))
 obtain rfl:=oi hb
 exact bQ zr zr ⟨rfl,hw.drop 4 zr⟩
def o1 (E:World) (Γ:List HP) (v0:Value) (res: (List Int)×(List aD)) (v:Value) (w:World):Prop:=Holds E w ([own 3 v res.1,own 59 v0 res.2]++Γ)
theorem oj (N:Nat) {E w:World} {Γ:List HP} {v0:Value} {p0: (List aD)} {res: (List Int)×(List aD)} (hw:Holds E w (own 59 v0 p0::Γ)) (hb:eN N p0=some res):
    Calls Tryz.prog 55 [v0].toArray w (fu (o1 E Γ v0 res)):=by
 unfold eN at hb
 refine enter Tryz.func55 zr zr (Nat.le_of_ble_eq_true zr) (RC.sr (aN (.slice none 0 0) zr zr (RL.ns (mv v0 zr zr ?_))))
 obtain⟨ad,ay,hb⟩:=bd hb
 have hw:=hw.pull (i:=0) rfl
 refine RL.call zt zr B5 [v0,(.func (.func 74) #[] #[])] zr (aF (wW (α:=aD) Tryz.lay48 zr eW.AP eW.sz Df (fun hw hi hj hr=>mf N hw hi hj hr) hw ay) ?_)
 rintro _ w ⟨rfl,hw⟩
 refine RL.ns (aN (.slice none 0 0) zr zr (RL.nq (RC.sr (mv v0 zr zr (RL.cW (i:=0) (l:=ad) zt zr hw zr zr mc (mv (vi 0) zr zr (RL.nt ?_)))))))
 have hw:=hw.bW Int 3
 obtain⟨o,hN,hb⟩:=bd hb
 refine RC.fold (fun(af:Nat) (o: (List Int)) (σ:Nat→Value) (w:World)=>∃au:Value,agree σ [(0,v0),(3,au),(9,v0),(10,(vi (ad.length:Int))),(11,(vi (af:Int)))]∧Holds E w ([own 59 v0 ad,own 3 au o]++Γ)) (fun(o: (List Int)) (σ:Nat→Value) (w:World)=>∃ah:Value,agree σ [(0,v0),(3,ah)]∧Holds E w ([own 59 v0 ad,own 3 ah o]++Γ)) hN ?_ ?_ ?_ ?_
 ·exact⟨(.slice none 0 0),(ag zr),hw.pk 3 [1,0] zr⟩
 ·intro hm o σ w hI
  obtain⟨az,ha,hw⟩:=hI
  obtain⟨τ,rfl⟩:=ha.aO
  refine RC.sr (ic ((ad.length:Int)) ((ad.length:Int)) zr zr zr zr (RL.nq (RC.cG k6 (RC.ex ?_))))
  exact⟨rfl,az,(ag zr),hw.pk 2 [0,1] zr⟩
 ·intro hm af o s' σ w hk hI hb
  obtain⟨ae,ha,hw⟩:=hI
  obtain⟨τ,rfl⟩:=ha.aO
  refine RC.sr (ic ((af:Int)) ((ad.length:Int)) zr zr zr zr (RL.nq (RC.cF (kZ hk) (RC.ss (RC.bs ?_)))))
  obtain⟨ab,aj,hb⟩:=bd hb
  refine RL.aZ (i:=0) zt zr hw zr zr zr iN aj (RL.eV (i:=0) (f:=(fun x=>x)) zt zr hw zr (f0 hw (i:=0) zr aj 0) zr (aP aj).2.1 Fd.self eW fun a1 hw=>(RL.alloc zt zr hw kA.z fun av w hw=>(RL.bC (i:=0) (j:=1) zt hw zr zr zr zr eW zr fun w hw=>(RL.ns (mv ae zr zr (RL.cW (i:=3) (l:=o) zt zr hw zr zr iO (RL.gq (a:=(o.length:Int)) (b:=1) zt zr zr zr zr (aN (vi (IntKind.wrap .i64 ((o.length:Int) - 1))) zr zr ?_))))))))
  refine RL.nq ?_
  obtain⟨ak,hj,hb⟩:=bd hb
  refine RC.jn (fun(ak:Bool) (σ:Nat→Value) (w:World)=>agree σ [(0,v0),(3,ae),(5,(vp av 0)),(6,(vi (IntKind.wrap .i64 ((o.length:Int) - 1)))),(9,v0),(10,(vi (ad.length:Int))),(11,(vi (af:Int))),(28,(vb ak))]∧Holds E w ([own 59 v0 ad,own 3 ae o,bx 59 av ab]++Γ)) ak ?_ ?_
  ·refine RC.uA mixed rfl (by kernel_rfl) ?_
   have hw:=hw.drew
   refine RO.go (mv (vi (IntKind.wrap .i64 ((o.length:Int) - 1))) zr zr (RO.nx (ic ((IntKind.wrap .i64 ((o.length:Int) - 1))) 0 zr zr zr zr (RO.nx (mv (vb (decide ((IntKind.wrap .i64 ((o.length:Int) - 1))≥0))) zr zr (fW hj (fun aa hj=>?_) fun aa hj=>?_))))))
   rotate_left
   ·refine RO.nx (sk zr (.inl (cb aa)) zr (RO.nx (sk zr (.inl (cb aa)) zr (RO.nx (sk zr (.inl (cb aa)) zr (RO.nx (sk zr (.inl (cb aa)) zr (RO.nx ?_))))))))
    refine sk rfl (.inl (cb aa)) rfl (RO.nx (sk rfl (.inl (cb aa)) rfl (RO.nx (sk rfl (.inl (cb aa)) rfl (RO.nx (RL.pick (b:=(decide ((IntKind.wrap .i64 ((o.length:Int) - 1))≥0))) (v:=(vb false)) trivial rfl rfl (by rw [aa];rfl) (RO.last ?_)))))))
    obtain rfl:=oi hj
    exact⟨rfl,(ag zr),hw.pk 4 [2,3,0] zr⟩
   refine RO.nx (RL.bD (cg aa) zr zr fX (RO.nx (RL.aL (i:=0) (f:=(fun x=>x.X0)) (cg aa) zr hw zr zr cS bV (RO.nx (RL.move (v:=ae) (cg aa) zr zr (RO.nx (RL.move (v:=(vi (IntKind.wrap .i64 ((o.length:Int) - 1)))) (cg aa) zr zr (RO.nx ?_))))))))
   obtain⟨aw,al,hj⟩:=bd hj
   refine RL.aZ (i:=3) (cg aa) rfl hw rfl rfl rfl dB al (RO.nx (RL.cK (i:=3) (f:=(fun x=>x)) (cg aa) rfl hw rfl (f0 hw (i:=3) rfl al 0) rfl (aP al).2.1 Fd.self bV (RO.nx (RL.iQ (a:=ab.X0) (b:=aw) (cg aa) rfl rfl rfl rfl (RO.nx (RL.pick (b:=(decide ((IntKind.wrap .i64 ((o.length:Int) - 1))≥0))) (v:=(vb (decide (ab.X0≤aw)))) trivial rfl rfl (by rw [aa];rfl) (RO.last ?_)))))))
   obtain rfl:=oi hj
   exact⟨rfl,(ag zr),hw.pk 4 [2,3,0] zr⟩
  rintro σ w ⟨ha,hw⟩
  obtain⟨τ,rfl⟩:=ha.aO
  refine aG ?_
  obtain⟨an,hj,hb⟩:=bd hb
  refine RC.jn (fun(an: (List Int)) (σ:Nat→Value) (w:World)=>∃ai:Value,agree σ [(0,v0),(3,ai),(9,v0),(10,(vi (ad.length:Int))),(11,(vi (af:Int)))]∧Holds E w ([own 59 v0 ad,own 3 ai an]++Γ)) an ?_ ?_
  ·refine eI hj zr (fun hc hj=>?_) fun hc hj=>?_
   rotate_left
   ·refine RC.region (mv ae zr zr (RL.bD zt zr zr fX (RL.aL (i:=2) (f:=(fun x=>x.X0)) zt zr hw zr zr cS bV (RL.bD zt zr zr gG (RL.aL (i:=2) (f:=(fun x=>x.X1)) zt zr hw zr zr dM bV ?_)))))
    have hw:=hw.sc (γ:=Int) ab.X0
    have hw:=hw.sc (γ:=Int) ab.X1
    refine RL.dQ (l:=([ab.X0,ab.X1]: (List Int))) zt zr hw [(vi ab.X0),(vi ab.X1)] zr zr zr dB zY (fun M hs g=>⟨(g.sat 1 _ zr).1,⟨(g.sat 0 _ zr).1,zt⟩⟩) fun a2 w hw=>?_
    have hw:=hw.freeze (i:=0) rfl
    obtain⟨a3,a0,hj⟩:=bd hj
    refine RL.app (i:=4) (j:=0) zt zr hw zr zr zr zr p6 a0 fun ax w hw=>(aN ax zr zr (RL.nil ?_))
    obtain rfl:=oi hj
    exact⟨rfl,ax,(ag zr),hw.pk 6 [3,4] zr⟩
   refine RC.An mixed rfl [0,0,0,0,0,0,0,0,0,0,2] [0,1,2,3,4,5,6,7,8,9,10] (by kernel_rfl) ?_
   have hw:=hw.drew
   refine DP.e0 zr zr (mv ae zr zr (cY zr zr (mv (vi (IntKind.wrap .i64 ((o.length:Int) - 1))) zr zr (cY zr zr (mv ae zr zr (cY zr zr (mv (vi (IntKind.wrap .i64 ((o.length:Int) - 1))) zr zr (cY zr zr ?_))))))))
   obtain⟨ao,aq,hj⟩:=bd hj
   refine RL.aZ (i:=1) zt zr hw zr zr zr dB aq (cY zr zr (RL.cK (i:=1) (f:=(fun x=>x)) zt zr hw zr (f0 hw (i:=1) zr aq 0) zr (aP aq).2.1 Fd.self bV (cY zr zr (RL.bD zt zr zr gG (cY zr zr (RL.aL (i:=2) (f:=(fun x=>x.X1)) zt zr hw zr zr dM bV (cY zr zr (RL.max (a:=ao) (b:=ab.X1) zt zr zr zr ?_))))))))
   refine cY zr zr ?_
   obtain⟨a4,ar,hj⟩:=bd hj
   refine RL.aZ (i:=1) zt zr hw zr zr zr dB ar (yO zr zr ?_)
   have hw:=hw.sc (γ:=Int) (if ao<ab.X1 then ab.X1 else ao)
   refine RL.eP (i:=2) (j:=0) (f:=(fun _ y=>y)) trivial hw rfl rfl (f0 hw (i:=2) rfl ar 0) rfl (aP ar).2.1 rfl Fs.self (by decide) bV fun w hw=>(DP.d2 trivial (DP.z ?_))
   obtain rfl:=oi hj
   exact⟨rfl,ae,(ag zr),hw.pk 4 [1,2] zr⟩
  rintro σ w ⟨ai,ha,hw⟩
  obtain⟨τ,rfl⟩:=ha.aO
  refine bI (aG (RC.region (RL.inc zt zr hk hm zr zr (mv (vi ((af+1:Nat):Int)) zr zr (RL.nil ?_)))))
  obtain rfl:=oi hb
  exact⟨rfl,ai,(ag zr),hw.pk 2 [0,1] zr⟩
 intro σ w hJ
 obtain⟨ah,ha,hw⟩:=hJ
 obtain⟨τ,rfl⟩:=ha.aO
 refine aG (RC.sr (mv ah zr zr (aN ah zr zr (RL.nt (RC.ret ?_)))))
 obtain rfl:=oi hb
 exact bQ zr zr (hw.pk 2 [1,0] zr)
def kf (E:World) (Γ:List HP) (res:Bool) (v:Value) (w:World):Prop:=v= (vb res)∧Holds E w Γ
def om (E:World) (Γ:List HP) (r:Bool) (σ:Nat→Value) (w:World):Prop:=jU Tryz.prog 26 Tryz.f73 (kf E Γ r) .ret σ w
theorem nD (N:Nat) {E w:World} {Γ:List HP} {i0:Nat} {v0:Value} {p0: (List Int)} {i1:Nat} {v1:Value} {p1: (List Int)} {res:Bool} (hw:Holds E w Γ) (h0:Γ[i0]? =some (rd v0 p0)) (h1:Γ[i1]? =some (rd v1 p1)) (hb:g9 N p0 p1=some res):
    Calls Tryz.prog 73 [v0,v1].toArray w (fu (kf E Γ res)):=by
 unfold g9 at hb
 refine enter Tryz.func73 zr zr (Nat.le_of_ble_eq_true zr) ?_
 have hw:=hw.dup (i:=i0+0) h0
 have hw:=hw.dup (i:=i1+1) h1
 refine RC.sr (aN (vb false) zr zr (RL.nq (RC.sr (mv v0 zr zr (RL.bA (i:=1) (l:=p0) zt zr hw zr zr iO (mv v1 zr zr (RL.bA (i:=0) (l:=p1) zt zr hw zr zr iO (ic ((p0.length:Int)) ((p1.length:Int)) zr zr zr zr ?_))))))))
 refine RL.nt (eI hb zr (fun hc hb=>?_) fun hc hb=>?_)
 ·refine RC.sr (aN (vb false) zr zr (RL.nt (RC.rt ?_)))
  obtain rfl:=oi hb
  exact bQ zr zr ⟨rfl,hw.drop 2 zr⟩
 refine RC.ss (RC.sr (mv v0 zr zr (RL.bA (i:=1) (l:=p0) zt zr hw zr zr iO (mv (vi 0) zr zr (RL.nt ?_)))))
 obtain⟨af,hN,hb⟩:=bd hb
 refine RC.range (fun(j:Nat) (o:Unit) (σ:Nat→Value) (w:World)=>agree σ [(0,v0),(1,v1),(12,(vi (p0.length:Int))),(13,(vi (j:Int)))]∧Holds E w ([rd v0 p0,rd v1 p1]++Γ)) (fun(o:Unit) (σ:Nat→Value) (w:World)=>agree σ []∧Holds E w ([rd v0 p0,rd v1 p1]++Γ)) (om E Γ) hN ?_ ?_ ?_ ?_ ?_
 ·exact⟨(ag zr),hw.pk 2 [1,0] zr⟩
 ·intro hm o σ w hI
  obtain⟨ha,hw⟩:=hI
  obtain⟨τ,rfl⟩:=ha.aO
  refine RC.sr (ic ((p0.length:Int)) ((p0.length:Int)) zr zr zr zr (RL.nq (RC.cG k6 (RC.ex ?_))))
  exact⟨rfl,zt,hw.pk 2 [0,1] zr⟩
 ·intro hm j o fl σ w hk hI hb
  obtain⟨ha,hw⟩:=hI
  obtain⟨τ,rfl⟩:=ha.aO
  refine RC.sr (ic ((j:Int)) ((p0.length:Int)) zr zr zr zr (RL.nq (RC.cF (kZ hk) (RC.ss (RC.bs (mv (vi (j:Int)) zr zr (aN (vi (j:Int)) zr zr (RL.nq ?_))))))))
  refine RC.uA mixed rfl (by kernel_rfl) ?_
  have hw:=hw.drew
  refine RO.go (mv v0 zr zr (RO.nx (mv (vi (j:Int)) zr zr (RO.nx ?_))))
  obtain⟨aa,ad,hb⟩:=bd hb
  refine RL.bO (i:=0) zt zr hw zr zr zr dB ad fun ah hw=>(RO.nx (RL.aY (i:=0) (y:=aa) zt zr hw zr zr bV (RO.nx (mv v1 zr zr (RO.nx (mv (vi (j:Int)) zr zr (RO.nx ?_)))))))
  obtain⟨ab,ae,hb⟩:=bd hb
  refine RL.bO (i:=2) zt zr hw zr zr zr dB ae fun ai hw=>(RO.nx (RL.aY (i:=0) (y:=ab) zt zr hw zr zr bV (RO.nx (ic aa ab zr zr zr zr (RO.last (aG (eI hb zr (fun hc hb=>?_) fun hc hb=>?_)))))))
  rotate_left
  ·refine RC.skip (bI (aG (RC.region (RL.inc zt zr hk hm zr zr (mv (vi ((j+1:Nat):Int)) zr zr (RL.nil ?_))))))
   obtain rfl:=oi hb
   exact⟨rfl,(ag zr),hw.pk 4 [2,3] zr⟩
  refine RC.sr (aN (vb false) zr zr (RL.nt (RC.rb (bK ?_))))
  obtain rfl:=oi hb
  exact⟨rfl,bQ zr zr ⟨rfl,hw.drop 4 zr⟩⟩
 ·intro r σ w e hK
  subst e
  refine bK ?_
  obtain rfl:=oi hb
  exact hK
 intro o σ w e hJ
 subst e
 rw [Fo.eC] at hb
 obtain⟨ha,hw⟩:=hJ
 obtain⟨τ,rfl⟩:=ha.aO
 refine aG (RC.sr (aN (vb true) zr zr (RL.nt (RC.ret ?_))))
 obtain rfl:=oi hb
 exact bQ zr zr ⟨rfl,hw.drop 2 zr⟩
def qg (E:World) (Γ:List HP) (res: (List aA)) (v:Value) (w:World):Prop:=Holds E w ([own 84 v res]++Γ)
theorem kG (N:Nat) {E w:World} {Γ:List HP} {v0:Value} {p0: (List aA)} {i1:Nat} {v1:Value} {p1:aA} {res: (List aA)} (hw:Holds E w (own 84 v0 p0::Γ)) (h1:Γ[i1]? =some (rd v1 p1)) (hb:eF N p0 p1=some res):
    Calls Tryz.prog 54 [v0,v1].toArray w (fu (qg E Γ res)):=by
 unfold eF at hb
 refine enter Tryz.func54 zr zr (Nat.le_of_ble_eq_true zr) ?_
 have hw:=hw.dup (i:=i1+1) h1
 refine RC.sr (RL.dP (i:=0) (v:=v1) zt zr hw zr zr fun ab w hw=>(aN (.slice none 0 0) zr zr (RL.nq (RC.sr (RL.bD zt zr zr iF (RL.aU (i:=0) (f:=(fun x=>x.Xs)) zt zr hw zr zr bR cT fun au hw=>(RL.bA (i:=0) (l:=p1.Xs) zt zr hw zr zr iO (ic ((p1.Xs.length:Int)) 0 zr zr zr zr ?_))))))))
 refine mv (vb ((p1.Xs.length:Int)==0)) rfl rfl (RL.gs (c:=true) (b:=((p1.Xs.length:Int)==0)) (v:=(vp ab 1)) rfl rfl rfl (dE rfl (fun _=>rfl) jL) (RL.gs (c:=true) (b:=((p1.Xs.length:Int)==0)) (v:=(vi p1.Y1)) rfl rfl rfl (bL (i:=1) (f:=(fun x=>x.Y1)) rfl hw (fun h=>by exact(cD h:cv (true&&(((p1.Xs.length:Int)==0)==false)) (vp ab 1)= (vp ab 1))) rfl cL bV) (RL.gs (c:=true) (b:=((p1.Xs.length:Int)==0)) (v:=(vp ab 0)) rfl rfl rfl (dE rfl (fun _=>rfl) kQ) (RL.gs (c:=true) (b:=((p1.Xs.length:Int)==0)) (v:=(vi p1.Y0)) rfl rfl rfl (bL (i:=1) (f:=(fun x=>x.Y0)) rfl hw (fun h=>by exact(cD h:cv (true&&(((p1.Xs.length:Int)==0)==false)) (vp ab 0)= (vp ab 0))) rfl cQ bV) (RL.gs (c:=true) (b:=((p1.Xs.length:Int)==0)) (v:=(vb (decide (p1.Y1≤p1.Y0)))) rfl rfl rfl (dO (bop:= .leq) (K:= .i64) (a:=p1.Y1) (b:=p1.Y0) rfl (fun h=>by exact(cD h:cv (true&&(((p1.Xs.length:Int)==0)==false)) (vi p1.Y1)= (vi p1.Y1))) (fun h=>by exact(cD h:cv (true&&(((p1.Xs.length:Int)==0)==false)) (vi p1.Y0)= (vi p1.Y0))) rfl) (RL.pick (b:=((p1.Xs.length:Int)==0)) (v:=(vb (((p1.Xs.length:Int)==0)||(decide (p1.Y1≤p1.Y0))))) trivial rfl rfl (mw (c:=true) rfl) (RL.nt (eI hb rfl (fun hc hb=>?_) fun hc hb=>?_))))))))
 ·refine RC.sr (mv v0 zr zr (aN v0 zr zr (RL.nt (RC.rt ?_))))
  obtain rfl:=oi hb
  exact bQ zr zr (hw.pk 4 [3] zr)
 refine RC.ss (RC.sr (mv v0 zr zr (RL.cW (i:=3) (l:=p0) zt zr hw zr zr nA (RL.gq (a:=(p0.length:Int)) (b:=1) zt zr zr zr zr (aN (vi (IntKind.wrap .i64 ((p0.length:Int) - 1))) zr zr (RL.nq ?_))))))
 obtain⟨ai,hj,hb⟩:=bd hb
 refine RC.jn (fun(ai:Bool) (σ:Nat→Value) (w:World)=>agree σ [(0,v0),(3,(vp ab 0)),(5,(vi (IntKind.wrap .i64 ((p0.length:Int) - 1)))),(42,(vb ai))]∧Holds E w ([own 84 v0 p0,bx 84 ab p1]++Γ)) ai ?_ ?_
 ·refine RC.An mixed rfl [0,0,0,0,0,0,0,0,0,0,0,0,0,0,0,0,0,0,0,0,2,0] [0,1,2,3,4,5,6,7,8,9,10,11,12,13,14,15,16,17,18,19,20,21] (by kernel_rfl) ?_
  have hw:=hw.drew
  refine DP.e0 zr zr (mv (vi (IntKind.wrap .i64 ((p0.length:Int) - 1))) zr zr (cY zr zr (ic ((IntKind.wrap .i64 ((p0.length:Int) - 1))) 0 zr zr zr zr (cY zr zr (mv (vb (decide ((IntKind.wrap .i64 ((p0.length:Int) - 1))≥0))) zr zr (DP.d0 (fW hj (fun o hj=>?_) fun o hj=>?_)))))))
  rotate_left
  ·refine DP.e0 zr zr (sk zr (.inl (cb o)) zr (cY zr zr (sk zr (.inl (cb o)) zr (cY zr zr (sk zr (.inl (cb o)) zr (cY zr zr (sk zr (.inl (cb o)) zr (cY zr zr ?_))))))))
   refine sk rfl (.inl (cb o)) rfl (cY rfl rfl (sk rfl (.inl (cb o)) rfl (cY rfl rfl (sk rfl (.inl (cb o)) rfl (cY rfl rfl (sk rfl (.inl (cb o)) rfl (cY rfl rfl (RL.pick (b:=(decide ((IntKind.wrap .i64 ((p0.length:Int) - 1))≥0))) (v:=(vb false)) trivial rfl rfl (by rw [o];rfl) ?_))))))))
   refine cY zr zr (mv (vb false) zr zr (cY zr zr (sk zr (.inl zr) zr (cY zr zr (sk zr (.inl zr) zr (cY zr zr (sk zr (.inl zr) zr (cY zr zr ?_))))))))
   refine sk zr (.inl zr) zr (cY zr zr (sk zr (.inl zr) zr (cY zr zr (sk zr (.inl zr) zr (cY zr zr (sk zr (.inl zr) zr (yO zr zr (sk zr (.inl zr) zr ?_))))))))
   refine CU zt zr zr (RL.pick (b:=false) (v:=(vb false)) zt zr zr zr (DP.d0 (DP.z ?_)))
   obtain rfl:=oi hj
   exact⟨rfl,(ag zr),hw.pk 4 [3,1] zr⟩
  refine DP.e0 zr zr (RL.move (v:=v0) (cg o) zr zr (cY zr zr (RL.move (v:=(vi (IntKind.wrap .i64 ((p0.length:Int) - 1)))) (cg o) zr zr (cY zr zr ?_))))
  obtain⟨ad,ae,hj⟩:=bd hj
  refine RL.aZ (i:=3) (cg o) zr hw zr zr zr jl ae (cY zr zr (RL.gO (α:=aA) (cg o) zr zr (f0 hw (i:=3) zr ae 0) jL (cY zr zr (RL.cK (i:=3) (f:=(fun x=>x.Y1)) (cg o) zr hw zr (f0 hw (i:=3) zr ae 1) zr (aP ae).2.1 cL bV (cY zr zr (RL.bD (cg o) zr zr kQ (cY zr zr (RL.aL (i:=1) (f:=(fun x=>x.Y0)) (cg o) zr hw zr zr cQ bV ?_))))))))
  refine cY rfl rfl (RL.iQ (a:=ad.Y1) (b:=p1.Y0) (cg o) rfl rfl rfl rfl (cY rfl rfl (RL.pick (b:=(decide ((IntKind.wrap .i64 ((p0.length:Int) - 1))≥0))) (v:=(vb (ad.Y1==p1.Y0))) trivial rfl rfl (by rw [o];rfl) (cY rfl rfl (mv (vb (ad.Y1==p1.Y0)) rfl rfl (DP.d0 (fW hj (fun aa hj=>?_) fun aa hj=>?_)))))))
  rotate_left
  ·refine DP.e0 zr zr (sk zr (.inl (cb aa)) zr (cY zr zr (sk zr (.inl (cb aa)) zr (cY zr zr (sk zr (.inl (cb aa)) zr (cY zr zr (sk zr (.inl (cb aa)) zr (cY zr zr ?_))))))))
   refine sk rfl (.inl (cb aa)) rfl (cY rfl rfl (sk rfl (.inl (cb aa)) rfl (cY rfl rfl (sk rfl (.inl (cb aa)) rfl (yO rfl rfl (sk rfl (.inl (cb aa)) rfl (CU trivial rfl rfl (RL.pick (b:=(ad.Y1==p1.Y0)) (v:=(vb false)) trivial rfl rfl (by rw [aa];rfl) ?_))))))))
   refine DP.d0 (DP.z ?_)
   obtain rfl:=oi hj
   exact⟨rfl,(ag zr),hw.pk 4 [3,1] zr⟩
  refine DP.e0 zr zr (RL.move (v:=v0) (cg aa) zr zr (cY zr zr (RL.move (v:=(vi (IntKind.wrap .i64 ((p0.length:Int) - 1)))) (cg aa) zr zr (cY zr zr ?_))))
  obtain⟨av,af,hj⟩:=bd hj
  refine RL.aZ (i:=3) (cg aa) zr hw zr zr zr jl af (cY zr zr (RL.gO (α:=aA) (cg aa) zr zr (f0 hw (i:=3) zr af 0) iF (cY zr zr (RL.eV (i:=3) (f:=(fun x=>x.Xs)) (cg aa) zr hw zr (f0 hw (i:=3) zr af 2) zr (aP af).2.1 bR cT fun aj hw=>(cY zr zr (RL.bD (cg aa) zr zr iF (cY zr zr (RL.aU (i:=2) (f:=(fun x=>x.Xs)) (cg aa) zr hw zr zr bR cT fun ak hw=>?_))))))))
  refine yO zr zr ?_
  obtain⟨al,an,hj⟩:=bd hj
  refine RL.call (cg aa) zr Dh [aj,ak] zr (aF (nD N (i0:=1) (i1:=0) hw zr zr an) ?_)
  rintro _ w ⟨rfl,hw⟩
  refine CU trivial rfl rfl (RL.pick (b:=(ad.Y1==p1.Y0)) (v:=(vb al)) trivial rfl rfl (by rw [aa];rfl) (DP.d0 (DP.z ?_)))
  obtain rfl:=oi hj
  exact⟨rfl,(ag zr),hw.pk 6 [5,3] zr⟩
 rintro σ w ⟨ha,hw⟩
 obtain⟨τ,rfl⟩:=ha.aO
 refine aG (eI hb zr (fun hc hb=>?_) fun hc hb=>?_)
 rotate_left
 ·refine RC.sx (mv v0 zr zr (RL.aU (i:=1) (f:=(fun x=>x)) zt zr hw zr zr Fd.self tS fun ao hw=>(RL.dQ (l:=([p1]: (List aA))) zt zr hw [ao] zr zr zr jl yV (fun M hs g=>⟨(g.sat 0 _ zr).1,zt⟩) fun aw w hw=>?_)))
  have hw:=hw.freeze (i:=0) rfl
  obtain⟨ax,aq,hb⟩:=bd hb
  refine RL.app (i:=2) (j:=0) zt zr hw zr zr zr zr Di aq fun ar w hw=>(aN ar zr zr (RL.nt (RC.ret ?_)))
  obtain rfl:=oi hb
  exact bQ zr zr (hw.pk 4 [2] zr)
 refine RC.sr (mv v0 zr zr (mv (vi (IntKind.wrap .i64 ((p0.length:Int) - 1))) zr zr (RL.bD zt zr zr jL (RL.aL (i:=1) (f:=(fun x=>x.Y1)) zt zr hw zr zr cL bV ?_))))
 obtain⟨ay,ah,hb⟩:=bd hb
 refine RL.aZ (i:=0) zt zr hw zr zr zr jl ah (RL.gO (α:=aA) zt zr zr (f0 hw (i:=0) zr ah 0) jL ?_)
 have hw:=hw.sc (γ:=Int) p1.Y1
 refine RL.eP (i:=1) (j:=0) (f:=(fun x y=>{x with Y1:=y})) trivial hw rfl rfl (f0 hw (i:=1) rfl ah 1) rfl (aP ah).2.1 rfl jJ (by decide) bV fun w hw=>(RL.ns (mv v0 rfl rfl (aN v0 rfl rfl (RL.nt (RC.rt ?_)))))
 obtain rfl:=oi hb
 exact bQ zr zr (hw.pk 3 [1] zr)
def sM (E:World) (Γ:List HP) (res: (List aA)) (v:Value) (w:World):Prop:=Holds E w ([own 84 v res]++Γ)
theorem gW (N:Nat) {E w:World} {Γ:List HP} {i0:Nat} {v0:Value} {p0: (List aD)} {res: (List aA)} (hw:Holds E w Γ) (h0:Γ[i0]? =some (rd v0 p0)) (hb:dJ N p0=some res):
    Calls Tryz.prog 25 [v0].toArray w (fu (sM E Γ res)):=by
 unfold dJ at hb
 refine enter Tryz.func25 zr zr (Nat.le_of_ble_eq_true zr) ?_
 have hw:=hw.dup (i:=i0+0) h0
 refine RC.sr (aN (.slice none 0 0) zr zr (RL.ns (mv v0 zr zr ?_)))
 obtain⟨cp,br,hb⟩:=bd hb
 refine RL.call zt zr C8 [v0] zr (aF (mG N (i0:=0) hw zr br) ?_)
 rintro aj w hw
 refine aN aj zr zr (RL.ns (mv aj zr zr ?_))
 obtain⟨an,bt,hb⟩:=bd hb
 have hw:=hw.pull (i:=0) rfl
 refine RL.call zt zr B5 [aj,(.func (.func 49) #[] #[])] zr (aF (wW (α:=aD) Tryz.lay48 zr eW.AP eW.sz C9 (fun hw hi hj hr=>oZ N hw hi hj hr) hw bt) ?_)
 rintro _ w ⟨rfl,hw⟩
 refine RL.ns (RL.ry zt zr hw B6 zr fun ao w hw=>(RL.nq (RC.sr (mv aj zr zr (RL.cW (i:=1) (l:=an) zt zr hw zr zr mc (mv (vi 0) zr zr (RL.nt ?_)))))))
 obtain⟨a1,hN,hb⟩:=bd hb
 refine RC.fold (fun(a4:Nat) (a1: (List Int)) (σ:Nat→Value) (w:World)=>∃bb:Value,agree σ [(0,aj),(3,(vp ao 0)),(14,aj),(15,(vi (an.length:Int))),(16,(vi (a4:Int)))]∧Holds E w ([own 59 aj an,bc 39 ao [bb],own 3 bb a1]++Γ)) (fun(a1: (List Int)) (σ:Nat→Value) (w:World)=>∃aw:Value,agree σ [(0,aj),(3,(vp ao 0))]∧Holds E w ([own 59 aj an,bc 39 ao [aw],own 3 aw a1]++Γ)) hN ?_ ?_ ?_ ?_
 ·have hw:=hw.bW Int 3
  exact⟨(.slice none 0 0),(ag zr),hw.pk 5 [2,1,0] zr⟩
 ·intro hm a1 σ w hI
  obtain⟨bu,ha,hw⟩:=hI
  obtain⟨τ,rfl⟩:=ha.aO
  refine RC.sr (ic ((an.length:Int)) ((an.length:Int)) zr zr zr zr (RL.nq (RC.cG k6 (RC.ex ?_))))
  exact⟨rfl,bu,(ag zr),hw.pk 3 [0,1,2] zr⟩
 ·intro hm a4 a1 s' σ w hk hI hb
  obtain⟨bw,ha,hw⟩:=hI
  obtain⟨τ,rfl⟩:=ha.aO
  refine RC.sr (ic ((a4:Int)) ((an.length:Int)) zr zr zr zr (RL.nq (RC.cF (kZ hk) (RC.ss (RC.bs ?_)))))
  obtain⟨a2,a7,hb⟩:=bd hb
  refine RL.aZ (i:=0) zt zr hw zr zr zr iN a7 (RL.eV (i:=0) (f:=(fun x=>x)) zt zr hw zr (f0 hw (i:=0) zr a7 0) zr (aP a7).2.1 Fd.self eW fun cq hw=>(RL.alloc zt zr hw kA.z fun cr w hw=>(RL.bC (i:=0) (j:=1) zt hw zr zr zr zr eW zr fun w hw=>(RL.nt (RC.region (RL.bF (i:=3) (v:=bw) zt zr hw zr zr zr cT (RL.bD zt zr zr gF (RL.aL (i:=0) (f:=(fun x=>x.Y0)) zt zr hw zr zr cZ bV ?_))))))))
  refine RL.bD zt zr zr jK (RL.aL (i:=0) (f:=(fun x=>x.Y1)) zt zr hw zr zr fy bV ?_)
  have hw:=hw.sc (γ:=Int) a2.Y0
  have hw:=hw.sc (γ:=Int) a2.Y1
  refine RL.dQ (l:=([a2.Y0,a2.Y1]: (List Int))) zt zr hw [(vi a2.Y0),(vi a2.Y1)] zr zr zr dB zY (fun M hs g=>⟨(g.sat 1 _ zr).1,⟨(g.sat 0 _ zr).1,zt⟩⟩) fun ct w hw=>?_
  have hw:=hw.freeze (i:=0) rfl
  obtain⟨cu,bz,hb⟩:=bd hb
  refine RL.app (i:=7) (j:=0) zt zr hw zr zr zr zr p6 bz fun bf w hw=>(RL.fQ (i:=6) (v:=bf) zt hw zr zr zr zr (gh hw (i:=7) zr) cT fun w hw=>(RL.nil (bI (aG (RC.region (RL.inc zt zr hk hm zr zr (mv (vi ((a4+1:Nat):Int)) zr zr (RL.nil ?_))))))))
  obtain rfl:=oi hb
  exact⟨rfl,bf,(ag zr),hw.pk 8 [5,6,7] zr⟩
 intro σ w hJ
 obtain⟨aw,ha,hw⟩:=hJ
 obtain⟨τ,rfl⟩:=ha.aO
 refine aG (RC.sr (RL.bF (i:=1) (v:=aw) zt zr hw zr zr zr cT ?_))
 obtain⟨cv,b0,hb⟩:=bd hb
 have hw:=hw.pull (i:=2) rfl
 refine RL.call zt zr Da [aw] zr (aF (yI Tryz.lay50 hw b0) ?_)
 rintro _ w ⟨rfl,hw⟩
 refine RL.ns (RL.bF (i:=2) (v:=aw) zt zr hw zr zr zr cT ?_)
 have hw:=hw.pull (i:=0) rfl
 obtain⟨aq,b1,hb⟩:=bd hb
 refine RL.call zt zr Db [aw] zr (aF (me N hw b1) ?_)
 rintro b2 w hw
 refine RL.fQ (i:=3) (v:=b2) zt hw zr zr zr zr (gh hw (i:=0) zr) cT fun w hw=>(RL.ns (aN (.slice none 0 0) zr zr (RL.ns (aN (.slice none 0 0) zr zr (RL.ns (aN (vi 0) zr zr (RL.nq (RC.sr ?_))))))))
 refine RL.alloc zt zr hw zY.z fun b3 w hw=>?_
 have hw:=hw.sc (γ:=Int) 0
 refine RL.bC (i:=1) (j:=0) zt hw zr zr zr zr bV zr fun w hw=>(RL.nt ?_)
 have hw:=hw.freeze (i:=2) rfl
 have hw:=hw.yz (i:=5) (x:=aq) rfl (fun M hs g=>(tF rfl (g.sat 2 _ rfl).1))
 have hw:=hw.nd (i:=5) rfl
 have hw:=hw.bW aA 84
 have hw:=hw.bW aD 59
 obtain⟨cw,hN,hb⟩:=bd hb
 refine RC.iter (fun(aa: (List aA)×(List aD)×Int×Int) (σ:Nat→Value) (w:World)=>∃(bg:Value) (bh:Value) (bj:Nat),agree σ [(0,aj),(3,(vp ao 0)),(6,bg),(7,bh),(8,(vi aa.2.2.1)),(9,(vp bj 0))]∧Holds E w ([own 59 aj an,pt (vp ao 0) aq,own 84 bg aa.1,own 59 bh aa.2.1,bx 3 bj aa.2.2.2]++Γ)) (fun(aa: (List aA)×(List aD)×Int×Int) (σ:Nat→Value) (w:World)=>∃a3:Value,agree σ [(6,a3)]∧Holds E w ([own 59 aj an,pt (vp ao 0) aq,own 84 a3 aa.1]++Γ)) (fun(r:Empty) (_:Nat→Value) (_:World)=>r.elim) hN ?_ ?_ ?_ ?_
 ·exact⟨(.slice none 0 0),(.slice none 0 0),b3,(ag zr),hw.pk 9 [6,7,1,0,3] zr⟩
 ·intro aa fl σ w hI hb
  obtain⟨ar,bk,au,ha,hw⟩:=hI
  obtain⟨τ,rfl⟩:=ha.aO
  refine RC.seq (RC.sr (RL.aL (i:=4) (f:=(fun x=>x)) zt zr hw zr zr Fd.self bV (RL.gq (a:=aa.2.2.2) (b:=1) zt zr zr zr zr (RL.bT (i:=1) (x:=aq) zt zr hw zr zr cT fun cx hw=>(RL.bA (i:=0) (l:=aq) zt zr hw zr zr iO (ic ((IntKind.wrap .i64 (aa.2.2.2+1))) ((aq.length:Int)) zr zr zr zr (RL.nt (eI hb zr (fun hc hb=>?_) fun hc hb=>?_))))))))
  rotate_left
  ·refine RC.ex ?_
   obtain rfl:=oi hb
   exact⟨rfl,ar,⟨rfl,zt⟩,hw.pk 6 [1,2,3] zr⟩
  refine RC.ss (RC.bs (mv bk zr zr ?_))
  have hw:=hw.nd (i:=5) rfl
  refine RL.makeFunc zt zr [(vp ao 0),(vp au 0)] zr ?_
  have hw:=hw.pull (i:=4) rfl
  obtain⟨cy,b4,hb⟩:=bd hb
  refine RL.call trivial rfl De [bk,(.func (.func 53) #[] #[(vp ao 0),(vp au 0)])] rfl (aF (kB N hw ⟨53,[(vp ao 0),(vp au 0)],rfl,Dd,fun w Γl v y0 r i hw hi hr=>by exact aF (o0 N (i0:=i) (i1:=Γl.length+2) (i2:=Γl.length+5) hw hi (tB rfl) (tB rfl) hr) fun _ _ h=>h⟩ b4) ?_)
  rintro bl w hw
  refine aN bl zr zr (RL.nq ?_)
  obtain⟨cz,hN,hb⟩:=bd hb
  refine RC.iter (fun(al: (List aD)×Int) (σ:Nat→Value) (w:World)=>∃bm:Value,agree σ [(0,aj),(3,(vp ao 0)),(6,ar),(7,bm),(8,(vi al.2)),(9,(vp au 0))]∧Holds E w ([own 59 aj an,pt (vp ao 0) aq,own 84 ar aa.1,pt (vp au 0) aa.2.2.2,own 59 bm al.1]++Γ)) (fun(al: (List aD)×Int) (σ:Nat→Value) (w:World)=>∃av:Value,agree σ [(0,aj),(3,(vp ao 0)),(6,ar),(7,av),(8,(vi al.2)),(9,(vp au 0))]∧Holds E w ([own 59 aj an,pt (vp ao 0) aq,own 84 ar aa.1,pt (vp au 0) aa.2.2.2,own 59 av al.1]++Γ)) (fun(r:Empty) (_:Nat→Value) (_:World)=>r.elim) hN ?_ ?_ ?_ ?_
  ·exact⟨bl,(ag zr),hw.pk 7 [2,3,4,6,0] zr⟩
  ·intro al fl σ w hI hb
   obtain⟨a5,ha,hw⟩:=hI
   obtain⟨τ,rfl⟩:=ha.aO
   refine RC.seq (RC.seq ?_)
   obtain⟨a8,hj,hb⟩:=bd hb
   refine RC.jn (fun(a8:Bool) (σ:Nat→Value) (w:World)=>agree σ [(0,aj),(3,(vp ao 0)),(6,ar),(7,a5),(8,(vi al.2)),(9,(vp au 0)),(57,(vb a8))]∧Holds E w ([own 59 aj an,pt (vp ao 0) aq,own 84 ar aa.1,own 59 a5 al.1,pt (vp au 0) aa.2.2.2]++Γ)) a8 ?_ ?_
   ·refine RC.uA mixed rfl (by kernel_rfl) ?_
    have hw:=hw.drew
    refine RO.go (mv (vi al.2) zr zr (RO.nx (mv aj zr zr (RO.nx (RL.cW (i:=0) (l:=an) zt zr hw zr zr mc (RO.nx (ic (al.2) ((an.length:Int)) zr zr zr zr (RO.nx ?_))))))))
    refine mv (vb (decide (al.2< (an.length:Int)))) zr zr (fW hj (fun ak hj=>?_) fun ak hj=>?_)
    rotate_left
    ·refine RO.nx (sk zr (.inl (cb ak)) zr (RO.nx (sk zr (.inl (cb ak)) zr (RO.nx (sk zr (.inl (cb ak)) zr (RO.nx (sk zr (.inl (cb ak)) zr (RO.nx ?_))))))))
     refine sk zr (.inl (cb ak)) zr (RO.nx (sk zr (.inl (cb ak)) zr (RO.nx (sk zr (.inl (cb ak)) zr (RO.nx (sk zr (.inl (cb ak)) zr (RO.nx (sk zr (.inl (cb ak)) zr ?_))))))))
     refine RO.nx (sk rfl (.inl (cb ak)) rfl (RO.nx (RL.pick (b:=(decide (al.2< (an.length:Int)))) (v:=(vb false)) trivial rfl rfl (by rw [ak];rfl) (RO.last ?_))))
     obtain rfl:=oi hj
     exact⟨rfl,(ag zr),hw.pk 5 [0,1,2,4,3] zr⟩
    refine RO.nx (RL.move (v:=aj) (cg ak) zr zr (RO.nx (RL.move (v:=(vi al.2)) (cg ak) zr zr (RO.nx ?_))))
    obtain⟨bn,a6,hj⟩:=bd hj
    refine RL.aZ (i:=0) (cg ak) zr hw zr zr zr iN a6 (RO.nx (RL.gO (α:=aD) (cg ak) zr zr (f0 hw (i:=0) zr a6 0) gF (RO.nx (RL.cK (i:=0) (f:=(fun x=>x.Y0)) (cg ak) zr hw zr (f0 hw (i:=0) zr a6 1) zr (aP a6).2.1 cZ bV (RO.nx (RL.bT (i:=1) (x:=aq) (cg ak) zr hw zr zr cT fun c0 hw=>(RO.nx (RL.aY (i:=4) (y:=aa.2.2.2) (cg ak) zr hw zr zr bV ?_))))))))
    refine RO.nx ?_
    obtain⟨a9,b5,hj⟩:=bd hj
    refine RL.bO (i:=0) (cg ak) rfl hw rfl rfl rfl dB b5 fun c1 hw=>(RO.nx (RL.aY (i:=0) (y:=a9) (cg ak) rfl hw rfl rfl bV (RO.nx (RL.iQ (a:=bn.Y0) (b:=a9) (cg ak) rfl rfl rfl rfl (RO.nx (RL.pick (b:=(decide (al.2< (an.length:Int)))) (v:=(vb (decide (bn.Y0≤a9)))) trivial rfl rfl (by rw [ak];rfl) (RO.last ?_)))))))
    obtain rfl:=oi hj
    exact⟨rfl,(ag zr),hw.pk 7 [2,3,4,6,5] zr⟩
   rintro σ w ⟨ha,hw⟩
   obtain⟨τ,rfl⟩:=ha.aO
   refine aG (eI hb zr (fun hc hb=>?_) fun hc hb=>?_)
   rotate_left
   ·refine RC.ex ?_
    obtain rfl:=oi hb
    exact⟨rfl,a5,(ag zr),hw.pk 5 [0,1,2,4,3] zr⟩
   refine RC.sn (RC.block (RC.region (mv a5 zr zr (mv aj zr zr (mv (vi al.2) zr zr ?_)))))
   obtain⟨b6,ba,hb⟩:=bd hb
   refine RL.aZ (i:=0) zt zr hw zr zr zr iN ba (RL.eV (i:=0) (f:=(fun x=>x)) zt zr hw zr (f0 hw (i:=0) zr ba 0) zr (aP ba).2.1 Fd.self eW fun b7 hw=>(RL.dQ (l:=([b6]: (List aD))) zt zr hw [b7] zr zr zr iN kA (fun M hs g=>⟨(g.sat 0 _ zr).1,zt⟩) fun c2 w hw=>?_))
   have hw:=hw.freeze (i:=0) rfl
   obtain⟨c3,b8,hb⟩:=bd hb
   refine RL.app (i:=5) (j:=0) zt zr hw zr zr zr zr xI b8 fun bo w hw=>(mv (vi al.2) zr zr (RL.gq (a:=al.2) (b:=1) zt zr zr zr zr (aN bo zr zr (aN (vi (IntKind.wrap .i64 (al.2+1))) zr zr (RL.nil (bI ?_))))))
   obtain rfl:=oi hb
   exact⟨rfl,bo,(ag zr),hw.pk 7 [2,3,4,6,5] zr⟩
  ·intro r _ _ _ _
   exact r.elim
  intro al σ w e hJ
  subst e
  rw [Fo.eC] at hb
  obtain⟨av,ha,hw⟩:=hJ
  obtain⟨τ,rfl⟩:=ha.aO
  refine aG ?_
  obtain⟨ax,b9,hb⟩:=bd hb
  obtain⟨ay,ca,hb⟩:=bd hb
  obtain⟨a0,cc,hb⟩:=bd hb
  obtain⟨cd,cf,hb⟩:=bd hb
  refine RC.sG (E:=E) (Γ:=Γ) mixed rfl [0,0,0,0,0,0,0,1,0,0,1,0,0,0,1] [1,3,5,8,11,12,13] (fun(x:Value×Value×Value×Value×Value×Value×Value)=>(fun ae af ah ai o ad ab=>[(0,67,ar),(1,68,ae),(2,69,(vi aa.2.2.2)),(3,70,af),(4,71,(vi ax)),(5,72,ah),(6,73,(vi aa.2.2.2)),(7,74,(vi (IntKind.wrap .i64 (aa.2.2.2+1)))),(8,75,ai),(9,76,(vi ay)),(10,77,av),(11,78,o),(12,79,ad),(13,80,ab),(14,6,ab)]) x.1 x.2.1 x.2.2.1 x.2.2.2.1 x.2.2.2.2.1 x.2.2.2.2.2.1 x.2.2.2.2.2.2) [(0,aj),(3,(vp ao 0)),(7,av),(8,(vi al.2)),(9,(vp au 0))] [(14,6,ar)] (fun(D:Nat→Bool) (x:Value×Value×Value×Value×Value×Value×Value)=>(fun ae af ah ai o ad ab=>[bif D 0 then (rd ae aq) else aI,bif D 1 then (pt af ax) else aI,bif D 2 then (rd ah aq) else aI,bif D 3 then (pt ai ay) else aI,bif D 5 then (rd o a0.1) else (bif D 4 then (own 3 o a0.1) else aI),bif D 5 then (rd ad (⟨ax,ay,a0.1⟩:aA)) else aI,own 59 aj an,pt (vp ao 0) aq,bif D 6 then (own 84 ab cd) else (own 84 ar aa.1),pt (vp au 0) aa.2.2.2,bif D 4 then (own 59 av a0.2) else (own 59 av al.1)]) x.1 x.2.1 x.2.2.1 x.2.2.2.1 x.2.2.2.2.1 x.2.2.2.2.2.1 x.2.2.2.2.2.2) (fun x=>by kernel_rfl) ?_ ⟨?_,?_,?_,?_,?_,?_,?_,fun _=>yJ gn rfl,?_,?_,fun _=>dX gn rfl,?_,?_,?_,fun _=>xC gn rfl,trivial⟩ ?_
  ·have hw:=hw.drew
   have hw:=hw.aI
   have hw:=hw.aI
   have hw:=hw.aI
   have hw:=hw.aI
   have hw:=hw.aI
   have hw:=hw.aI
   exact⟨(undef,undef,undef,undef,undef,undef,undef),doneV.none,(ag zr),⟨fun _=>zr,zt⟩,hw⟩
  ·rintro D σ w hD hdep hcl ⟨⟨ae,af,ah,ai,o,ad,ab⟩,hv,ha,ho,hw⟩
   obtain⟨τ,rfl⟩:=(ac (ho.at 0 rfl (nf (fun h=>ft hD ((hcl 14 _ rfl h).2.2.1 rfl)))) az).aO
   refine mv ar zr zr ?_
   exact RL.nil ⟨rfl,(ae,af,ah,ai,o,ad,ab),hv.put 0 zr zr,ha.up zr,ho.up zr,hw⟩
  ·rintro D σ w hD hdep hcl ⟨⟨ae,af,ah,ai,o,ad,ab⟩,hv,ha,ho,hw⟩
   obtain⟨τ,rfl⟩:=(ac (ha.at 1 rfl) az).aO
   have hw:=hw.aQ (i:=0) rfl hD
   refine RL.bT (i:=7) (x:=aq) zt zr hw zr zr cT fun ch hw=>?_
   have hw:=hw.pl 12 [0,2,3,4,5,6,7,8,9,10,11] rfl
   have hw:=hw.aT (i:=0) (b:=true) rfl rfl (aI)
   exact RL.nil ⟨rfl,(ch,af,ah,ai,o,ad,ab),hv.put 1 zr zr,ha.up zr,ho.up zr,hw⟩
  ·rintro D σ w hD hdep hcl ⟨⟨ae,af,ah,ai,o,ad,ab⟩,hv,ha,ho,hw⟩
   obtain⟨τ,rfl⟩:=(ac (ha.at 4 rfl) az).aO
   refine RL.aY (i:=9) (y:=aa.2.2.2) zt zr hw zr zr bV ?_
   exact RL.nil ⟨rfl,(ae,af,ah,ai,o,ad,ab),hv.put 2 zr zr,ha.up zr,ho.up zr,hw⟩
  ·rintro D σ w hD hdep hcl ⟨⟨ae,af,ah,ai,o,ad,ab⟩,hv,ha,ho,hw⟩
   obtain⟨τ,rfl⟩:=(ac (hv.at 1 rfl (hdep.1 rfl)) (ac (hv.at 2 rfl (hdep.2.1 rfl)) az)).aO
   have hw:=hw.aS (i:=0) rfl (hdep.1 rfl)
   have hw:=hw.aQ (i:=1) rfl hD
   refine RL.bO (i:=0) zt zr hw zr zr zr dB b9 fun cj hw=>?_
   have hw:=hw.pl 12 [1,0,3,4,5,6,7,8,9,10,11] rfl
   have hw:=hw.aT (i:=0) (b:=D 1) rfl (hdep.1 rfl) (aI)
   have hw:=hw.aT (i:=1) (b:=true) rfl rfl (aI)
   exact RL.nil ⟨rfl,(ae,cj,ah,ai,o,ad,ab),hv.put 3 zr zr,ha.up zr,ho.up zr,hw⟩
  ·rintro D σ w hD hdep hcl ⟨⟨ae,af,ah,ai,o,ad,ab⟩,hv,ha,ho,hw⟩
   obtain⟨τ,rfl⟩:=(ac (hv.at 3 rfl (hdep.1 rfl)) az).aO
   have hw:=hw.aS (i:=1) rfl (hdep.1 rfl)
   refine RL.aY (i:=1) (y:=ax) zt zr hw zr zr bV ?_
   have hw:=hw.aT (i:=1) (b:=D 3) rfl (hdep.1 rfl) (aI)
   exact RL.nil ⟨rfl,(ae,af,ah,ai,o,ad,ab),hv.put 4 zr zr,ha.up zr,ho.up zr,hw⟩
  ·rintro D σ w hD hdep hcl ⟨⟨ae,af,ah,ai,o,ad,ab⟩,hv,ha,ho,hw⟩
   obtain⟨τ,rfl⟩:=(ac (ha.at 1 rfl) az).aO
   have hw:=hw.aQ (i:=2) rfl hD
   refine RL.bT (i:=7) (x:=aq) zt zr hw zr zr cT fun ck hw=>?_
   have hw:=hw.pl 12 [1,2,0,4,5,6,7,8,9,10,11] rfl
   have hw:=hw.aT (i:=2) (b:=true) rfl rfl (aI)
   exact RL.nil ⟨rfl,(ae,af,ck,ai,o,ad,ab),hv.put 5 zr zr,ha.up zr,ho.up zr,hw⟩
  ·rintro D σ w hD hdep hcl ⟨⟨ae,af,ah,ai,o,ad,ab⟩,hv,ha,ho,hw⟩
   obtain⟨τ,rfl⟩:=(ac (ha.at 4 rfl) az).aO
   refine RL.aY (i:=9) (y:=aa.2.2.2) zt zr hw zr zr bV ?_
   exact RL.nil ⟨rfl,(ae,af,ah,ai,o,ad,ab),hv.put 6 zr zr,ha.up zr,ho.up zr,hw⟩
  ·rintro D σ w hD hdep hcl ⟨⟨ae,af,ah,ai,o,ad,ab⟩,hv,ha,ho,hw⟩
   obtain⟨τ,rfl⟩:=(ac (hv.at 5 rfl (hdep.1 rfl)) (ac (hv.at 7 rfl (hdep.2.1 rfl)) az)).aO
   have hw:=hw.aS (i:=2) rfl (hdep.1 rfl)
   have hw:=hw.aQ (i:=3) rfl hD
   refine RL.bO (i:=2) zt zr hw zr zr zr dB ca fun cl hw=>?_
   have hw:=hw.pl 12 [1,2,3,0,5,6,7,8,9,10,11] rfl
   have hw:=hw.aT (i:=2) (b:=D 5) rfl (hdep.1 rfl) (aI)
   have hw:=hw.aT (i:=3) (b:=true) rfl rfl (aI)
   exact RL.nil ⟨rfl,(ae,af,ah,cl,o,ad,ab),hv.put 8 zr zr,ha.up zr,ho.up zr,hw⟩
  ·rintro D σ w hD hdep hcl ⟨⟨ae,af,ah,ai,o,ad,ab⟩,hv,ha,ho,hw⟩
   obtain⟨τ,rfl⟩:=(ac (hv.at 8 rfl (hdep.1 rfl)) az).aO
   have hw:=hw.aS (i:=3) rfl (hdep.1 rfl)
   refine RL.aY (i:=3) (y:=ay) zt zr hw zr zr bV ?_
   have hw:=hw.aT (i:=3) (b:=D 8) rfl (hdep.1 rfl) (aI)
   exact RL.nil ⟨rfl,(ae,af,ah,ai,o,ad,ab),hv.put 9 zr zr,ha.up zr,ho.up zr,hw⟩
  ·rintro D σ w hD hdep hcl ⟨⟨ae,af,ah,ai,o,ad,ab⟩,hv,ha,ho,hw⟩
   obtain⟨τ,rfl⟩:=(ac (hv.at 10 rfl (hdep.1 rfl)) az).aO
   have hw:=hw.aQ (i:=4) rfl (nf (fun h=>ft hD ((hcl 12 _ rfl h).2.2.1 rfl)))
   have hw:=hw.aQ (i:=4) rfl hD
   have hw:=hw.aQ (i:=10) rfl hD
   have hw:=hw.pull (i:=10) rfl
   refine RL.call zt zr Dg [av] zr (aF (oj N hw cc) ?_)
   rintro bp w hw
   have hw:=hw.pl 13 [2,3,4,5,0,7,8,9,10,11,1] rfl
   have hw:=hw.aT (i:=4) (b:=true) rfl rfl (aI)
   have hw:=hw.cJ (i:=4) (b:=D 12) rfl (nf (fun h=>ft hD ((hcl 12 _ rfl h).2.2.1 rfl))) (rd bp a0.1)
   have hw:=hw.aT (i:=10) (b:=true) rfl rfl (own 59 av al.1)
   exact RL.nil ⟨rfl,(ae,af,ah,ai,bp,ad,ab),hv.put 11 zr zr,ha.up zr,ho.up zr,hw⟩
  ·rintro D σ w hD hdep hcl ⟨⟨ae,af,ah,ai,o,ad,ab⟩,hv,ha,ho,hw⟩
   obtain⟨τ,rfl⟩:=(ac (hv.at 4 rfl (hdep.1 rfl)) (ac (hv.at 9 rfl (hdep.2.1 rfl)) (ac (hv.at 11 rfl (hdep.2.2.1 rfl)) az))).aO
   have hw:=hw.aQ (i:=4) rfl hD
   have hw:=hw.aS (i:=4) rfl (hdep.2.2.1 rfl)
   have hw:=hw.aQ (i:=5) rfl hD
   have hw:=hw.sc (γ:=Int) ax
   have hw:=hw.sc (γ:=Int) ay
   have hw:=hw.freeze (i:=6) rfl
   refine RL.build (y:=(⟨ax,ay,a0.1⟩:aA)) trivial rfl hw [(0,(vi ax)),(1,(vi ay)),(2,o)] rfl B9 rfl (fun M hs g=>by have h:=oU M;exact cC.cons (f:=fun(x:aA) y=>{x with Y0:=y}) rfl h l4 (by decide) (g.sat 1 _ rfl).1 fun _ h=>cC.cons (f:=fun(x:aA) y=>{x with Y1:=y}) rfl h jJ (by decide) (g.sat 0 _ rfl).1 fun _ h=>cC.cons (f:=fun(x:aA) y=>{x with Xs:=y}) rfl h l5 (by decide) (g.sat 6 _ rfl).1 fun _ h=>cC.nil h) fun cm hw=>?_
   have hw:=hw.pl 14 [3,4,5,6,7,0,9,10,11,12,13] rfl
   have hw:=hw.aT (i:=4) (b:=true) rfl rfl (bif D 11 then (own 3 o a0.1) else aI)
   have hw:=hw.aT (i:=5) (b:=true) rfl rfl (aI)
   exact RL.nil ⟨rfl,(ae,af,ah,ai,o,cm,ab),hv.put 12 zr zr,ha.up zr,ho.up zr,hw⟩
  ·rintro D σ w hD hdep hcl ⟨⟨ae,af,ah,ai,o,ad,ab⟩,hv,ha,ho,hw⟩
   obtain⟨τ,rfl⟩:=(ac (hv.at 0 rfl (hdep.1 rfl)) (ac (hv.at 12 rfl (hdep.2.1 rfl)) az)).aO
   have hw:=hw.aS (i:=5) rfl (hdep.2.1 rfl)
   have hw:=hw.aQ (i:=8) rfl hD
   have hw:=hw.pull (i:=8) rfl
   refine RL.call zt zr Ca [ar,ad] zr (aF (kG N (i1:=5) hw zr cf) ?_)
   rintro bq w hw
   have hw:=hw.pl 12 [1,2,3,4,5,6,7,8,0,10,11] rfl
   have hw:=hw.aT (i:=5) (b:=D 12) rfl (hdep.2.1 rfl) (aI)
   have hw:=hw.aT (i:=8) (b:=true) rfl rfl (own 84 ar aa.1)
   have hv:=hv.re 14 rfl (v':=bq) (fun h=>ft hD ((hcl 14 _ rfl h).1 rfl))
   exact RL.nil ⟨rfl,(ae,af,ah,ai,o,ad,bq),hv.put 13 zr zr,ha.up zr,ho.up zr,hw⟩
  rintro D σ w hall ⟨⟨ae,af,ah,ai,o,ad,ab⟩,hv,ha,_,hw⟩
  have hw:=hw.aS (i:=0) rfl (hall 1 (by decide))
  have hw:=hw.aS (i:=1) rfl (hall 3 (by decide))
  have hw:=hw.aS (i:=2) rfl (hall 5 (by decide))
  have hw:=hw.aS (i:=3) rfl (hall 8 (by decide))
  have hw:=hw.aS (i:=4) rfl (hall 12 (by decide))
  have hw:=hw.aS (i:=5) rfl (hall 12 (by decide))
  have hw:=hw.aS (i:=8) rfl (hall 13 (by decide))
  have hw:=hw.aS (i:=10) rfl (hall 11 (by decide))
  obtain⟨τ,rfl⟩:=(ac (hv.at 14 rfl (hall 14 (by decide))) (ac (ha.at 0 rfl) (ac (ha.at 1 rfl) (ac (ha.at 2 rfl) (ac (ha.at 3 rfl) (ac (ha.at 4 rfl) az)))))).aO
  refine bI (aG (RC.seq (RC.sr (RL.aY (i:=9) (y:=aa.2.2.2) zt zr hw zr zr bV (RL.nt (RC.region (RL.alloc zt zr hw zY.z fun cn w hw=>?_)))))))
  have hw:=hw.sc (γ:=Int) aa.2.2.2
  refine RL.bC (i:=1) (j:=0) zt hw zr zr zr zr bV zr fun w hw=>(RL.nt (RC.region (RL.aL (i:=1) (f:=(fun x=>x)) zt zr hw zr zr Fd.self bV (RL.gq (a:=aa.2.2.2) (b:=1) zt zr zr zr zr ?_))))
  have hw:=hw.sc (γ:=Int) (IntKind.wrap .i64 (aa.2.2.2+1))
  refine RL.yq (i:=2) (j:=0) zt hw zr zr zr zr bV fun w hw=>(RL.nil ?_)
  obtain rfl:=oi hb
  exact⟨rfl,ab,av,cn,(ag zr),hw.pk 14 [9,10,11,13,2] zr⟩
 ·intro r _ _ _ _
  exact r.elim
 intro aa σ w e hJ
 subst e
 rw [Fo.eC] at hb
 obtain⟨a3,ha,hw⟩:=hJ
 obtain⟨τ,rfl⟩:=ha.aO
 refine aG (RC.sr (mv a3 zr zr (aN a3 zr zr (RL.nt (RC.ret ?_)))))
 obtain rfl:=oi hb
 exact bQ zr zr (hw.pk 3 [2] zr)
def o4 (E:World) (Γ:List HP) (res: (List aD)) (v:Value) (w:World):Prop:=Holds E w ([own 59 v res]++Γ)
theorem iG (N:Nat) {E w:World} {Γ:List HP} {i0:Nat} {v0:Value} {p0: (List aA)} {res: (List aD)} (hw:Holds E w Γ) (h0:Γ[i0]? =some (rd v0 p0)) (hb:eO N p0=some res):
    Calls Tryz.prog 29 [v0].toArray w (fu (o4 E Γ res)):=by
 unfold eO at hb
 refine enter Tryz.func29 zr zr (Nat.le_of_ble_eq_true zr) ?_
 have hw:=hw.dup (i:=i0+0) h0
 refine RC.sr (aN (.slice none 0 0) zr zr (RL.ns (aN (.slice none 0 0) zr zr (RL.nq (RC.sr (mv v0 zr zr (RL.bA (i:=0) (l:=p0) zt zr hw zr zr nA (mv (vi 0) zr zr ?_))))))))
 refine RL.nt ?_
 obtain⟨ab,hN,hb⟩:=bd hb
 refine RC.fold (fun(ad:Nat) (ab: (List aD)) (σ:Nat→Value) (w:World)=>∃al:Value,agree σ [(3,al),(7,v0),(8,(vi (p0.length:Int))),(9,(vi (ad:Int)))]∧Holds E w ([rd v0 p0,own 59 al ab]++Γ)) (fun(ab: (List aD)) (σ:Nat→Value) (w:World)=>∃ae:Value,agree σ [(3,ae)]∧Holds E w ([rd v0 p0,own 59 ae ab]++Γ)) hN ?_ ?_ ?_ ?_
 ·have hw:=hw.bW aD 59
  exact⟨(.slice none 0 0),(ag zr),hw.pk 2 [1,0] zr⟩
 ·intro hm ab σ w hI
  obtain⟨aq,ha,hw⟩:=hI
  obtain⟨τ,rfl⟩:=ha.aO
  refine RC.sr (ic ((p0.length:Int)) ((p0.length:Int)) zr zr zr zr (RL.nq (RC.cG k6 (RC.ex ?_))))
  exact⟨rfl,aq,⟨rfl,zt⟩,hw.pk 2 [0,1] zr⟩
 ·intro hm ad ab s' σ w hk hI hb
  obtain⟨ar,ha,hw⟩:=hI
  obtain⟨τ,rfl⟩:=ha.aO
  refine RC.sr (ic ((ad:Int)) ((p0.length:Int)) zr zr zr zr (RL.nq (RC.cF (kZ hk) (RC.ss (RC.bs ?_)))))
  obtain⟨aa,au,hb⟩:=bd hb
  refine RL.bO (i:=0) zt zr hw zr zr zr jl au fun az hw=>(RL.bT (i:=0) (x:=aa) zt zr hw zr zr tS fun a0 hw=>(RL.alloc zt zr hw yV.z fun aj w hw=>(RL.bC (i:=0) (j:=1) zt hw zr zr zr zr tS zr fun w hw=>(RL.ns (aN (vi 0) zr zr (RL.nt ?_))))))
  obtain⟨a1,hN,hb⟩:=bd hb
  refine RC.iter (fun(o: (List aD)×Int) (σ:Nat→Value) (w:World)=>∃an:Value,agree σ [(3,an),(5,(vp aj 0)),(6,(vi o.2)),(7,v0),(8,(vi (p0.length:Int))),(9,(vi (ad:Int)))]∧Holds E w ([bx 84 aj aa,rd v0 p0,own 59 an o.1]++Γ)) (fun(o: (List aD)×Int) (σ:Nat→Value) (w:World)=>∃ai:Value,agree σ [(3,ai),(7,v0),(8,(vi (p0.length:Int))),(9,(vi (ad:Int)))]∧Holds E w ([bx 84 aj aa,rd v0 p0,own 59 ai o.1]++Γ)) (fun(r:Empty) (_:Nat→Value) (_:World)=>r.elim) hN ?_ ?_ ?_ ?_
  ·exact⟨ar,(ag zr),hw.pk 5 [0,3,4] zr⟩
  ·intro o fl σ w hI hb
   obtain⟨ak,ha,hw⟩:=hI
   obtain⟨τ,rfl⟩:=ha.aO
   refine RC.seq (RC.sr (mv (vi o.2) zr zr (RL.bD zt zr zr iF (RL.aU (i:=0) (f:=(fun x=>x.Xs)) zt zr hw zr zr bR cT fun a2 hw=>(RL.bA (i:=0) (l:=aa.Xs) zt zr hw zr zr iO (ic (o.2) ((aa.Xs.length:Int)) zr zr zr zr (RL.nt (eI hb zr (fun hc hb=>?_) fun hc hb=>?_))))))))
   rotate_left
   ·refine RC.ex ?_
    obtain rfl:=oi hb
    exact⟨rfl,ak,(ag zr),hw.pk 4 [1,2,3] zr⟩
   refine RC.ss (RC.block (RC.An mixed rfl [1,0,0,0,0,0,0,0,0,0,0,0,0,0,0,0,0,2,2,0] [0,1,2,3,4,5,6,7,8,9,10,11,12,13,14,15,16,17,18,19] (by kernel_rfl) ?_))
   have hw:=hw.drew
   refine DP.e1 ak zr zr (fun w=>RL.move (v:=ak) zt zr zr (DP.d1 zr)) (DP.e0 zr zr (RL.bD zt zr zr iF (cY zr zr (RL.aU (i:=1) (f:=(fun x=>x.Xs)) zt zr hw zr zr bR cT fun a3 hw=>(cY zr zr (mv (vi o.2) zr zr (cY zr zr ?_)))))))
   obtain⟨af,av,hb⟩:=bd hb
   refine RL.bO (i:=0) zt zr hw zr zr zr dB av fun a4 hw=>(cY zr zr (RL.aY (i:=0) (y:=af) zt zr hw zr zr bV (cY zr zr (RL.bD zt zr zr kQ (cY zr zr (RL.aL (i:=3) (f:=(fun x=>x.Y0)) zt zr hw zr zr cQ bV (cY zr zr (RL.bD zt zr zr iF ?_))))))))
   refine cY zr zr (RL.aU (i:=3) (f:=(fun x=>x.Xs)) zt zr hw zr zr bR cT fun a5 hw=>(cY zr zr (mv (vi o.2) zr zr (cY zr zr (RL.gq (a:=o.2) (b:=1) zt zr zr zr zr (cY zr zr ?_))))))
   obtain⟨ah,aw,hb⟩:=bd hb
   refine RL.bO (i:=0) zt zr hw zr zr zr dB aw fun a6 hw=>(cY zr zr (RL.aY (i:=0) (y:=ah) zt zr hw zr zr bV (cY zr zr (RL.bD zt zr zr jL (cY zr zr (RL.aL (i:=5) (f:=(fun x=>x.Y1)) zt zr hw zr zr cL bV (cY zr zr ?_)))))))
   have hw:=hw.sc (γ:=Int) af
   have hw:=hw.sc (γ:=Int) aa.Y0
   have hw:=hw.sc (γ:=Int) ah
   have hw:=hw.sc (γ:=Int) aa.Y1
   refine RL.build (y:=(⟨af,aa.Y0,ah,aa.Y1⟩:aD)) trivial rfl hw [(0,(vi af)),(1,(vi aa.Y0)),(2,(vi ah)),(3,(vi aa.Y1))] rfl xJ rfl (fun M hs g=>by have h:=n9 M;exact cC.cons (f:=fun(x:aD) y=>{x with X0:=y}) rfl h k9 (by decide) (g.sat 3 _ rfl).1 fun _ h=>cC.cons (f:=fun(x:aD) y=>{x with Y0:=y}) rfl h ng (by decide) (g.sat 2 _ rfl).1 fun _ h=>cC.cons (f:=fun(x:aD) y=>{x with X1:=y}) rfl h ld (by decide) (g.sat 1 _ rfl).1 fun _ h=>cC.cons (f:=fun(x:aD) y=>{x with Y1:=y}) rfl h nh (by decide) (g.sat 0 _ rfl).1 fun _ h=>cC.nil h) fun ax hw=>(yO rfl rfl (RL.dQ (l:=([(⟨af,aa.Y0,ah,aa.Y1⟩:aD)]: (List aD))) trivial rfl hw [ax] rfl rfl rfl iN kA (fun M hs g=>⟨(g.sat 0 _ rfl).1,trivial⟩) fun a7 w hw=>(EF trivial rfl rfl ?_)))
   have hw:=hw.freeze (i:=0) rfl
   obtain⟨a8,ay,hb⟩:=bd hb
   refine RL.app (i:=13) (j:=0) zt zr hw zr zr zr zr xI ay fun ao w hw=>(CU zt zr zr (aN ao zr zr (DP.d0 (DP.z (bI (aG (RC.region (mv (vi o.2) zr zr ?_))))))))
   refine RL.gq (a:=o.2) (b:=2) zt zr zr zr zr (aN (vi (IntKind.wrap .i64 (o.2+2))) zr zr (RL.nil ?_))
   obtain rfl:=oi hb
   exact⟨rfl,ao,(ag zr),hw.pk 14 [11,12,13] zr⟩
  ·intro r _ _ _ _
   exact r.elim
  intro o σ w e hJ
  subst e
  rw [Fo.eC] at hb
  obtain⟨ai,ha,hw⟩:=hJ
  obtain⟨τ,rfl⟩:=ha.aO
  refine bI (aG (RC.region (RL.inc zt zr hk hm zr zr (mv (vi ((ad+1:Nat):Int)) zr zr (RL.nil ?_)))))
  obtain rfl:=oi hb
  exact⟨rfl,ai,(ag zr),hw.pk 3 [1,2] zr⟩
 intro σ w hJ
 obtain⟨ae,ha,hw⟩:=hJ
 obtain⟨τ,rfl⟩:=ha.aO
 refine aG (RC.sr (mv ae zr zr (aN ae zr zr (RL.nt (RC.ret ?_)))))
 obtain rfl:=oi hb
 exact bQ zr zr (hw.pk 2 [1] zr)
def jQ (E:World) (Γ:List HP) (res:Bool) (v:Value) (w:World):Prop:=v= (vb res)∧Holds E w Γ
def nE (E:World) (Γ:List HP) (r:Bool) (σ:Nat→Value) (w:World):Prop:=jU Tryz.prog 26 Tryz.f28 (jQ E Γ r) .ret σ w
theorem mJ (N:Nat) {E w:World} {Γ:List HP} {i0:Nat} {v0:Value} {p0: (List aD)} {i1:Nat} {v1:Value} {p1: (List aD)} {res:Bool} (hw:Holds E w Γ) (h0:Γ[i0]? =some (rd v0 p0)) (h1:Γ[i1]? =some (rd v1 p1)) (hb:fB N p0 p1=some res):
    Calls Tryz.prog 28 [v0,v1].toArray w (fu (jQ E Γ res)):=by
 unfold fB at hb
 refine enter Tryz.func28 zr zr (Nat.le_of_ble_eq_true zr) ?_
 have hw:=hw.dup (i:=i0+0) h0
 have hw:=hw.dup (i:=i1+1) h1
 refine RC.sr (aN (vb false) zr zr (RL.nq (RC.sr (mv v0 zr zr (RL.bA (i:=1) (l:=p0) zt zr hw zr zr mc (mv v1 zr zr (RL.bA (i:=0) (l:=p1) zt zr hw zr zr mc (ic ((p0.length:Int)) ((p1.length:Int)) zr zr zr zr ?_))))))))
 refine RL.nt (eI hb zr (fun hc hb=>?_) fun hc hb=>?_)
 ·refine RC.sr (aN (vb false) zr zr (RL.nt (RC.rt ?_)))
  obtain rfl:=oi hb
  exact bQ zr zr ⟨rfl,hw.drop 2 zr⟩
 refine RC.ss (RC.sr (mv v0 zr zr (RL.bA (i:=1) (l:=p0) zt zr hw zr zr mc (mv (vi 0) zr zr (RL.nt ?_)))))
 obtain⟨ah,hN,hb⟩:=bd hb
 refine RC.range (fun(o:Nat) (aa:Unit) (σ:Nat→Value) (w:World)=>agree σ [(0,v0),(1,v1),(12,(vi (p0.length:Int))),(13,(vi (o:Int)))]∧Holds E w ([rd v0 p0,rd v1 p1]++Γ)) (fun(aa:Unit) (σ:Nat→Value) (w:World)=>agree σ []∧Holds E w ([rd v0 p0,rd v1 p1]++Γ)) (nE E Γ) hN ?_ ?_ ?_ ?_ ?_
 ·exact⟨(ag zr),hw.pk 2 [1,0] zr⟩
 ·intro hm aa σ w hI
  obtain⟨ha,hw⟩:=hI
  obtain⟨τ,rfl⟩:=ha.aO
  refine RC.sr (ic ((p0.length:Int)) ((p0.length:Int)) zr zr zr zr (RL.nq (RC.cG k6 (RC.ex ?_))))
  exact⟨rfl,zt,hw.pk 2 [0,1] zr⟩
 ·intro hm o aa fl σ w hk hI hb
  obtain⟨ha,hw⟩:=hI
  obtain⟨τ,rfl⟩:=ha.aO
  refine RC.sr (ic ((o:Int)) ((p0.length:Int)) zr zr zr zr (RL.nq (RC.cF (kZ hk) (RC.ss (RC.bs (mv (vi (o:Int)) zr zr (aN (vi (o:Int)) zr zr (RL.nq ?_))))))))
  refine RC.uA mixed rfl (by kernel_rfl) ?_
  have hw:=hw.drew
  refine RO.go (mv v0 zr zr (RO.nx (mv (vi (o:Int)) zr zr (RO.nx ?_))))
  obtain⟨ab,ae,hb⟩:=bd hb
  refine RL.bO (i:=0) zt zr hw zr zr zr iN ae fun ai hw=>(RO.nx (RL.bT (i:=0) (x:=ab) zt zr hw zr zr eW fun aj hw=>(RO.nx (mv v1 zr zr (RO.nx (mv (vi (o:Int)) zr zr (RO.nx ?_)))))))
  obtain⟨ad,af,hb⟩:=bd hb
  refine RL.bO (i:=3) zt zr hw zr zr zr iN af fun ak hw=>(RO.nx (RL.bT (i:=0) (x:=ad) zt zr hw zr zr eW fun al hw=>(RO.nx (RL.EA (i:=2) (j:=0) (a:=ab) (b:=ad) zt zr hw zr zr zr zr AW zr (RO.last (aG (eI hb zr (fun hc hb=>?_) fun hc hb=>?_)))))))
  rotate_left
  ·refine RC.skip (bI (aG (RC.region (RL.inc zt zr hk hm zr zr (mv (vi ((o+1:Nat):Int)) zr zr (RL.nil ?_))))))
   obtain rfl:=oi hb
   exact⟨rfl,(ag zr),hw.pk 6 [4,5] zr⟩
  refine RC.sr (aN (vb false) zr zr (RL.nt (RC.rb (bK ?_))))
  obtain rfl:=oi hb
  exact⟨rfl,bQ zr zr ⟨rfl,hw.drop 6 zr⟩⟩
 ·intro r σ w e hK
  subst e
  refine bK ?_
  obtain rfl:=oi hb
  exact hK
 intro aa σ w e hJ
 subst e
 rw [Fo.eC] at hb
 obtain⟨ha,hw⟩:=hJ
 obtain⟨τ,rfl⟩:=ha.aO
 refine aG (RC.sr (aN (vb true) zr zr (RL.nt (RC.ret ?_))))
 obtain rfl:=oi hb
 exact bQ zr zr ⟨rfl,hw.drop 2 zr⟩
end Go.Gk
