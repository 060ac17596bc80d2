/-
  Printed texts: Go functions as plain functions, and that they are. No statement of the seed is proved here.
-/
import Derived.Test.YtgeinabdjaknpaaGreatDoorProg
import Derived.Test.YtgeinabdjaknpaaGreatDoorE1
import Derived.Test.YtgeinabdjaknpaaGreatDoorA1
import Derived.Test.YtgeinabdjaknpaaGreatDoorA2
import Derived.Test.YtgeinabdjaknpaaGreatDoorRows
import Derived.Shelf.SlGeneric
import Derived.Ground.SlsfProg
import Derived.Ground.SlgmProg
set_option linter.unusedVariables false
set_option linter.unusedSimpArgs false
set_option linter.unusedSectionVars false
set_option maxRecDepth 100000
set_option maxHeartbeats 4000000
namespace Go.Gk
open Go Go.Proofs
instance instGTRect:GT aC:=GT.via (fun x=>(x.X0,x.Y0,x.X1,x.Y1))
instance instKVRect:KV aC:=instKVvia (fun(x:aC)=>(x.X0,x.Y0,x.X1,x.Y1))
theorem cU:Fd 0 (fun x:aC=>x.X0):=fun M cs x h=>(Fd.fst (α:=Int) (β:=Int×Int×Int) Fd.self (by decide)) M cs (x.X0,x.Y0,x.X1,x.Y1) h
theorem lB:Fs 0 Int (fun(x:aC) y=>{x with X0:=y}):=fun M cs ds x y h h2=>(Fs.fst (α:=Int) (β:=Int×Int×Int) Fs.self (by decide)) M cs ds (x.X0,x.Y0,x.X1,x.Y1) y h h2
theorem cZ:Fd 1 (fun x:aC=>x.Y0):=fun M cs x h=>(Fd.snd (α:=Int) (β:=Int×Int×Int) (Fd.fst (α:=Int) (β:=Int×Int) Fd.self (by decide)) rfl) M cs (x.X0,x.Y0,x.X1,x.Y1) h
theorem nz:Fs 1 Int (fun(x:aC) y=>{x with Y0:=y}):=fun M cs ds x y h h2=>(Fs.snd (α:=Int) (β:=Int×Int×Int) (Fs.fst (α:=Int) (β:=Int×Int) Fs.self (by decide)) rfl) M cs ds (x.X0,x.Y0,x.X1,x.Y1) y h h2
theorem dK:Fd 2 (fun x:aC=>x.X1):=fun M cs x h=>(Fd.snd (α:=Int) (β:=Int×Int×Int) (Fd.snd (α:=Int) (β:=Int×Int) (Fd.fst (α:=Int) (β:=Int) Fd.self (by decide)) rfl) rfl) M cs (x.X0,x.Y0,x.X1,x.Y1) h
theorem lC:Fs 2 Int (fun(x:aC) y=>{x with X1:=y}):=fun M cs ds x y h h2=>(Fs.snd (α:=Int) (β:=Int×Int×Int) (Fs.snd (α:=Int) (β:=Int×Int) (Fs.fst (α:=Int) (β:=Int) Fs.self (by decide)) rfl) rfl) M cs ds (x.X0,x.Y0,x.X1,x.Y1) y h h2
theorem fz:Fd 3 (fun x:aC=>x.Y1):=fun M cs x h=>(Fd.snd (α:=Int) (β:=Int×Int×Int) (Fd.snd (α:=Int) (β:=Int×Int) (Fd.snd (α:=Int) (β:=Int) Fd.self rfl) rfl) rfl) M cs (x.X0,x.Y0,x.X1,x.Y1) h
theorem nA:Fs 3 Int (fun(x:aC) y=>{x with Y1:=y}):=fun M cs ds x y h h2=>(Fs.snd (α:=Int) (β:=Int×Int×Int) (Fs.snd (α:=Int) (β:=Int×Int) (Fs.snd (α:=Int) (β:=Int) Fs.self rfl) rfl) rfl) M cs ds (x.X0,x.Y0,x.X1,x.Y1) y h h2
instance instGTPoint:GT bU:=GT.via (fun x=>(x.X,x.Y))
instance instKVPoint:KV bU:=instKVvia (fun(x:bU)=>(x.X,x.Y))
theorem l7:Fd 0 (fun x:bU=>x.X):=fun M cs x h=>(Fd.fst (α:=Int) (β:=Int) Fd.self (by decide)) M cs (x.X,x.Y) h
theorem w5:Fs 0 Int (fun(x:bU) y=>{x with X:=y}):=fun M cs ds x y h h2=>(Fs.fst (α:=Int) (β:=Int) Fs.self (by decide)) M cs ds (x.X,x.Y) y h h2
theorem l8:Fd 1 (fun x:bU=>x.Y):=fun M cs x h=>(Fd.snd (α:=Int) (β:=Int) Fd.self rfl) M cs (x.X,x.Y) h
theorem w6:Fs 1 Int (fun(x:bU) y=>{x with Y:=y}):=fun M cs ds x y h h2=>(Fs.snd (α:=Int) (β:=Int) Fs.self rfl) M cs ds (x.X,x.Y) y h h2
instance instGTBore:GT bD:=GT.via (fun x=>(x.At,x.cD,x.bN,x.To,x.cI))
theorem qq:Fd 0 (fun x:bD=>x.At):=fun M cs x h=>(Fd.fst (α:=bU) (β:=Int×Int×Int×Bool) Fd.self (by decide)) M cs (x.At,x.cD,x.bN,x.To,x.cI) h
theorem lD:Fd 2 (fun x:bD=>x.cD):=fun M cs x h=>(Fd.snd (α:=bU) (β:=Int×Int×Int×Bool) (Fd.fst (α:=Int) (β:=Int×Int×Bool) Fd.self (by decide)) rfl) M cs (x.At,x.cD,x.bN,x.To,x.cI) h
theorem yv:Fs 2 Int (fun(x:bD) y=>{x with cD:=y}):=fun M cs ds x y h h2=>(Fs.snd (α:=bU) (β:=Int×Int×Int×Bool) (Fs.fst (α:=Int) (β:=Int×Int×Bool) Fs.self (by decide)) rfl) M cs ds (x.At,x.cD,x.bN,x.To,x.cI) y h h2
theorem jz:Fd 3 (fun x:bD=>x.bN):=fun M cs x h=>(Fd.snd (α:=bU) (β:=Int×Int×Int×Bool) (Fd.snd (α:=Int) (β:=Int×Int×Bool) (Fd.fst (α:=Int) (β:=Int×Bool) Fd.self (by decide)) rfl) rfl) M cs (x.At,x.cD,x.bN,x.To,x.cI) h
theorem ki:Fd 4 (fun x:bD=>x.To):=fun M cs x h=>(Fd.snd (α:=bU) (β:=Int×Int×Int×Bool) (Fd.snd (α:=Int) (β:=Int×Int×Bool) (Fd.snd (α:=Int) (β:=Int×Bool) (Fd.fst (α:=Int) (β:=Bool) Fd.self (by decide)) rfl) rfl) rfl) M cs (x.At,x.cD,x.bN,x.To,x.cI) h
theorem lE:Fd 5 (fun x:bD=>x.cI):=fun M cs x h=>(Fd.snd (α:=bU) (β:=Int×Int×Int×Bool) (Fd.snd (α:=Int) (β:=Int×Int×Bool) (Fd.snd (α:=Int) (β:=Int×Bool) (Fd.snd (α:=Int) (β:=Bool) Fd.self rfl) rfl) rfl) rfl) M cs (x.At,x.cD,x.bN,x.To,x.cI) h
instance instGTLand:GT cT:=GT.via (fun x=>(x.Part,x.fC,x.aU,x.At))
theorem tW:Fd 0 (fun x:cT=>x.Part):=fun M cs x h=>(Fd.fst (α:=bS) (β:=bS×Int×bU) Fd.self (by decide)) M cs (x.Part,x.fC,x.aU,x.At) h
theorem tX:Fd 1 (fun x:cT=>x.fC):=fun M cs x h=>(Fd.snd (α:=bS) (β:=bS×Int×bU) (Fd.fst (α:=bS) (β:=Int×bU) Fd.self (by decide)) rfl) M cs (x.Part,x.fC,x.aU,x.At) h
theorem nB:Fd 2 (fun x:cT=>x.aU):=fun M cs x h=>(Fd.snd (α:=bS) (β:=bS×Int×bU) (Fd.snd (α:=bS) (β:=Int×bU) (Fd.fst (α:=Int) (β:=bU) Fd.self (by decide)) rfl) rfl) M cs (x.Part,x.fC,x.aU,x.At) h
theorem qt:Fd 3 (fun x:cT=>x.At):=fun M cs x h=>(Fd.snd (α:=bS) (β:=bS×Int×bU) (Fd.snd (α:=bS) (β:=Int×bU) (Fd.snd (α:=Int) (β:=bU) Fd.self rfl) rfl) rfl) M cs (x.Part,x.fC,x.aU,x.At) h
instance instGTArt:GT jQ:=GT.via (fun x=>(x.aJ,x.bY,x.aT,x.bH))
theorem lF:Fd 0 (fun x:jQ=>x.aJ):=fun M cs x h=>(Fd.fst (α:=(List (List aC))) (β:=(List aC)×(List bD)×(List cT)) Fd.self (by decide)) M cs (x.aJ,x.bY,x.aT,x.bH) h
theorem sg:Fd 1 (fun x:jQ=>x.bY):=fun M cs x h=>(Fd.snd (α:=(List (List aC))) (β:=(List aC)×(List bD)×(List cT)) (Fd.fst (α:=(List aC)) (β:=(List bD)×(List cT)) Fd.self (by decide)) rfl) M cs (x.aJ,x.bY,x.aT,x.bH) h
theorem mQ:Fd 2 (fun x:jQ=>x.aT):=fun M cs x h=>(Fd.snd (α:=(List (List aC))) (β:=(List aC)×(List bD)×(List cT)) (Fd.snd (α:=(List aC)) (β:=(List bD)×(List cT)) (Fd.fst (α:=(List bD)) (β:=(List cT)) Fd.self (by decide)) rfl) rfl) M cs (x.aJ,x.bY,x.aT,x.bH) h
theorem pd:Fd 3 (fun x:jQ=>x.bH):=fun M cs x h=>(Fd.snd (α:=(List (List aC))) (β:=(List aC)×(List bD)×(List cT)) (Fd.snd (α:=(List aC)) (β:=(List bD)×(List cT)) (Fd.snd (α:=(List bD)) (β:=(List cT)) Fd.self rfl) rfl) rfl) M cs (x.aJ,x.bY,x.aT,x.bH) h
instance instGTshape_Band:GT aA:=GT.via (fun x=>(x.Y0,x.Y1,x.Xs))
theorem cR:Fd 0 (fun x:aA=>x.Y0):=fun M cs x h=>(Fd.fst (α:=Int) (β:=Int×(List Int)) Fd.self (by decide)) M cs (x.Y0,x.Y1,x.Xs) h
theorem mn:Fs 0 Int (fun(x:aA) y=>{x with Y0:=y}):=fun M cs ds x y h h2=>(Fs.fst (α:=Int) (β:=Int×(List Int)) Fs.self (by decide)) M cs ds (x.Y0,x.Y1,x.Xs) y h h2
theorem cL:Fd 1 (fun x:aA=>x.Y1):=fun M cs x h=>(Fd.snd (α:=Int) (β:=Int×(List Int)) (Fd.fst (α:=Int) (β:=(List Int)) Fd.self (by decide)) rfl) M cs (x.Y0,x.Y1,x.Xs) h
theorem jT:Fs 1 Int (fun(x:aA) y=>{x with Y1:=y}):=fun M cs ds x y h h2=>(Fs.snd (α:=Int) (β:=Int×(List Int)) (Fs.fst (α:=Int) (β:=(List Int)) Fs.self (by decide)) rfl) M cs ds (x.Y0,x.Y1,x.Xs) y h h2
theorem bR:Fd 2 (fun x:aA=>x.Xs):=fun M cs x h=>(Fd.snd (α:=Int) (β:=Int×(List Int)) (Fd.snd (α:=Int) (β:=(List Int)) Fd.self rfl) rfl) M cs (x.Y0,x.Y1,x.Xs) h
theorem mo:Fs 2 (List Int) (fun(x:aA) y=>{x with Xs:=y}):=fun M cs ds x y h h2=>(Fs.snd (α:=Int) (β:=Int×(List Int)) (Fs.snd (α:=Int) (β:=(List Int)) Fs.self rfl) rfl) M cs ds (x.Y0,x.Y1,x.Xs) y h h2
instance instGTPin:GT fC:=GT.via (fun x=>(x.Part,x.fC))
instance instKVPin:KV fC:=instKVvia (fun(x:fC)=>(x.Part,x.fC))
theorem vU:Fd 0 (fun x:fC=>x.Part):=fun M cs x h=>(Fd.fst (α:=bS) (β:=bS) Fd.self (by decide)) M cs (x.Part,x.fC) h
theorem zM:Fs 0 bS (fun(x:fC) y=>{x with Part:=y}):=fun M cs ds x y h h2=>(Fs.fst (α:=bS) (β:=bS) Fs.self (by decide)) M cs ds (x.Part,x.fC) y h h2
theorem vV:Fd 1 (fun x:fC=>x.fC):=fun M cs x h=>(Fd.snd (α:=bS) (β:=bS) Fd.self rfl) M cs (x.Part,x.fC) h
theorem zN:Fs 1 bS (fun(x:fC) y=>{x with fC:=y}):=fun M cs ds x y h h2=>(Fs.snd (α:=bS) (β:=bS) Fs.self rfl) M cs ds (x.Part,x.fC) y h h2
instance instGTcopper_Piece:GT aD:=GT.via (fun x=>(x.aU,x.Set,x.dQ))
theorem jf:Fd 0 (fun x:aD=>x.aU):=fun M cs x h=>(Fd.fst (α:=Int) (β:=(List aA)×(List aC)) Fd.self (by decide)) M cs (x.aU,x.Set,x.dQ) h
theorem pf:Fs 0 Int (fun(x:aD) y=>{x with aU:=y}):=fun M cs ds x y h h2=>(Fs.fst (α:=Int) (β:=(List aA)×(List aC)) Fs.self (by decide)) M cs ds (x.aU,x.Set,x.dQ) y h h2
theorem pg:Fd 1 (fun x:aD=>x.Set):=fun M cs x h=>(Fd.snd (α:=Int) (β:=(List aA)×(List aC)) (Fd.fst (α:=(List aA)) (β:=(List aC)) Fd.self (by decide)) rfl) M cs (x.aU,x.Set,x.dQ) h
theorem ph:Fs 1 (List aA) (fun(x:aD) y=>{x with Set:=y}):=fun M cs ds x y h h2=>(Fs.snd (α:=Int) (β:=(List aA)×(List aC)) (Fs.fst (α:=(List aA)) (β:=(List aC)) Fs.self (by decide)) rfl) M cs ds (x.aU,x.Set,x.dQ) y h h2
theorem gT:Fd 2 (fun x:aD=>x.dQ):=fun M cs x h=>(Fd.snd (α:=Int) (β:=(List aA)×(List aC)) (Fd.snd (α:=(List aA)) (β:=(List aC)) Fd.self rfl) rfl) M cs (x.aU,x.Set,x.dQ) h
theorem pj:Fs 2 (List aC) (fun(x:aD) y=>{x with dQ:=y}):=fun M cs ds x y h h2=>(Fs.snd (α:=Int) (β:=(List aA)×(List aC)) (Fs.snd (α:=(List aA)) (β:=(List aC)) Fs.self rfl) rfl) M cs ds (x.aU,x.Set,x.dQ) y h h2
instance instGTGroup:GT bT:=GT.via (fun x=>(x.jR,x.aT,x.eY))
instance instGTHop:GT gk:=GT.via (fun x=>(x.bD,x.Number))
instance instKVHop:KV gk:=instKVvia (fun(x:gk)=>(x.bD,x.Number))
theorem zO:Fd 0 (fun x:gk=>x.bD):=fun M cs x h=>(Fd.fst (α:=Bool) (β:=Int) Fd.self (by decide)) M cs (x.bD,x.Number) h
theorem zP:Fs 0 Bool (fun(x:gk) y=>{x with bD:=y}):=fun M cs ds x y h h2=>(Fs.fst (α:=Bool) (β:=Int) Fs.self (by decide)) M cs ds (x.bD,x.Number) y h h2
theorem vW:Fd 1 (fun x:gk=>x.Number):=fun M cs x h=>(Fd.snd (α:=Bool) (β:=Int) Fd.self rfl) M cs (x.bD,x.Number) h
theorem vX:Fs 1 Int (fun(x:gk) y=>{x with Number:=y}):=fun M cs ds x y h h2=>(Fs.snd (α:=Bool) (β:=Int) Fs.self rfl) M cs ds (x.bD,x.Number) y h h2
instance instGTPiece:GT Piece:=GT.via (fun x=>(x.aU,x.o5,x.o6))
theorem w7:Fd 0 (fun x:Piece=>x.aU):=fun M cs x h=>(Fd.fst (α:=Int) (β:=bU×Int) Fd.self (by decide)) M cs (x.aU,x.o5,x.o6) h
theorem w8:Fs 0 Int (fun(x:Piece) y=>{x with aU:=y}):=fun M cs ds x y h h2=>(Fs.fst (α:=Int) (β:=bU×Int) Fs.self (by decide)) M cs ds (x.aU,x.o5,x.o6) y h h2
theorem w9:Fs 1 bU (fun(x:Piece) y=>{x with o5:=y}):=fun M cs ds x y h h2=>(Fs.snd (α:=Int) (β:=bU×Int) (Fs.fst (α:=bU) (β:=Int) Fs.self (by decide)) rfl) M cs ds (x.aU,x.o5,x.o6) y h h2
theorem xc:Fd 3 (fun x:Piece=>x.o6):=fun M cs x h=>(Fd.snd (α:=Int) (β:=bU×Int) (Fd.snd (α:=bU) (β:=Int) Fd.self rfl) rfl) M cs (x.aU,x.o5,x.o6) h
theorem xd:Fs 3 Int (fun(x:Piece) y=>{x with o6:=y}):=fun M cs ds x y h h2=>(Fs.snd (α:=Int) (β:=bU×Int) (Fs.snd (α:=bU) (β:=Int) Fs.self rfl) rfl) M cs ds (x.aU,x.o5,x.o6) y h h2
theorem uE (M:bZ):GT.ok M (#[(.int .i64 0),(.int .i64 0)]:Array Value).toList (⟨0,0⟩:bU):=⟨[(.int .i64 0)],[(.int .i64 0)],rfl,(show GT.ok M [(.int .i64 0)] (0:Int) from rfl),(show GT.ok M [(.int .i64 0)] (0:Int) from rfl)⟩
theorem Bg (M:bZ):GT.ok M (#[(.int .i64 0),(.int .i64 0),(.int .i64 0),(.int .i64 0)]:Array Value).toList (⟨0,⟨0,0⟩,0⟩:Piece):=⟨[(.int .i64 0)],[(.int .i64 0),(.int .i64 0),(.int .i64 0)],rfl,(show GT.ok M [(.int .i64 0)] (0:Int) from rfl),⟨[(.int .i64 0),(.int .i64 0)],[(.int .i64 0)],rfl,(show GT.ok M [(.int .i64 0),(.int .i64 0)] (⟨0,0⟩:bU) from uE M),(show GT.ok M [(.int .i64 0)] (0:Int) from rfl)⟩⟩
theorem oD (M:bZ):GT.ok M (#[(.int .i64 0),(.int .i64 0),(.int .i64 0),(.int .i64 0)]:Array Value).toList (⟨0,0,0,0⟩:aC):=⟨[(.int .i64 0)],[(.int .i64 0),(.int .i64 0),(.int .i64 0)],rfl,(show GT.ok M [(.int .i64 0)] (0:Int) from rfl),⟨[(.int .i64 0)],[(.int .i64 0),(.int .i64 0)],rfl,(show GT.ok M [(.int .i64 0)] (0:Int) from rfl),⟨[(.int .i64 0)],[(.int .i64 0)],rfl,(show GT.ok M [(.int .i64 0)] (0:Int) from rfl),(show GT.ok M [(.int .i64 0)] (0:Int) from rfl)⟩⟩⟩
theorem B8 (M:bZ):GT.ok M (#[(.int .i64 0),(.int .i64 0),(.int .i64 0),(.int .i64 0),(.int .i64 0),(.bool false)]:Array Value).toList (⟨⟨0,0⟩,0,0,0,false⟩:bD):=⟨[(.int .i64 0),(.int .i64 0)],[(.int .i64 0),(.int .i64 0),(.int .i64 0),(.bool false)],rfl,(show GT.ok M [(.int .i64 0),(.int .i64 0)] (⟨0,0⟩:bU) from uE M),⟨[(.int .i64 0)],[(.int .i64 0),(.int .i64 0),(.bool false)],rfl,(show GT.ok M [(.int .i64 0)] (0:Int) from rfl),⟨[(.int .i64 0)],[(.int .i64 0),(.bool false)],rfl,(show GT.ok M [(.int .i64 0)] (0:Int) from rfl),⟨[(.int .i64 0)],[(.bool false)],rfl,(show GT.ok M [(.int .i64 0)] (0:Int) from rfl),(show GT.ok M [(.bool false)] (false:Bool) from rfl)⟩⟩⟩⟩
theorem si (M:bZ):GT.ok M (#[(.int .i64 0),(.slice none 0 0),(.slice none 0 0)]:Array Value).toList (⟨0,[],[]⟩:aD):=⟨[(.int .i64 0)],[(.slice none 0 0),(.slice none 0 0)],rfl,(show GT.ok M [(.int .i64 0)] (0:Int) from rfl),⟨[(.slice none 0 0)],[(.slice none 0 0)],rfl,(show GT.ok M [(.slice none 0 0)] ([]: (List aA)) from ⟨_,rfl,none,0,0,rfl,rfl,Nat.le_refl _,by simp [maxLen],fun _ _ h=>by simp at h⟩),(show GT.ok M [(.slice none 0 0)] ([]: (List aC)) from ⟨_,rfl,none,0,0,rfl,rfl,Nat.le_refl _,by simp [maxLen],fun _ _ h=>by simp at h⟩)⟩⟩
theorem po (M:bZ):GT.ok M (#[(.int .i64 0),(.int .i64 0),(.slice none 0 0)]:Array Value).toList (⟨0,0,[]⟩:aA):=⟨[(.int .i64 0)],[(.int .i64 0),(.slice none 0 0)],rfl,(show GT.ok M [(.int .i64 0)] (0:Int) from rfl),⟨[(.int .i64 0)],[(.slice none 0 0)],rfl,(show GT.ok M [(.int .i64 0)] (0:Int) from rfl),(show GT.ok M [(.slice none 0 0)] ([]: (List Int)) from ⟨_,rfl,none,0,0,rfl,rfl,Nat.le_refl _,by simp [maxLen],fun _ _ h=>by simp at h⟩)⟩⟩
theorem CQ (M:bZ):GT.ok M (#[(.string ⟨#[]⟩),(.string ⟨#[]⟩)]:Array Value).toList (⟨⟨[]⟩,⟨[]⟩⟩:fC):=⟨[(.string ⟨#[]⟩)],[(.string ⟨#[]⟩)],rfl,(show GT.ok M [(.string ⟨#[]⟩)] (⟨[]⟩:bS) from rfl),(show GT.ok M [(.string ⟨#[]⟩)] (⟨[]⟩:bS) from rfl)⟩
theorem zQ (M:bZ):GT.ok M (#[(.bool false),(.int .i64 0)]:Array Value).toList (⟨false,0⟩:gk):=⟨[(.bool false)],[(.int .i64 0)],rfl,(show GT.ok M [(.bool false)] (false:Bool) from rfl),(show GT.ok M [(.int .i64 0)] (0:Int) from rfl)⟩
structure aX where
  jR: (List Int)
  aT: (List Int)
  eY:RV
  deriving Inhabited
instance instGTGroup_r2:GT aX:=GT.via (fun x=>(x.jR,x.aT,x.eY))
theorem tz:Fd 2 (fun x:aX=>x.eY):=fun M cs x h=>(Fd.snd (α:=(List Int)) (β:=(List Int)×RV) (Fd.snd (α:=(List Int)) (β:=RV) Fd.self rfl) rfl) M cs (x.jR,x.aT,x.eY) h
theorem tA:Fs 2 RV (fun(x:aX) y=>{x with eY:=y}):=fun M cs ds x y h h2=>(Fs.snd (α:=(List Int)) (β:=(List Int)×RV) (Fs.snd (α:=(List Int)) (β:=RV) Fs.self rfl) rfl) M cs ds (x.jR,x.aT,x.eY) y h h2
def aV:XT aX bT:=⟨fun u x=>u.jR=x.jR∧u.aT=x.aT,fun M h u x=>(u.jR=x.jR∧u.aT=x.aT)∧oy 94 M h u.eY.v x.eY,fun{M M' h u x} hk hh=>⟨hh.1,(own 94 u.eY.v x.eY).mono hk hh.2⟩,fun h=>h.1⟩
theorem mR:XO aV 94 2 (fun u=>u.eY) (fun u r=>{u with eY:=r}) (fun x=>x.eY) (fun x y=>{x with eY:=y}):=⟨tz,tA,by decide,fun h=>h.2,fun hr ho=>⟨hr,ho⟩⟩
theorem uF (M h:bZ) (u:aX) (x:bT) (cs:List Value) (hd: ∀b o,h b=some o→M b=none) (hx:aV.ok M h u x) (hc:GT.ok M cs u):GT.ok (lX M h) cs x:=by
  obtain⟨⟨e0,e1⟩,ho⟩:=hx
  obtain⟨c0,d0,hd0,a0,c1,d1,hd1,a1,a2⟩:=hc
  exact⟨c0,d0,hd0,GT.mono (nu M h) (show GT.ok M c0 x.jR from e0▸(show GT.ok M c0 u.jR from a0)),⟨c1,d1,hd1,GT.mono (nu M h) (show GT.ok M c1 x.aT from e1▸(show GT.ok M c1 u.aT from a1)),⟨u.eY.v,a2,oy.sl hd ho⟩⟩⟩
theorem uG:jP Tryz.prog 27 true 4:=⟨fun _=>by kernel_rfl,fun _=>by kernel_rfl⟩
theorem qu:j3 Tryz.prog 27 0 0:=⟨fun _ _=>by kernel_rfl⟩
theorem yw:jP Tryz.prog 22 false 1:=⟨fun _=>by kernel_rfl,fun _=>by kernel_rfl⟩
theorem tB:Tryz.prog.underlying 22=some (.slice 23):=by kernel_rfl
theorem zR:j3 Tryz.prog 27 1 1:=⟨fun _ _=>by kernel_rfl⟩
theorem qw:jP Tryz.prog 23 false 1:=⟨fun _=>by kernel_rfl,fun _=>by kernel_rfl⟩
theorem lj:Tryz.prog.underlying 23=some (.slice 61):=by kernel_rfl
theorem uH:rj Tryz.prog 22 23 1:=⟨by kernel_rfl,fun _=>by kernel_rfl⟩
theorem iE:rj Tryz.prog 23 61 4:=⟨by kernel_rfl,fun _=>by kernel_rfl⟩
theorem eM:jP Tryz.prog 61 true 4:=⟨fun _=>by kernel_rfl,fun _=>by kernel_rfl⟩
theorem kP:wV Tryz.prog 61 4:=⟨⟨(.agg #[(.int .i64 0),(.int .i64 0),(.int .i64 0),(.int .i64 0)]),fun _=>by kernel_rfl,rfl⟩,fun _=>by kernel_rfl⟩
theorem f0:j3 Tryz.prog 61 0 0:=⟨fun _ _=>by kernel_rfl⟩
theorem bX:jP Tryz.prog 3 false 1:=⟨fun _=>by kernel_rfl,fun _=>by kernel_rfl⟩
theorem D6:fR Tryz.prog 76:=⟨fun _ _=>aH Tryz.func76 (by kernel_rfl) rfl⟩
theorem yx:fR Tryz.prog 58:=⟨fun _ _=>aH Tryz.func58 (by kernel_rfl) rfl⟩
theorem gM:j3 Tryz.prog 61 1 1:=⟨fun _ _=>by kernel_rfl⟩
theorem gN:j3 Tryz.prog 61 2 2:=⟨fun _ _=>by kernel_rfl⟩
theorem jU:j3 Tryz.prog 61 3 3:=⟨fun _ _=>by kernel_rfl⟩
theorem CR:fR Tryz.prog 31:=⟨fun _ _=>aH Tryz.func31 (by kernel_rfl) rfl⟩
theorem CS:fR Tryz.prog 18:=⟨fun _ _=>aH Tryz.func18 (by kernel_rfl) rfl⟩
theorem mixed:Tryz.prog.follows .mixedOrders=true:=by kernel_rfl
theorem xe:oe Tryz.prog 23 61 4 32:=oe.of (z:=(.agg #[(.int .i64 0),(.int .i64 0),(.int .i64 0),(.int .i64 0)])) (by kernel_rfl) (by kernel_rfl) rfl (by decide)
theorem D7:fR Tryz.prog 32:=⟨fun _ _=>aH Tryz.func32 (by kernel_rfl) rfl⟩
theorem D8:fR Tryz.prog 34:=⟨fun _ _=>aH Tryz.func34 (by kernel_rfl) rfl⟩
theorem CT:fR Tryz.prog 33:=⟨fun _ _=>aH Tryz.func33 (by kernel_rfl) rfl⟩
theorem CU:D2 Tryz.prog 53 [(.slice none 0 0)]:=⟨(.slice none 0 0),fun _=>by kernel_rfl,rfl⟩
theorem dL:jP Tryz.prog 53 false 1:=⟨fun _=>by kernel_rfl,fun _=>by kernel_rfl⟩
theorem dM:rj Tryz.prog 53 3 1:=⟨by kernel_rfl,fun _=>by kernel_rfl⟩
theorem AW:wV Tryz.prog 3 1:=⟨⟨(.int .i64 0),fun _=>by kernel_rfl,rfl⟩,fun _=>by kernel_rfl⟩
theorem qx:oe Tryz.prog 53 3 1 8:=oe.of (z:=(.int .i64 0)) (by kernel_rfl) (by kernel_rfl) rfl (by decide)
theorem D9:fR Tryz.prog 35:=⟨fun _ _=>aH Tryz.func35 (by kernel_rfl) rfl⟩
theorem jH:Tryz.prog.underlying 53=some (.slice 3):=by kernel_rfl
theorem CV:AR Tryz.prog 3 (0:Int):=AR.of (Z:=(.int .i64 0)) (by kernel_rfl) (fun M=>rfl)
theorem Ea:fR Tryz.prog 36:=⟨fun _ _=>aH Tryz.func36 (by kernel_rfl) rfl⟩
theorem CW:fR Tryz.prog 63:=⟨fun _ _=>aH Tryz.func63 (by kernel_rfl) rfl⟩
theorem Eb:AR Tryz.prog 61 (⟨0,0,0,0⟩:aC):=AR.of (Z:=(.agg #[(.int .i64 0),(.int .i64 0),(.int .i64 0),(.int .i64 0)])) (by kernel_rfl) (fun M=>(oD M))
theorem Ec:fR Tryz.prog 38:=⟨fun _ _=>aH Tryz.func38 (by kernel_rfl) rfl⟩
theorem Ed:fR Tryz.prog 37:=⟨fun _ _=>aH Tryz.func37 (by kernel_rfl) rfl⟩
theorem Ee:fR Tryz.prog 65:=⟨fun _ _=>aH Tryz.func65 (by kernel_rfl) rfl⟩
theorem Ef:fR Tryz.prog 40:=⟨fun _ _=>aH Tryz.func40 (by kernel_rfl) rfl⟩
theorem CX:StT Tryz.prog 78 [(0,1),(1,1),(2,1)] #[(.int .i64 0),(.int .i64 0),(.slice none 0 0)]:=StT.of Tryz.underlying78 (z:=(.agg #[(.int .i64 0),(.int .i64 0),(.slice none 0 0)])) (fun _=>by kernel_rfl) (fun _=>by kernel_rfl)
theorem iP:j3 Tryz.prog 78 2 2:=⟨fun _ _=>by kernel_rfl⟩
theorem jV:j3 Tryz.prog 78 1 1:=⟨fun _ _=>by kernel_rfl⟩
theorem lk:j3 Tryz.prog 78 0 0:=⟨fun _ _=>by kernel_rfl⟩
theorem nO:Tryz.prog.underlying 58=some (.slice 78):=by kernel_rfl
theorem jA:rj Tryz.prog 58 78 3:=⟨by kernel_rfl,fun _=>by kernel_rfl⟩
theorem Eg:fR Tryz.prog 64:=⟨fun _ _=>aH Tryz.func64 (by kernel_rfl) rfl⟩
theorem uI:jP Tryz.prog 78 true 3:=⟨fun _=>by kernel_rfl,fun _=>by kernel_rfl⟩
theorem zS:wV Tryz.prog 78 3:=⟨⟨(.agg #[(.int .i64 0),(.int .i64 0),(.slice none 0 0)]),fun _=>by kernel_rfl,rfl⟩,fun _=>by kernel_rfl⟩
theorem Eh:oe Tryz.prog 58 78 3 40:=oe.of (z:=(.agg #[(.int .i64 0),(.int .i64 0),(.slice none 0 0)])) (by kernel_rfl) (by kernel_rfl) rfl (by decide)
theorem CY:fR Tryz.prog 39:=⟨fun _ _=>aH Tryz.func39 (by kernel_rfl) rfl⟩
theorem yy:fR Tryz.prog 19:=⟨fun _ _=>aH Tryz.func19 (by kernel_rfl) rfl⟩
theorem yz:StT Tryz.prog 61 [(0,1),(1,1),(2,1),(3,1)] #[(.int .i64 0),(.int .i64 0),(.int .i64 0),(.int .i64 0)]:=StT.of Tryz.underlying61 (z:=(.agg #[(.int .i64 0),(.int .i64 0),(.int .i64 0),(.int .i64 0)])) (fun _=>by kernel_rfl) (fun _=>by kernel_rfl)
theorem zT:fR Tryz.prog 12:=⟨fun _ _=>aH Tryz.func12 (by kernel_rfl) rfl⟩
theorem CZ:Tryz.prog.underlying 3=some (.int .i64):=by kernel_rfl
theorem zU:CG Tryz.prog 61 aC:=⟨fun M cs ds a b w ha hb=>by
  obtain⟨_,_,rfl,rfl,⟨_,_,rfl,rfl,⟨_,_,rfl,rfl,rfl⟩⟩⟩:=ha
  obtain⟨_,_,rfl,rfl,⟨_,_,rfl,rfl,⟨_,_,rfl,rfl,rfl⟩⟩⟩:=hb
  refine(ql (d:=9999) Tryz.underlying61 (by kernel_rfl) (A3.cons (by decide) (iS bX rfl _) (iS bX rfl _) (ko CZ _ _ w) (A3.cons (by decide) (iS bX rfl _) (iS bX rfl _) (ko CZ _ _ w) (A3.cons (by decide) (iS bX rfl _) (iS bX rfl _) (ko CZ _ _ w) (A3.cons (by decide) (iS bX rfl _) (iS bX rfl _) (ko CZ _ _ w) A3.nil))))).trans ?_
  congr 1
  cases a;cases b
  rw [Bool.eq_iff_iff]
  simp,by kernel_rfl⟩
theorem Ei:fR Tryz.prog 30:=⟨fun _ _=>aH Tryz.func30 (by kernel_rfl) rfl⟩
theorem B9:fR Tryz.prog 17:=⟨fun _ _=>aH Tryz.func17 (by kernel_rfl) rfl⟩
theorem ll:j3 Tryz.prog 27 2 2:=⟨fun _ _=>by kernel_rfl⟩
theorem tC:jP Tryz.prog 24 false 1:=⟨fun _=>by kernel_rfl,fun _=>by kernel_rfl⟩
theorem uJ:Tryz.prog.underlying 24=some (.slice 65):=by kernel_rfl
theorem vY:rj Tryz.prog 24 65 6:=⟨by kernel_rfl,fun _=>by kernel_rfl⟩
theorem kr:jP Tryz.prog 65 true 6:=⟨fun _=>by kernel_rfl,fun _=>by kernel_rfl⟩
theorem yA:wV Tryz.prog 65 6:=⟨⟨(.agg #[(.int .i64 0),(.int .i64 0),(.int .i64 0),(.int .i64 0),(.int .i64 0),(.bool false)]),fun _=>by kernel_rfl,rfl⟩,fun _=>by kernel_rfl⟩
theorem sj:j3 Tryz.prog 65 1 2:=⟨fun _ _=>by kernel_rfl⟩
theorem zV:fR Tryz.prog 16:=⟨fun _ _=>aH Tryz.func16 (by kernel_rfl) rfl⟩
theorem xf:j3 Tryz.prog 65 0 0:=⟨fun _ _=>by kernel_rfl⟩
theorem yB:jP Tryz.prog 36 true 2:=⟨fun _=>by kernel_rfl,fun _=>by kernel_rfl⟩
theorem uK:j3 Tryz.prog 36 0 0:=⟨fun _ _=>by kernel_rfl⟩
theorem uL:j3 Tryz.prog 36 1 1:=⟨fun _ _=>by kernel_rfl⟩
theorem C0:fR Tryz.prog 28:=⟨fun _ _=>aH Tryz.func28 (by kernel_rfl) rfl⟩
theorem yC:fR Tryz.prog 24:=⟨fun _ _=>aH Tryz.func24 (by kernel_rfl) rfl⟩
theorem Ej:fR Tryz.prog 59:=⟨fun _ _=>aH Tryz.func59 (by kernel_rfl) rfl⟩
theorem Ek:fR Tryz.prog 29:=⟨fun _ _=>aH Tryz.func29 (by kernel_rfl) rfl⟩
theorem C1:fR Tryz.prog 13:=⟨fun _ _=>aH Tryz.func13 (by kernel_rfl) rfl⟩
theorem oE:j3 Tryz.prog 65 2 3:=⟨fun _ _=>by kernel_rfl⟩
theorem qy:j3 Tryz.prog 65 3 4:=⟨fun _ _=>by kernel_rfl⟩
theorem El:fR Tryz.prog 21:=⟨fun _ _=>aH Tryz.func21 (by kernel_rfl) rfl⟩
theorem uM:j3 Tryz.prog 27 3 3:=⟨fun _ _=>by kernel_rfl⟩
theorem Bh:jP Tryz.prog 25 false 1:=⟨fun _=>by kernel_rfl,fun _=>by kernel_rfl⟩
theorem Ca:Tryz.prog.underlying 25=some (.slice 90):=by kernel_rfl
theorem Cb:rj Tryz.prog 25 90 5:=⟨by kernel_rfl,fun _=>by kernel_rfl⟩
theorem vZ:jP Tryz.prog 90 true 5:=⟨fun _=>by kernel_rfl,fun _=>by kernel_rfl⟩
theorem C2:wV Tryz.prog 90 5:=⟨⟨(.agg #[(.string ⟨#[]⟩),(.string ⟨#[]⟩),(.int .i64 0),(.int .i64 0),(.int .i64 0)]),fun _=>by kernel_rfl,rfl⟩,fun _=>by kernel_rfl⟩
theorem zW:j3 Tryz.prog 90 0 0:=⟨fun _ _=>by kernel_rfl⟩
theorem zX:jP Tryz.prog 9 false 1:=⟨fun _=>by kernel_rfl,fun _=>by kernel_rfl⟩
theorem v5:Tryz.prog.underlying 9=some (.string):=by kernel_rfl
theorem Em (a:bS) (b:Int) (w:World): (callFunc 121 [(str a),(.int .u8 b)].toArray).run Tryz.prog w = .ok (.value (vi ((Lib.countByte a.bM (Int.toNat b).toUInt8:Nat):Int))) w:=rZ Tryz.func121 (by kernel_rfl) (by kernel_rfl) (by kernel_rfl) (e:=Extern.BytealgCount.count) (by kernel_rfl) (Lib.run_countString _ _ w)
theorem En (a:bS) (b:Int) (w:World): (callFunc 115 [(str a),(.int .u8 b)].toArray).run Tryz.prog w = .ok (.value (vi (Lib.indexByte a.bM (Int.toNat b).toUInt8))) w:=rZ Tryz.func115 (by kernel_rfl) (by kernel_rfl) (by kernel_rfl) (e:=Extern.BytealgIndexByte.indexByte) (by kernel_rfl) (Lib.run_indexByteString _ _ w)
theorem C3:fR Tryz.prog 98:=⟨fun _ _=>aH Tryz.func98 (by kernel_rfl) rfl⟩
theorem C4:fR Tryz.prog 122:=⟨fun _ _=>aH Tryz.func122 (by kernel_rfl) rfl⟩
theorem BI:fR Tryz.prog 114:=⟨fun _ _=>aH Tryz.func114 (by kernel_rfl) rfl⟩
theorem C5:fR Tryz.prog 113:=⟨fun _ _=>aH Tryz.func113 (by kernel_rfl) rfl⟩
theorem C6:oe Tryz.prog 123 9 1 16:=oe.of (z:=(.string ⟨#[]⟩)) (by kernel_rfl) (by kernel_rfl) rfl (by decide)
theorem FE:AR Tryz.prog 9 (⟨[]⟩:bS):=AR.of (Z:=(.string ⟨#[]⟩)) (by kernel_rfl) (fun M=>rfl)
theorem xT:rj Tryz.prog 123 9 1:=⟨by kernel_rfl,fun _=>by kernel_rfl⟩
theorem Eo:fR Tryz.prog 97:=⟨fun _ _=>aH Tryz.func97 (by kernel_rfl) rfl⟩
theorem Ep:fR Tryz.prog 67:=⟨fun _ _=>aH Tryz.func67 (by kernel_rfl) rfl⟩
theorem C7:Tryz.prog.underlying 123=some (.slice 9):=by kernel_rfl
theorem Er:fR Tryz.prog 96:=⟨fun _ _=>aH Tryz.func96 (by kernel_rfl) rfl⟩
theorem Es:fR Tryz.prog 69:=⟨fun _ _=>aH Tryz.func69 (by kernel_rfl) rfl⟩
theorem C8:fR Tryz.prog 43:=⟨fun _ _=>aH Tryz.func43 (by kernel_rfl) rfl⟩
theorem Et:fR Tryz.prog 68:=⟨fun _ _=>aH Tryz.func68 (by kernel_rfl) rfl⟩
theorem Eu:fR Tryz.prog 66:=⟨fun _ _=>aH Tryz.func66 (by kernel_rfl) rfl⟩
theorem Ev:fR Tryz.prog 42:=⟨fun _ _=>aH Tryz.func42 (by kernel_rfl) rfl⟩
theorem zY:j3 Tryz.prog 90 1 1:=⟨fun _ _=>by kernel_rfl⟩
theorem uN:j3 Tryz.prog 90 2 2:=⟨fun _ _=>by kernel_rfl⟩
theorem xg:j3 Tryz.prog 90 3 3:=⟨fun _ _=>by kernel_rfl⟩
theorem C9:wV Tryz.prog 94 2:=⟨⟨(.agg #[(.string ⟨#[]⟩),(.string ⟨#[]⟩)]),fun _=>by kernel_rfl,rfl⟩,fun _=>by kernel_rfl⟩
theorem Ew:StT Tryz.prog 94 [(0,1),(1,1)] #[(.string ⟨#[]⟩),(.string ⟨#[]⟩)]:=StT.of Tryz.underlying94 (z:=(.agg #[(.string ⟨#[]⟩),(.string ⟨#[]⟩)])) (fun _=>by kernel_rfl) (fun _=>by kernel_rfl)
theorem Da:jP Tryz.prog 94 true 2:=⟨fun _=>by kernel_rfl,fun _=>by kernel_rfl⟩
theorem Cc:fR Tryz.prog 45:=⟨fun _ _=>aH Tryz.func45 (by kernel_rfl) rfl⟩
theorem zZ:j3 Tryz.prog 94 0 0:=⟨fun _ _=>by kernel_rfl⟩
theorem zG (a:bS) (b:bS) (w:World): (callFunc 116 [(str a),(str b)].toArray).run Tryz.prog w = .ok (.value (vi (Lib.compareBytes a.bM b.bM))) w:=rZ Tryz.func116 (by kernel_rfl) (by kernel_rfl) (by kernel_rfl) (e:=Extern.BytealgCompare.compare) (by kernel_rfl) (Lib.run_compareString _ _ w)
theorem Ex:fR Tryz.prog 99:=⟨fun _ _=>aH Tryz.func99 (by kernel_rfl) rfl⟩
theorem Db:fR Tryz.prog 70:=⟨fun _ _=>aH Tryz.func70 (by kernel_rfl) rfl⟩
theorem z5:j3 Tryz.prog 94 1 1:=⟨fun _ _=>by kernel_rfl⟩
theorem Ey:fR Tryz.prog 44:=⟨fun _ _=>aH Tryz.func44 (by kernel_rfl) rfl⟩
theorem Ez:fR Tryz.prog 22:=⟨fun _ _=>aH Tryz.func22 (by kernel_rfl) rfl⟩
theorem Dc:fR Tryz.prog 46:=⟨fun _ _=>aH Tryz.func46 (by kernel_rfl) rfl⟩
theorem EA:fR Tryz.prog 23:=⟨fun _ _=>aH Tryz.func23 (by kernel_rfl) rfl⟩
theorem EB:StT Tryz.prog 56 [(0,4),(4,1),(5,1),(6,1),(7,1),(8,1),(9,1),(10,1),(11,1)] #[(.slice none 0 0),(.slice none 0 0),(.slice none 0 0),(.slice none 0 0),(.slice none 0 0),(.slice none 0 0),(.slice none 0 0),(.slice none 0 0),(.slice none 0 0),(.slice none 0 0),(.slice none 0 0),(.slice none 0 0)]:=StT.of Tryz.underlying56 (z:=(.agg #[(.slice none 0 0),(.slice none 0 0),(.slice none 0 0),(.slice none 0 0),(.slice none 0 0),(.slice none 0 0),(.slice none 0 0),(.slice none 0 0),(.slice none 0 0),(.slice none 0 0),(.slice none 0 0),(.slice none 0 0)])) (fun _=>by kernel_rfl) (fun _=>by kernel_rfl)
theorem mS:j3 Tryz.prog 56 0 0:=⟨fun _ _=>by kernel_rfl⟩
theorem Bi:fR Tryz.prog 47:=⟨fun _ _=>aH Tryz.func47 (by kernel_rfl) rfl⟩
theorem yD:rj Tryz.prog 49 58 1:=⟨by kernel_rfl,fun _=>by kernel_rfl⟩
theorem Cd:wV Tryz.prog 58 1:=⟨⟨(.slice none 0 0),fun _=>by kernel_rfl,rfl⟩,fun _=>by kernel_rfl⟩
theorem Ce:Tryz.prog.underlying 49=some (.slice 58):=by kernel_rfl
theorem Bj:jP Tryz.prog 58 false 1:=⟨fun _=>by kernel_rfl,fun _=>by kernel_rfl⟩
theorem BJ:fR Tryz.prog 100:=⟨fun _ _=>aH Tryz.func100 (by kernel_rfl) rfl⟩
theorem FF:Tryz.prog.underlying 4=some (.bool):=by kernel_rfl
theorem Dd:fR Tryz.prog 101:=⟨fun _ _=>aH Tryz.func101 (by kernel_rfl) rfl⟩
theorem EC:fR Tryz.prog 72:=⟨fun _ _=>aH Tryz.func72 (by kernel_rfl) rfl⟩
theorem ED:fR Tryz.prog 71:=⟨fun _ _=>aH Tryz.func71 (by kernel_rfl) rfl⟩
theorem EE:fR Tryz.prog 48:=⟨fun _ _=>aH Tryz.func48 (by kernel_rfl) rfl⟩
theorem De:fR Tryz.prog 41:=⟨fun _ _=>aH Tryz.func41 (by kernel_rfl) rfl⟩
theorem xh:j3 Tryz.prog 56 1 4:=⟨fun _ _=>by kernel_rfl⟩
theorem Cf:jP Tryz.prog 49 false 1:=⟨fun _=>by kernel_rfl,fun _=>by kernel_rfl⟩
theorem Df:oe Tryz.prog 49 58 1 24:=oe.of (z:=(.slice none 0 0)) (by kernel_rfl) (by kernel_rfl) rfl (by decide)
theorem Cg:fR Tryz.prog 73:=⟨fun _ _=>aH Tryz.func73 (by kernel_rfl) rfl⟩
theorem v7:yp Tryz.prog 130 3 3 Int Int (0:Int):=⟨by kernel_rfl,(tv.int CZ),A7 (Z:=(.int .i64 0)) (by kernel_rfl) (fun M=>⟨_,rfl,rfl⟩)⟩
theorem Dg:wV Tryz.prog 23 1:=⟨⟨(.slice none 0 0),fun _=>by kernel_rfl,rfl⟩,fun _=>by kernel_rfl⟩
theorem Dh:oe Tryz.prog 22 23 1 24:=oe.of (z:=(.slice none 0 0)) (by kernel_rfl) (by kernel_rfl) rfl (by decide)
theorem EF:fR Tryz.prog 49:=⟨fun _ _=>aH Tryz.func49 (by kernel_rfl) rfl⟩
theorem l9:j3 Tryz.prog 56 2 5:=⟨fun _ _=>by kernel_rfl⟩
theorem uO:jP Tryz.prog 50 false 1:=⟨fun _=>by kernel_rfl,fun _=>by kernel_rfl⟩
theorem EG:StT Tryz.prog 67 [(0,1),(1,1),(2,1)] #[(.int .i64 0),(.slice none 0 0),(.slice none 0 0)]:=StT.of Tryz.underlying67 (z:=(.agg #[(.int .i64 0),(.slice none 0 0),(.slice none 0 0)])) (fun _=>by kernel_rfl) (fun _=>by kernel_rfl)
theorem z6:rj Tryz.prog 50 67 3:=⟨by kernel_rfl,fun _=>by kernel_rfl⟩
theorem Bl:wV Tryz.prog 67 3:=⟨⟨(.agg #[(.int .i64 0),(.slice none 0 0),(.slice none 0 0)]),fun _=>by kernel_rfl,rfl⟩,fun _=>by kernel_rfl⟩
theorem EH:oe Tryz.prog 50 67 3 56:=oe.of (z:=(.agg #[(.int .i64 0),(.slice none 0 0),(.slice none 0 0)])) (by kernel_rfl) (by kernel_rfl) rfl (by decide)
theorem yE:Tryz.prog.underlying 50=some (.slice 67):=by kernel_rfl
theorem EI:fR Tryz.prog 25:=⟨fun _ _=>aH Tryz.func25 (by kernel_rfl) rfl⟩
theorem EJ:fR Tryz.prog 52:=⟨fun _ _=>aH Tryz.func52 (by kernel_rfl) rfl⟩
theorem yF:jP Tryz.prog 67 true 3:=⟨fun _=>by kernel_rfl,fun _=>by kernel_rfl⟩
theorem sm:j3 Tryz.prog 65 4 5:=⟨fun _ _=>by kernel_rfl⟩
theorem Cz:jP Tryz.prog 4 false 1:=⟨fun _=>by kernel_rfl,fun _=>by kernel_rfl⟩
theorem xk:j3 Tryz.prog 67 0 0:=⟨fun _ _=>by kernel_rfl⟩
theorem uP:j3 Tryz.prog 67 2 2:=⟨fun _ _=>by kernel_rfl⟩
theorem EK:fR Tryz.prog 51:=⟨fun _ _=>aH Tryz.func51 (by kernel_rfl) rfl⟩
theorem Di:fR Tryz.prog 50:=⟨fun _ _=>aH Tryz.func50 (by kernel_rfl) rfl⟩
theorem xl:j3 Tryz.prog 56 3 6:=⟨fun _ _=>by kernel_rfl⟩
theorem Ch:jP Tryz.prog 51 false 1:=⟨fun _=>by kernel_rfl,fun _=>by kernel_rfl⟩
theorem yG:rj Tryz.prog 51 53 1:=⟨by kernel_rfl,fun _=>by kernel_rfl⟩
theorem Dj:wV Tryz.prog 53 1:=⟨⟨(.slice none 0 0),fun _=>by kernel_rfl,rfl⟩,fun _=>by kernel_rfl⟩
theorem Dk:oe Tryz.prog 51 53 1 24:=oe.of (z:=(.slice none 0 0)) (by kernel_rfl) (by kernel_rfl) rfl (by decide)
theorem EL:fR Tryz.prog 26:=⟨fun _ _=>aH Tryz.func26 (by kernel_rfl) rfl⟩
theorem Dl:StT Tryz.prog 133 [(0,1)] #[(.slice none 0 0)]:=StT.of Tryz.underlying133 (z:=(.agg #[(.slice none 0 0)])) (fun _=>by kernel_rfl) (fun _=>by kernel_rfl)
theorem kd:j3 Tryz.prog 133 0 0:=⟨fun _ _=>by kernel_rfl⟩
theorem EM:fR Tryz.prog 53:=⟨fun _ _=>aH Tryz.func53 (by kernel_rfl) rfl⟩
theorem Ci:Tryz.prog.underlying 51=some (.slice 53):=by kernel_rfl
theorem Cj:fR Tryz.prog 74:=⟨fun _ _=>aH Tryz.func74 (by kernel_rfl) rfl⟩
theorem EN:fR Tryz.prog 54:=⟨fun _ _=>aH Tryz.func54 (by kernel_rfl) rfl⟩
theorem xm:j3 Tryz.prog 56 5 8:=⟨fun _ _=>by kernel_rfl⟩
theorem uQ:j3 Tryz.prog 56 6 9:=⟨fun _ _=>by kernel_rfl⟩
theorem EO:fR Tryz.prog 55:=⟨fun _ _=>aH Tryz.func55 (by kernel_rfl) rfl⟩
theorem Dm:D2 Tryz.prog 108 [(.slice none 0 0),(.slice none 0 0),(.slice none 0 0)]:=⟨(.agg #[(.slice none 0 0),(.slice none 0 0),(.slice none 0 0)]),fun _=>by kernel_rfl,rfl⟩
theorem qz:j3 Tryz.prog 56 4 7:=⟨fun _ _=>by kernel_rfl⟩
theorem yH:jP Tryz.prog 52 false 1:=⟨fun _=>by kernel_rfl,fun _=>by kernel_rfl⟩
theorem Dn:Tryz.prog.underlying 52=some (.slice 108):=by kernel_rfl
theorem uR:j3 Tryz.prog 108 0 0:=⟨fun _ _=>by kernel_rfl⟩
theorem uS:j3 Tryz.prog 108 1 1:=⟨fun _ _=>by kernel_rfl⟩
theorem Dp:jP Tryz.prog 108 true 3:=⟨fun _=>by kernel_rfl,fun _=>by kernel_rfl⟩
theorem Ck:rj Tryz.prog 52 108 3:=⟨by kernel_rfl,fun _=>by kernel_rfl⟩
theorem Dq:wV Tryz.prog 108 3:=⟨⟨(.agg #[(.slice none 0 0),(.slice none 0 0),(.slice none 0 0)]),fun _=>by kernel_rfl,rfl⟩,fun _=>by kernel_rfl⟩
theorem EP:oe Tryz.prog 52 108 3 72:=oe.of (z:=(.agg #[(.slice none 0 0),(.slice none 0 0),(.slice none 0 0)])) (by kernel_rfl) (by kernel_rfl) rfl (by decide)
theorem z7:wV Tryz.prog 110 2:=⟨⟨(.agg #[(.bool false),(.int .i64 0)]),fun _=>by kernel_rfl,rfl⟩,fun _=>by kernel_rfl⟩
theorem Dr:fR Tryz.prog 102:=⟨fun _ _=>aH Tryz.func102 (by kernel_rfl) rfl⟩
theorem Ds:fR Tryz.prog 75:=⟨fun _ _=>aH Tryz.func75 (by kernel_rfl) rfl⟩
theorem z8:StT Tryz.prog 110 [(0,1),(1,1)] #[(.bool false),(.int .i64 0)]:=StT.of Tryz.underlying110 (z:=(.agg #[(.bool false),(.int .i64 0)])) (fun _=>by kernel_rfl) (fun _=>by kernel_rfl)
theorem pq:jP Tryz.prog 110 true 2:=⟨fun _=>by kernel_rfl,fun _=>by kernel_rfl⟩
theorem ER:fR Tryz.prog 56:=⟨fun _ _=>aH Tryz.func56 (by kernel_rfl) rfl⟩
theorem Bm:j3 Tryz.prog 110 0 0:=⟨fun _ _=>by kernel_rfl⟩
theorem xU:j3 Tryz.prog 110 1 1:=⟨fun _ _=>by kernel_rfl⟩
theorem ES:fR Tryz.prog 57:=⟨fun _ _=>aH Tryz.func57 (by kernel_rfl) rfl⟩
theorem xV:j3 Tryz.prog 108 2 2:=⟨fun _ _=>by kernel_rfl⟩
theorem BK:jP Tryz.prog 106 false 1:=⟨fun _=>by kernel_rfl,fun _=>by kernel_rfl⟩
theorem Dt:rj Tryz.prog 106 94 2:=⟨by kernel_rfl,fun _=>by kernel_rfl⟩
theorem Du:oe Tryz.prog 106 94 2 32:=oe.of (z:=(.agg #[(.string ⟨#[]⟩),(.string ⟨#[]⟩)])) (by kernel_rfl) (by kernel_rfl) rfl (by decide)
theorem z9:j3 Tryz.prog 56 7 10:=⟨fun _ _=>by kernel_rfl⟩
theorem Aa:j3 Tryz.prog 56 8 11:=⟨fun _ _=>by kernel_rfl⟩
theorem Dv:jP Tryz.prog 54 false 1:=⟨fun _=>by kernel_rfl,fun _=>by kernel_rfl⟩
theorem ET:rj Tryz.prog 54 110 2:=⟨by kernel_rfl,fun _=>by kernel_rfl⟩
theorem EU:oe Tryz.prog 54 110 2 16:=oe.of (z:=(.agg #[(.bool false),(.int .i64 0)])) (by kernel_rfl) (by kernel_rfl) rfl (by decide)
theorem EV:fR Tryz.prog 27:=⟨fun _ _=>aH Tryz.func27 (by kernel_rfl) rfl⟩
theorem Cl:fR Tryz.prog 11:=⟨fun _ _=>aH Tryz.func11 (by kernel_rfl) rfl⟩
theorem FG:fR Tryz.prog 4:=⟨fun _ _=>aH Tryz.func4 (by kernel_rfl) rfl⟩
theorem EW:StT Tryz.prog 65 [(0,2),(2,1),(3,1),(4,1),(5,1)] #[(.int .i64 0),(.int .i64 0),(.int .i64 0),(.int .i64 0),(.int .i64 0),(.bool false)]:=StT.of Tryz.underlying65 (z:=(.agg #[(.int .i64 0),(.int .i64 0),(.int .i64 0),(.int .i64 0),(.int .i64 0),(.bool false)])) (fun _=>by kernel_rfl) (fun _=>by kernel_rfl)
theorem EX:fR Tryz.prog 5:=⟨fun _ _=>aH Tryz.func5 (by kernel_rfl) rfl⟩
theorem Cm:j3 Tryz.prog 67 1 1:=⟨fun _ _=>by kernel_rfl⟩
theorem EY:wV Tryz.prog 36 2:=⟨⟨(.agg #[(.int .i64 0),(.int .i64 0)]),fun _=>by kernel_rfl,rfl⟩,fun _=>by kernel_rfl⟩
theorem EZ:StT Tryz.prog 36 [(0,1),(1,1)] #[(.int .i64 0),(.int .i64 0)]:=StT.of Tryz.underlying36 (z:=(.agg #[(.int .i64 0),(.int .i64 0)])) (fun _=>by kernel_rfl) (fun _=>by kernel_rfl)
theorem E0:fR Tryz.prog 14:=⟨fun _ _=>aH Tryz.func14 (by kernel_rfl) rfl⟩
theorem Dw:fR Tryz.prog 15:=⟨fun _ _=>aH Tryz.func15 (by kernel_rfl) rfl⟩
theorem E1:StT Tryz.prog 38 [(0,1),(1,2),(3,1)] #[(.int .i64 0),(.int .i64 0),(.int .i64 0),(.int .i64 0)]:=StT.of Tryz.underlying38 (z:=(.agg #[(.int .i64 0),(.int .i64 0),(.int .i64 0),(.int .i64 0)])) (fun _=>by kernel_rfl) (fun _=>by kernel_rfl)
theorem Cn:rj Tryz.prog 32 38 4:=⟨by kernel_rfl,fun _=>by kernel_rfl⟩
theorem E2:wV Tryz.prog 38 4:=⟨⟨(.agg #[(.int .i64 0),(.int .i64 0),(.int .i64 0),(.int .i64 0)]),fun _=>by kernel_rfl,rfl⟩,fun _=>by kernel_rfl⟩
theorem E3:oe Tryz.prog 32 38 4 32:=oe.of (z:=(.agg #[(.int .i64 0),(.int .i64 0),(.int .i64 0),(.int .i64 0)])) (by kernel_rfl) (by kernel_rfl) rfl (by decide)
theorem FH:fR Tryz.prog 6:=⟨fun _ _=>aH Tryz.func6 (by kernel_rfl) rfl⟩
theorem E4:Tryz.prog.underlying 32=some (.slice 38):=by kernel_rfl
theorem Co:j3 Tryz.prog 38 0 0:=⟨fun _ _=>by kernel_rfl⟩
theorem FI:fR Tryz.prog 7:=⟨fun _ _=>aH Tryz.func7 (by kernel_rfl) rfl⟩
theorem Fq:fR Tryz.prog 8:=⟨fun _ _=>aH Tryz.func8 (by kernel_rfl) rfl⟩
theorem Cp:j3 Tryz.prog 38 2 3:=⟨fun _ _=>by kernel_rfl⟩
theorem E5:fR Tryz.prog 20:=⟨fun _ _=>aH Tryz.func20 (by kernel_rfl) rfl⟩
theorem FJ:fR Tryz.prog 9:=⟨fun _ _=>aH Tryz.func9 (by kernel_rfl) rfl⟩
theorem E6:fR Tryz.prog 10:=⟨fun _ _=>aH Tryz.func10 (by kernel_rfl) rfl⟩
end Go.Gk
namespace Go.Gk
open Go Go.Proofs
def t3 (H:Type) (d:DataW H):Nat:=YtgeinabdjaknpaaGreatDoor.Rows.uptoBulk d
def DA (H:Type) (d:List (DataW H)):Nat:=YtgeinabdjaknpaaGreatDoor.Rows.uptoBulkAll d
theorem fm:UB t3 DA where
  str:=fun H b=>by simp [t3,YtgeinabdjaknpaaGreatDoor.Rows.uptoBulk]
  pos:=fun H d=>by
    unfold t3
    cases d with
    | lit l=>cases l <;> simp [YtgeinabdjaknpaaGreatDoor.Rows.uptoBulk]
    | nil=>simp [YtgeinabdjaknpaaGreatDoor.Rows.uptoBulk]
    | ptr d=>simp [YtgeinabdjaknpaaGreatDoor.Rows.uptoBulk]
    | slice elems spare=>simp [YtgeinabdjaknpaaGreatDoor.Rows.uptoBulk]
    | agg parts=>simp [YtgeinabdjaknpaaGreatDoor.Rows.uptoBulk]
    | iface t d=>simp [YtgeinabdjaknpaaGreatDoor.Rows.uptoBulk]
    | map entries=>simp [YtgeinabdjaknpaaGreatDoor.Rows.uptoBulk]
    | held h=>simp [YtgeinabdjaknpaaGreatDoor.Rows.uptoBulk]
  sl:=fun H e s=>by simp [t3,DA,YtgeinabdjaknpaaGreatDoor.Rows.uptoBulk]
  ag:=fun H l=>by simp [t3,DA,YtgeinabdjaknpaaGreatDoor.Rows.uptoBulk]
  nil:=fun H=>by simp [DA,YtgeinabdjaknpaaGreatDoor.Rows.uptoBulkAll]
  cons:=fun H x l=>by simp [t3,DA,YtgeinabdjaknpaaGreatDoor.Rows.uptoBulkAll]
theorem Ai:f9 t3 Tryz.prog 3 Int:=yJ fm (by kernel_rfl)
theorem E8:f9 t3 Tryz.prog 61 aC:=jg fm (fun(x:aC)=>(x.X0,x.Y0,x.X1,x.Y1)) (fun b=>⟨b.1,b.2.1,b.2.2.1,b.2.2.2⟩) (fun b=>rfl) Tryz.underlying61 (by kernel_rfl) (dV fm Ai rfl (by kernel_rfl) rfl (dV fm Ai rfl (by kernel_rfl) rfl (dV fm Ai rfl (by kernel_rfl) rfl (lJ fm Ai rfl (by kernel_rfl))))) (fun b=>by simp only [Bt];omega)
theorem DB:f9 t3 Tryz.prog 23 (List aC):=mb fm (e:=61) (by kernel_rfl) (by kernel_rfl) E8
theorem E9:f9 t3 Tryz.prog 22 (List (List aC)):=mb fm (e:=23) (by kernel_rfl) (by kernel_rfl) DB
theorem DC:f9 t3 Tryz.prog 36 bU:=jg fm (fun(x:bU)=>(x.X,x.Y)) (fun b=>⟨b.1,b.2⟩) (fun b=>rfl) Tryz.underlying36 (by kernel_rfl) (dV fm Ai rfl (by kernel_rfl) rfl (lJ fm Ai rfl (by kernel_rfl))) (fun b=>by simp only [Ag];omega)
theorem FK:f9 t3 Tryz.prog 4 Bool:=xq fm (by kernel_rfl)
theorem Fa:f9 t3 Tryz.prog 65 bD:=jg fm (fun(x:bD)=>(x.At,x.cD,x.bN,x.To,x.cI)) (fun b=>⟨b.1,b.2.1,b.2.2.1,b.2.2.2.1,b.2.2.2.2⟩) (fun b=>rfl) Tryz.underlying65 (by kernel_rfl) (dV fm DC rfl (by kernel_rfl) rfl (dV fm Ai rfl (by kernel_rfl) rfl (dV fm Ai rfl (by kernel_rfl) rfl (dV fm Ai rfl (by kernel_rfl) rfl (lJ fm FK rfl (by kernel_rfl)))))) (fun b=>by simp only [Bu];omega)
theorem Fb:f9 t3 Tryz.prog 24 (List bD):=mb fm (e:=65) (by kernel_rfl) (by kernel_rfl) Fa
theorem Ft:f9 t3 Tryz.prog 9 bS:=yK fm (by kernel_rfl)
theorem Fc:f9 t3 Tryz.prog 90 cT:=jg fm (fun(x:cT)=>(x.Part,x.fC,x.aU,x.At)) (fun b=>⟨b.1,b.2.1,b.2.2.1,b.2.2.2⟩) (fun b=>rfl) Tryz.underlying90 (by kernel_rfl) (dV fm Ft rfl (by kernel_rfl) rfl (dV fm Ft rfl (by kernel_rfl) rfl (dV fm Ai rfl (by kernel_rfl) rfl (lJ fm DC rfl (by kernel_rfl))))) (fun b=>by simp only [xX];omega)
theorem Fe:f9 t3 Tryz.prog 25 (List cT):=mb fm (e:=90) (by kernel_rfl) (by kernel_rfl) Fc
theorem Ff:f9 t3 Tryz.prog 27 jQ:=jg fm (fun(x:jQ)=>(x.aJ,x.bY,x.aT,x.bH)) (fun b=>⟨b.1,b.2.1,b.2.2.1,b.2.2.2⟩) (fun b=>rfl) Tryz.underlying27 (by kernel_rfl) (dV fm E9 rfl (by kernel_rfl) rfl (dV fm DB rfl (by kernel_rfl) rfl (dV fm Fb rfl (by kernel_rfl) rfl (lJ fm Fe rfl (by kernel_rfl))))) (fun b=>by simp only [Ah];omega)
end Go.Gk
namespace Go.Proofs
open Go.Shelf Go.RowKit Go.Lib Go.Sort
def Tryz.lay33_ren : Go.Shelf.Ren := ⟨fun | 6 => 33 | 15 => 61 | 14 => 60 | 28 => 85 | 29 => 86 | 20 => 77 | 21 => 78 | 22 => 79 | 23 => 80 | 24 => 81 | 25 => 82 | 26 => 83 | 27 => 84 | 46 => 103 | 47 => 104 | 48 => 105 | 49 => 106 | 50 => 107 | 57 => 117 | n => n, fun | 22 => 23 | 24 => 61 | 25 => 75 | 3 => 3 | 39 => 118 | 0 => 0 | 53 => 143 | 55 => 145 | 4 => 4 | 46 => 137 | 45 => 136 | 50 => 131 | 5 => 5 | 9 => 9 | 66 => 157 | 70 => 161 | 76 => 166 | 77 => 167 | n => n, fun | n => n⟩
theorem Tryz.lay33 : Go.Proofs.SlLaysF0.n6 Tryz.prog Tryz.lay33_ren := {
  mixed := by kernel_rfl
  f6 := ⟨Tryz.f33.name, by decide, Tryz.func33.trans (congrArg some (by kernel_rfl))⟩
  f14 := ⟨Tryz.f60.name, by decide, Tryz.func60.trans (congrArg some (by kernel_rfl))⟩
  f15 := Tryz.func61.trans (congrArg some (by kernel_rfl))
  f20 := ⟨Tryz.f77.name, by decide, Tryz.func77.trans (congrArg some (by kernel_rfl))⟩
  f21 := ⟨Tryz.f78.name, by decide, Tryz.func78.trans (congrArg some (by kernel_rfl))⟩
  f22 := ⟨Tryz.f79.name, by decide, Tryz.func79.trans (congrArg some (by kernel_rfl))⟩
  f23 := ⟨Tryz.f80.name, by decide, Tryz.func80.trans (congrArg some (by kernel_rfl))⟩
  f24 := ⟨Tryz.f81.name, by decide, Tryz.func81.trans (congrArg some (by kernel_rfl))⟩
  f25 := ⟨Tryz.f82.name, by decide, Tryz.func82.trans (congrArg some (by kernel_rfl))⟩
  f26 := ⟨Tryz.f83.name, by decide, Tryz.func83.trans (congrArg some (by kernel_rfl))⟩
  f27 := ⟨Tryz.f84.name, by decide, Tryz.func84.trans (congrArg some (by kernel_rfl))⟩
  f28 := Tryz.func85.trans (congrArg some (by kernel_rfl))
  f29 := Tryz.func86.trans (congrArg some (by kernel_rfl))
  f46 := ⟨Tryz.f103.name, by decide, Tryz.func103.trans (congrArg some (by kernel_rfl))⟩
  f47 := Tryz.func104.trans (congrArg some (by kernel_rfl))
  f48 := Tryz.func105.trans (congrArg some (by kernel_rfl))
  f49 := ⟨Tryz.f106.name, by decide, Tryz.func106.trans (congrArg some (by kernel_rfl))⟩
  f50 := ⟨Tryz.f107.name, by decide, Tryz.func107.trans (congrArg some (by kernel_rfl))⟩
  f57 := ⟨Tryz.f117.name, by decide, Tryz.func117.trans (congrArg some (by kernel_rfl))⟩
  t0 := Tryz.underlying0
  a0 := Tryz.isAgg0
  z0 := Tryz.sizeOf0
  v0 := Tryz.zeroValue0
  t3 := Tryz.underlying3
  a3 := Tryz.isAgg3
  z3 := Tryz.sizeOf3
  v3 := Tryz.zeroValue3
  t4 := Tryz.underlying4
  a4 := Tryz.isAgg4
  z4 := Tryz.sizeOf4
  v4 := Tryz.zeroValue4
  t5 := Tryz.underlying5
  a5 := Tryz.isAgg5
  z5 := Tryz.sizeOf5
  v5 := Tryz.zeroValue5
  t9 := Tryz.underlying9
  a9 := Tryz.isAgg9
  z9 := Tryz.sizeOf9
  v9 := Tryz.zeroValue9
  t22 := Tryz.underlying23
  a22 := Tryz.isAgg23
  z22 := Tryz.sizeOf23
  v22 := Tryz.zeroValue23
  t25 := Tryz.underlying75
  a25 := Tryz.isAgg75
  z25 := Tryz.sizeOf75
  v25 := Tryz.zeroValue75
  t39 := Tryz.underlying118
  a39 := Tryz.isAgg118
  z39 := Tryz.sizeOf118
  v39 := Tryz.zeroValue118
  t45 := Tryz.underlying136
  a45 := Tryz.isAgg136
  z45 := Tryz.sizeOf136
  v45 := Tryz.zeroValue136
  t46 := Tryz.underlying137
  a46 := Tryz.isAgg137
  z46 := Tryz.sizeOf137
  v46 := Tryz.zeroValue137
  t50 := Tryz.underlying131
  a50 := Tryz.isAgg131
  z50 := Tryz.sizeOf131
  v50 := Tryz.zeroValue131
  t53 := Tryz.underlying143
  a53 := Tryz.isAgg143
  z53 := Tryz.sizeOf143
  v53 := Tryz.zeroValue143
  t55 := Tryz.underlying145
  a55 := Tryz.isAgg145
  z55 := Tryz.sizeOf145
  v55 := Tryz.zeroValue145
  t66 := Tryz.underlying157
  a66 := Tryz.isAgg157
  z66 := Tryz.sizeOf157
  v66 := Tryz.zeroValue157
  t70 := Tryz.underlying161
  a70 := Tryz.isAgg161
  z70 := Tryz.sizeOf161
  v70 := Tryz.zeroValue161
  t76 := Tryz.underlying166
  a76 := Tryz.isAgg166
  z76 := Tryz.sizeOf166
  v76 := Tryz.zeroValue166
  t77 := Tryz.underlying167
  a77 := Tryz.isAgg167
  z77 := Tryz.sizeOf167
  v77 := Tryz.zeroValue167 }
def Tryz.lay35_ren : Go.Shelf.Ren := ⟨fun | 5 => 35 | 8 => 61 | 7 => 62 | 19 => 85 | 20 => 86 | 10 => 87 | 11 => 88 | 12 => 89 | 13 => 90 | 14 => 91 | 15 => 92 | 16 => 93 | 17 => 94 | 18 => 95 | 30 => 108 | 31 => 104 | 32 => 105 | 33 => 109 | 34 => 110 | 35 => 111 | 40 => 118 | n => n, fun | 23 => 53 | 25 => 3 | 3 => 3 | 32 => 118 | 22 => 53 | 0 => 0 | 44 => 143 | 46 => 145 | 4 => 4 | 36 => 137 | 35 => 136 | 41 => 131 | 5 => 5 | 9 => 9 | 53 => 157 | 57 => 161 | 63 => 166 | 64 => 167 | n => n, fun | n => n⟩
theorem Tryz.lay35 : Go.Proofs.SlLaysM.n5 Tryz.prog Tryz.lay35_ren := {
  mixed := by kernel_rfl
  f5 := ⟨Tryz.f35.name, by decide, Tryz.func35.trans (congrArg some (by kernel_rfl))⟩
  f7 := ⟨Tryz.f62.name, by decide, Tryz.func62.trans (congrArg some (by kernel_rfl))⟩
  f8 := Tryz.func61.trans (congrArg some (by kernel_rfl))
  f10 := ⟨Tryz.f87.name, by decide, Tryz.func87.trans (congrArg some (by kernel_rfl))⟩
  f11 := ⟨Tryz.f88.name, by decide, Tryz.func88.trans (congrArg some (by kernel_rfl))⟩
  f12 := ⟨Tryz.f89.name, by decide, Tryz.func89.trans (congrArg some (by kernel_rfl))⟩
  f13 := ⟨Tryz.f90.name, by decide, Tryz.func90.trans (congrArg some (by kernel_rfl))⟩
  f14 := ⟨Tryz.f91.name, by decide, Tryz.func91.trans (congrArg some (by kernel_rfl))⟩
  f15 := ⟨Tryz.f92.name, by decide, Tryz.func92.trans (congrArg some (by kernel_rfl))⟩
  f16 := ⟨Tryz.f93.name, by decide, Tryz.func93.trans (congrArg some (by kernel_rfl))⟩
  f17 := ⟨Tryz.f94.name, by decide, Tryz.func94.trans (congrArg some (by kernel_rfl))⟩
  f18 := ⟨Tryz.f95.name, by decide, Tryz.func95.trans (congrArg some (by kernel_rfl))⟩
  f19 := Tryz.func85.trans (congrArg some (by kernel_rfl))
  f20 := Tryz.func86.trans (congrArg some (by kernel_rfl))
  f30 := ⟨Tryz.f108.name, by decide, Tryz.func108.trans (congrArg some (by kernel_rfl))⟩
  f31 := Tryz.func104.trans (congrArg some (by kernel_rfl))
  f32 := Tryz.func105.trans (congrArg some (by kernel_rfl))
  f33 := ⟨Tryz.f109.name, by decide, Tryz.func109.trans (congrArg some (by kernel_rfl))⟩
  f34 := ⟨Tryz.f110.name, by decide, Tryz.func110.trans (congrArg some (by kernel_rfl))⟩
  f35 := ⟨Tryz.f111.name, by decide, Tryz.func111.trans (congrArg some (by kernel_rfl))⟩
  f40 := ⟨Tryz.f118.name, by decide, Tryz.func118.trans (congrArg some (by kernel_rfl))⟩
  t0 := Tryz.underlying0
  a0 := Tryz.isAgg0
  z0 := Tryz.sizeOf0
  v0 := Tryz.zeroValue0
  t3 := Tryz.underlying3
  a3 := Tryz.isAgg3
  z3 := Tryz.sizeOf3
  v3 := Tryz.zeroValue3
  t4 := Tryz.underlying4
  a4 := Tryz.isAgg4
  z4 := Tryz.sizeOf4
  v4 := Tryz.zeroValue4
  t5 := Tryz.underlying5
  a5 := Tryz.isAgg5
  z5 := Tryz.sizeOf5
  v5 := Tryz.zeroValue5
  t9 := Tryz.underlying9
  a9 := Tryz.isAgg9
  z9 := Tryz.sizeOf9
  v9 := Tryz.zeroValue9
  t22 := Tryz.underlying53
  a22 := Tryz.isAgg53
  z22 := Tryz.sizeOf53
  v22 := Tryz.zeroValue53
  t23 := Tryz.underlying53
  a23 := Tryz.isAgg53
  z23 := Tryz.sizeOf53
  v23 := Tryz.zeroValue53
  t25 := Tryz.underlying3
  a25 := Tryz.isAgg3
  z25 := Tryz.sizeOf3
  v25 := Tryz.zeroValue3
  t32 := Tryz.underlying118
  a32 := Tryz.isAgg118
  z32 := Tryz.sizeOf118
  v32 := Tryz.zeroValue118
  t35 := Tryz.underlying136
  a35 := Tryz.isAgg136
  z35 := Tryz.sizeOf136
  v35 := Tryz.zeroValue136
  t36 := Tryz.underlying137
  a36 := Tryz.isAgg137
  z36 := Tryz.sizeOf137
  v36 := Tryz.zeroValue137
  t41 := Tryz.underlying131
  a41 := Tryz.isAgg131
  z41 := Tryz.sizeOf131
  v41 := Tryz.zeroValue131
  t44 := Tryz.underlying143
  a44 := Tryz.isAgg143
  z44 := Tryz.sizeOf143
  v44 := Tryz.zeroValue143
  t46 := Tryz.underlying145
  a46 := Tryz.isAgg145
  z46 := Tryz.sizeOf145
  v46 := Tryz.zeroValue145
  t53 := Tryz.underlying157
  a53 := Tryz.isAgg157
  z53 := Tryz.sizeOf157
  v53 := Tryz.zeroValue157
  t57 := Tryz.underlying161
  a57 := Tryz.isAgg161
  z57 := Tryz.sizeOf161
  v57 := Tryz.zeroValue161
  t63 := Tryz.underlying166
  a63 := Tryz.isAgg166
  z63 := Tryz.sizeOf166
  v63 := Tryz.zeroValue166
  t64 := Tryz.underlying167
  a64 := Tryz.isAgg167
  z64 := Tryz.sizeOf167
  v64 := Tryz.zeroValue167 }
end Go.Proofs
namespace Go.Gk
open Go Go.Proofs
def su (E:World) (Γ:List HP) (res:Bool) (v:Value) (w:World):Prop:=v= (vb res)∧Holds E w Γ
theorem rC (N:Nat) {E w:World} {Γ:List HP} {p0:Int} {p1:Int} {p2:Int} {res:Bool} (hw:Holds E w Γ) (hb:l4 N p0 p1 p2=some res):
    Calls Tryz.prog 76 [(vi p0),(vi p1),(vi p2)].toArray w (fw (su E Γ res)):=by
 unfold l4 at hb
 refine enter Tryz.func76 zr zr (Nat.le_of_ble_eq_true zr) (RC.sr (aM (vb false) zr zr (RL.ns (mv (vi p0) zr zr (mv (vi p1) zr zr (ic p0 p1 zr zr zr zr (mv (vb (decide (p0≥p1))) zr zr (RL.gs (c:=true) (b:=(decide (p0≥p1))) (v:=(vi p0)) zr zr zr (cN zr (fun _=>zr)) ?_))))))))
 refine RL.gs (c:=true) (b:=(decide (p0≥p1))) (v:=(vi p2)) rfl rfl rfl (cN rfl (fun _=>rfl)) (RL.gs (c:=true) (b:=(decide (p0≥p1))) (v:=(vb (decide (p0≤p2)))) rfl rfl rfl (cV (bop:= .leq) (K:= .i64) (a:=p0) (b:=p2) rfl (fun h=>by exact(cC h:cv (true&&((decide (p0≥p1))==true)) (vi p0)= (vi p0))) (fun h=>by exact(cC h:cv (true&&((decide (p0≥p1))==true)) (vi p2)= (vi p2))) rfl) (RL.pick (b:=(decide (p0≥p1))) (v:=(vb ((decide (p0≥p1))&&(decide (p0≤p2))))) trivial rfl rfl (gW (c:=true) rfl) (aM (vb ((decide (p0≥p1))&&(decide (p0≤p2)))) rfl rfl (RL.nt (RC.ret ?_)))))
 obtain rfl:=oi hb
 exact bQ zr zr ⟨rfl,hw.drop 0 zr⟩
def uV (E:World) (Γ:List HP) (res:Bool) (v:Value) (w:World):Prop:=v= (vb res)∧Holds E w Γ
theorem gJ (N:Nat) {E w:World} {Γ:List HP} {p0:Int} {res:Bool} (hw:Holds E w Γ) (hb:gq N p0=some res):
    Calls Tryz.prog 58 [(vi p0)].toArray w (fw (uV E Γ res)):=by
 unfold gq at hb
 refine enter Tryz.func58 zr zr (Nat.le_of_ble_eq_true zr) (RC.sr (aM (vb false) zr zr (RL.ns (mv (vi p0) zr zr ?_))))
 obtain⟨j,o,hb⟩:=bd hb
 refine RL.call zt zr D6 [(vi p0),(vi (-1000000)),(vi 1000000)] zr (aF (rC N (p0:=p0) (p1:=(-1000000)) (p2:=1000000) hw o) ?_)
 rintro _ w ⟨rfl,hw⟩
 refine aM (vb j) zr zr (RL.nt (RC.ret ?_))
 obtain rfl:=oi hb
 exact bQ zr zr ⟨rfl,hw.drop 0 zr⟩
def sw (E:World) (Γ:List HP) (res:Bool) (v:Value) (w:World):Prop:=v= (vb res)∧Holds E w Γ
theorem mq (N:Nat) {E w:World} {Γ:List HP} {i0:Nat} {v0:Value} {p0:aC} {res:Bool} (hw:Holds E w Γ) (h0:Γ[i0]? =some (rd v0 p0)) (hb:hU N p0=some res):
    Calls Tryz.prog 31 [v0].toArray w (fw (sw E Γ res)):=by
 unfold hU at hb
 refine enter Tryz.func31 zr zr (Nat.le_of_ble_eq_true zr) ?_
 have hw:=hw.dup (i:=i0+0) h0
 refine RC.sr (RL.dN (i:=0) (v:=v0) zt zr hw zr zr fun al w hw=>(aM (vb false) zr zr (RL.nq ?_)))
 obtain⟨ae,hj,hb⟩:=bd hb
 refine RC.jn (fun(ae:Bool) (σ:Nat→Value) (w:World)=>agree σ [(2,(vb ae))]∧Holds E w ([]++Γ)) ae ?_ ?_
 ·refine RC.region (RL.bF zt zr zr f0 (RL.aL (i:=0) (f:=(fun x=>x.X0)) zt zr hw zr zr cU bX ?_))
  obtain⟨af,ah,hj⟩:=bd hj
  refine RL.call zt zr yx [(vi p0.X0)] zr (aF (gJ N (p0:=p0.X0) hw ah) ?_)
  rintro _ w ⟨rfl,hw⟩
  refine mv (vb af) zr zr (fH hj (fun j hj=>?_) fun j hj=>?_)
  rotate_left
  ·refine sk rfl (.inl (cb j)) rfl (sk rfl (.inl (cb j)) rfl (sk rfl (.inl (cb j)) rfl (RL.pick (b:=af) (v:=(vb false)) trivial rfl rfl (by rw [j];rfl) (mv (vb false) rfl rfl (sk rfl (.inl rfl) rfl (sk rfl (.inl rfl) rfl (sk rfl (.inl rfl) rfl (RL.pick (b:=false) (v:=(vb false)) trivial rfl rfl rfl ?_))))))))
   refine mv (vb false) zr zr (sk zr (.inl zr) zr (sk zr (.inl zr) zr (sk zr (.inl zr) zr (RL.pick (b:=false) (v:=(vb false)) zt zr zr zr (aM (vb false) zr zr (RL.nil ?_))))))
   obtain rfl:=oi hj
   exact⟨rfl,⟨rfl,zt⟩,hw.pk 2 [] zr⟩
  refine RL.bF (cg j) zr zr gM (RL.aL (i:=0) (f:=(fun x=>x.Y0)) (cg j) zr hw zr zr cZ bX ?_)
  obtain⟨ab,ai,hj⟩:=bd hj
  refine RL.call (cg j) zr yx [(vi p0.Y0)] zr (aF (gJ N (p0:=p0.Y0) hw ai) ?_)
  rintro _ w ⟨rfl,hw⟩
  refine RL.pick (b:=af) (v:=(vb ab)) trivial rfl rfl (by rw [j];rfl) (mv (vb ab) rfl rfl (fH hj (fun o hj=>?_) fun o hj=>?_))
  rotate_left
  ·refine sk rfl (.inl (cb o)) rfl (sk rfl (.inl (cb o)) rfl (sk rfl (.inl (cb o)) rfl (RL.pick (b:=ab) (v:=(vb false)) trivial rfl rfl (by rw [o];rfl) (mv (vb false) rfl rfl (sk rfl (.inl rfl) rfl (sk rfl (.inl rfl) rfl (sk rfl (.inl rfl) rfl (RL.pick (b:=false) (v:=(vb false)) trivial rfl rfl rfl ?_))))))))
   refine aM (vb false) zr zr (RL.nil ?_)
   obtain rfl:=oi hj
   exact⟨rfl,⟨rfl,zt⟩,hw.pk 2 [] zr⟩
  refine RL.bF (cg o) zr zr gN (RL.aL (i:=0) (f:=(fun x=>x.X1)) (cg o) zr hw zr zr dK bX ?_)
  obtain⟨ad,aj,hj⟩:=bd hj
  refine RL.call (cg o) zr yx [(vi p0.X1)] zr (aF (gJ N (p0:=p0.X1) hw aj) ?_)
  rintro _ w ⟨rfl,hw⟩
  refine RL.pick (b:=ab) (v:=(vb ad)) trivial rfl rfl (by rw [o];rfl) (mv (vb ad) rfl rfl (fH hj (fun aa hj=>?_) fun aa hj=>?_))
  rotate_left
  ·refine sk rfl (.inl (cb aa)) rfl (sk rfl (.inl (cb aa)) rfl (sk rfl (.inl (cb aa)) rfl (RL.pick (b:=ad) (v:=(vb false)) trivial rfl rfl (by rw [aa];rfl) (aM (vb false) rfl rfl (RL.nil ?_)))))
   obtain rfl:=oi hj
   exact⟨rfl,⟨rfl,zt⟩,hw.pk 2 [] zr⟩
  refine RL.bF (cg aa) zr zr jU (RL.aL (i:=0) (f:=(fun x=>x.Y1)) (cg aa) zr hw zr zr fz bX ?_)
  obtain⟨ag,ak,hj⟩:=bd hj
  refine RL.call (cg aa) zr yx [(vi p0.Y1)] zr (aF (gJ N (p0:=p0.Y1) hw ak) ?_)
  rintro _ w ⟨rfl,hw⟩
  refine RL.pick (b:=ad) (v:=(vb ag)) trivial rfl rfl (by rw [aa];rfl) (aM (vb ag) rfl rfl (RL.nil ?_))
  obtain rfl:=oi hj
  exact⟨rfl,⟨rfl,zt⟩,hw.pk 2 [] zr⟩
 rintro σ w ⟨ha,hw⟩
 obtain⟨τ,rfl⟩:=ha.aO
 refine aG (RC.ret ?_)
 obtain rfl:=oi hb
 exact bQ zr zr ⟨rfl,hw.drop 0 zr⟩
def ku (E:World) (Γ:List HP) (res:Int) (v:Value) (w:World):Prop:=v= (vi res)∧Holds E w Γ
def oF (E:World) (Γ:List HP) (r:Int) (σ:Nat→Value) (w:World):Prop:=kc Tryz.prog 30 Tryz.f18 (ku E Γ r) .ret σ w
theorem j5 (N:Nat) {E w:World} {Γ:List HP} {i0:Nat} {v0:Value} {p0: (List aC)} {res:Int} (hw:Holds E w Γ) (h0:Γ[i0]? =some (rd v0 p0)) (hb:eW N p0=some res):
    Calls Tryz.prog 18 [v0].toArray w (fw (ku E Γ res)):=by
 unfold eW at hb
 refine enter Tryz.func18 zr zr (Nat.le_of_ble_eq_true zr) ?_
 have hw:=hw.dup (i:=i0+0) h0
 refine RC.sr (aM (vi 0) zr zr (RL.nq (RC.sr (mv v0 zr zr (RL.bG (i:=0) (l:=p0) zt zr hw zr zr lj (ic ((p0.length:Int)) 2000 zr zr zr zr (RL.nt (eI hb zr (fun hc hb=>?_) fun hc hb=>?_))))))))
 ·refine RC.sr (aM (vi 2) zr zr (RL.nt (RC.rt ?_)))
  obtain rfl:=oi hb
  exact bQ zr zr ⟨rfl,hw.drop 1 zr⟩
 refine RC.ss (RC.sr (mv v0 zr zr (RL.bG (i:=0) (l:=p0) zt zr hw zr zr lj (mv (vi 0) zr zr (RL.nt ?_)))))
 obtain⟨aj,hN,hb⟩:=bd hb
 refine RC.range (fun(ab:Nat) (ad:Unit) (σ:Nat→Value) (w:World)=>agree σ [(8,v0),(9,(vi (p0.length:Int))),(10,(vi (ab:Int)))]∧Holds E w ([rd v0 p0]++Γ)) (fun(ad:Unit) (σ:Nat→Value) (w:World)=>agree σ []∧Holds E w ([rd v0 p0]++Γ)) (oF E Γ) hN ?_ ?_ ?_ ?_ ?_
 ·exact⟨(ag zr),hw.pk 1 [0] zr⟩
 ·intro hm ad σ w hI
  obtain⟨ha,hw⟩:=hI
  obtain⟨τ,rfl⟩:=ha.aO
  refine RC.sr (ic ((p0.length:Int)) ((p0.length:Int)) zr zr zr zr (RL.nq (RC.cH lZ (RC.ex ?_))))
  exact⟨rfl,zt,hw.pk 1 [0] zr⟩
 ·intro hm ab ad fl σ w hk hI hb
  obtain⟨ha,hw⟩:=hI
  obtain⟨τ,rfl⟩:=ha.aO
  refine RC.sr (ic ((ab:Int)) ((p0.length:Int)) zr zr zr zr (RL.nq (RC.cG (lY hk) (RC.ss (RC.bs ?_)))))
  obtain⟨o,ae,hb⟩:=bd hb
  refine RL.bO (i:=0) zt zr hw zr zr zr iE ae fun ak hw=>(RL.bP (i:=0) (x:=o) zt zr hw zr zr eM fun al hw=>(RL.alloc zt zr hw kP.z fun aa w hw=>(RL.bC (i:=0) (j:=1) zt hw zr zr zr zr eM zr fun w hw=>(RL.nq (RC.sr (RL.aY (i:=0) (f:=(fun x=>x)) zt zr hw zr zr Fd.self eM fun af hw=>?_))))))
  obtain⟨ah,ai,hb⟩:=bd hb
  refine RL.call zt zr CR [af] zr (aF (mq N (i0:=0) hw zr ai) ?_)
  rintro _ w ⟨rfl,hw⟩
  refine RL.not (b:=ah) zt zr zr (RL.nt (eI hb zr (fun hc hb=>?_) fun hc hb=>?_))
  ·refine RC.sr (aM (vi 1) zr zr (RL.nt (RC.rt (lf (bL ?_)))))
   obtain rfl:=oi hb
   exact⟨rfl,bQ zr zr ⟨rfl,hw.drop 5 zr⟩⟩
  refine RC.sx (RL.bF trivial rfl rfl gN (RL.aL (i:=1) (f:=(fun x=>x.X1)) trivial rfl hw rfl rfl dK bX (RL.bF trivial rfl rfl f0 (RL.aL (i:=1) (f:=(fun x=>x.X0)) trivial rfl hw rfl rfl cU bX (ic (o.X1) (o.X0) rfl rfl rfl rfl (mv (vb (decide (o.X1≤o.X0))) rfl rfl (RL.gs (c:=true) (b:=(decide (o.X1≤o.X0))) (v:=(vp aa 3)) rfl rfl rfl (dD rfl (fun _=>rfl) jU) (RL.gs (c:=true) (b:=(decide (o.X1≤o.X0))) (v:=(vi o.Y1)) rfl rfl rfl (bK (i:=1) (f:=(fun x=>x.Y1)) rfl hw (fun h=>by exact(cC h:cv (true&&((decide (o.X1≤o.X0))==false)) (vp aa 3)= (vp aa 3))) rfl fz bX) ?_))))))))
  refine RL.gs (c:=true) (b:=(decide (o.X1≤o.X0))) (v:=(vp aa 1)) rfl rfl rfl (dD rfl (fun _=>rfl) gM) (RL.gs (c:=true) (b:=(decide (o.X1≤o.X0))) (v:=(vi o.Y0)) rfl rfl rfl (bK (i:=1) (f:=(fun x=>x.Y0)) rfl hw (fun h=>by exact(cC h:cv (true&&((decide (o.X1≤o.X0))==false)) (vp aa 1)= (vp aa 1))) rfl cZ bX) (RL.gs (c:=true) (b:=(decide (o.X1≤o.X0))) (v:=(vb (decide (o.Y1≤o.Y0)))) rfl rfl rfl (cV (bop:= .leq) (K:= .i64) (a:=o.Y1) (b:=o.Y0) rfl (fun h=>by exact(cC h:cv (true&&((decide (o.X1≤o.X0))==false)) (vi o.Y1)= (vi o.Y1))) (fun h=>by exact(cC h:cv (true&&((decide (o.X1≤o.X0))==false)) (vi o.Y0)= (vi o.Y0))) rfl) (RL.pick (b:=(decide (o.X1≤o.X0))) (v:=(vb ((decide (o.X1≤o.X0))||(decide (o.Y1≤o.Y0))))) trivial rfl rfl (ml (c:=true) rfl) (RL.nt (eI hb rfl (fun hc hb=>?_) fun hc hb=>?_)))))
  rotate_left
  ·refine RC.skip (bJ (aG (RC.region (RL.inc zt zr hk hm zr zr (mv (vi ((ab+1:Nat):Int)) zr zr (RL.nil ?_))))))
   obtain rfl:=oi hb
   exact⟨rfl,(ag zr),hw.pk 5 [4] zr⟩
  refine RC.sr (aM (vi 13) zr zr (RL.nt (RC.rb (bL ?_))))
  obtain rfl:=oi hb
  exact⟨rfl,bQ zr zr ⟨rfl,hw.drop 5 zr⟩⟩
 ·intro r σ w e hK
  subst e
  refine bL ?_
  obtain rfl:=oi hb
  exact hK
 intro ad σ w e hJ
 subst e
 rw [Fo.eT] at hb
 obtain⟨ha,hw⟩:=hJ
 obtain⟨τ,rfl⟩:=ha.aO
 refine aG (RC.sr (aM (vi 0) zr zr (RL.nt (RC.ret ?_))))
 obtain rfl:=oi hb
 exact bQ zr zr ⟨rfl,hw.drop 1 zr⟩
def nP (E:World) (Γ:List HP) (res: (List aC)) (v:Value) (w:World):Prop:=Holds E w ([own 61 v res]++Γ)
theorem mT (N:Nat) {E w:World} {Γ:List HP} {i0:Nat} {v0:Value} {p0: (List aC)} {res: (List aC)} (hw:Holds E w Γ) (h0:Γ[i0]? =some (rd v0 p0)) (hb:eJ N p0=some res):
    Calls Tryz.prog 32 [v0].toArray w (fw (nP E Γ res)):=by
 unfold eJ at hb
 refine enter Tryz.func32 zr zr (Nat.le_of_ble_eq_true zr) ?_
 have hw:=hw.dup (i:=i0+0) h0
 refine RC.sr (aM (.slice none 0 0) zr zr (RL.nq (RC.sr (mv v0 zr zr (RL.CK (i:=0) zt zr hw zr zr zr lj (RL.nt (RC.cond (b:=(A8 v0)) zr (fun hc=>?_) (fun hc=>?_))))))))
 ·have hx:=hw.D4 (i:=0) rfl hc
  rw [hx] at hb
  replace hb:some ([]: (List aC))=_:=hb
  refine RC.sr (aM (.slice none 0 0) zr zr (RL.nt (RC.rt ?_)))
  obtain rfl:=oi hb
  have hw:=hw.bV aC 61
  exact bQ zr zr (hw.pk 2 [0] zr)
 refine RC.sx (RL.dY (l:=([]: (List aC))) zt zr hw [] zr zr zr iE kP (fun M hs g=>zt) fun ab w hw=>(mv v0 zr zr ?_))
 obtain⟨ad,o,hb⟩:=bd hb
 refine RL.app (i:=0) (j:=1) zt zr hw zr zr zr zr xe o fun aa w hw=>(aM aa zr zr (RL.nt (RC.ret ?_)))
 obtain rfl:=oi hb
 exact bQ zr zr (hw.pk 2 [0] zr)
def qC (E:World) (Γ:List HP) (res:Int) (v:Value) (w:World):Prop:=v= (vi res)∧Holds E w Γ
theorem py (N:Nat) {E w:World} {Γ:List HP} {i0:Nat} {v0:Value} {p0:aC} {i1:Nat} {v1:Value} {p1:aC} {res:Int} (hw:Holds E w Γ) (h0:Γ[i0]? =some (rd v0 p0)) (h1:Γ[i1]? =some (rd v1 p1)) (hb:eZ N p0 p1=some res):
    Calls Tryz.prog 34 [v0,v1].toArray w (fw (qC E Γ res)):=by
 unfold eZ at hb
 refine enter Tryz.func34 zr zr (Nat.le_of_ble_eq_true zr) ?_
 have hw:=hw.dup (i:=i0+0) h0
 have hw:=hw.dup (i:=i1+1) h1
 refine RC.sr (RL.dN (i:=1) (v:=v0) zt zr hw zr zr fun j w hw=>(RL.dN (i:=1) (v:=v1) zt zr hw zr zr fun o w hw=>(aM (vi 0) zr zr (RL.ns (RL.bF zt zr zr gM (RL.aL (i:=1) (f:=(fun x=>x.Y0)) zt zr hw zr zr cZ bX (RL.bF zt zr zr gM (RL.aL (i:=0) (f:=(fun x=>x.Y0)) zt zr hw zr zr cZ bX ?_))))))))
 refine RL.gQ (a:=p0.Y0) (b:=p1.Y0) zt zr zr zr zr (aM (vi (IntKind.wrap .i64 (p0.Y0 - p1.Y0))) zr zr (RL.nt (RC.ret ?_)))
 obtain rfl:=oi hb
 exact bQ zr zr ⟨rfl,hw.drop 4 zr⟩
def jI (E:World) (Γ:List HP) (res: (List Int)) (v:Value) (w:World):Prop:=Holds E w ([own 3 v res]++Γ)
def mU (E:World) (Γ:List HP) (r: (List Int)) (σ:Nat→Value) (w:World):Prop:=kc Tryz.prog 61 Tryz.f36 (jI E Γ r) .ret σ w
theorem mA (N:Nat) {E w:World} {Γ:List HP} {v0:Value} {p0: (List Int)} {res: (List Int)} (hw:Holds E w (own 3 v0 p0::Γ)) (hb:dF N p0=some res):
    Calls Tryz.prog 36 [v0].toArray w (fw (jI E Γ res)):=by
 unfold dF at hb
 refine enter Tryz.func36 zr zr (Nat.le_of_ble_eq_true zr) (RC.sr (aM (.slice none 0 0) zr zr (RL.nq (RC.sr (mv v0 zr zr (RL.dC (i:=0) (l:=p0) zt zr hw zr zr jH (ic ((p0.length:Int)) 2 zr zr zr zr (RL.nt ?_))))))))
 refine eI hb zr (fun hc hb=>?_) fun hc hb=>?_
 ·refine RC.sr (mv v0 zr zr (aM v0 zr zr (RL.nt (RC.rt ?_))))
  obtain rfl:=oi hb
  exact bQ zr zr (hw.pk 1 [0] zr)
 refine RC.ss (RC.sr (aM (vi 1) zr zr (RL.nt ?_)))
 obtain⟨ax,hN,hb⟩:=bd hb
 refine RC.iter (fun(aa:Int) (σ:Nat→Value) (w:World)=>agree σ [(0,v0),(3,(vi aa))]∧Holds E w ([own 3 v0 p0]++Γ)) (fun(aa:Int) (σ:Nat→Value) (w:World)=>agree σ [(0,v0)]∧Holds E w ([own 3 v0 p0]++Γ)) (mU E Γ) hN ?_ ?_ ?_ ?_
 ·exact⟨(ag zr),hw.pk 1 [0] zr⟩
 ·intro aa fl σ w hI hb
  obtain⟨ha,hw⟩:=hI
  obtain⟨τ,rfl⟩:=ha.aO
  refine RC.seq (RC.sr (mv (vi aa) zr zr (mv v0 zr zr (RL.dC (i:=0) (l:=p0) zt zr hw zr zr jH (ic aa ((p0.length:Int)) zr zr zr zr (RL.nt (eI hb zr (fun hc hb=>?_) fun hc hb=>?_)))))))
  rotate_left
  ·refine RC.ex ?_
   obtain rfl:=oi hb
   exact⟨rfl,⟨rfl,zt⟩,hw.pk 1 [0] zr⟩
  refine RC.ss (RC.block (RC.seq (RC.uy mixed rfl (by kernel_rfl) ?_)))
  have hw:=hw.drew
  refine RO.go (mv v0 zr zr (RO.nx (mv (vi aa) zr zr (RO.nx ?_))))
  obtain⟨an,ai,hb⟩:=bd hb
  refine RL.bB (i:=0) zt zr hw zr zr zr dM ai (RO.nx (RL.cF (i:=0) (f:=(fun x=>x)) zt zr hw zr (gS hw (i:=0) zr ai 0) zr (aQ ai).2.1 Fd.self bX (RO.nx (mv v0 zr zr (RO.nx (mv (vi aa) zr zr (RO.nx (RL.gQ (a:=aa) (b:=1) zt zr zr zr zr ?_))))))))
  refine RO.nx ?_
  obtain⟨ao,aj,hb⟩:=bd hb
  refine RL.bB (i:=0) zt zr hw zr zr zr dM aj (RO.nx (RL.cF (i:=0) (f:=(fun x=>x)) zt zr hw zr (gS hw (i:=0) zr aj 0) zr (aQ aj).2.1 Fd.self bX (RO.nx (ic an ao zr zr zr zr (RO.last (aG (eI hb zr (fun hc hb=>?_) fun hc hb=>?_)))))))
  rotate_left
  ·refine RC.skip (bJ (aG (RC.region (mv (vi aa) zr zr (RL.gQ (a:=aa) (b:=1) zt zr zr zr zr (aM (vi (IntKind.wrap .i64 (aa+1))) zr zr (RL.nil ?_)))))))
   obtain rfl:=oi hb
   exact⟨rfl,(ag zr),hw.pk 1 [0] zr⟩
  refine RC.sr (mv v0 zr zr (mv (vi aa) zr zr ?_))
  obtain⟨ay,ab,hb⟩:=bd hb
  refine RL.view (i:=0) (lo:=aa) zt zr hw zr zr dM (.inl zr) ab (aM (vw v0 (Int.toNat aa) 1) zr zr (RL.nq (RC.sr (aM (vi 1) zr zr (RL.nt ?_)))))
  obtain⟨az,hN,hb⟩:=bd hb
  refine RC.iter (fun(o: (List Int)×Int×Int) (σ:Nat→Value) (w:World)=>agree σ [(0,v0),(3,(vi o.2.1)),(4,(vw v0 (Int.toNat aa) 1)),(5,(vi o.2.2))]∧Holds E w ([own 3 v0 o.1]++Γ)) (fun(o: (List Int)×Int×Int) (σ:Nat→Value) (w:World)=>agree σ [(0,v0),(3,(vi o.2.1))]∧Holds E w ([own 3 v0 o.1]++Γ)) (fun(r:Empty) (_:Nat→Value) (_:World)=>r.elim) hN ?_ ?_ ?_ ?_
  ·exact⟨(ag zr),hw.pk 1 [0] zr⟩
  ·intro o fl σ w hI hb
   obtain⟨ha,hw⟩:=hI
   obtain⟨τ,rfl⟩:=ha.aO
   refine RC.seq (RC.sr (mv (vi o.2.2) zr zr (mv (vw v0 (Int.toNat aa) 1) zr zr (RL.B3 (i:=0) (l:=o.1) zt zr hw zr zr jH (ic (o.2.2) ((((o.1.length - Int.toNat aa):Nat):Int)) zr zr zr zr (RL.nt (eI hb zr (fun hc hb=>?_) fun hc hb=>?_)))))))
   rotate_left
   ·refine RC.ex ?_
    obtain rfl:=oi hb
    exact⟨rfl,(ag zr),hw.pk 1 [0] zr⟩
   refine RC.ss (RC.block (RC.seq (RC.uy mixed rfl (by kernel_rfl) ?_)))
   have hw:=hw.drew
   refine RO.go (mv (vw v0 (Int.toNat aa) 1) zr zr (RO.nx (mv (vi o.2.2) zr zr (RO.nx ?_))))
   obtain⟨aq,ad,hb⟩:=bd hb
   refine RL.zw (i:=0) (lo:=aa) zt zr hw zr zr zr dM (wZ ab) (fx ad).1 (fx ad).2 (RO.nx (RL.cF (i:=0) (f:=(fun x=>x)) zt zr hw zr (gS hw (i:=0) zr (fx ad).2 0) zr (aQ (fx ad).2).2.1 Fd.self bX (RO.nx (mv (vw v0 (Int.toNat aa) 1) zr zr (RO.nx (mv (vi o.2.2) zr zr (RO.nx (RL.gQ (a:=o.2.2) (b:=1) zt zr zr zr zr ?_))))))))
   refine RO.nx ?_
   obtain⟨ar,ae,hb⟩:=bd hb
   refine RL.zw (i:=0) (lo:=aa) zt zr hw zr zr zr dM (wZ ab) (fx ae).1 (fx ae).2 (RO.nx (RL.cF (i:=0) (f:=(fun x=>x)) zt zr hw zr (gS hw (i:=0) zr (fx ae).2 0) zr (aQ (fx ae).2).2.1 Fd.self bX (RO.nx (ic aq ar zr zr zr zr (RO.last (aG ?_))))))
   obtain⟨af,hj,hb⟩:=bd hb
   refine RC.jn (fun(af: (List Int)×Int) (σ:Nat→Value) (w:World)=>agree σ [(0,v0),(3,(vi af.2)),(4,(vw v0 (Int.toNat aa) 1)),(5,(vi o.2.2))]∧Holds E w ([own 3 v0 af.1]++Γ)) af ?_ ?_
   ·refine eI hj zr (fun hc hj=>?_) fun hc hj=>?_
    rotate_left
    ·refine RC.skip ?_
     obtain rfl:=oi hj
     exact⟨rfl,(ag zr),hw.pk 1 [0] zr⟩
    refine RC.sr (mv v0 zr zr (mv (vi o.2.1) zr zr (mv (vw v0 (Int.toNat aa) 1) zr zr (mv (vi o.2.2) zr zr ?_))))
    obtain⟨au,ah,hj⟩:=bd hj
    refine RL.zw (i:=0) (lo:=aa) zt zr hw zr zr zr dM (wZ ab) (fx ah).1 (fx ah).2 (RL.cF (i:=0) (f:=(fun x=>x)) zt zr hw zr (gS hw (i:=0) zr (fx ah).2 0) zr (aQ (fx ah).2).2.1 Fd.self bX ?_)
    obtain⟨a0,ak,hj⟩:=bd hj
    refine RL.bB (i:=0) zt zr hw zr zr zr dM ak ?_
    have hw:=hw.sc (γ:=Int) au
    refine RL.eO (i:=1) (j:=0) (f:=(fun _ y=>y)) trivial hw rfl rfl (gS hw (i:=1) rfl ak 0) rfl (aQ ak).2.1 rfl Fs.self (by decide) bX fun w hw=>(RL.nt (RC.region (mv (vi o.2.1) rfl rfl (RL.gQ (a:=o.2.1) (b:=1) trivial rfl rfl rfl rfl (aM (vi (IntKind.wrap .i64 (o.2.1+1))) rfl rfl (RL.nil ?_))))))
    obtain rfl:=oi hj
    exact⟨rfl,(ag zr),hw.pk 2 [1] zr⟩
   rintro σ w ⟨ha,hw⟩
   obtain⟨τ,rfl⟩:=ha.aO
   refine bJ (aG (RC.region (mv (vi o.2.2) zr zr (RL.gQ (a:=o.2.2) (b:=1) zt zr zr zr zr (aM (vi (IntKind.wrap .i64 (o.2.2+1))) zr zr (RL.nil ?_))))))
   obtain rfl:=oi hb
   exact⟨rfl,(ag zr),hw.pk 1 [0] zr⟩
  ·intro r _ _ _ _
   exact r.elim
  intro o σ w e hJ
  subst e
  rw [Fo.eT] at hb
  obtain⟨ha,hw⟩:=hJ
  obtain⟨τ,rfl⟩:=ha.aO
  refine aG (RC.sr (mv v0 zr zr (mv (vi o.2.1) zr zr ?_)))
  obtain⟨a1,al,hb⟩:=bd hb
  refine RL.view (i:=0) (lo:=o.2.1) zt zr hw zr zr dM (.inl zr) al (RL.vG (i:=0) zt hw zr zr qx CV (zx al) fun w hw=>(RL.ns (mv v0 zr zr (mv (vi o.2.1) zr zr ?_))))
  obtain⟨a2,av,hb⟩:=bd hb
  refine RL.uo (i:=0) zt zr hw zr zr dM (.inr ⟨rfl,zr⟩) (.inl zr) av fun aw hw=>(aM aw zr zr (RL.nt (RC.rb (bL ?_))))
  obtain rfl:=oi hb
  exact⟨rfl,bQ zr zr (hw.pk 1 [0] zr)⟩
 ·intro r σ w e hK
  subst e
  refine bL ?_
  obtain rfl:=oi hb
  exact hK
 intro aa σ w e hJ
 subst e
 rw [Fo.eT] at hb
 obtain⟨ha,hw⟩:=hJ
 obtain⟨τ,rfl⟩:=ha.aO
 refine aG (RC.sr (mv v0 zr zr (aM v0 zr zr (RL.nt (RC.ret ?_)))))
 obtain rfl:=oi hb
 exact bQ zr zr (hw.pk 1 [0] zr)
def qD (E:World) (Γ:List HP) (res:Bool) (v:Value) (w:World):Prop:=v= (vb res)∧Holds E w Γ
theorem pz (N:Nat) {E w:World} {Γ:List HP} {i0:Nat} {v0:Value} {p0:aC} {i1:Nat} {v1:Value} {p1: (List Int)} {i2:Nat} {v2:Value} {p2:Int} {res:Bool} (hw:Holds E w Γ) (h0:Γ[i0]? =some (rd v0 p0)) (h1:Γ[i1]? =some (pt v1 p1)) (h2:Γ[i2]? =some (pt v2 p2)) (hb:i9 N p0 p1 p2=some res):
    Calls Tryz.prog 38 [v0,v1,v2].toArray w (fw (qD E Γ res)):=by
 unfold i9 at hb
 refine enter Tryz.func38 zr zr (Nat.le_of_ble_eq_true zr) ?_
 have hw:=hw.dup (i:=i0+0) h0
 have hw:=hw.um (i:=i1+1) h1
 have hw:=hw.um (i:=i2+2) h2
 refine RC.sr (RL.dN (i:=2) (v:=v0) trivial rfl hw rfl rfl fun aa w hw=>(aM (vb false) rfl rfl (RL.nq (RC.uy mixed rfl (by kernel_rfl) ?_))))
 have hw:=hw.drew
 refine RO.go (RL.bF zt zr zr jU (RO.nx (RL.aL (i:=0) (f:=(fun x=>x.Y1)) zt zr hw zr zr fz bX (RO.nx (RL.bP (i:=2) (x:=p1) zt zr hw zr zr dL fun ab hw=>(RO.nx (RL.bA (i:=2) (y:=p2) zt zr hw zr zr bX (RO.nx ?_))))))))
 obtain⟨j,o,hb⟩:=bd hb
 refine RL.bO (i:=0) zt zr hw zr zr zr dM o fun ad hw=>(RO.nx (RL.bA (i:=0) (y:=j) zt zr hw zr zr bX (RO.nx (ic (p0.Y1) j zr zr zr zr (RO.nx (aM (vb (decide (p0.Y1≤j))) zr zr (RO.last (aG ?_))))))))
 refine RC.ret ?_
 obtain rfl:=oi hb
 exact bQ zr zr ⟨rfl,hw.drop 6 zr⟩
def iU (E:World) (Γ:List HP) (res:Int) (v:Value) (w:World):Prop:=v= (vi res)∧Holds E w Γ
def lK (E:World) (Γ:List HP) (r:Int) (σ:Nat→Value) (w:World):Prop:=kc Tryz.prog 19 Tryz.f63 (iU E Γ r) .ret σ w
theorem lq (N:Nat) {E w:World} {Γ:List HP} {i0:Nat} {v0:Value} {p0: (List aC)} {v1:Value} {p1:aC→Option Bool} {res:Int} (hw:Holds E w Γ) (h0:Γ[i0]? =some (rd v0 p0)) (h1:AP Tryz.prog E Γ v1 p1 (fun(r:Bool)=>Value.bool r)) (hb:gK N p0 p1=some res):
    Calls Tryz.prog 63 [v0,v1].toArray w (fw (iU E Γ res)):=by
 unfold gK at hb
 refine enter Tryz.func63 zr zr (Nat.le_of_ble_eq_true zr) ?_
 have hw:=hw.dup (i:=i0+0) h0
 refine RC.sr (aM (vi 0) zr zr (RL.nq (RC.sr (mv v0 zr zr (RL.bG (i:=0) (l:=p0) zt zr hw zr zr lj (mv (vi 0) zr zr (RL.nt ?_)))))))
 obtain⟨ae,hN,hb⟩:=bd hb
 refine RC.range (fun(j:Nat) (o:Unit) (σ:Nat→Value) (w:World)=>agree σ [(0,v0),(1,v1),(7,(vi (p0.length:Int))),(8,(vi (j:Int)))]∧Holds E w ([rd v0 p0]++Γ)) (fun(o:Unit) (σ:Nat→Value) (w:World)=>agree σ []∧Holds E w ([rd v0 p0]++Γ)) (lK E Γ) hN ?_ ?_ ?_ ?_ ?_
 ·exact⟨(ag zr),hw.pk 1 [0] zr⟩
 ·intro hm o σ w hI
  obtain⟨ha,hw⟩:=hI
  obtain⟨τ,rfl⟩:=ha.aO
  refine RC.sr (ic ((p0.length:Int)) ((p0.length:Int)) zr zr zr zr (RL.nq (RC.cH lZ (RC.ex ?_))))
  exact⟨rfl,zt,hw.pk 1 [0] zr⟩
 ·intro hm j o fl σ w hk hI hb
  obtain⟨ha,hw⟩:=hI
  obtain⟨τ,rfl⟩:=ha.aO
  refine RC.sr (ic ((j:Int)) ((p0.length:Int)) zr zr zr zr (RL.nq (RC.cG (lY hk) (RC.ss (RC.bs (mv (vi (j:Int)) zr zr (aM (vi (j:Int)) zr zr (RL.ns ?_))))))))
  refine mv v1 zr zr (mv v0 zr zr (mv (vi (j:Int)) zr zr ?_))
  obtain⟨aa,ab,hb⟩:=bd hb
  refine RL.bO (i:=0) zt zr hw zr zr zr iE ab fun af hw=>(RL.bP (i:=0) (x:=aa) zt zr hw zr zr eM fun ah hw=>?_)
  obtain⟨ai,ad,hb⟩:=bd hb
  refine RL.uk (i:=0) zt zr hw zr h1 3 zr zr zr ad fun w hw=>(RL.nt (eI hb zr (fun hc hb=>?_) fun hc hb=>?_))
  rotate_left
  ·refine RC.skip (bJ (aG (RC.region (RL.inc zt zr hk hm zr zr (mv (vi ((j+1:Nat):Int)) zr zr (RL.nil ?_))))))
   obtain rfl:=oi hb
   exact⟨rfl,(ag zr),hw.pk 3 [2] zr⟩
  refine RC.sr (mv (vi (j:Int)) zr zr (aM (vi (j:Int)) zr zr (RL.nt (RC.rb (bL ?_)))))
  obtain rfl:=oi hb
  exact⟨rfl,bQ zr zr ⟨rfl,hw.drop 3 zr⟩⟩
 ·intro r σ w e hK
  subst e
  refine bL ?_
  obtain rfl:=oi hb
  exact hK
 intro o σ w e hJ
 subst e
 rw [Fo.eT] at hb
 obtain⟨ha,hw⟩:=hJ
 obtain⟨τ,rfl⟩:=ha.aO
 refine aG (RC.sr (aM (vi (-1)) zr zr (RL.nt (RC.ret ?_))))
 obtain rfl:=oi hb
 exact bQ zr zr ⟨rfl,hw.drop 1 zr⟩
def g9 (E:World) (Γ:List HP) (v0:Value) (p0: (List aC)) (res:Int) (v:Value) (w:World):Prop:=v= (vi res)∧Holds E w ([own 61 v0 p0]++Γ)
def kx (E:World) (Γ:List HP) (v0:Value) (p0: (List aC)) (r:Int) (σ:Nat→Value) (w:World):Prop:=kc Tryz.prog 19 Tryz.f63 (g9 E Γ v0 p0 r) .ret σ w
theorem ke (N:Nat) {E w:World} {Γ:List HP} {v0:Value} {p0: (List aC)} {v1:Value} {p1:aC→Option Bool} {res:Int} (hw:Holds E w (own 61 v0 p0::Γ)) (h1:AP Tryz.prog E Γ v1 p1 (fun(r:Bool)=>Value.bool r)) (hb:fL N p0 p1=some res):
    Calls Tryz.prog 63 [v0,v1].toArray w (fw (g9 E Γ v0 p0 res)):=by
 unfold fL at hb
 refine enter Tryz.func63 zr zr (Nat.le_of_ble_eq_true zr) (RC.sr (aM (vi 0) zr zr (RL.nq (RC.sr (mv v0 zr zr (RL.dC (i:=0) (l:=p0) zt zr hw zr zr lj (mv (vi 0) zr zr (RL.nt ?_))))))))
 obtain⟨ad,hN,hb⟩:=bd hb
 refine RC.range (fun(j:Nat) (o:Unit) (σ:Nat→Value) (w:World)=>agree σ [(0,v0),(1,v1),(7,(vi (p0.length:Int))),(8,(vi (j:Int)))]∧Holds E w ([own 61 v0 p0]++Γ)) (fun(o:Unit) (σ:Nat→Value) (w:World)=>agree σ [(0,v0)]∧Holds E w ([own 61 v0 p0]++Γ)) (kx E Γ v0 p0) hN ?_ ?_ ?_ ?_ ?_
 ·exact⟨(ag zr),hw.pk 1 [0] zr⟩
 ·intro hm o σ w hI
  obtain⟨ha,hw⟩:=hI
  obtain⟨τ,rfl⟩:=ha.aO
  refine RC.sr (ic ((p0.length:Int)) ((p0.length:Int)) zr zr zr zr (RL.nq (RC.cH lZ (RC.ex ?_))))
  exact⟨rfl,⟨rfl,zt⟩,hw.pk 1 [0] zr⟩
 ·intro hm j o fl σ w hk hI hb
  obtain⟨ha,hw⟩:=hI
  obtain⟨τ,rfl⟩:=ha.aO
  refine RC.sr (ic ((j:Int)) ((p0.length:Int)) zr zr zr zr (RL.nq (RC.cG (lY hk) (RC.ss (RC.bs (mv (vi (j:Int)) zr zr (aM (vi (j:Int)) zr zr (RL.ns ?_))))))))
  refine mv v1 zr zr (mv v0 zr zr (mv (vi (j:Int)) zr zr ?_))
  obtain⟨ae,aa,hb⟩:=bd hb
  refine RL.bB (i:=0) zt zr hw zr zr zr iE aa (RL.gl (i:=0) (f:=(fun x=>x)) zt zr hw zr (gS hw (i:=0) zr aa 0) zr (aQ aa).2.1 Fd.self eM fun af hw=>?_)
  obtain⟨ah,ab,hb⟩:=bd hb
  refine RL.uk (i:=0) zt zr hw zr h1 2 zr zr zr ab fun w hw=>(RL.nt (eI hb zr (fun hc hb=>?_) fun hc hb=>?_))
  rotate_left
  ·refine RC.skip (bJ (aG (RC.region (RL.inc zt zr hk hm zr zr (mv (vi ((j+1:Nat):Int)) zr zr (RL.nil ?_))))))
   obtain rfl:=oi hb
   exact⟨rfl,(ag zr),hw.pk 2 [1] zr⟩
  refine RC.sr (mv (vi (j:Int)) zr zr (aM (vi (j:Int)) zr zr (RL.nt (RC.rb (bL ?_)))))
  obtain rfl:=oi hb
  exact⟨rfl,bQ zr zr ⟨rfl,hw.pk 2 [1] zr⟩⟩
 ·intro r σ w e hK
  subst e
  refine bL ?_
  obtain rfl:=oi hb
  exact hK
 intro o σ w e hJ
 subst e
 rw [Fo.eT] at hb
 obtain⟨ha,hw⟩:=hJ
 obtain⟨τ,rfl⟩:=ha.aO
 refine aG (RC.sr (aM (vi (-1)) zr zr (RL.nt (RC.ret ?_))))
 obtain rfl:=oi hb
 exact bQ zr zr ⟨rfl,hw.pk 1 [0] zr⟩
def lr (E:World) (Γ:List HP) (res: (List aC)) (v:Value) (w:World):Prop:=Holds E w ([own 61 v res]++Γ)
theorem kQ (N:Nat) {E w:World} {Γ:List HP} {v0:Value} {p0: (List aC)} {v1:Value} {p1:aC→Option Bool} {res: (List aC)} (hw:Holds E w (own 61 v0 p0::Γ)) (h1:AP Tryz.prog E Γ v1 p1 (fun(r:Bool)=>Value.bool r)) (hb:dR N p0 p1=some res):
    Calls Tryz.prog 37 [v0,v1].toArray w (fw (lr E Γ res)):=by
 unfold dR at hb
 refine enter Tryz.func37 zr zr (Nat.le_of_ble_eq_true zr) (RC.sr (aM (.slice none 0 0) zr zr (RL.ns (mv v0 zr zr (mv v1 zr zr ?_)))))
 have hw:=hw.pull (i:=0) rfl
 obtain⟨aa,ah,hb⟩:=bd hb
 refine RL.call zt zr CW [v0,v1] zr (aF (ke N hw (h1.lift 1 zr) ah) ?_)
 rintro _ w ⟨rfl,hw⟩
 refine aM (vi aa) zr zr (RL.nq (RC.sr (mv (vi aa) zr zr (ic aa ((-1)) zr zr zr zr (RL.nt (eI hb zr (fun hc hb=>?_) fun hc hb=>?_))))))
 ·refine RC.sr (mv v0 zr zr (aM v0 zr zr (RL.nt (RC.rt ?_))))
  obtain rfl:=oi hb
  exact bQ zr zr (hw.pk 2 [0] zr)
 refine RC.ss (RC.sr (mv (vi aa) zr zr (RL.gQ (a:=aa) (b:=1) zt zr zr zr zr (aM (vi (IntKind.wrap .i64 (aa+1))) zr zr (RL.nt ?_)))))
 obtain⟨an,hN,hb⟩:=bd hb
 refine RC.iter (fun(o: (List aC)×Int×Int) (σ:Nat→Value) (w:World)=>agree σ [(0,v0),(1,v1),(5,(vi o.2.1)),(6,(vi o.2.2))]∧Holds E w ([own 61 v0 o.1]++Γ)) (fun(o: (List aC)×Int×Int) (σ:Nat→Value) (w:World)=>agree σ [(0,v0),(5,(vi o.2.1))]∧Holds E w ([own 61 v0 o.1]++Γ)) (fun(r:Empty) (_:Nat→Value) (_:World)=>r.elim) hN ?_ ?_ ?_ ?_
 ·exact⟨(ag zr),hw.pk 2 [0] zr⟩
 ·intro o fl σ w hI hb
  obtain⟨ha,hw⟩:=hI
  obtain⟨τ,rfl⟩:=ha.aO
  refine RC.seq (RC.sr (mv (vi o.2.2) zr zr (mv v0 zr zr (RL.dC (i:=0) (l:=o.1) zt zr hw zr zr lj (ic (o.2.2) ((o.1.length:Int)) zr zr zr zr (RL.nt (eI hb zr (fun hc hb=>?_) fun hc hb=>?_)))))))
  rotate_left
  ·refine RC.ex ?_
   obtain rfl:=oi hb
   exact⟨rfl,(ag zr),hw.pk 1 [0] zr⟩
  refine RC.ss (RC.bs (mv v0 zr zr (mv (vi o.2.2) zr zr ?_)))
  obtain⟨ao,ad,hb⟩:=bd hb
  refine RL.bB (i:=0) zt zr hw zr zr zr iE ad (RL.gl (i:=0) (f:=(fun x=>x)) zt zr hw zr (gS hw (i:=0) zr ad 0) zr (aQ ad).2.1 Fd.self eM fun aq hw=>(RL.alloc zt zr hw kP.z fun ar w hw=>(RL.bC (i:=0) (j:=1) zt hw zr zr zr zr eM zr fun w hw=>(RL.ns (mv v1 zr zr (RL.aY (i:=0) (f:=(fun x=>x)) zt zr hw zr zr Fd.self eM fun au hw=>?_))))))
  obtain⟨ai,aj,hb⟩:=bd hb
  refine RL.uk (i:=0) zt zr hw zr h1 4 zr zr zr aj fun w hw=>(RL.not (b:=ai) zt zr zr (RL.nt ?_))
  obtain⟨ab,hj,hb⟩:=bd hb
  refine RC.jn (fun(ab: (List aC)×Int) (σ:Nat→Value) (w:World)=>agree σ [(0,v0),(1,v1),(5,(vi ab.2)),(6,(vi o.2.2))]∧Holds E w ([own 61 v0 ab.1]++Γ)) ab ?_ ?_
  ·refine eI hj zr (fun hc hj=>?_) fun hc hj=>?_
   rotate_left
   ·refine RC.skip ?_
    obtain rfl:=oi hj
    exact⟨rfl,(ag zr),hw.pk 4 [3] zr⟩
   refine RC.sr (mv v0 zr zr (mv (vi o.2.1) zr zr (RL.aY (i:=1) (f:=(fun x=>x)) zt zr hw zr zr Fd.self eM fun av hw=>?_)))
   obtain⟨aw,ae,hj⟩:=bd hj
   refine RL.bB (i:=4) trivial rfl hw rfl rfl rfl iE ae (RL.eO (i:=4) (j:=0) (f:=(fun _ y=>y)) trivial hw rfl rfl (gS hw (i:=4) rfl ae 0) rfl (aQ ae).2.1 rfl Fs.self (by decide) eM fun w hw=>(RL.nt (RC.region (mv (vi o.2.1) rfl rfl (RL.gQ (a:=o.2.1) (b:=1) trivial rfl rfl rfl rfl (aM (vi (IntKind.wrap .i64 (o.2.1+1))) rfl rfl (RL.nil ?_)))))))
   obtain rfl:=oi hj
   exact⟨rfl,(ag zr),hw.pk 5 [4] zr⟩
  rintro σ w ⟨ha,hw⟩
  obtain⟨τ,rfl⟩:=ha.aO
  refine bJ (aG (RC.region (mv (vi o.2.2) zr zr (RL.gQ (a:=o.2.2) (b:=1) zt zr zr zr zr (aM (vi (IntKind.wrap .i64 (o.2.2+1))) zr zr (RL.nil ?_))))))
  obtain rfl:=oi hb
  exact⟨rfl,(ag zr),hw.pk 1 [0] zr⟩
 ·intro r _ _ _ _
  exact r.elim
 intro o σ w e hJ
 subst e
 rw [Fo.eT] at hb
 obtain⟨ha,hw⟩:=hJ
 obtain⟨τ,rfl⟩:=ha.aO
 refine aG (RC.sr (mv v0 zr zr (mv (vi o.2.1) zr zr ?_)))
 obtain⟨ax,af,hb⟩:=bd hb
 refine RL.view (i:=0) (lo:=o.2.1) zt zr hw zr zr iE (.inl zr) af (RL.vG (i:=0) zt hw zr zr xe Eb (zx af) fun w hw=>(RL.ns (mv v0 zr zr (mv (vi o.2.1) zr zr ?_))))
 obtain⟨ay,ak,hb⟩:=bd hb
 refine RL.uo (i:=0) zt zr hw zr zr iE (.inr ⟨rfl,zr⟩) (.inl zr) ak fun al hw=>(aM al zr zr (RL.nt (RC.ret ?_)))
 obtain rfl:=oi hb
 exact bQ zr zr (hw.pk 1 [0] zr)
def mV (E:World) (Γ:List HP) (res:Int) (v:Value) (w:World):Prop:=v= (vi res)∧Holds E w Γ
theorem mB (N:Nat) {E w:World} {Γ:List HP} {i0:Nat} {v0:Value} {p0:aC} {i1:Nat} {v1:Value} {p1:aC} {res:Int} (hw:Holds E w Γ) (h0:Γ[i0]? =some (rd v0 p0)) (h1:Γ[i1]? =some (rd v1 p1)) (hb:dG N p0 p1=some res):
    Calls Tryz.prog 65 [v0,v1].toArray w (fw (mV E Γ res)):=by
 unfold dG at hb
 refine enter Tryz.func65 zr zr (Nat.le_of_ble_eq_true zr) ?_
 have hw:=hw.dup (i:=i0+0) h0
 have hw:=hw.dup (i:=i1+1) h1
 refine RC.sr (RL.dN (i:=1) (v:=v0) zt zr hw zr zr fun j w hw=>(RL.dN (i:=1) (v:=v1) zt zr hw zr zr fun o w hw=>(aM (vi 0) zr zr (RL.ns (RL.bF zt zr zr f0 (RL.aL (i:=1) (f:=(fun x=>x.X0)) zt zr hw zr zr cU bX (RL.bF zt zr zr f0 (RL.aL (i:=0) (f:=(fun x=>x.X0)) zt zr hw zr zr cU bX ?_))))))))
 refine RL.gQ (a:=p0.X0) (b:=p1.X0) zt zr zr zr zr (aM (vi (IntKind.wrap .i64 (p0.X0 - p1.X0))) zr zr (RL.nt (RC.ret ?_)))
 obtain rfl:=oi hb
 exact bQ zr zr ⟨rfl,hw.drop 4 zr⟩
def pA (E:World) (Γ:List HP) (v0:Value) (res: (List Int)×(List aC)) (v:Value) (w:World):Prop:=Holds E w ([own 3 v res.1,own 61 v0 res.2]++Γ)
theorem oG (N:Nat) {E w:World} {Γ:List HP} {v0:Value} {p0: (List aC)} {res: (List Int)×(List aC)} (hw:Holds E w (own 61 v0 p0::Γ)) (hb:eL N p0=some res):
    Calls Tryz.prog 40 [v0].toArray w (fw (pA E Γ v0 res)):=by
 unfold eL at hb
 refine enter Tryz.func40 zr zr (Nat.le_of_ble_eq_true zr) (RC.sr (aM (.slice none 0 0) zr zr (RL.ns (mv v0 zr zr ?_))))
 obtain⟨ad,ay,hb⟩:=bd hb
 have hw:=hw.pull (i:=0) rfl
 refine RL.call zt zr CT [v0,(.func (.func 65) #[] #[])] zr (aF (xQ (α:=aC) Tryz.lay33 zr eM.BD eM.sz Ee (fun hw hi hj hr=>mB N hw hi hj hr) hw ay) ?_)
 rintro _ w ⟨rfl,hw⟩
 refine RL.ns (aM (.slice none 0 0) zr zr (RL.nq (RC.sr (mv v0 zr zr (RL.dC (i:=0) (l:=ad) zt zr hw zr zr lj (mv (vi 0) zr zr (RL.nt ?_)))))))
 have hw:=hw.bV Int 3
 obtain⟨o,hN,hb⟩:=bd hb
 refine RC.fold (fun(af:Nat) (o: (List Int)) (σ:Nat→Value) (w:World)=>∃au:Value,agree σ [(0,v0),(3,au),(9,v0),(10,(vi (ad.length:Int))),(11,(vi (af:Int)))]∧Holds E w ([own 61 v0 ad,own 3 au o]++Γ)) (fun(o: (List Int)) (σ:Nat→Value) (w:World)=>∃ah:Value,agree σ [(0,v0),(3,ah)]∧Holds E w ([own 61 v0 ad,own 3 ah o]++Γ)) hN ?_ ?_ ?_ ?_
 ·exact⟨(.slice none 0 0),(ag zr),hw.pk 3 [1,0] zr⟩
 ·intro hm o σ w hI
  obtain⟨az,ha,hw⟩:=hI
  obtain⟨τ,rfl⟩:=ha.aO
  refine RC.sr (ic ((ad.length:Int)) ((ad.length:Int)) zr zr zr zr (RL.nq (RC.cH lZ (RC.ex ?_))))
  exact⟨rfl,az,(ag zr),hw.pk 2 [0,1] zr⟩
 ·intro hm af o s' σ w hk hI hb
  obtain⟨ae,ha,hw⟩:=hI
  obtain⟨τ,rfl⟩:=ha.aO
  refine RC.sr (ic ((af:Int)) ((ad.length:Int)) zr zr zr zr (RL.nq (RC.cG (lY hk) (RC.ss (RC.bs ?_)))))
  obtain⟨ab,aj,hb⟩:=bd hb
  refine RL.bB (i:=0) zt zr hw zr zr zr iE aj (RL.gl (i:=0) (f:=(fun x=>x)) zt zr hw zr (gS hw (i:=0) zr aj 0) zr (aQ aj).2.1 Fd.self eM fun a1 hw=>(RL.alloc zt zr hw kP.z fun av w hw=>(RL.bC (i:=0) (j:=1) zt hw zr zr zr zr eM zr fun w hw=>(RL.ns (mv ae zr zr (RL.dC (i:=3) (l:=o) zt zr hw zr zr jH (RL.gQ (a:=(o.length:Int)) (b:=1) zt zr zr zr zr (aM (vi (IntKind.wrap .i64 ((o.length:Int) - 1))) zr zr ?_))))))))
  refine RL.nq ?_
  obtain⟨ak,hj,hb⟩:=bd hb
  refine RC.jn (fun(ak:Bool) (σ:Nat→Value) (w:World)=>agree σ [(0,v0),(3,ae),(5,(vp av 0)),(6,(vi (IntKind.wrap .i64 ((o.length:Int) - 1)))),(9,v0),(10,(vi (ad.length:Int))),(11,(vi (af:Int))),(28,(vb ak))]∧Holds E w ([own 61 v0 ad,own 3 ae o,bx 61 av ab]++Γ)) ak ?_ ?_
  ·refine RC.uy mixed rfl (by kernel_rfl) ?_
   have hw:=hw.drew
   refine RO.go (mv (vi (IntKind.wrap .i64 ((o.length:Int) - 1))) zr zr (RO.nx (ic ((IntKind.wrap .i64 ((o.length:Int) - 1))) 0 zr zr zr zr (RO.nx (mv (vb (decide ((IntKind.wrap .i64 ((o.length:Int) - 1))≥0))) zr zr (fH hj (fun aa hj=>?_) fun aa hj=>?_))))))
   rotate_left
   ·refine RO.nx (sk zr (.inl (cb aa)) zr (RO.nx (sk zr (.inl (cb aa)) zr (RO.nx (sk zr (.inl (cb aa)) zr (RO.nx (sk zr (.inl (cb aa)) zr (RO.nx ?_))))))))
    refine sk rfl (.inl (cb aa)) rfl (RO.nx (sk rfl (.inl (cb aa)) rfl (RO.nx (sk rfl (.inl (cb aa)) rfl (RO.nx (RL.pick (b:=(decide ((IntKind.wrap .i64 ((o.length:Int) - 1))≥0))) (v:=(vb false)) trivial rfl rfl (by rw [aa];rfl) (RO.last ?_)))))))
    obtain rfl:=oi hj
    exact⟨rfl,(ag zr),hw.pk 4 [2,3,0] zr⟩
   refine RO.nx (RL.bF (cg aa) zr zr f0 (RO.nx (RL.aL (i:=0) (f:=(fun x=>x.X0)) (cg aa) zr hw zr zr cU bX (RO.nx (RL.move (v:=ae) (cg aa) zr zr (RO.nx (RL.move (v:=(vi (IntKind.wrap .i64 ((o.length:Int) - 1)))) (cg aa) zr zr (RO.nx ?_))))))))
   obtain⟨aw,al,hj⟩:=bd hj
   refine RL.bB (i:=3) (cg aa) rfl hw rfl rfl rfl dM al (RO.nx (RL.cF (i:=3) (f:=(fun x=>x)) (cg aa) rfl hw rfl (gS hw (i:=3) rfl al 0) rfl (aQ al).2.1 Fd.self bX (RO.nx (RL.iO (a:=ab.X0) (b:=aw) (cg aa) rfl rfl rfl rfl (RO.nx (RL.pick (b:=(decide ((IntKind.wrap .i64 ((o.length:Int) - 1))≥0))) (v:=(vb (decide (ab.X0≤aw)))) trivial rfl rfl (by rw [aa];rfl) (RO.last ?_)))))))
   obtain rfl:=oi hj
   exact⟨rfl,(ag zr),hw.pk 4 [2,3,0] zr⟩
  rintro σ w ⟨ha,hw⟩
  obtain⟨τ,rfl⟩:=ha.aO
  refine aG ?_
  obtain⟨an,hj,hb⟩:=bd hb
  refine RC.jn (fun(an: (List Int)) (σ:Nat→Value) (w:World)=>∃ai:Value,agree σ [(0,v0),(3,ai),(9,v0),(10,(vi (ad.length:Int))),(11,(vi (af:Int)))]∧Holds E w ([own 61 v0 ad,own 3 ai an]++Γ)) an ?_ ?_
  ·refine eI hj zr (fun hc hj=>?_) fun hc hj=>?_
   rotate_left
   ·refine RC.region (mv ae zr zr (RL.bF zt zr zr f0 (RL.aL (i:=2) (f:=(fun x=>x.X0)) zt zr hw zr zr cU bX (RL.bF zt zr zr gN (RL.aL (i:=2) (f:=(fun x=>x.X1)) zt zr hw zr zr dK bX ?_)))))
    have hw:=hw.sc (γ:=Int) ab.X0
    have hw:=hw.sc (γ:=Int) ab.X1
    refine RL.dY (l:=([ab.X0,ab.X1]: (List Int))) zt zr hw [(vi ab.X0),(vi ab.X1)] zr zr zr dM AW (fun M hs g=>⟨(g.sat 1 _ zr).1,⟨(g.sat 0 _ zr).1,zt⟩⟩) fun a2 w hw=>?_
    have hw:=hw.freeze (i:=0) rfl
    obtain⟨a3,a0,hj⟩:=bd hj
    refine RL.app (i:=4) (j:=0) zt zr hw zr zr zr zr qx a0 fun ax w hw=>(aM ax zr zr (RL.nil ?_))
    obtain rfl:=oi hj
    exact⟨rfl,ax,(ag zr),hw.pk 6 [3,4] zr⟩
   refine RC.BH mixed rfl [0,0,0,0,0,0,0,0,0,0,2] [0,1,2,3,4,5,6,7,8,9,10] (by kernel_rfl) ?_
   have hw:=hw.drew
   refine DP.e0 zr zr (mv ae zr zr (dO zr zr (mv (vi (IntKind.wrap .i64 ((o.length:Int) - 1))) zr zr (dO zr zr (mv ae zr zr (dO zr zr (mv (vi (IntKind.wrap .i64 ((o.length:Int) - 1))) zr zr (dO zr zr ?_))))))))
   obtain⟨ao,aq,hj⟩:=bd hj
   refine RL.bB (i:=1) zt zr hw zr zr zr dM aq (dO zr zr (RL.cF (i:=1) (f:=(fun x=>x)) zt zr hw zr (gS hw (i:=1) zr aq 0) zr (aQ aq).2.1 Fd.self bX (dO zr zr (RL.bF zt zr zr gN (dO zr zr (RL.aL (i:=2) (f:=(fun x=>x.X1)) zt zr hw zr zr dK bX (dO zr zr (RL.max (a:=ao) (b:=ab.X1) zt zr zr zr ?_))))))))
   refine dO zr zr ?_
   obtain⟨a4,ar,hj⟩:=bd hj
   refine RL.bB (i:=1) zt zr hw zr zr zr dM ar (AV zr zr ?_)
   have hw:=hw.sc (γ:=Int) (if ao<ab.X1 then ab.X1 else ao)
   refine RL.eO (i:=2) (j:=0) (f:=(fun _ y=>y)) trivial hw rfl rfl (gS hw (i:=2) rfl ar 0) rfl (aQ ar).2.1 rfl Fs.self (by decide) bX fun w hw=>(DP.d2 trivial (DP.z ?_))
   obtain rfl:=oi hj
   exact⟨rfl,ae,(ag zr),hw.pk 4 [1,2] zr⟩
  rintro σ w ⟨ai,ha,hw⟩
  obtain⟨τ,rfl⟩:=ha.aO
  refine bJ (aG (RC.region (RL.inc zt zr hk hm zr zr (mv (vi ((af+1:Nat):Int)) zr zr (RL.nil ?_)))))
  obtain rfl:=oi hb
  exact⟨rfl,ai,(ag zr),hw.pk 2 [0,1] zr⟩
 intro σ w hJ
 obtain⟨ah,ha,hw⟩:=hJ
 obtain⟨τ,rfl⟩:=ha.aO
 refine aG (RC.sr (mv ah zr zr (aM ah zr zr (RL.nt (RC.ret ?_)))))
 obtain rfl:=oi hb
 exact bQ zr zr (hw.pk 2 [1,0] zr)
def ky (E:World) (Γ:List HP) (res:Bool) (v:Value) (w:World):Prop:=v= (vb res)∧Holds E w Γ
def oH (E:World) (Γ:List HP) (r:Bool) (σ:Nat→Value) (w:World):Prop:=kc Tryz.prog 26 Tryz.f64 (ky E Γ r) .ret σ w
theorem nQ (N:Nat) {E w:World} {Γ:List HP} {i0:Nat} {v0:Value} {p0: (List Int)} {i1:Nat} {v1:Value} {p1: (List Int)} {res:Bool} (hw:Holds E w Γ) (h0:Γ[i0]? =some (rd v0 p0)) (h1:Γ[i1]? =some (rd v1 p1)) (hb:hZ N p0 p1=some res):
    Calls Tryz.prog 64 [v0,v1].toArray w (fw (ky E Γ res)):=by
 unfold hZ at hb
 refine enter Tryz.func64 zr zr (Nat.le_of_ble_eq_true zr) ?_
 have hw:=hw.dup (i:=i0+0) h0
 have hw:=hw.dup (i:=i1+1) h1
 refine RC.sr (aM (vb false) zr zr (RL.nq (RC.sr (mv v0 zr zr (RL.bG (i:=1) (l:=p0) zt zr hw zr zr jH (mv v1 zr zr (RL.bG (i:=0) (l:=p1) zt zr hw zr zr jH (ic ((p0.length:Int)) ((p1.length:Int)) zr zr zr zr ?_))))))))
 refine RL.nt (eI hb zr (fun hc hb=>?_) fun hc hb=>?_)
 ·refine RC.sr (aM (vb false) zr zr (RL.nt (RC.rt ?_)))
  obtain rfl:=oi hb
  exact bQ zr zr ⟨rfl,hw.drop 2 zr⟩
 refine RC.ss (RC.sr (mv v0 zr zr (RL.bG (i:=1) (l:=p0) zt zr hw zr zr jH (mv (vi 0) zr zr (RL.nt ?_)))))
 obtain⟨af,hN,hb⟩:=bd hb
 refine RC.range (fun(j:Nat) (o:Unit) (σ:Nat→Value) (w:World)=>agree σ [(0,v0),(1,v1),(12,(vi (p0.length:Int))),(13,(vi (j:Int)))]∧Holds E w ([rd v0 p0,rd v1 p1]++Γ)) (fun(o:Unit) (σ:Nat→Value) (w:World)=>agree σ []∧Holds E w ([rd v0 p0,rd v1 p1]++Γ)) (oH E Γ) hN ?_ ?_ ?_ ?_ ?_
 ·exact⟨(ag zr),hw.pk 2 [1,0] zr⟩
 ·intro hm o σ w hI
  obtain⟨ha,hw⟩:=hI
  obtain⟨τ,rfl⟩:=ha.aO
  refine RC.sr (ic ((p0.length:Int)) ((p0.length:Int)) zr zr zr zr (RL.nq (RC.cH lZ (RC.ex ?_))))
  exact⟨rfl,zt,hw.pk 2 [0,1] zr⟩
 ·intro hm j o fl σ w hk hI hb
  obtain⟨ha,hw⟩:=hI
  obtain⟨τ,rfl⟩:=ha.aO
  refine RC.sr (ic ((j:Int)) ((p0.length:Int)) zr zr zr zr (RL.nq (RC.cG (lY hk) (RC.ss (RC.bs (mv (vi (j:Int)) zr zr (aM (vi (j:Int)) zr zr (RL.nq ?_))))))))
  refine RC.uy mixed rfl (by kernel_rfl) ?_
  have hw:=hw.drew
  refine RO.go (mv v0 zr zr (RO.nx (mv (vi (j:Int)) zr zr (RO.nx ?_))))
  obtain⟨aa,ad,hb⟩:=bd hb
  refine RL.bO (i:=0) zt zr hw zr zr zr dM ad fun ah hw=>(RO.nx (RL.bA (i:=0) (y:=aa) zt zr hw zr zr bX (RO.nx (mv v1 zr zr (RO.nx (mv (vi (j:Int)) zr zr (RO.nx ?_)))))))
  obtain⟨ab,ae,hb⟩:=bd hb
  refine RL.bO (i:=2) zt zr hw zr zr zr dM ae fun ai hw=>(RO.nx (RL.bA (i:=0) (y:=ab) zt zr hw zr zr bX (RO.nx (ic aa ab zr zr zr zr (RO.last (aG (eI hb zr (fun hc hb=>?_) fun hc hb=>?_)))))))
  rotate_left
  ·refine RC.skip (bJ (aG (RC.region (RL.inc zt zr hk hm zr zr (mv (vi ((j+1:Nat):Int)) zr zr (RL.nil ?_))))))
   obtain rfl:=oi hb
   exact⟨rfl,(ag zr),hw.pk 4 [2,3] zr⟩
  refine RC.sr (aM (vb false) zr zr (RL.nt (RC.rb (bL ?_))))
  obtain rfl:=oi hb
  exact⟨rfl,bQ zr zr ⟨rfl,hw.drop 4 zr⟩⟩
 ·intro r σ w e hK
  subst e
  refine bL ?_
  obtain rfl:=oi hb
  exact hK
 intro o σ w e hJ
 subst e
 rw [Fo.eT] at hb
 obtain⟨ha,hw⟩:=hJ
 obtain⟨τ,rfl⟩:=ha.aO
 refine aG (RC.sr (aM (vb true) zr zr (RL.nt (RC.ret ?_))))
 obtain rfl:=oi hb
 exact bQ zr zr ⟨rfl,hw.drop 2 zr⟩
def qE (E:World) (Γ:List HP) (res: (List aA)) (v:Value) (w:World):Prop:=Holds E w ([own 78 v res]++Γ)
theorem kV (N:Nat) {E w:World} {Γ:List HP} {v0:Value} {p0: (List aA)} {i1:Nat} {v1:Value} {p1:aA} {res: (List aA)} (hw:Holds E w (own 78 v0 p0::Γ)) (h1:Γ[i1]? =some (rd v1 p1)) (hb:eG N p0 p1=some res):
    Calls Tryz.prog 39 [v0,v1].toArray w (fw (qE E Γ res)):=by
 unfold eG at hb
 refine enter Tryz.func39 zr zr (Nat.le_of_ble_eq_true zr) ?_
 have hw:=hw.dup (i:=i1+1) h1
 refine RC.sr (RL.dN (i:=0) (v:=v1) zt zr hw zr zr fun ab w hw=>(aM (.slice none 0 0) zr zr (RL.nq (RC.sr (RL.bF zt zr zr iP (RL.aY (i:=0) (f:=(fun x=>x.Xs)) zt zr hw zr zr bR dL fun au hw=>(RL.bG (i:=0) (l:=p1.Xs) zt zr hw zr zr jH (ic ((p1.Xs.length:Int)) 0 zr zr zr zr ?_))))))))
 refine mv (vb ((p1.Xs.length:Int)==0)) rfl rfl (RL.gs (c:=true) (b:=((p1.Xs.length:Int)==0)) (v:=(vp ab 1)) rfl rfl rfl (dD rfl (fun _=>rfl) jV) (RL.gs (c:=true) (b:=((p1.Xs.length:Int)==0)) (v:=(vi p1.Y1)) rfl rfl rfl (bK (i:=1) (f:=(fun x=>x.Y1)) rfl hw (fun h=>by exact(cC h:cv (true&&(((p1.Xs.length:Int)==0)==false)) (vp ab 1)= (vp ab 1))) rfl cL bX) (RL.gs (c:=true) (b:=((p1.Xs.length:Int)==0)) (v:=(vp ab 0)) rfl rfl rfl (dD rfl (fun _=>rfl) lk) (RL.gs (c:=true) (b:=((p1.Xs.length:Int)==0)) (v:=(vi p1.Y0)) rfl rfl rfl (bK (i:=1) (f:=(fun x=>x.Y0)) rfl hw (fun h=>by exact(cC h:cv (true&&(((p1.Xs.length:Int)==0)==false)) (vp ab 0)= (vp ab 0))) rfl cR bX) (RL.gs (c:=true) (b:=((p1.Xs.length:Int)==0)) (v:=(vb (decide (p1.Y1≤p1.Y0)))) rfl rfl rfl (cV (bop:= .leq) (K:= .i64) (a:=p1.Y1) (b:=p1.Y0) rfl (fun h=>by exact(cC h:cv (true&&(((p1.Xs.length:Int)==0)==false)) (vi p1.Y1)= (vi p1.Y1))) (fun h=>by exact(cC h:cv (true&&(((p1.Xs.length:Int)==0)==false)) (vi p1.Y0)= (vi p1.Y0))) rfl) (RL.pick (b:=((p1.Xs.length:Int)==0)) (v:=(vb (((p1.Xs.length:Int)==0)||(decide (p1.Y1≤p1.Y0))))) trivial rfl rfl (ml (c:=true) rfl) (RL.nt (eI hb rfl (fun hc hb=>?_) fun hc hb=>?_))))))))
 ·refine RC.sr (mv v0 zr zr (aM v0 zr zr (RL.nt (RC.rt ?_))))
  obtain rfl:=oi hb
  exact bQ zr zr (hw.pk 4 [3] zr)
 refine RC.ss (RC.sr (mv v0 zr zr (RL.dC (i:=3) (l:=p0) zt zr hw zr zr nO (RL.gQ (a:=(p0.length:Int)) (b:=1) zt zr zr zr zr (aM (vi (IntKind.wrap .i64 ((p0.length:Int) - 1))) zr zr (RL.nq ?_))))))
 obtain⟨ai,hj,hb⟩:=bd hb
 refine RC.jn (fun(ai:Bool) (σ:Nat→Value) (w:World)=>agree σ [(0,v0),(3,(vp ab 0)),(5,(vi (IntKind.wrap .i64 ((p0.length:Int) - 1)))),(42,(vb ai))]∧Holds E w ([own 78 v0 p0,bx 78 ab p1]++Γ)) ai ?_ ?_
 ·refine RC.BH mixed rfl [0,0,0,0,0,0,0,0,0,0,0,0,0,0,0,0,0,0,0,0,2,0] [0,1,2,3,4,5,6,7,8,9,10,11,12,13,14,15,16,17,18,19,20,21] (by kernel_rfl) ?_
  have hw:=hw.drew
  refine DP.e0 zr zr (mv (vi (IntKind.wrap .i64 ((p0.length:Int) - 1))) zr zr (dO zr zr (ic ((IntKind.wrap .i64 ((p0.length:Int) - 1))) 0 zr zr zr zr (dO zr zr (mv (vb (decide ((IntKind.wrap .i64 ((p0.length:Int) - 1))≥0))) zr zr (DP.d0 (fH hj (fun o hj=>?_) fun o hj=>?_)))))))
  rotate_left
  ·refine DP.e0 zr zr (sk zr (.inl (cb o)) zr (dO zr zr (sk zr (.inl (cb o)) zr (dO zr zr (sk zr (.inl (cb o)) zr (dO zr zr (sk zr (.inl (cb o)) zr (dO zr zr ?_))))))))
   refine sk rfl (.inl (cb o)) rfl (dO rfl rfl (sk rfl (.inl (cb o)) rfl (dO rfl rfl (sk rfl (.inl (cb o)) rfl (dO rfl rfl (sk rfl (.inl (cb o)) rfl (dO rfl rfl (RL.pick (b:=(decide ((IntKind.wrap .i64 ((p0.length:Int) - 1))≥0))) (v:=(vb false)) trivial rfl rfl (by rw [o];rfl) ?_))))))))
   refine dO zr zr (mv (vb false) zr zr (dO zr zr (sk zr (.inl zr) zr (dO zr zr (sk zr (.inl zr) zr (dO zr zr (sk zr (.inl zr) zr (dO zr zr ?_))))))))
   refine sk zr (.inl zr) zr (dO zr zr (sk zr (.inl zr) zr (dO zr zr (sk zr (.inl zr) zr (dO zr zr (sk zr (.inl zr) zr (AV zr zr (sk zr (.inl zr) zr ?_))))))))
   refine DU zt zr zr (RL.pick (b:=false) (v:=(vb false)) zt zr zr zr (DP.d0 (DP.z ?_)))
   obtain rfl:=oi hj
   exact⟨rfl,(ag zr),hw.pk 4 [3,1] zr⟩
  refine DP.e0 zr zr (RL.move (v:=v0) (cg o) zr zr (dO zr zr (RL.move (v:=(vi (IntKind.wrap .i64 ((p0.length:Int) - 1)))) (cg o) zr zr (dO zr zr ?_))))
  obtain⟨ad,ae,hj⟩:=bd hj
  refine RL.bB (i:=3) (cg o) zr hw zr zr zr jA ae (dO zr zr (RL.i7 (α:=aA) (cg o) zr zr (gS hw (i:=3) zr ae 0) jV (dO zr zr (RL.cF (i:=3) (f:=(fun x=>x.Y1)) (cg o) zr hw zr (gS hw (i:=3) zr ae 1) zr (aQ ae).2.1 cL bX (dO zr zr (RL.bF (cg o) zr zr lk (dO zr zr (RL.aL (i:=1) (f:=(fun x=>x.Y0)) (cg o) zr hw zr zr cR bX ?_))))))))
  refine dO rfl rfl (RL.iO (a:=ad.Y1) (b:=p1.Y0) (cg o) rfl rfl rfl rfl (dO rfl rfl (RL.pick (b:=(decide ((IntKind.wrap .i64 ((p0.length:Int) - 1))≥0))) (v:=(vb (ad.Y1==p1.Y0))) trivial rfl rfl (by rw [o];rfl) (dO rfl rfl (mv (vb (ad.Y1==p1.Y0)) rfl rfl (DP.d0 (fH hj (fun aa hj=>?_) fun aa hj=>?_)))))))
  rotate_left
  ·refine DP.e0 zr zr (sk zr (.inl (cb aa)) zr (dO zr zr (sk zr (.inl (cb aa)) zr (dO zr zr (sk zr (.inl (cb aa)) zr (dO zr zr (sk zr (.inl (cb aa)) zr (dO zr zr ?_))))))))
   refine sk rfl (.inl (cb aa)) rfl (dO rfl rfl (sk rfl (.inl (cb aa)) rfl (dO rfl rfl (sk rfl (.inl (cb aa)) rfl (AV rfl rfl (sk rfl (.inl (cb aa)) rfl (DU trivial rfl rfl (RL.pick (b:=(ad.Y1==p1.Y0)) (v:=(vb false)) trivial rfl rfl (by rw [aa];rfl) ?_))))))))
   refine DP.d0 (DP.z ?_)
   obtain rfl:=oi hj
   exact⟨rfl,(ag zr),hw.pk 4 [3,1] zr⟩
  refine DP.e0 zr zr (RL.move (v:=v0) (cg aa) zr zr (dO zr zr (RL.move (v:=(vi (IntKind.wrap .i64 ((p0.length:Int) - 1)))) (cg aa) zr zr (dO zr zr ?_))))
  obtain⟨av,af,hj⟩:=bd hj
  refine RL.bB (i:=3) (cg aa) zr hw zr zr zr jA af (dO zr zr (RL.i7 (α:=aA) (cg aa) zr zr (gS hw (i:=3) zr af 0) iP (dO zr zr (RL.gl (i:=3) (f:=(fun x=>x.Xs)) (cg aa) zr hw zr (gS hw (i:=3) zr af 2) zr (aQ af).2.1 bR dL fun aj hw=>(dO zr zr (RL.bF (cg aa) zr zr iP (dO zr zr (RL.aY (i:=2) (f:=(fun x=>x.Xs)) (cg aa) zr hw zr zr bR dL fun ak hw=>?_))))))))
  refine AV zr zr ?_
  obtain⟨al,an,hj⟩:=bd hj
  refine RL.call (cg aa) zr Eg [aj,ak] zr (aF (nQ N (i0:=1) (i1:=0) hw zr zr an) ?_)
  rintro _ w ⟨rfl,hw⟩
  refine DU trivial rfl rfl (RL.pick (b:=(ad.Y1==p1.Y0)) (v:=(vb al)) trivial rfl rfl (by rw [aa];rfl) (DP.d0 (DP.z ?_)))
  obtain rfl:=oi hj
  exact⟨rfl,(ag zr),hw.pk 6 [5,3] zr⟩
 rintro σ w ⟨ha,hw⟩
 obtain⟨τ,rfl⟩:=ha.aO
 refine aG (eI hb zr (fun hc hb=>?_) fun hc hb=>?_)
 rotate_left
 ·refine RC.sx (mv v0 zr zr (RL.aY (i:=1) (f:=(fun x=>x)) zt zr hw zr zr Fd.self uI fun ao hw=>(RL.dY (l:=([p1]: (List aA))) zt zr hw [ao] zr zr zr jA zS (fun M hs g=>⟨(g.sat 0 _ zr).1,zt⟩) fun aw w hw=>?_)))
  have hw:=hw.freeze (i:=0) rfl
  obtain⟨ax,aq,hb⟩:=bd hb
  refine RL.app (i:=2) (j:=0) zt zr hw zr zr zr zr Eh aq fun ar w hw=>(aM ar zr zr (RL.nt (RC.ret ?_)))
  obtain rfl:=oi hb
  exact bQ zr zr (hw.pk 4 [2] zr)
 refine RC.sr (mv v0 zr zr (mv (vi (IntKind.wrap .i64 ((p0.length:Int) - 1))) zr zr (RL.bF zt zr zr jV (RL.aL (i:=1) (f:=(fun x=>x.Y1)) zt zr hw zr zr cL bX ?_))))
 obtain⟨ay,ah,hb⟩:=bd hb
 refine RL.bB (i:=0) zt zr hw zr zr zr jA ah (RL.i7 (α:=aA) zt zr zr (gS hw (i:=0) zr ah 0) jV ?_)
 have hw:=hw.sc (γ:=Int) p1.Y1
 refine RL.eO (i:=1) (j:=0) (f:=(fun x y=>{x with Y1:=y})) trivial hw rfl rfl (gS hw (i:=1) rfl ah 1) rfl (aQ ah).2.1 rfl jT (by decide) bX fun w hw=>(RL.ns (mv v0 rfl rfl (aM v0 rfl rfl (RL.nt (RC.rt ?_)))))
 obtain rfl:=oi hb
 exact bQ zr zr (hw.pk 3 [1] zr)
def tD (E:World) (Γ:List HP) (res: (List aA)) (v:Value) (w:World):Prop:=Holds E w ([own 78 v res]++Γ)
theorem ga (N:Nat) {E w:World} {Γ:List HP} {i0:Nat} {v0:Value} {p0: (List aC)} {res: (List aA)} (hw:Holds E w Γ) (h0:Γ[i0]? =some (rd v0 p0)) (hb:cW N p0=some res):
    Calls Tryz.prog 19 [v0].toArray w (fw (tD E Γ res)):=by
 unfold cW at hb
 refine enter Tryz.func19 zr zr (Nat.le_of_ble_eq_true zr) ?_
 have hw:=hw.dup (i:=i0+0) h0
 refine RC.sr (aM (.slice none 0 0) zr zr (RL.ns (mv v0 zr zr ?_)))
 obtain⟨cp,br,hb⟩:=bd hb
 refine RL.call zt zr D7 [v0] zr (aF (mT N (i0:=0) hw zr br) ?_)
 rintro aj w hw
 refine aM aj zr zr (RL.ns (mv aj zr zr ?_))
 obtain⟨an,bt,hb⟩:=bd hb
 have hw:=hw.pull (i:=0) rfl
 refine RL.call zt zr CT [aj,(.func (.func 34) #[] #[])] zr (aF (xQ (α:=aC) Tryz.lay33 zr eM.BD eM.sz D8 (fun hw hi hj hr=>py N hw hi hj hr) hw bt) ?_)
 rintro _ w ⟨rfl,hw⟩
 refine RL.ns (RL.r6 zt zr hw CU zr fun ao w hw=>(RL.nq (RC.sr (mv aj zr zr (RL.dC (i:=1) (l:=an) zt zr hw zr zr lj (mv (vi 0) zr zr (RL.nt ?_)))))))
 obtain⟨a1,hN,hb⟩:=bd hb
 refine RC.fold (fun(a4:Nat) (a1: (List Int)) (σ:Nat→Value) (w:World)=>∃bb:Value,agree σ [(0,aj),(3,(vp ao 0)),(14,aj),(15,(vi (an.length:Int))),(16,(vi (a4:Int)))]∧Holds E w ([own 61 aj an,bc 53 ao [bb],own 3 bb a1]++Γ)) (fun(a1: (List Int)) (σ:Nat→Value) (w:World)=>∃aw:Value,agree σ [(0,aj),(3,(vp ao 0))]∧Holds E w ([own 61 aj an,bc 53 ao [aw],own 3 aw a1]++Γ)) hN ?_ ?_ ?_ ?_
 ·have hw:=hw.bV Int 3
  exact⟨(.slice none 0 0),(ag zr),hw.pk 5 [2,1,0] zr⟩
 ·intro hm a1 σ w hI
  obtain⟨bu,ha,hw⟩:=hI
  obtain⟨τ,rfl⟩:=ha.aO
  refine RC.sr (ic ((an.length:Int)) ((an.length:Int)) zr zr zr zr (RL.nq (RC.cH lZ (RC.ex ?_))))
  exact⟨rfl,bu,(ag zr),hw.pk 3 [0,1,2] zr⟩
 ·intro hm a4 a1 s' σ w hk hI hb
  obtain⟨bw,ha,hw⟩:=hI
  obtain⟨τ,rfl⟩:=ha.aO
  refine RC.sr (ic ((a4:Int)) ((an.length:Int)) zr zr zr zr (RL.nq (RC.cG (lY hk) (RC.ss (RC.bs ?_)))))
  obtain⟨a2,a7,hb⟩:=bd hb
  refine RL.bB (i:=0) zt zr hw zr zr zr iE a7 (RL.gl (i:=0) (f:=(fun x=>x)) zt zr hw zr (gS hw (i:=0) zr a7 0) zr (aQ a7).2.1 Fd.self eM fun cq hw=>(RL.alloc zt zr hw kP.z fun cr w hw=>(RL.bC (i:=0) (j:=1) zt hw zr zr zr zr eM zr fun w hw=>(RL.nt (RC.region (RL.bE (i:=3) (v:=bw) zt zr hw zr zr zr dL (RL.bF zt zr zr gM (RL.aL (i:=0) (f:=(fun x=>x.Y0)) zt zr hw zr zr cZ bX ?_))))))))
  refine RL.bF zt zr zr jU (RL.aL (i:=0) (f:=(fun x=>x.Y1)) zt zr hw zr zr fz bX ?_)
  have hw:=hw.sc (γ:=Int) a2.Y0
  have hw:=hw.sc (γ:=Int) a2.Y1
  refine RL.dY (l:=([a2.Y0,a2.Y1]: (List Int))) zt zr hw [(vi a2.Y0),(vi a2.Y1)] zr zr zr dM AW (fun M hs g=>⟨(g.sat 1 _ zr).1,⟨(g.sat 0 _ zr).1,zt⟩⟩) fun ct w hw=>?_
  have hw:=hw.freeze (i:=0) rfl
  obtain⟨cu,bz,hb⟩:=bd hb
  refine RL.app (i:=7) (j:=0) zt zr hw zr zr zr zr qx bz fun bf w hw=>(RL.fU (i:=6) (v:=bf) zt hw zr zr zr zr (gm hw (i:=7) zr) dL fun w hw=>(RL.nil (bJ (aG (RC.region (RL.inc zt zr hk hm zr zr (mv (vi ((a4+1:Nat):Int)) zr zr (RL.nil ?_))))))))
  obtain rfl:=oi hb
  exact⟨rfl,bf,(ag zr),hw.pk 8 [5,6,7] zr⟩
 intro σ w hJ
 obtain⟨aw,ha,hw⟩:=hJ
 obtain⟨τ,rfl⟩:=ha.aO
 refine aG (RC.sr (RL.bE (i:=1) (v:=aw) zt zr hw zr zr zr dL ?_))
 obtain⟨cv,b0,hb⟩:=bd hb
 have hw:=hw.pull (i:=2) rfl
 refine RL.call zt zr D9 [aw] zr (aF (zF Tryz.lay35 hw b0) ?_)
 rintro _ w ⟨rfl,hw⟩
 refine RL.ns (RL.bE (i:=2) (v:=aw) zt zr hw zr zr zr dL ?_)
 have hw:=hw.pull (i:=0) rfl
 obtain⟨aq,b1,hb⟩:=bd hb
 refine RL.call zt zr Ea [aw] zr (aF (mA N hw b1) ?_)
 rintro b2 w hw
 refine RL.fU (i:=3) (v:=b2) zt hw zr zr zr zr (gm hw (i:=0) zr) dL fun w hw=>(RL.ns (aM (.slice none 0 0) zr zr (RL.ns (aM (.slice none 0 0) zr zr (RL.ns (aM (vi 0) zr zr (RL.nq (RC.sr ?_))))))))
 refine RL.alloc zt zr hw AW.z fun b3 w hw=>?_
 have hw:=hw.sc (γ:=Int) 0
 refine RL.bC (i:=1) (j:=0) zt hw zr zr zr zr bX zr fun w hw=>(RL.nt ?_)
 have hw:=hw.freeze (i:=2) rfl
 have hw:=hw.zv (i:=5) (x:=aq) rfl (fun M hs g=>(uq rfl (g.sat 2 _ rfl).1))
 have hw:=hw.ny (i:=5) rfl
 have hw:=hw.bV aA 78
 have hw:=hw.bV aC 61
 obtain⟨cw,hN,hb⟩:=bd hb
 refine RC.iter (fun(aa: (List aA)×(List aC)×Int×Int) (σ:Nat→Value) (w:World)=>∃(bg:Value) (bh:Value) (bj:Nat),agree σ [(0,aj),(3,(vp ao 0)),(6,bg),(7,bh),(8,(vi aa.2.2.1)),(9,(vp bj 0))]∧Holds E w ([own 61 aj an,pt (vp ao 0) aq,own 78 bg aa.1,own 61 bh aa.2.1,bx 3 bj aa.2.2.2]++Γ)) (fun(aa: (List aA)×(List aC)×Int×Int) (σ:Nat→Value) (w:World)=>∃a3:Value,agree σ [(6,a3)]∧Holds E w ([own 61 aj an,pt (vp ao 0) aq,own 78 a3 aa.1]++Γ)) (fun(r:Empty) (_:Nat→Value) (_:World)=>r.elim) hN ?_ ?_ ?_ ?_
 ·exact⟨(.slice none 0 0),(.slice none 0 0),b3,(ag zr),hw.pk 9 [6,7,1,0,3] zr⟩
 ·intro aa fl σ w hI hb
  obtain⟨ar,bk,au,ha,hw⟩:=hI
  obtain⟨τ,rfl⟩:=ha.aO
  refine RC.seq (RC.sr (RL.aL (i:=4) (f:=(fun x=>x)) zt zr hw zr zr Fd.self bX (RL.gQ (a:=aa.2.2.2) (b:=1) zt zr zr zr zr (RL.bP (i:=1) (x:=aq) zt zr hw zr zr dL fun cx hw=>(RL.bG (i:=0) (l:=aq) zt zr hw zr zr jH (ic ((IntKind.wrap .i64 (aa.2.2.2+1))) ((aq.length:Int)) zr zr zr zr (RL.nt (eI hb zr (fun hc hb=>?_) fun hc hb=>?_))))))))
  rotate_left
  ·refine RC.ex ?_
   obtain rfl:=oi hb
   exact⟨rfl,ar,⟨rfl,zt⟩,hw.pk 6 [1,2,3] zr⟩
  refine RC.ss (RC.bs (mv bk zr zr ?_))
  have hw:=hw.ny (i:=5) rfl
  refine RL.makeFunc zt zr [(vp ao 0),(vp au 0)] zr ?_
  have hw:=hw.pull (i:=4) rfl
  obtain⟨cy,b4,hb⟩:=bd hb
  refine RL.call trivial rfl Ed [bk,(.func (.func 38) #[] #[(vp ao 0),(vp au 0)])] rfl (aF (kQ N hw ⟨38,[(vp ao 0),(vp au 0)],rfl,Ec,fun w Γl v y0 r i hw hi hr=>by exact aF (pz N (i0:=i) (i1:=Γl.length+2) (i2:=Γl.length+5) hw hi (uj rfl) (uj rfl) hr) fun _ _ h=>h⟩ b4) ?_)
  rintro bl w hw
  refine aM bl zr zr (RL.nq ?_)
  obtain⟨cz,hN,hb⟩:=bd hb
  refine RC.iter (fun(al: (List aC)×Int) (σ:Nat→Value) (w:World)=>∃bm:Value,agree σ [(0,aj),(3,(vp ao 0)),(6,ar),(7,bm),(8,(vi al.2)),(9,(vp au 0))]∧Holds E w ([own 61 aj an,pt (vp ao 0) aq,own 78 ar aa.1,pt (vp au 0) aa.2.2.2,own 61 bm al.1]++Γ)) (fun(al: (List aC)×Int) (σ:Nat→Value) (w:World)=>∃av:Value,agree σ [(0,aj),(3,(vp ao 0)),(6,ar),(7,av),(8,(vi al.2)),(9,(vp au 0))]∧Holds E w ([own 61 aj an,pt (vp ao 0) aq,own 78 ar aa.1,pt (vp au 0) aa.2.2.2,own 61 av al.1]++Γ)) (fun(r:Empty) (_:Nat→Value) (_:World)=>r.elim) hN ?_ ?_ ?_ ?_
  ·exact⟨bl,(ag zr),hw.pk 7 [2,3,4,6,0] zr⟩
  ·intro al fl σ w hI hb
   obtain⟨a5,ha,hw⟩:=hI
   obtain⟨τ,rfl⟩:=ha.aO
   refine RC.seq (RC.seq ?_)
   obtain⟨a8,hj,hb⟩:=bd hb
   refine RC.jn (fun(a8:Bool) (σ:Nat→Value) (w:World)=>agree σ [(0,aj),(3,(vp ao 0)),(6,ar),(7,a5),(8,(vi al.2)),(9,(vp au 0)),(57,(vb a8))]∧Holds E w ([own 61 aj an,pt (vp ao 0) aq,own 78 ar aa.1,own 61 a5 al.1,pt (vp au 0) aa.2.2.2]++Γ)) a8 ?_ ?_
   ·refine RC.uy mixed rfl (by kernel_rfl) ?_
    have hw:=hw.drew
    refine RO.go (mv (vi al.2) zr zr (RO.nx (mv aj zr zr (RO.nx (RL.dC (i:=0) (l:=an) zt zr hw zr zr lj (RO.nx (ic (al.2) ((an.length:Int)) zr zr zr zr (RO.nx ?_))))))))
    refine mv (vb (decide (al.2< (an.length:Int)))) zr zr (fH hj (fun ak hj=>?_) fun ak hj=>?_)
    rotate_left
    ·refine RO.nx (sk zr (.inl (cb ak)) zr (RO.nx (sk zr (.inl (cb ak)) zr (RO.nx (sk zr (.inl (cb ak)) zr (RO.nx (sk zr (.inl (cb ak)) zr (RO.nx ?_))))))))
     refine sk zr (.inl (cb ak)) zr (RO.nx (sk zr (.inl (cb ak)) zr (RO.nx (sk zr (.inl (cb ak)) zr (RO.nx (sk zr (.inl (cb ak)) zr (RO.nx (sk zr (.inl (cb ak)) zr ?_))))))))
     refine RO.nx (sk rfl (.inl (cb ak)) rfl (RO.nx (RL.pick (b:=(decide (al.2< (an.length:Int)))) (v:=(vb false)) trivial rfl rfl (by rw [ak];rfl) (RO.last ?_))))
     obtain rfl:=oi hj
     exact⟨rfl,(ag zr),hw.pk 5 [0,1,2,4,3] zr⟩
    refine RO.nx (RL.move (v:=aj) (cg ak) zr zr (RO.nx (RL.move (v:=(vi al.2)) (cg ak) zr zr (RO.nx ?_))))
    obtain⟨bn,a6,hj⟩:=bd hj
    refine RL.bB (i:=0) (cg ak) zr hw zr zr zr iE a6 (RO.nx (RL.i7 (α:=aC) (cg ak) zr zr (gS hw (i:=0) zr a6 0) gM (RO.nx (RL.cF (i:=0) (f:=(fun x=>x.Y0)) (cg ak) zr hw zr (gS hw (i:=0) zr a6 1) zr (aQ a6).2.1 cZ bX (RO.nx (RL.bP (i:=1) (x:=aq) (cg ak) zr hw zr zr dL fun c0 hw=>(RO.nx (RL.bA (i:=4) (y:=aa.2.2.2) (cg ak) zr hw zr zr bX ?_))))))))
    refine RO.nx ?_
    obtain⟨a9,b5,hj⟩:=bd hj
    refine RL.bO (i:=0) (cg ak) rfl hw rfl rfl rfl dM b5 fun c1 hw=>(RO.nx (RL.bA (i:=0) (y:=a9) (cg ak) rfl hw rfl rfl bX (RO.nx (RL.iO (a:=bn.Y0) (b:=a9) (cg ak) rfl rfl rfl rfl (RO.nx (RL.pick (b:=(decide (al.2< (an.length:Int)))) (v:=(vb (decide (bn.Y0≤a9)))) trivial rfl rfl (by rw [ak];rfl) (RO.last ?_)))))))
    obtain rfl:=oi hj
    exact⟨rfl,(ag zr),hw.pk 7 [2,3,4,6,5] zr⟩
   rintro σ w ⟨ha,hw⟩
   obtain⟨τ,rfl⟩:=ha.aO
   refine aG (eI hb zr (fun hc hb=>?_) fun hc hb=>?_)
   rotate_left
   ·refine RC.ex ?_
    obtain rfl:=oi hb
    exact⟨rfl,a5,(ag zr),hw.pk 5 [0,1,2,4,3] zr⟩
   refine RC.sn (RC.block (RC.region (mv a5 zr zr (mv aj zr zr (mv (vi al.2) zr zr ?_)))))
   obtain⟨b6,ba,hb⟩:=bd hb
   refine RL.bB (i:=0) zt zr hw zr zr zr iE ba (RL.gl (i:=0) (f:=(fun x=>x)) zt zr hw zr (gS hw (i:=0) zr ba 0) zr (aQ ba).2.1 Fd.self eM fun b7 hw=>(RL.dY (l:=([b6]: (List aC))) zt zr hw [b7] zr zr zr iE kP (fun M hs g=>⟨(g.sat 0 _ zr).1,zt⟩) fun c2 w hw=>?_))
   have hw:=hw.freeze (i:=0) rfl
   obtain⟨c3,b8,hb⟩:=bd hb
   refine RL.app (i:=5) (j:=0) zt zr hw zr zr zr zr xe b8 fun bo w hw=>(mv (vi al.2) zr zr (RL.gQ (a:=al.2) (b:=1) zt zr zr zr zr (aM bo zr zr (aM (vi (IntKind.wrap .i64 (al.2+1))) zr zr (RL.nil (bJ ?_))))))
   obtain rfl:=oi hb
   exact⟨rfl,bo,(ag zr),hw.pk 7 [2,3,4,6,5] zr⟩
  ·intro r _ _ _ _
   exact r.elim
  intro al σ w e hJ
  subst e
  rw [Fo.eT] at hb
  obtain⟨av,ha,hw⟩:=hJ
  obtain⟨τ,rfl⟩:=ha.aO
  refine aG ?_
  obtain⟨ax,b9,hb⟩:=bd hb
  obtain⟨ay,ca,hb⟩:=bd hb
  obtain⟨a0,cc,hb⟩:=bd hb
  obtain⟨cd,cf,hb⟩:=bd hb
  refine RC.tw (E:=E) (Γ:=Γ) mixed rfl [0,0,0,0,0,0,0,1,0,0,1,0,0,0,1] [1,3,5,8,11,12,13] (fun(x:Value×Value×Value×Value×Value×Value×Value)=>(fun ae af ah ai o ad ab=>[(0,67,ar),(1,68,ae),(2,69,(vi aa.2.2.2)),(3,70,af),(4,71,(vi ax)),(5,72,ah),(6,73,(vi aa.2.2.2)),(7,74,(vi (IntKind.wrap .i64 (aa.2.2.2+1)))),(8,75,ai),(9,76,(vi ay)),(10,77,av),(11,78,o),(12,79,ad),(13,80,ab),(14,6,ab)]) x.1 x.2.1 x.2.2.1 x.2.2.2.1 x.2.2.2.2.1 x.2.2.2.2.2.1 x.2.2.2.2.2.2) [(0,aj),(3,(vp ao 0)),(7,av),(8,(vi al.2)),(9,(vp au 0))] [(14,6,ar)] (fun(D:Nat→Bool) (x:Value×Value×Value×Value×Value×Value×Value)=>(fun ae af ah ai o ad ab=>[bif D 0 then (rd ae aq) else aK,bif D 1 then (pt af ax) else aK,bif D 2 then (rd ah aq) else aK,bif D 3 then (pt ai ay) else aK,bif D 5 then (rd o a0.1) else (bif D 4 then (own 3 o a0.1) else aK),bif D 5 then (rd ad (⟨ax,ay,a0.1⟩:aA)) else aK,own 61 aj an,pt (vp ao 0) aq,bif D 6 then (own 78 ab cd) else (own 78 ar aa.1),pt (vp au 0) aa.2.2.2,bif D 4 then (own 61 av a0.2) else (own 61 av al.1)]) x.1 x.2.1 x.2.2.1 x.2.2.2.1 x.2.2.2.2.1 x.2.2.2.2.2.1 x.2.2.2.2.2.2) (fun x=>by kernel_rfl) ?_ ⟨?_,?_,?_,?_,?_,?_,?_,fun _=>zH gn rfl,?_,?_,fun _=>eA gn rfl,?_,?_,?_,fun _=>yt gn rfl,trivial⟩ ?_
  ·have hw:=hw.drew
   have hw:=hw.aK
   have hw:=hw.aK
   have hw:=hw.aK
   have hw:=hw.aK
   have hw:=hw.aK
   have hw:=hw.aK
   exact⟨(undef,undef,undef,undef,undef,undef,undef),doneV.none,(ag zr),⟨fun _=>zr,zt⟩,hw⟩
  ·rintro D σ w hD hdep hcl ⟨⟨ae,af,ah,ai,o,ad,ab⟩,hv,ha,ho,hw⟩
   obtain⟨τ,rfl⟩:=(ac (ho.at 0 rfl (nf (fun h=>ft hD ((hcl 14 _ rfl h).2.2.1 rfl)))) az).aO
   refine mv ar zr zr ?_
   exact RL.nil ⟨rfl,(ae,af,ah,ai,o,ad,ab),hv.put 0 zr zr,ha.up zr,ho.up zr,hw⟩
  ·rintro D σ w hD hdep hcl ⟨⟨ae,af,ah,ai,o,ad,ab⟩,hv,ha,ho,hw⟩
   obtain⟨τ,rfl⟩:=(ac (ha.at 1 rfl) az).aO
   have hw:=hw.aP (i:=0) rfl hD
   refine RL.bP (i:=7) (x:=aq) zt zr hw zr zr dL fun ch hw=>?_
   have hw:=hw.pl 12 [0,2,3,4,5,6,7,8,9,10,11] rfl
   have hw:=hw.aS (i:=0) (b:=true) rfl rfl (aK)
   exact RL.nil ⟨rfl,(ch,af,ah,ai,o,ad,ab),hv.put 1 zr zr,ha.up zr,ho.up zr,hw⟩
  ·rintro D σ w hD hdep hcl ⟨⟨ae,af,ah,ai,o,ad,ab⟩,hv,ha,ho,hw⟩
   obtain⟨τ,rfl⟩:=(ac (ha.at 4 rfl) az).aO
   refine RL.bA (i:=9) (y:=aa.2.2.2) zt zr hw zr zr bX ?_
   exact RL.nil ⟨rfl,(ae,af,ah,ai,o,ad,ab),hv.put 2 zr zr,ha.up zr,ho.up zr,hw⟩
  ·rintro D σ w hD hdep hcl ⟨⟨ae,af,ah,ai,o,ad,ab⟩,hv,ha,ho,hw⟩
   obtain⟨τ,rfl⟩:=(ac (hv.at 1 rfl (hdep.1 rfl)) (ac (hv.at 2 rfl (hdep.2.1 rfl)) az)).aO
   have hw:=hw.aR (i:=0) rfl (hdep.1 rfl)
   have hw:=hw.aP (i:=1) rfl hD
   refine RL.bO (i:=0) zt zr hw zr zr zr dM b9 fun cj hw=>?_
   have hw:=hw.pl 12 [1,0,3,4,5,6,7,8,9,10,11] rfl
   have hw:=hw.aS (i:=0) (b:=D 1) rfl (hdep.1 rfl) (aK)
   have hw:=hw.aS (i:=1) (b:=true) rfl rfl (aK)
   exact RL.nil ⟨rfl,(ae,cj,ah,ai,o,ad,ab),hv.put 3 zr zr,ha.up zr,ho.up zr,hw⟩
  ·rintro D σ w hD hdep hcl ⟨⟨ae,af,ah,ai,o,ad,ab⟩,hv,ha,ho,hw⟩
   obtain⟨τ,rfl⟩:=(ac (hv.at 3 rfl (hdep.1 rfl)) az).aO
   have hw:=hw.aR (i:=1) rfl (hdep.1 rfl)
   refine RL.bA (i:=1) (y:=ax) zt zr hw zr zr bX ?_
   have hw:=hw.aS (i:=1) (b:=D 3) rfl (hdep.1 rfl) (aK)
   exact RL.nil ⟨rfl,(ae,af,ah,ai,o,ad,ab),hv.put 4 zr zr,ha.up zr,ho.up zr,hw⟩
  ·rintro D σ w hD hdep hcl ⟨⟨ae,af,ah,ai,o,ad,ab⟩,hv,ha,ho,hw⟩
   obtain⟨τ,rfl⟩:=(ac (ha.at 1 rfl) az).aO
   have hw:=hw.aP (i:=2) rfl hD
   refine RL.bP (i:=7) (x:=aq) zt zr hw zr zr dL fun ck hw=>?_
   have hw:=hw.pl 12 [1,2,0,4,5,6,7,8,9,10,11] rfl
   have hw:=hw.aS (i:=2) (b:=true) rfl rfl (aK)
   exact RL.nil ⟨rfl,(ae,af,ck,ai,o,ad,ab),hv.put 5 zr zr,ha.up zr,ho.up zr,hw⟩
  ·rintro D σ w hD hdep hcl ⟨⟨ae,af,ah,ai,o,ad,ab⟩,hv,ha,ho,hw⟩
   obtain⟨τ,rfl⟩:=(ac (ha.at 4 rfl) az).aO
   refine RL.bA (i:=9) (y:=aa.2.2.2) zt zr hw zr zr bX ?_
   exact RL.nil ⟨rfl,(ae,af,ah,ai,o,ad,ab),hv.put 6 zr zr,ha.up zr,ho.up zr,hw⟩
  ·rintro D σ w hD hdep hcl ⟨⟨ae,af,ah,ai,o,ad,ab⟩,hv,ha,ho,hw⟩
   obtain⟨τ,rfl⟩:=(ac (hv.at 5 rfl (hdep.1 rfl)) (ac (hv.at 7 rfl (hdep.2.1 rfl)) az)).aO
   have hw:=hw.aR (i:=2) rfl (hdep.1 rfl)
   have hw:=hw.aP (i:=3) rfl hD
   refine RL.bO (i:=2) zt zr hw zr zr zr dM ca fun cl hw=>?_
   have hw:=hw.pl 12 [1,2,3,0,5,6,7,8,9,10,11] rfl
   have hw:=hw.aS (i:=2) (b:=D 5) rfl (hdep.1 rfl) (aK)
   have hw:=hw.aS (i:=3) (b:=true) rfl rfl (aK)
   exact RL.nil ⟨rfl,(ae,af,ah,cl,o,ad,ab),hv.put 8 zr zr,ha.up zr,ho.up zr,hw⟩
  ·rintro D σ w hD hdep hcl ⟨⟨ae,af,ah,ai,o,ad,ab⟩,hv,ha,ho,hw⟩
   obtain⟨τ,rfl⟩:=(ac (hv.at 8 rfl (hdep.1 rfl)) az).aO
   have hw:=hw.aR (i:=3) rfl (hdep.1 rfl)
   refine RL.bA (i:=3) (y:=ay) zt zr hw zr zr bX ?_
   have hw:=hw.aS (i:=3) (b:=D 8) rfl (hdep.1 rfl) (aK)
   exact RL.nil ⟨rfl,(ae,af,ah,ai,o,ad,ab),hv.put 9 zr zr,ha.up zr,ho.up zr,hw⟩
  ·rintro D σ w hD hdep hcl ⟨⟨ae,af,ah,ai,o,ad,ab⟩,hv,ha,ho,hw⟩
   obtain⟨τ,rfl⟩:=(ac (hv.at 10 rfl (hdep.1 rfl)) az).aO
   have hw:=hw.aP (i:=4) rfl (nf (fun h=>ft hD ((hcl 12 _ rfl h).2.2.1 rfl)))
   have hw:=hw.aP (i:=4) rfl hD
   have hw:=hw.aP (i:=10) rfl hD
   have hw:=hw.pull (i:=10) rfl
   refine RL.call zt zr Ef [av] zr (aF (oG N hw cc) ?_)
   rintro bp w hw
   have hw:=hw.pl 13 [2,3,4,5,0,7,8,9,10,11,1] rfl
   have hw:=hw.aS (i:=4) (b:=true) rfl rfl (aK)
   have hw:=hw.cK (i:=4) (b:=D 12) rfl (nf (fun h=>ft hD ((hcl 12 _ rfl h).2.2.1 rfl))) (rd bp a0.1)
   have hw:=hw.aS (i:=10) (b:=true) rfl rfl (own 61 av al.1)
   exact RL.nil ⟨rfl,(ae,af,ah,ai,bp,ad,ab),hv.put 11 zr zr,ha.up zr,ho.up zr,hw⟩
  ·rintro D σ w hD hdep hcl ⟨⟨ae,af,ah,ai,o,ad,ab⟩,hv,ha,ho,hw⟩
   obtain⟨τ,rfl⟩:=(ac (hv.at 4 rfl (hdep.1 rfl)) (ac (hv.at 9 rfl (hdep.2.1 rfl)) (ac (hv.at 11 rfl (hdep.2.2.1 rfl)) az))).aO
   have hw:=hw.aP (i:=4) rfl hD
   have hw:=hw.aR (i:=4) rfl (hdep.2.2.1 rfl)
   have hw:=hw.aP (i:=5) rfl hD
   have hw:=hw.sc (γ:=Int) ax
   have hw:=hw.sc (γ:=Int) ay
   have hw:=hw.freeze (i:=6) rfl
   refine RL.build (y:=(⟨ax,ay,a0.1⟩:aA)) trivial rfl hw [(0,(vi ax)),(1,(vi ay)),(2,o)] rfl CX rfl (fun M hs g=>by have h:=po M;exact cB.cons (f:=fun(x:aA) y=>{x with Y0:=y}) rfl h mn (by decide) (g.sat 1 _ rfl).1 fun _ h=>cB.cons (f:=fun(x:aA) y=>{x with Y1:=y}) rfl h jT (by decide) (g.sat 0 _ rfl).1 fun _ h=>cB.cons (f:=fun(x:aA) y=>{x with Xs:=y}) rfl h mo (by decide) (g.sat 6 _ rfl).1 fun _ h=>cB.nil h) fun cm hw=>?_
   have hw:=hw.pl 14 [3,4,5,6,7,0,9,10,11,12,13] rfl
   have hw:=hw.aS (i:=4) (b:=true) rfl rfl (bif D 11 then (own 3 o a0.1) else aK)
   have hw:=hw.aS (i:=5) (b:=true) rfl rfl (aK)
   exact RL.nil ⟨rfl,(ae,af,ah,ai,o,cm,ab),hv.put 12 zr zr,ha.up zr,ho.up zr,hw⟩
  ·rintro D σ w hD hdep hcl ⟨⟨ae,af,ah,ai,o,ad,ab⟩,hv,ha,ho,hw⟩
   obtain⟨τ,rfl⟩:=(ac (hv.at 0 rfl (hdep.1 rfl)) (ac (hv.at 12 rfl (hdep.2.1 rfl)) az)).aO
   have hw:=hw.aR (i:=5) rfl (hdep.2.1 rfl)
   have hw:=hw.aP (i:=8) rfl hD
   have hw:=hw.pull (i:=8) rfl
   refine RL.call zt zr CY [ar,ad] zr (aF (kV N (i1:=5) hw zr cf) ?_)
   rintro bq w hw
   have hw:=hw.pl 12 [1,2,3,4,5,6,7,8,0,10,11] rfl
   have hw:=hw.aS (i:=5) (b:=D 12) rfl (hdep.2.1 rfl) (aK)
   have hw:=hw.aS (i:=8) (b:=true) rfl rfl (own 78 ar aa.1)
   have hv:=hv.re 14 rfl (v':=bq) (fun h=>ft hD ((hcl 14 _ rfl h).1 rfl))
   exact RL.nil ⟨rfl,(ae,af,ah,ai,o,ad,bq),hv.put 13 zr zr,ha.up zr,ho.up zr,hw⟩
  rintro D σ w hall ⟨⟨ae,af,ah,ai,o,ad,ab⟩,hv,ha,_,hw⟩
  have hw:=hw.aR (i:=0) rfl (hall 1 (by decide))
  have hw:=hw.aR (i:=1) rfl (hall 3 (by decide))
  have hw:=hw.aR (i:=2) rfl (hall 5 (by decide))
  have hw:=hw.aR (i:=3) rfl (hall 8 (by decide))
  have hw:=hw.aR (i:=4) rfl (hall 12 (by decide))
  have hw:=hw.aR (i:=5) rfl (hall 12 (by decide))
  have hw:=hw.aR (i:=8) rfl (hall 13 (by decide))
  have hw:=hw.aR (i:=10) rfl (hall 11 (by decide))
  obtain⟨τ,rfl⟩:=(ac (hv.at 14 rfl (hall 14 (by decide))) (ac (ha.at 0 rfl) (ac (ha.at 1 rfl) (ac (ha.at 2 rfl) (ac (ha.at 3 rfl) (ac (ha.at 4 rfl) az)))))).aO
  refine bJ (aG (RC.seq (RC.sr (RL.bA (i:=9) (y:=aa.2.2.2) zt zr hw zr zr bX (RL.nt (RC.region (RL.alloc zt zr hw AW.z fun cn w hw=>?_)))))))
  have hw:=hw.sc (γ:=Int) aa.2.2.2
  refine RL.bC (i:=1) (j:=0) zt hw zr zr zr zr bX zr fun w hw=>(RL.nt (RC.region (RL.aL (i:=1) (f:=(fun x=>x)) zt zr hw zr zr Fd.self bX (RL.gQ (a:=aa.2.2.2) (b:=1) zt zr zr zr zr ?_))))
  have hw:=hw.sc (γ:=Int) (IntKind.wrap .i64 (aa.2.2.2+1))
  refine RL.zk (i:=2) (j:=0) zt hw zr zr zr zr bX fun w hw=>(RL.nil ?_)
  obtain rfl:=oi hb
  exact⟨rfl,ab,av,cn,(ag zr),hw.pk 14 [9,10,11,13,2] zr⟩
 ·intro r _ _ _ _
  exact r.elim
 intro aa σ w e hJ
 subst e
 rw [Fo.eT] at hb
 obtain⟨a3,ha,hw⟩:=hJ
 obtain⟨τ,rfl⟩:=ha.aO
 refine aG (RC.sr (mv a3 zr zr (aM a3 zr zr (RL.nt (RC.ret ?_)))))
 obtain rfl:=oi hb
 exact bQ zr zr (hw.pk 3 [2] zr)
def pB (E:World) (Γ:List HP) (res: (List aC)) (v:Value) (w:World):Prop:=Holds E w ([own 61 v res]++Γ)
theorem fo (N:Nat) {E w:World} {Γ:List HP} {i0:Nat} {v0:Value} {p0: (List aA)} {res: (List aC)} (hw:Holds E w Γ) (h0:Γ[i0]? =some (rd v0 p0)) (hb:dE N p0=some res):
    Calls Tryz.prog 12 [v0].toArray w (fw (pB E Γ res)):=by
 unfold dE at hb
 refine enter Tryz.func12 zr zr (Nat.le_of_ble_eq_true zr) ?_
 have hw:=hw.dup (i:=i0+0) h0
 refine RC.sr (aM (.slice none 0 0) zr zr (RL.ns (aM (.slice none 0 0) zr zr (RL.nq (RC.sr (mv v0 zr zr (RL.bG (i:=0) (l:=p0) zt zr hw zr zr nO (mv (vi 0) zr zr ?_))))))))
 refine RL.nt ?_
 obtain⟨ab,hN,hb⟩:=bd hb
 refine RC.fold (fun(ad:Nat) (ab: (List aC)) (σ:Nat→Value) (w:World)=>∃al:Value,agree σ [(3,al),(7,v0),(8,(vi (p0.length:Int))),(9,(vi (ad:Int)))]∧Holds E w ([rd v0 p0,own 61 al ab]++Γ)) (fun(ab: (List aC)) (σ:Nat→Value) (w:World)=>∃ae:Value,agree σ [(3,ae)]∧Holds E w ([rd v0 p0,own 61 ae ab]++Γ)) hN ?_ ?_ ?_ ?_
 ·have hw:=hw.bV aC 61
  exact⟨(.slice none 0 0),(ag zr),hw.pk 2 [1,0] zr⟩
 ·intro hm ab σ w hI
  obtain⟨aq,ha,hw⟩:=hI
  obtain⟨τ,rfl⟩:=ha.aO
  refine RC.sr (ic ((p0.length:Int)) ((p0.length:Int)) zr zr zr zr (RL.nq (RC.cH lZ (RC.ex ?_))))
  exact⟨rfl,aq,⟨rfl,zt⟩,hw.pk 2 [0,1] zr⟩
 ·intro hm ad ab s' σ w hk hI hb
  obtain⟨ar,ha,hw⟩:=hI
  obtain⟨τ,rfl⟩:=ha.aO
  refine RC.sr (ic ((ad:Int)) ((p0.length:Int)) zr zr zr zr (RL.nq (RC.cG (lY hk) (RC.ss (RC.bs ?_)))))
  obtain⟨aa,au,hb⟩:=bd hb
  refine RL.bO (i:=0) zt zr hw zr zr zr jA au fun az hw=>(RL.bP (i:=0) (x:=aa) zt zr hw zr zr uI fun a0 hw=>(RL.alloc zt zr hw zS.z fun aj w hw=>(RL.bC (i:=0) (j:=1) zt hw zr zr zr zr uI zr fun w hw=>(RL.ns (aM (vi 0) zr zr (RL.nt ?_))))))
  obtain⟨a1,hN,hb⟩:=bd hb
  refine RC.iter (fun(o: (List aC)×Int) (σ:Nat→Value) (w:World)=>∃an:Value,agree σ [(3,an),(5,(vp aj 0)),(6,(vi o.2)),(7,v0),(8,(vi (p0.length:Int))),(9,(vi (ad:Int)))]∧Holds E w ([bx 78 aj aa,rd v0 p0,own 61 an o.1]++Γ)) (fun(o: (List aC)×Int) (σ:Nat→Value) (w:World)=>∃ai:Value,agree σ [(3,ai),(7,v0),(8,(vi (p0.length:Int))),(9,(vi (ad:Int)))]∧Holds E w ([bx 78 aj aa,rd v0 p0,own 61 ai o.1]++Γ)) (fun(r:Empty) (_:Nat→Value) (_:World)=>r.elim) hN ?_ ?_ ?_ ?_
  ·exact⟨ar,(ag zr),hw.pk 5 [0,3,4] zr⟩
  ·intro o fl σ w hI hb
   obtain⟨ak,ha,hw⟩:=hI
   obtain⟨τ,rfl⟩:=ha.aO
   refine RC.seq (RC.sr (mv (vi o.2) zr zr (RL.bF zt zr zr iP (RL.aY (i:=0) (f:=(fun x=>x.Xs)) zt zr hw zr zr bR dL fun a2 hw=>(RL.bG (i:=0) (l:=aa.Xs) zt zr hw zr zr jH (ic (o.2) ((aa.Xs.length:Int)) zr zr zr zr (RL.nt (eI hb zr (fun hc hb=>?_) fun hc hb=>?_))))))))
   rotate_left
   ·refine RC.ex ?_
    obtain rfl:=oi hb
    exact⟨rfl,ak,(ag zr),hw.pk 4 [1,2,3] zr⟩
   refine RC.ss (RC.block (RC.BH mixed rfl [1,0,0,0,0,0,0,0,0,0,0,0,0,0,0,0,0,2,2,0] [0,1,2,3,4,5,6,7,8,9,10,11,12,13,14,15,16,17,18,19] (by kernel_rfl) ?_))
   have hw:=hw.drew
   refine DP.e1 ak zr zr (fun w=>RL.move (v:=ak) zt zr zr (DP.d1 zr)) (DP.e0 zr zr (RL.bF zt zr zr iP (dO zr zr (RL.aY (i:=1) (f:=(fun x=>x.Xs)) zt zr hw zr zr bR dL fun a3 hw=>(dO zr zr (mv (vi o.2) zr zr (dO zr zr ?_)))))))
   obtain⟨af,av,hb⟩:=bd hb
   refine RL.bO (i:=0) zt zr hw zr zr zr dM av fun a4 hw=>(dO zr zr (RL.bA (i:=0) (y:=af) zt zr hw zr zr bX (dO zr zr (RL.bF zt zr zr lk (dO zr zr (RL.aL (i:=3) (f:=(fun x=>x.Y0)) zt zr hw zr zr cR bX (dO zr zr (RL.bF zt zr zr iP ?_))))))))
   refine dO zr zr (RL.aY (i:=3) (f:=(fun x=>x.Xs)) zt zr hw zr zr bR dL fun a5 hw=>(dO zr zr (mv (vi o.2) zr zr (dO zr zr (RL.gQ (a:=o.2) (b:=1) zt zr zr zr zr (dO zr zr ?_))))))
   obtain⟨ah,aw,hb⟩:=bd hb
   refine RL.bO (i:=0) zt zr hw zr zr zr dM aw fun a6 hw=>(dO zr zr (RL.bA (i:=0) (y:=ah) zt zr hw zr zr bX (dO zr zr (RL.bF zt zr zr jV (dO zr zr (RL.aL (i:=5) (f:=(fun x=>x.Y1)) zt zr hw zr zr cL bX (dO zr zr ?_)))))))
   have hw:=hw.sc (γ:=Int) af
   have hw:=hw.sc (γ:=Int) aa.Y0
   have hw:=hw.sc (γ:=Int) ah
   have hw:=hw.sc (γ:=Int) aa.Y1
   refine RL.build (y:=(⟨af,aa.Y0,ah,aa.Y1⟩:aC)) trivial rfl hw [(0,(vi af)),(1,(vi aa.Y0)),(2,(vi ah)),(3,(vi aa.Y1))] rfl yz rfl (fun M hs g=>by have h:=oD M;exact cB.cons (f:=fun(x:aC) y=>{x with X0:=y}) rfl h lB (by decide) (g.sat 3 _ rfl).1 fun _ h=>cB.cons (f:=fun(x:aC) y=>{x with Y0:=y}) rfl h nz (by decide) (g.sat 2 _ rfl).1 fun _ h=>cB.cons (f:=fun(x:aC) y=>{x with X1:=y}) rfl h lC (by decide) (g.sat 1 _ rfl).1 fun _ h=>cB.cons (f:=fun(x:aC) y=>{x with Y1:=y}) rfl h nA (by decide) (g.sat 0 _ rfl).1 fun _ h=>cB.nil h) fun ax hw=>(AV rfl rfl (RL.dY (l:=([(⟨af,aa.Y0,ah,aa.Y1⟩:aC)]: (List aC))) trivial rfl hw [ax] rfl rfl rfl iE kP (fun M hs g=>⟨(g.sat 0 _ rfl).1,trivial⟩) fun a7 w hw=>(FD trivial rfl rfl ?_)))
   have hw:=hw.freeze (i:=0) rfl
   obtain⟨a8,ay,hb⟩:=bd hb
   refine RL.app (i:=13) (j:=0) zt zr hw zr zr zr zr xe ay fun ao w hw=>(DU zt zr zr (aM ao zr zr (DP.d0 (DP.z (bJ (aG (RC.region (mv (vi o.2) zr zr ?_))))))))
   refine RL.gQ (a:=o.2) (b:=2) zt zr zr zr zr (aM (vi (IntKind.wrap .i64 (o.2+2))) zr zr (RL.nil ?_))
   obtain rfl:=oi hb
   exact⟨rfl,ao,(ag zr),hw.pk 14 [11,12,13] zr⟩
  ·intro r _ _ _ _
   exact r.elim
  intro o σ w e hJ
  subst e
  rw [Fo.eT] at hb
  obtain⟨ai,ha,hw⟩:=hJ
  obtain⟨τ,rfl⟩:=ha.aO
  refine bJ (aG (RC.region (RL.inc zt zr hk hm zr zr (mv (vi ((ad+1:Nat):Int)) zr zr (RL.nil ?_)))))
  obtain rfl:=oi hb
  exact⟨rfl,ai,(ag zr),hw.pk 3 [1,2] zr⟩
 intro σ w hJ
 obtain⟨ae,ha,hw⟩:=hJ
 obtain⟨τ,rfl⟩:=ha.aO
 refine aG (RC.sr (mv ae zr zr (aM ae zr zr (RL.nt (RC.ret ?_)))))
 obtain rfl:=oi hb
 exact bQ zr zr (hw.pk 2 [1] zr)
def j6 (E:World) (Γ:List HP) (res:Bool) (v:Value) (w:World):Prop:=v= (vb res)∧Holds E w Γ
def nR (E:World) (Γ:List HP) (r:Bool) (σ:Nat→Value) (w:World):Prop:=kc Tryz.prog 26 Tryz.f30 (j6 E Γ r) .ret σ w
theorem mW (N:Nat) {E w:World} {Γ:List HP} {i0:Nat} {v0:Value} {p0: (List aC)} {i1:Nat} {v1:Value} {p1: (List aC)} {res:Bool} (hw:Holds E w Γ) (h0:Γ[i0]? =some (rd v0 p0)) (h1:Γ[i1]? =some (rd v1 p1)) (hb:fD N p0 p1=some res):
    Calls Tryz.prog 30 [v0,v1].toArray w (fw (j6 E Γ res)):=by
 unfold fD at hb
 refine enter Tryz.func30 zr zr (Nat.le_of_ble_eq_true zr) ?_
 have hw:=hw.dup (i:=i0+0) h0
 have hw:=hw.dup (i:=i1+1) h1
 refine RC.sr (aM (vb false) zr zr (RL.nq (RC.sr (mv v0 zr zr (RL.bG (i:=1) (l:=p0) zt zr hw zr zr lj (mv v1 zr zr (RL.bG (i:=0) (l:=p1) zt zr hw zr zr lj (ic ((p0.length:Int)) ((p1.length:Int)) zr zr zr zr ?_))))))))
 refine RL.nt (eI hb zr (fun hc hb=>?_) fun hc hb=>?_)
 ·refine RC.sr (aM (vb false) zr zr (RL.nt (RC.rt ?_)))
  obtain rfl:=oi hb
  exact bQ zr zr ⟨rfl,hw.drop 2 zr⟩
 refine RC.ss (RC.sr (mv v0 zr zr (RL.bG (i:=1) (l:=p0) zt zr hw zr zr lj (mv (vi 0) zr zr (RL.nt ?_)))))
 obtain⟨ah,hN,hb⟩:=bd hb
 refine RC.range (fun(o:Nat) (aa:Unit) (σ:Nat→Value) (w:World)=>agree σ [(0,v0),(1,v1),(12,(vi (p0.length:Int))),(13,(vi (o:Int)))]∧Holds E w ([rd v0 p0,rd v1 p1]++Γ)) (fun(aa:Unit) (σ:Nat→Value) (w:World)=>agree σ []∧Holds E w ([rd v0 p0,rd v1 p1]++Γ)) (nR E Γ) hN ?_ ?_ ?_ ?_ ?_
 ·exact⟨(ag zr),hw.pk 2 [1,0] zr⟩
 ·intro hm aa σ w hI
  obtain⟨ha,hw⟩:=hI
  obtain⟨τ,rfl⟩:=ha.aO
  refine RC.sr (ic ((p0.length:Int)) ((p0.length:Int)) zr zr zr zr (RL.nq (RC.cH lZ (RC.ex ?_))))
  exact⟨rfl,zt,hw.pk 2 [0,1] zr⟩
 ·intro hm o aa fl σ w hk hI hb
  obtain⟨ha,hw⟩:=hI
  obtain⟨τ,rfl⟩:=ha.aO
  refine RC.sr (ic ((o:Int)) ((p0.length:Int)) zr zr zr zr (RL.nq (RC.cG (lY hk) (RC.ss (RC.bs (mv (vi (o:Int)) zr zr (aM (vi (o:Int)) zr zr (RL.nq ?_))))))))
  refine RC.uy mixed rfl (by kernel_rfl) ?_
  have hw:=hw.drew
  refine RO.go (mv v0 zr zr (RO.nx (mv (vi (o:Int)) zr zr (RO.nx ?_))))
  obtain⟨ab,ae,hb⟩:=bd hb
  refine RL.bO (i:=0) zt zr hw zr zr zr iE ae fun ai hw=>(RO.nx (RL.bP (i:=0) (x:=ab) zt zr hw zr zr eM fun aj hw=>(RO.nx (mv v1 zr zr (RO.nx (mv (vi (o:Int)) zr zr (RO.nx ?_)))))))
  obtain⟨ad,af,hb⟩:=bd hb
  refine RL.bO (i:=3) zt zr hw zr zr zr iE af fun ak hw=>(RO.nx (RL.bP (i:=0) (x:=ad) zt zr hw zr zr eM fun al hw=>(RO.nx (RL.Fk (i:=2) (j:=0) (a:=ab) (b:=ad) zt zr hw zr zr zr zr zU zr (RO.last (aG (eI hb zr (fun hc hb=>?_) fun hc hb=>?_)))))))
  rotate_left
  ·refine RC.skip (bJ (aG (RC.region (RL.inc zt zr hk hm zr zr (mv (vi ((o+1:Nat):Int)) zr zr (RL.nil ?_))))))
   obtain rfl:=oi hb
   exact⟨rfl,(ag zr),hw.pk 6 [4,5] zr⟩
  refine RC.sr (aM (vb false) zr zr (RL.nt (RC.rb (bL ?_))))
  obtain rfl:=oi hb
  exact⟨rfl,bQ zr zr ⟨rfl,hw.drop 6 zr⟩⟩
 ·intro r σ w e hK
  subst e
  refine bL ?_
  obtain rfl:=oi hb
  exact hK
 intro aa σ w e hJ
 subst e
 rw [Fo.eT] at hb
 obtain⟨ha,hw⟩:=hJ
 obtain⟨τ,rfl⟩:=ha.aO
 refine aG (RC.sr (aM (vb true) zr zr (RL.nt (RC.ret ?_))))
 obtain rfl:=oi hb
 exact bQ zr zr ⟨rfl,hw.drop 2 zr⟩
end Go.Gk
