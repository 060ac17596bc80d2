/-
  Printed by gen.py: Go types as plain structures, and Go functions as plain functions.
-/
import Derived.Test.YtfkpknhicijjbaaK18
set_option linter.unusedVariables false

namespace Go.Gk
open Go
noncomputable section
structure Point where
  X : Int
  Y : Int
  deriving DecidableEq, Inhabited
structure Bore where
  At : Point
  Size : Int
  From : Int
  To : Int
  Plated : Bool
  deriving DecidableEq, Inhabited
structure Rect where
  X0 : Int
  Y0 : Int
  X1 : Int
  Y1 : Int
  deriving DecidableEq, Inhabited
structure shape_Band where
  Y0 : Int
  Y1 : Int
  Xs : (List Int)
  deriving DecidableEq, Inhabited
/-- copper.within -/
def copper_within (N : Nat) (p0 : Int) (p1 : Int) (p2 : Int) : Option (Bool) :=
  some ((decide (p0 ≥ p1)) && (decide (p0 ≤ p2)))
/-- shape.within -/
def shape_within (N : Nat) (p0 : Int) (p1 : Int) (p2 : Int) : Option (Bool) :=
  some ((decide (p0 ≥ p1)) && (decide (p0 ≤ p2)))
/-- shape.IsAt -/
def shape_IsAt (N : Nat) (p0 : Int) : Option (Bool) :=
  (shape_within N p0 (-1000000) 1000000).bind fun (x31 : Bool) => some x31
/-- shape.IsPoint -/
def shape_IsPoint (N : Nat) (p0 : Point) : Option (Bool) :=
  ((shape_IsAt N p0.X).bind fun (x37 : Bool) => bif x37 then ((shape_IsAt N p0.Y).bind fun (x39 : Bool) => some x39) else (some false)).bind fun (s36 : Bool) => some s36
/-- copper.SquareOf -/
def copper_SquareOf (N : Nat) (p0 : Bore) : Option (Rect) :=
  some (⟨(IntKind.wrap .i64 (p0.At.X - (IntKind.wrap .i64 (Int.tdiv p0.Size 2)))), (IntKind.wrap .i64 (p0.At.Y - (IntKind.wrap .i64 (Int.tdiv p0.Size 2)))), (IntKind.wrap .i64 ((IntKind.wrap .i64 (p0.At.X - (IntKind.wrap .i64 (Int.tdiv p0.Size 2)))) + p0.Size)), (IntKind.wrap .i64 ((IntKind.wrap .i64 (p0.At.Y - (IntKind.wrap .i64 (Int.tdiv p0.Size 2)))) + p0.Size))⟩ : Rect)
/-- slices.Clone[[]api.Rect,api.Rect] -/
def slices_Clone_Rect (N : Nat) (p0 : (List Rect)) : Option ((List Rect)) :=
  (app 32 ([] : (List Rect)) p0).bind fun (x32 : (List Rect)) => some x32
/-- shape.SetOf$1 -/
def shape_SetOf_c1 (N : Nat) (p0 : Rect) (p1 : Rect) : Option (Int) :=
  some (IntKind.wrap .i64 (p0.Y0 - p1.Y0))
/-- slices.Compact[[]int,int] -/
def slices_Compact_int (N : Nat) (p0 : (List Int)) : Option ((List Int)) :=
  bif (decide ((p0.length : Int) < 2)) then (some p0) else ((itr (fun (s32 : Int) => (bif (decide (s32 < (p0.length : Int))) then ((idx p0 s32).bind fun (x149 : Int) => (idx p0 (IntKind.wrap .i64 (s32 - 1))).bind fun (x150 : Int) => bif (x149 == x150) then ((slc p0 s32 (p0.length : Int)).bind fun (x179 : (List Int)) => (itr (fun (s181 : (List Int) × Int × Int) => (bif (decide (s181.2.2 < (((s181.1.length - Int.toNat s32) : Nat) : Int))) then ((idxv s181.1 s32 s181.2.2).bind fun (x196 : Int) => (idxv s181.1 s32 (IntKind.wrap .i64 (s181.2.2 - 1))).bind fun (x197 : Int) => (bif (x196 != x197) then ((idxv s181.1 s32 s181.2.2).bind fun (x201 : Int) => (idx s181.1 s181.2.1).bind fun (x202 : Int) => some ((s181.1.set (Int.toNat s181.2.1) x201), (IntKind.wrap .i64 (s181.2.1 + 1)))) else (some (s181.1, s181.2.1))).bind fun (s200 : (List Int) × Int) => some (.nx (s200.1, s200.2, (IntKind.wrap .i64 (s181.2.2 + 1))))) else (some (.br (s181.1, s181.2.1, s181.2.2))) : Option (Fl ((List Int) × Int × Int) Empty))) N (p0, s32, 1)).bind fun (o206 : Fo ((List Int) × Int × Int) Empty) => o206.cs (fun (s181 : (List Int) × Int × Int) => (slc s181.1 s181.2.1 (s181.1.length : Int)).bind fun (x203 : (List Int)) => (slc (s181.1.take (Int.toNat s181.2.1) ++ List.replicate (s181.1.length - Int.toNat s181.2.1) (0 : Int)) 0 s181.2.1).bind fun (x204 : (List Int)) => some (.rt x204)) (fun r => r.elim)) else (some (.nx (IntKind.wrap .i64 (s32 + 1))))) else (some (.br s32)) : Option (Fl (Int) (List Int)))) N 1).bind fun (o207 : Fo (Int) (List Int)) => o207.cs (fun (s32 : Int) => some p0) (fun r => some r))
/-- shape.SetOf$2 -/
def shape_SetOf_c2 (N : Nat) (p0 : Rect) (p1 : (List Int)) (p2 : Int) : Option (Bool) :=
  (idx p1 p2).bind fun (x33 : Int) => some (decide (p0.Y1 ≤ x33))
/-- slices.IndexFunc[[]api.Rect,api.Rect] -/
def slices_IndexFunc_Rect_o0 (N : Nat) (p0 : (List Rect)) (p1 : Rect → Option Bool) : Option (Int) :=
  (rng p0.length (fun (k31 : Nat) (s32 : Unit) => ((idx p0 (k31 : Int)).bind fun (x36 : Rect) => (p1 x36).bind fun (x38 : Bool) => bif x38 then (some (.rt (k31 : Int))) else (some (.nx ())) : Option (Fl (Unit) Int))) ()).bind fun (o39 : Fo (Unit) Int) => o39.cs (fun (s32 : Unit) => some (-1)) (fun r => some r)
/-- slices.DeleteFunc[[]api.Rect,api.Rect] -/
def slices_DeleteFunc_Rect (N : Nat) (p0 : (List Rect)) (p1 : Rect → Option Bool) : Option ((List Rect)) :=
  (slices_IndexFunc_Rect_o0 N p0 p1).bind fun (x31 : Int) => bif (x31 == (-1)) then (some p0) else ((itr (fun (s33 : (List Rect) × Int × Int) => (bif (decide (s33.2.2 < (s33.1.length : Int))) then ((idx s33.1 s33.2.2).bind fun (x54 : Rect) => (p1 x54).bind fun (x58 : Bool) => (bif (!x58) then ((idx s33.1 s33.2.1).bind fun (x63 : Rect) => some ((s33.1.set (Int.toNat s33.2.1) x54), (IntKind.wrap .i64 (s33.2.1 + 1)))) else (some (s33.1, s33.2.1))).bind fun (s61 : (List Rect) × Int) => some (.nx (s61.1, s61.2, (IntKind.wrap .i64 (s33.2.2 + 1))))) else (some (.br (s33.1, s33.2.1, s33.2.2))) : Option (Fl ((List Rect) × Int × Int) Empty))) N (p0, x31, (IntKind.wrap .i64 (x31 + 1)))).bind fun (o67 : Fo ((List Rect) × Int × Int) Empty) => o67.cs (fun (s33 : (List Rect) × Int × Int) => (slc s33.1 s33.2.1 (s33.1.length : Int)).bind fun (x64 : (List Rect)) => (slc (s33.1.take (Int.toNat s33.2.1) ++ List.replicate (s33.1.length - Int.toNat s33.2.1) (⟨0, 0, 0, 0⟩ : Rect)) 0 s33.2.1).bind fun (x65 : (List Rect)) => some x65) (fun r => r.elim))
/-- shape.stretches$1 -/
def shape_stretches_c1 (N : Nat) (p0 : Rect) (p1 : Rect) : Option (Int) :=
  some (IntKind.wrap .i64 (p0.X0 - p1.X0))
/-- shape.stretches -/
def shape_stretches (N : Nat) (p0 : (List Rect)) : Option ((List Int) × (List Rect)) :=
  (gSort (shape_stretches_c1 N) p0).bind fun (x31 : (List Rect)) => (fld x31.length (fun (k32 : Nat) (s33 : (List Int)) => ((idx x31 (k32 : Int)).bind fun (x79 : Rect) => (bif (decide ((IntKind.wrap .i64 ((s33.length : Int) - 1)) ≥ 0)) then ((idx s33 (IntKind.wrap .i64 ((s33.length : Int) - 1))).bind fun (x86 : Int) => some (decide (x79.X0 ≤ x86))) else (some false)).bind fun (s84 : Bool) => (bif s84 then ((idx s33 (IntKind.wrap .i64 ((s33.length : Int) - 1))).bind fun (x94 : Int) => (idx s33 (IntKind.wrap .i64 ((s33.length : Int) - 1))).bind fun (x95 : Int) => some (s33.set (Int.toNat (IntKind.wrap .i64 ((s33.length : Int) - 1))) (if x94 < x79.X1 then x79.X1 else x94))) else ((app 8 s33 ([x79.X0, x79.X1] : (List Int))).bind fun (x97 : (List Int)) => some x97)).bind fun (s92 : (List Int)) => some s92 : Option ((List Int)))) ([] : (List Int))).bind fun (s33 : (List Int)) => some (s33, x31)
/-- slices.Equal[[]int,int] -/
def slices_Equal_int (N : Nat) (p0 : (List Int)) (p1 : (List Int)) : Option (Bool) :=
  bif ((p0.length : Int) != (p1.length : Int)) then (some false) else ((rng p0.length (fun (k31 : Nat) (s32 : Unit) => ((idx p0 (k31 : Int)).bind fun (x39 : Int) => (idx p1 (k31 : Int)).bind fun (x41 : Int) => bif (x39 != x41) then (some (.rt false)) else (some (.nx ())) : Option (Fl (Unit) Bool))) ()).bind fun (o45 : Fo (Unit) Bool) => o45.cs (fun (s32 : Unit) => some true) (fun r => some r))
/-- (shape.Set).push -/
def shape_Set_push (N : Nat) (p0 : (List shape_Band)) (p1 : shape_Band) : Option ((List shape_Band)) :=
  bif (((p1.Xs.length : Int) == 0) || (decide (p1.Y1 ≤ p1.Y0))) then (some p0) else ((bif (decide ((IntKind.wrap .i64 ((p0.length : Int) - 1)) ≥ 0)) then ((idx p0 (IntKind.wrap .i64 ((p0.length : Int) - 1))).bind fun (x47 : shape_Band) => bif (x47.Y1 == p1.Y0) then ((idx p0 (IntKind.wrap .i64 ((p0.length : Int) - 1))).bind fun (x49 : shape_Band) => (slices_Equal_int N x49.Xs p1.Xs).bind fun (x52 : Bool) => some x52) else (some false)) else (some false)).bind fun (s45 : Bool) => bif s45 then ((idx p0 (IntKind.wrap .i64 ((p0.length : Int) - 1))).bind fun (x56 : shape_Band) => some (p0.set (Int.toNat (IntKind.wrap .i64 ((p0.length : Int) - 1))) ({ x56 with Y1 := p1.Y1 }))) else ((app 40 p0 ([p1] : (List shape_Band))).bind fun (x59 : (List shape_Band)) => some x59))
/-- shape.SetOf -/
def shape_SetOf (N : Nat) (p0 : (List Rect)) : Option ((List shape_Band)) :=
  (slices_Clone_Rect N p0).bind fun (x31 : (List Rect)) => (gSort (shape_SetOf_c1 N) x31).bind fun (x33 : (List Rect)) => (fld x33.length (fun (k35 : Nat) (s36 : (List Int)) => ((idx x33 (k35 : Int)).bind fun (x54 : Rect) => (app 8 s36 ([x54.Y0, x54.Y1] : (List Int))).bind fun (x58 : (List Int)) => some x58 : Option ((List Int)))) ([] : (List Int))).bind fun (s36 : (List Int)) => (gSortI s36).bind fun (x61 : (List Int)) => (slices_Compact_int N x61).bind fun (x62 : (List Int)) => (itr (fun (s66 : (List shape_Band) × (List Rect) × Int × Int) => (bif (decide ((IntKind.wrap .i64 (s66.2.2.2 + 1)) < (x62.length : Int))) then ((slices_DeleteFunc_Rect N s66.2.1 (fun y0 => shape_SetOf_c2 N y0 x62 s66.2.2.2)).bind fun (x261 : (List Rect)) => (itr (fun (s264 : (List Rect) × Int) => ((bif (decide (s264.2 < (x33.length : Int))) then ((idx x33 s264.2).bind fun (x319 : Rect) => (idx x62 s66.2.2.2).bind fun (x321 : Int) => some (decide (x319.Y0 ≤ x321))) else (some false)).bind fun (s317 : Bool) => bif s317 then ((idx x33 s264.2).bind fun (x325 : Rect) => (app 32 s264.1 ([x325] : (List Rect))).bind fun (x328 : (List Rect)) => some (.nx (x328, (IntKind.wrap .i64 (s264.2 + 1))))) else (some (.br (s264.1, s264.2))) : Option (Fl ((List Rect) × Int) Empty))) N (x261, s66.2.2.1)).bind fun (o349 : Fo ((List Rect) × Int) Empty) => o349.cs (fun (s264 : (List Rect) × Int) => (idx x62 s66.2.2.2).bind fun (x331 : Int) => (idx x62 (IntKind.wrap .i64 (s66.2.2.2 + 1))).bind fun (x334 : Int) => (shape_stretches N s264.1).bind fun (x336 : (List Int) × (List Rect)) => (shape_Set_push N s66.1 (⟨x331, x334, x336.1⟩ : shape_Band)).bind fun (x339 : (List shape_Band)) => some (.nx (x339, x336.2, s264.2, (IntKind.wrap .i64 (s66.2.2.2 + 1))))) (fun r => r.elim)) else (some (.br (s66.1, s66.2.1, s66.2.2.1, s66.2.2.2))) : Option (Fl ((List shape_Band) × (List Rect) × Int × Int) Empty))) N (([] : (List shape_Band)), ([] : (List Rect)), 0, 0)).bind fun (o350 : Fo ((List shape_Band) × (List Rect) × Int × Int) Empty) => o350.cs (fun (s66 : (List shape_Band) × (List Rect) × Int × Int) => some s66.1) (fun r => r.elim)
/-- (shape.Set).Around -/
def shape_Set_Around (N : Nat) (p0 : (List shape_Band)) : Option (Rect) :=
  (idx p0 0).bind fun (x32 : shape_Band) => (idx x32.Xs 0).bind fun (x36 : Int) => (idx p0 0).bind fun (x38 : shape_Band) => (idx p0 0).bind fun (x41 : shape_Band) => (idx x41.Xs 1).bind fun (x45 : Int) => (idx p0 (IntKind.wrap .i64 ((p0.length : Int) - 1))).bind fun (x47 : shape_Band) => (fld p0.length (fun (k66 : Nat) (s67 : Rect) => ((idx p0 (k66 : Int)).bind fun (x100 : shape_Band) => (idx x100.Xs 0).bind fun (x105 : Int) => (idx x100.Xs (IntKind.wrap .i64 ((x100.Xs.length : Int) - 1))).bind fun (x109 : Int) => some ({ { s67 with X0 := (if x105 < s67.X0 then x105 else s67.X0) } with X1 := (if s67.X1 < x109 then x109 else s67.X1) }) : Option (Rect))) (⟨x36, x38.Y0, x45, x47.Y1⟩ : Rect)).bind fun (s67 : Rect) => some s67
/-- shape.isRect -/
def shape_isRect (N : Nat) (p0 : Rect) : Option (Bool) :=
  ((shape_IsAt N p0.X0).bind fun (x49 : Bool) => bif x49 then ((shape_IsAt N p0.Y0).bind fun (x51 : Bool) => bif x51 then ((shape_IsAt N p0.X1).bind fun (x53 : Bool) => bif x53 then ((shape_IsAt N p0.Y1).bind fun (x55 : Bool) => some x55) else (some false)) else (some false)) else (some false)).bind fun (s48 : Bool) => some s48
/-- (shape.Set).Fits -/
def shape_Set_Fits (N : Nat) (p0 : (List shape_Band)) : Option (Bool) :=
  (bif ((p0.length : Int) == 0) then (some true) else ((shape_Set_Around N p0).bind fun (x37 : Rect) => (shape_isRect N x37).bind fun (x39 : Bool) => some x39)).bind fun (s35 : Bool) => some s35
/-- copper.Square -/
def copper_Square (N : Nat) (p0 : Bore) : Option (Rect × Int) :=
  ((copper_within N p0.Size 1 10000).bind fun (x39 : Bool) => bif (!x39) then (some true) else ((shape_IsPoint N p0.At).bind fun (x42 : Bool) => some (!x42))).bind fun (s38 : Bool) => bif s38 then (some ((⟨0, 0, 0, 0⟩ : Rect), 1)) else ((copper_SquareOf N p0).bind fun (x47 : Rect) => (shape_SetOf N ([x47] : (List Rect))).bind fun (x52 : (List shape_Band)) => (shape_Set_Fits N x52).bind fun (x54 : Bool) => bif (!x54) then (some ((⟨0, 0, 0, 0⟩ : Rect), 1)) else (some (x47, 0)))
/-- etchhouseref5.within -/
def etchhouseref5_within (N : Nat) (p0 : Int) (p1 : Int) (p2 : Int) : Option (Bool) :=
  some ((decide (p0 ≥ p1)) && (decide (p0 ≤ p2)))
/-- etchhouseref1.within -/
def etchhouseref1_within (N : Nat) (p0 : Int) (p1 : Int) (p2 : Int) : Option (Bool) :=
  some ((decide (p0 ≥ p1)) && (decide (p0 ≤ p2)))
/-- etchhouseref1.At -/
def etchhouseref1_At (N : Nat) (p0 : Int) : Option (Bool) :=
  (etchhouseref1_within N p0 (-1000000) 1000000).bind fun (x31 : Bool) => some x31
/-- etchhouseref1.IsPoint -/
def etchhouseref1_IsPoint (N : Nat) (p0 : Point) : Option (Bool) :=
  ((etchhouseref1_At N p0.X).bind fun (x37 : Bool) => bif x37 then ((etchhouseref1_At N p0.Y).bind fun (x39 : Bool) => some x39) else (some false)).bind fun (s36 : Bool) => some s36
/-- etchhouseref5.SquareOf -/
def etchhouseref5_SquareOf (N : Nat) (p0 : Bore) : Option (Rect) :=
  some (⟨(IntKind.wrap .i64 (p0.At.X - (IntKind.wrap .i64 (Int.tdiv p0.Size 2)))), (IntKind.wrap .i64 (p0.At.Y - (IntKind.wrap .i64 (Int.tdiv p0.Size 2)))), (IntKind.wrap .i64 ((IntKind.wrap .i64 (p0.At.X - (IntKind.wrap .i64 (Int.tdiv p0.Size 2)))) + p0.Size)), (IntKind.wrap .i64 ((IntKind.wrap .i64 (p0.At.Y - (IntKind.wrap .i64 (Int.tdiv p0.Size 2)))) + p0.Size))⟩ : Rect)
/-- etchhouseref5.checkSquare -/
def etchhouseref5_checkSquare (N : Nat) (p0 : Bore) : Option (Int) :=
  ((etchhouseref5_within N p0.Size 1 10000).bind fun (x38 : Bool) => bif (!x38) then (some true) else ((etchhouseref1_IsPoint N p0.At).bind fun (x41 : Bool) => some (!x41))).bind fun (s37 : Bool) => bif s37 then (some 1) else ((etchhouseref5_SquareOf N p0).bind fun (x43 : Rect) => ((etchhouseref1_At N x43.X0).bind fun (x63 : Bool) => bif (!x63) then (some true) else ((etchhouseref1_At N x43.Y0).bind fun (x65 : Bool) => bif (!x65) then (some true) else ((etchhouseref1_At N x43.X1).bind fun (x67 : Bool) => bif (!x67) then (some true) else ((etchhouseref1_At N x43.Y1).bind fun (x69 : Bool) => some (!x69))))).bind fun (s62 : Bool) => bif s62 then (some 1) else (some 0))
/-- etchhouseref5.Square -/
def etchhouseref5_Square (N : Nat) (p0 : Bore) : Option (Rect × Int) :=
  (etchhouseref5_checkSquare N p0).bind fun (x34 : Int) => bif (x34 != 0) then (some ((⟨0, 0, 0, 0⟩ : Rect), x34)) else ((etchhouseref5_SquareOf N p0).bind fun (x39 : Rect) => some (x39, 0))
/-- etchhouselaw5.awake -/
def etchhouselaw5_awake (N : Nat)  : Option (Bool) :=
  (copper_Square N (⟨⟨0, 0⟩, 2, 0, 0, false⟩ : Bore)).bind fun (x32 : Rect × Int) => (bif (x32.2 == 0) then (some (decide (x32.1 = (⟨(-1), (-1), 1, 1⟩ : Rect)))) else (some false)).bind fun (s38 : Bool) => some s38
/-- etchhouselaw5.ArtSquaresMatchSpec -/
def etchhouselaw5_ArtSquaresMatchSpec (N : Nat) (p0 : Bore) : Option (Bool) :=
  (copper_Square N p0).bind fun (x33 : Rect × Int) => (etchhouseref5_Square N p0).bind fun (x37 : Rect × Int) => (bif ((decide (x33.1 = x37.1)) && (x33.2 == x37.2)) then ((etchhouselaw5_awake N ).bind fun (x50 : Bool) => some x50) else (some false)).bind fun (s46 : Bool) => some s46
end
end Go.Gk
