/-
  Printed by gen.py: Go types as plain structures, and Go functions as plain functions.
-/
import Derived.Test.YtnjoaggeheokeaaDoorK15
set_option linter.unusedVariables false

namespace Go.Gk
open Go
structure PinType where
  Name : Str
  Kind : Int
  Group : Int
  deriving DecidableEq, Inhabited
structure PartType where
  Name : Str
  Pins : (List PinType)
  deriving DecidableEq, Inhabited
structure Part where
  Name : Str
  Type_ : Str
  deriving DecidableEq, Inhabited
structure Pin where
  Part : Str
  Pin : Str
  deriving DecidableEq, Inhabited
structure Net where
  Name : Str
  Pins : (List Pin)
  Ports : (List Str)
  deriving DecidableEq, Inhabited
structure Netlist where
  Parts : (List Part)
  Nets : (List Net)
  deriving DecidableEq, Inhabited
structure ListChange where
  Kind : Int
  Name : Str
  Pin : Str
  deriving DecidableEq, Inhabited
/-- internal/stringslite.IndexByte -/
def stringslite_IndexByte (N : Nat) (p0 : Str) (p1 : Int) : Option (Int) :=
  some (Lib.indexByte p0.toL (Int.toNat p1).toUInt8)
/-- strings.IndexByte -/
def strings_IndexByte (N : Nat) (p0 : Str) (p1 : Int) : Option (Int) :=
  (stringslite_IndexByte N p0 p1).bind fun (x1 : Int) => some x1
/-- netlist.IsWord -/
def netlist_IsWord (N : Nat) (p0 : Str) : Option (Bool) :=
  (rng p0.toL.length (fun (k1 : Nat) (s2 : Unit) => ((sidx p0 (k1 : Int)).bind fun (x9 : UInt8) => (bif ((((decide ((x9.toNat : Int) < 65)) || (decide ((x9.toNat : Int) > 90))) && ((decide ((x9.toNat : Int) < 97)) || (decide ((x9.toNat : Int) > 122)))) && ((decide ((x9.toNat : Int) < 48)) || (decide ((x9.toNat : Int) > 57)))) then ((strings_IndexByte N (⟨[95, 43, 45, 35]⟩) (x9.toNat : Int)).bind fun (x14 : Int) => some (decide (x14 < 0))) else (some false)).bind fun (s12 : Bool) => bif s12 then (some (.rt false)) else (some (.nx ())) : Option (Fl (Unit) Bool))) ()).bind fun (o15 : Fo (Unit) Bool) => o15.cs (fun (s2 : Unit) => some ((decide ((p0.toL.length : Int) ≥ 1)) && (decide ((p0.toL.length : Int) ≤ 40)))) (fun r => some r)
/-- netlist.checkPins$1 -/
def netlist_checkPins_c1 (N : Nat) (p0 : PinType) (p1 : PinType) : Option (Bool) :=
  (bif (decide (p1.Group > 0)) then (bif (p0.Group == p1.Group) then (some (p0.Kind != p1.Kind)) else (some false)) else (some false)).bind fun (s11 : Bool) => some s11
/-- slices.IndexFunc[[]api.PinType,api.PinType] -/
def slices_IndexFunc_PinType (N : Nat) (p0 : (List PinType)) (p1 : PinType → Option Bool) : Option (Int) :=
  (rng p0.length (fun (k1 : Nat) (s2 : Unit) => ((idx p0 (k1 : Int)).bind fun (x7 : PinType) => (p1 x7).bind fun (x10 : Bool) => bif x10 then (some (.rt (k1 : Int))) else (some (.nx ())) : Option (Fl (Unit) Int))) ()).bind fun (o11 : Fo (Unit) Int) => o11.cs (fun (s2 : Unit) => some (-1)) (fun r => some r)
/-- slices.ContainsFunc[[]api.PinType,api.PinType] -/
def slices_ContainsFunc_PinType (N : Nat) (p0 : (List PinType)) (p1 : PinType → Option Bool) : Option (Bool) :=
  (slices_IndexFunc_PinType N p0 p1).bind fun (x1 : Int) => some (decide (x1 ≥ 0))
/-- netlist.checkPins -/
def netlist_checkPins (N : Nat) (p0 : (List PinType)) : Option (Int) :=
  bif ((p0.length : Int) == 0) then (some 9) else (bif (decide ((p0.length : Int) > 200)) then (some 2) else ((rng p0.length (fun (k1 : Nat) (s2 : Unit) => ((idx p0 (k1 : Int)).bind fun (x112 : PinType) => (netlist_IsWord N x112.Name).bind fun (x116 : Bool) => bif (!x116) then (some (.rt 5)) else (bif ((decide (x112.Kind < 1)) || (decide (x112.Kind > 7))) then (some (.rt 4)) else (bif ((decide (x112.Group < 0)) || (decide (x112.Group > 200))) then (some (.rt 1)) else ((bif (decide ((k1 : Int) > 0)) then ((idx p0 (IntKind.wrap .i64 ((k1 : Int) - 1))).bind fun (x216 : PinType) => some (x112.Name.ltb x216.Name || x112.Name.eqb x216.Name)) else (some false)).bind fun (s214 : Bool) => bif s214 then (some (.rt 8)) else (some (.nx ()))))) : Option (Fl (Unit) Int))) ()).bind fun (o238 : Fo (Unit) Int) => o238.cs (fun (s2 : Unit) => (rng p0.length (fun (k221 : Nat) (s222 : Unit) => ((idx p0 (k221 : Int)).bind fun (x230 : PinType) => (slc p0 0 (k221 : Int)).bind fun (x234 : (List PinType)) => (slices_ContainsFunc_PinType N x234 (fun y0 => netlist_checkPins_c1 N y0 x230)).bind fun (x236 : Bool) => bif x236 then (some (.rt 12)) else (some (.nx ())) : Option (Fl (Unit) Int))) ()).bind fun (o237 : Fo (Unit) Int) => o237.cs (fun (s222 : Unit) => some 0) (fun r => some r)) (fun r => some r)))
/-- netlist.CheckTypes -/
def netlist_CheckTypes (N : Nat) (p0 : (List PartType)) : Option (Int) :=
  bif (decide ((p0.length : Int) > 200)) then (some 2) else ((rng p0.length (fun (k1 : Nat) (s2 : Unit) => ((idx p0 (k1 : Int)).bind fun (x23 : PartType) => (netlist_IsWord N x23.Name).bind fun (x27 : Bool) => bif (!x27) then (some (.rt 5)) else ((netlist_checkPins N x23.Pins).bind fun (x29 : Int) => bif (x29 != 0) then (some (.rt x29)) else ((bif (decide ((k1 : Int) > 0)) then ((idx p0 (IntKind.wrap .i64 ((k1 : Int) - 1))).bind fun (x38 : PartType) => some (x23.Name.ltb x38.Name || x23.Name.eqb x38.Name)) else (some false)).bind fun (s36 : Bool) => bif s36 then (some (.rt 8)) else (some (.nx ())))) : Option (Fl (Unit) Int))) ()).bind fun (o43 : Fo (Unit) Int) => o43.cs (fun (s2 : Unit) => some 0) (fun r => some r))
/-- slices.BinarySearchFunc[[]api.PartType,api.PartType,string] -/
def slices_BinarySearchFunc_PartType_string (N : Nat) (p0 : (List PartType)) (p1 : Str) (p2 : PartType → Str → Option Int) : Option (Int × Bool) :=
  (itr (fun (s2 : Int × Int) => (bif (decide (s2.1 < s2.2)) then ((idx p0 (IntKind.wrap .i64 (Int.fdiv (IntKind.wrap .u64 (IntKind.wrap .i64 (s2.1 + s2.2))) 2))).bind fun (x13 : PartType) => (p2 x13 p1).bind fun (x16 : Int) => (bif (decide (x16 < 0)) then (some ((IntKind.wrap .i64 ((IntKind.wrap .i64 (Int.fdiv (IntKind.wrap .u64 (IntKind.wrap .i64 (s2.1 + s2.2))) 2)) + 1)), s2.2)) else (some (s2.1, (IntKind.wrap .i64 (Int.fdiv (IntKind.wrap .u64 (IntKind.wrap .i64 (s2.1 + s2.2))) 2))))).bind fun (s17 : Int × Int) => some (.nx (s17.1, s17.2))) else (some (.br (s2.1, s2.2))) : Option (Fl (Int × Int) Empty))) N (0, (p0.length : Int))).bind fun (o29 : Fo (Int × Int) Empty) => o29.cs (fun (s2 : Int × Int) => (bif (decide (s2.1 < (p0.length : Int))) then ((idx p0 s2.1).bind fun (x25 : PartType) => (p2 x25 p1).bind fun (x28 : Int) => some (x28 == 0)) else (some false)).bind fun (s23 : Bool) => some (s2.1, s23)) (fun r => r.elim)
/-- internal/bytealg.CompareString -/
def bytealg_CompareString (N : Nat) (p0 : Str) (p1 : Str) : Option (Int) :=
  some (Lib.compareBytes p0.toL p1.toL)
/-- strings.Compare -/
def strings_Compare (N : Nat) (p0 : Str) (p1 : Str) : Option (Int) :=
  (bytealg_CompareString N p0 p1).bind fun (x1 : Int) => some x1
/-- netlist.TypeAt$1 -/
def netlist_TypeAt_c1 (N : Nat) (p0 : PartType) (p1 : Str) : Option (Int) :=
  (strings_Compare N p0.Name p1).bind fun (x2 : Int) => some x2
/-- netlist.TypeAt -/
def netlist_TypeAt (N : Nat) (p0 : (List PartType)) (p1 : Str) : Option (Int) :=
  (slices_BinarySearchFunc_PartType_string N p0 p1 (netlist_TypeAt_c1 N)).bind fun (x1 : Int × Bool) => bif (!x1.2) then (some (-1)) else (some x1.1)
/-- netlist.checkParts -/
def netlist_checkParts (N : Nat) (p0 : (List PartType)) (p1 : (List Part)) (p2 : Str → Option Bool) : Option (Int) :=
  bif (decide ((p1.length : Int) > 1000)) then (some 2) else ((rng p1.length (fun (k1 : Nat) (s2 : Unit) => ((idx p1 (k1 : Int)).bind fun (x62 : Part) => (p2 x62.Name).bind fun (x66 : Bool) => bif (!x66) then (some (.rt 5)) else ((netlist_TypeAt N p0 x62.Type_).bind fun (x94 : Int) => bif (decide (x94 < 0)) then (some (.rt 9)) else ((bif (decide ((k1 : Int) > 0)) then ((idx p1 (IntKind.wrap .i64 ((k1 : Int) - 1))).bind fun (x116 : Part) => some (x62.Name.ltb x116.Name || x62.Name.eqb x116.Name)) else (some false)).bind fun (s114 : Bool) => bif s114 then (some (.rt 8)) else (some (.nx ())))) : Option (Fl (Unit) Int))) ()).bind fun (o121 : Fo (Unit) Int) => o121.cs (fun (s2 : Unit) => some 0) (fun r => some r))
/-- internal/stringslite.Index -/
def stringslite_Index (N : Nat) (p0 : Str) (p1 : Str) : Option (Int) :=
  bif (((p1.toL.length : Int) == 0) || (p1.eqb p0)) then (some 0) else (bif ((p1.toL.length : Int) == 1) then ((sidx p1 0).bind fun (x7 : UInt8) => (stringslite_IndexByte N p0 (x7.toNat : Int)).bind fun (x8 : Int) => some x8) else (bif (decide ((p1.toL.length : Int) ≥ (p0.toL.length : Int))) then (some (-1)) else (none)))
/-- strings.Index -/
def strings_Index (N : Nat) (p0 : Str) (p1 : Str) : Option (Int) :=
  (stringslite_Index N p0 p1).bind fun (x1 : Int) => some x1
/-- strings.Count -/
def strings_Count (N : Nat) (p0 : Str) (p1 : Str) : Option (Int) :=
  bif ((p1.toL.length : Int) == 0) then (none) else (bif ((p1.toL.length : Int) == 1) then ((sidx p1 0).bind fun (x2 : UInt8) => some ((Lib.countByte p0.toL (Int.toNat (x2.toNat : Int)).toUInt8 : Nat) : Int)) else ((itr (fun (s4 : Str × Int) => ((strings_Index N s4.1 p1).bind fun (x9 : Int) => bif (x9 == (-1)) then (some (.rt s4.2)) else ((scut s4.1 (IntKind.wrap .i64 (x9 + (p1.toL.length : Int))) (s4.1.toL.length : Int)).bind fun (x10 : Str) => some (.nx (x10, (IntKind.wrap .i64 (s4.2 + 1))))) : Option (Fl (Str × Int) Int))) N (p0, 0)).bind fun (o11 : Fo (Str × Int) Int) => o11.cs (fun (s4 : Str × Int) => some 0) (fun r => some r)))
/-- strings.genSplit -/
def strings_genSplit (N : Nat) (p0 : Str) (p1 : Str) (p2 : Int) (p3 : Int) : Option ((List Str)) :=
  bif (p3 == 0) then (some ([] : (List Str))) else (bif (p1.eqb (⟨[]⟩)) then (none) else ((bif (decide (p3 < 0)) then ((strings_Count N p0 p1).bind fun (x3 : Int) => some (IntKind.wrap .i64 (x3 + 1))) else (some p3)).bind fun (s2 : Int) => (mk 16 (⟨[]⟩ : Str) (if (IntKind.wrap .i64 ((p0.toL.length : Int) + 1)) < s2 then (IntKind.wrap .i64 ((p0.toL.length : Int) + 1)) else s2)).bind fun (x4 : (List Str)) => (itr (fun (s7 : Str × (List Str) × Int) => (bif (decide (s7.2.2 < (IntKind.wrap .i64 ((if (IntKind.wrap .i64 ((p0.toL.length : Int) + 1)) < s2 then (IntKind.wrap .i64 ((p0.toL.length : Int) + 1)) else s2) - 1)))) then ((strings_Index N s7.1 p1).bind fun (x21 : Int) => bif (decide (x21 < 0)) then (some (.br (s7.1, s7.2.1, s7.2.2))) else ((scut s7.1 0 (IntKind.wrap .i64 (x21 + p2))).bind fun (x22 : Str) => (idx s7.2.1 s7.2.2).bind fun (x23 : Str) => (scut s7.1 (IntKind.wrap .i64 (x21 + (p1.toL.length : Int))) (s7.1.toL.length : Int)).bind fun (x24 : Str) => some (.nx (x24, (s7.2.1.set (Int.toNat s7.2.2) x22), (IntKind.wrap .i64 (s7.2.2 + 1)))))) else (some (.br (s7.1, s7.2.1, s7.2.2))) : Option (Fl (Str × (List Str) × Int) Empty))) N (p0, x4, 0)).bind fun (o28 : Fo (Str × (List Str) × Int) Empty) => o28.cs (fun (s7 : Str × (List Str) × Int) => (idx s7.2.1 s7.2.2).bind fun (x25 : Str) => (slc (s7.2.1.set (Int.toNat s7.2.2) s7.1) 0 (IntKind.wrap .i64 (s7.2.2 + 1))).bind fun (x26 : (List Str)) => some x26) (fun r => r.elim)))
/-- strings.Split -/
def strings_Split (N : Nat) (p0 : Str) (p1 : Str) : Option ((List Str)) :=
  (strings_genSplit N p0 p1 0 (-1)).bind fun (x1 : (List Str)) => some x1
/-- slices.IndexFunc[[]string,string] -/
def slices_IndexFunc_string (N : Nat) (p0 : (List Str)) (p1 : Str → Option Bool) : Option (Int) :=
  (rng p0.length (fun (k1 : Nat) (s2 : Unit) => ((idx p0 (k1 : Int)).bind fun (x6 : Str) => (p1 x6).bind fun (x8 : Bool) => bif x8 then (some (.rt (k1 : Int))) else (some (.nx ())) : Option (Fl (Unit) Int))) ()).bind fun (o9 : Fo (Unit) Int) => o9.cs (fun (s2 : Unit) => some (-1)) (fun r => some r)
/-- slices.ContainsFunc[[]string,string] -/
def slices_ContainsFunc_string (N : Nat) (p0 : (List Str)) (p1 : Str → Option Bool) : Option (Bool) :=
  (slices_IndexFunc_string N p0 p1).bind fun (x1 : Int) => some (decide (x1 ≥ 0))
/-- netlist.IsPath$1 -/
def netlist_IsPath_c1 (N : Nat) (p0 : Str) : Option (Bool) :=
  (netlist_IsWord N p0).bind fun (x1 : Bool) => some (!x1)
/-- netlist.IsPath -/
def netlist_IsPath (N : Nat) (p0 : Str) : Option (Bool) :=
  (bif (decide ((p0.toL.length : Int) ≤ 200)) then ((strings_Split N p0 (⟨[47]⟩)).bind fun (x7 : (List Str)) => (slices_ContainsFunc_string N x7 (netlist_IsPath_c1 N)).bind fun (x9 : Bool) => some (!x9)) else (some false)).bind fun (s5 : Bool) => some s5
/-- slices.BinarySearchFunc[[]api.Part,api.Part,string] -/
def slices_BinarySearchFunc_Part_string (N : Nat) (p0 : (List Part)) (p1 : Str) (p2 : Part → Str → Option Int) : Option (Int × Bool) :=
  (itr (fun (s2 : Int × Int) => (bif (decide (s2.1 < s2.2)) then ((idx p0 (IntKind.wrap .i64 (Int.fdiv (IntKind.wrap .u64 (IntKind.wrap .i64 (s2.1 + s2.2))) 2))).bind fun (x13 : Part) => (p2 x13 p1).bind fun (x16 : Int) => (bif (decide (x16 < 0)) then (some ((IntKind.wrap .i64 ((IntKind.wrap .i64 (Int.fdiv (IntKind.wrap .u64 (IntKind.wrap .i64 (s2.1 + s2.2))) 2)) + 1)), s2.2)) else (some (s2.1, (IntKind.wrap .i64 (Int.fdiv (IntKind.wrap .u64 (IntKind.wrap .i64 (s2.1 + s2.2))) 2))))).bind fun (s17 : Int × Int) => some (.nx (s17.1, s17.2))) else (some (.br (s2.1, s2.2))) : Option (Fl (Int × Int) Empty))) N (0, (p0.length : Int))).bind fun (o29 : Fo (Int × Int) Empty) => o29.cs (fun (s2 : Int × Int) => (bif (decide (s2.1 < (p0.length : Int))) then ((idx p0 s2.1).bind fun (x25 : Part) => (p2 x25 p1).bind fun (x28 : Int) => some (x28 == 0)) else (some false)).bind fun (s23 : Bool) => some (s2.1, s23)) (fun r => r.elim)
/-- netlist.partAt$1 -/
def netlist_partAt_c1 (N : Nat) (p0 : Part) (p1 : Str) : Option (Int) :=
  (strings_Compare N p0.Name p1).bind fun (x2 : Int) => some x2
/-- netlist.partAt -/
def netlist_partAt (N : Nat) (p0 : (List Part)) (p1 : Str) : Option (Int) :=
  (slices_BinarySearchFunc_Part_string N p0 p1 (netlist_partAt_c1 N)).bind fun (x1 : Int × Bool) => bif (!x1.2) then (some (-1)) else (some x1.1)
/-- slices.BinarySearchFunc[[]api.PinType,api.PinType,string] -/
def slices_BinarySearchFunc_PinType_string (N : Nat) (p0 : (List PinType)) (p1 : Str) (p2 : PinType → Str → Option Int) : Option (Int × Bool) :=
  (itr (fun (s2 : Int × Int) => (bif (decide (s2.1 < s2.2)) then ((idx p0 (IntKind.wrap .i64 (Int.fdiv (IntKind.wrap .u64 (IntKind.wrap .i64 (s2.1 + s2.2))) 2))).bind fun (x13 : PinType) => (p2 x13 p1).bind fun (x16 : Int) => (bif (decide (x16 < 0)) then (some ((IntKind.wrap .i64 ((IntKind.wrap .i64 (Int.fdiv (IntKind.wrap .u64 (IntKind.wrap .i64 (s2.1 + s2.2))) 2)) + 1)), s2.2)) else (some (s2.1, (IntKind.wrap .i64 (Int.fdiv (IntKind.wrap .u64 (IntKind.wrap .i64 (s2.1 + s2.2))) 2))))).bind fun (s17 : Int × Int) => some (.nx (s17.1, s17.2))) else (some (.br (s2.1, s2.2))) : Option (Fl (Int × Int) Empty))) N (0, (p0.length : Int))).bind fun (o29 : Fo (Int × Int) Empty) => o29.cs (fun (s2 : Int × Int) => (bif (decide (s2.1 < (p0.length : Int))) then ((idx p0 s2.1).bind fun (x25 : PinType) => (p2 x25 p1).bind fun (x28 : Int) => some (x28 == 0)) else (some false)).bind fun (s23 : Bool) => some (s2.1, s23)) (fun r => r.elim)
/-- netlist.PinAt$1 -/
def netlist_PinAt_c1 (N : Nat) (p0 : PinType) (p1 : Str) : Option (Int) :=
  (strings_Compare N p0.Name p1).bind fun (x2 : Int) => some x2
/-- netlist.PinAt -/
def netlist_PinAt (N : Nat) (p0 : PartType) (p1 : Str) : Option (Int) :=
  (slices_BinarySearchFunc_PinType_string N p0.Pins p1 (netlist_PinAt_c1 N)).bind fun (x3 : Int × Bool) => bif (!x3.2) then (some (-1)) else (some x3.1)
/-- netlist.hasPin -/
def netlist_hasPin (N : Nat) (p0 : (List PartType)) (p1 : (List Part)) (p2 : Pin) : Option (Bool) :=
  (netlist_partAt N p1 p2.Part).bind fun (x2 : Int) => (bif (decide (x2 ≥ 0)) then ((idx p1 x2).bind fun (x18 : Part) => (netlist_TypeAt N p0 x18.Type_).bind fun (x21 : Int) => (idx p0 x21).bind fun (x22 : PartType) => (netlist_PinAt N x22 p2.Pin).bind fun (x25 : Int) => some (decide (x25 ≥ 0))) else (some false)).bind fun (s16 : Bool) => some s16
/-- netlist.CheckList$1 -/
def netlist_CheckList_c1 (N : Nat) (p0 : Pin) (p1 : (List PartType)) (p2 : Netlist) : Option (Bool) :=
  (netlist_hasPin N p1 p2.Parts p0).bind fun (x6 : Bool) => some x6
/-- netlist.ComparePins -/
def netlist_ComparePins (N : Nat) (p0 : Pin) (p1 : Pin) : Option (Int) :=
  (strings_Compare N p0.Part p1.Part).bind fun (x3 : Int) => bif (x3 != 0) then (some x3) else ((strings_Compare N p0.Pin p1.Pin).bind fun (x4 : Int) => some x4)
/-- netlist.checkNetPins -/
def netlist_checkNetPins (N : Nat) (p0 : (List Pin)) (p1 : Pin → Option Bool) (p2 : (List (Pin × Bool))) : Option (Int × (List (Pin × Bool))) :=
  bif (decide ((p0.length : Int) > 500)) then (some (2, p2)) else ((rng p0.length (fun (k1 : Nat) (s2 : Unit) => ((idx p0 (k1 : Int)).bind fun (x51 : Pin) => (p1 x51).bind fun (x56 : Bool) => bif (!x56) then (some (.rt (9, p2))) else ((bif (decide ((k1 : Int) > 0)) then ((idx p0 (IntKind.wrap .i64 ((k1 : Int) - 1))).bind fun (x90 : Pin) => (netlist_ComparePins N x51 x90).bind fun (x93 : Int) => some (decide (x93 ≤ 0))) else (some false)).bind fun (s87 : Bool) => bif s87 then (some (.rt (8, p2))) else (bif (mget p2 x51 (false : Bool)) then (some (.rt (7, p2))) else (some (.nx ())))) : Option (Fl (Unit) (Int × (List (Pin × Bool)))))) ()).bind fun (o117 : Fo (Unit) (Int × (List (Pin × Bool)))) => o117.cs (fun (s2 : Unit) => (fld p0.length (fun (k99 : Nat) (s100 : (List (Pin × Bool))) => ((idx p0 (k99 : Int)).bind fun (x111 : Pin) => some (mput s100 x111 true) : Option ((List (Pin × Bool))))) p2).bind fun (s100 : (List (Pin × Bool))) => some (0, s100)) (fun r => some r))
/-- netlist.CheckList -/
def netlist_CheckList (N : Nat) (p0 : (List PartType)) (p1 : Netlist) : Option (Int) :=
  (netlist_CheckTypes N p0).bind fun (x4 : Int) => bif (x4 != 0) then (some x4) else ((netlist_checkParts N p0 p1.Parts (netlist_IsPath N)).bind fun (x8 : Int) => bif (x8 != 0) then (some x8) else (bif (decide ((p1.Nets.length : Int) > 1000)) then (some 2) else ((rng p1.Nets.length (fun (k14 : Nat) (s15 : (List (Pin × Bool))) => ((idx p1.Nets (k14 : Int)).bind fun (x76 : Net) => (netlist_IsPath N x76.Name).bind fun (x80 : Bool) => bif (!x80) then (some (.rt 5)) else (bif ((x76.Pins.length : Int) == 0) then (some (.rt 9)) else ((netlist_checkNetPins N x76.Pins (fun y0 => netlist_CheckList_c1 N y0 p0 p1) s15).bind fun (x83 : Int × (List (Pin × Bool))) => bif (x83.1 != 0) then (some (.rt x83.1)) else (bif (decide ((x76.Ports.length : Int) > 0)) then (some (.rt 3)) else ((bif (decide ((k14 : Int) > 0)) then ((idx p1.Nets (IntKind.wrap .i64 ((k14 : Int) - 1))).bind fun (x99 : Net) => some (x76.Name.ltb x99.Name || x76.Name.eqb x99.Name)) else (some false)).bind fun (s95 : Bool) => bif s95 then (some (.rt 8)) else (some (.nx x83.2)))))) : Option (Fl ((List (Pin × Bool))) Int))) ([] : (List (Pin × Bool)))).bind fun (o106 : Fo ((List (Pin × Bool))) Int) => o106.cs (fun (s15 : (List (Pin × Bool))) => some 0) (fun r => some r))))
/-- netlist.Nets -/
def netlist_Nets (N : Nat) (p0 : Netlist) : Option ((List (Pin × Int))) :=
  (fld p0.Nets.length (fun (k4 : Nat) (s5 : (List (Pin × Int))) => ((idx p0.Nets (k4 : Int)).bind fun (x52 : Net) => (fld x52.Pins.length (fun (k57 : Nat) (s58 : (List (Pin × Int))) => ((idx x52.Pins (k57 : Int)).bind fun (x69 : Pin) => some (mput s58 x69 (k4 : Int)) : Option ((List (Pin × Int))))) s5).bind fun (s58 : (List (Pin × Int))) => some s58 : Option ((List (Pin × Int))))) ([] : (List (Pin × Int)))).bind fun (s5 : (List (Pin × Int))) => some s5
/-- netlist.NetOf -/
def netlist_NetOf (N : Nat) (p0 : (List PartType)) (p1 : Netlist) (p2 : Pin) : Option (Str × Bool × Int) :=
  (netlist_CheckList N p0 p1).bind fun (x4 : Int) => bif (x4 != 0) then (some (⟨[]⟩, false, x4)) else ((netlist_hasPin N p0 p1.Parts p2).bind fun (x7 : Bool) => bif (!x7) then (some (⟨[]⟩, false, 9)) else ((netlist_Nets N p1).bind fun (x9 : (List (Pin × Int))) => bif (!(mhas x9 p2)) then (some (⟨[]⟩, false, 0)) else ((idx p1.Nets (mget x9 p2 (0 : Int))).bind fun (x16 : Net) => some (x16.Name, true, 0))))
/-- etchhouseref2.within -/
def etchhouseref2_within (N : Nat) (p0 : Int) (p1 : Int) (p2 : Int) : Option (Bool) :=
  some ((decide (p1 ≤ p0)) && (decide (p0 ≤ p2)))
/-- etchhouseref2.IsWord -/
def etchhouseref2_IsWord (N : Nat) (p0 : Str) : Option (Bool) :=
  (rng p0.toL.length (fun (k1 : Nat) (s2 : Unit) => ((sidx p0 (k1 : Int)).bind fun (x9 : UInt8) => (bif ((((decide ((x9.toNat : Int) < 97)) || (decide ((x9.toNat : Int) > 122))) && ((decide ((x9.toNat : Int) < 65)) || (decide ((x9.toNat : Int) > 90)))) && ((decide ((x9.toNat : Int) < 48)) || (decide ((x9.toNat : Int) > 57)))) then ((strings_IndexByte N (⟨[95, 43, 45, 35]⟩) (x9.toNat : Int)).bind fun (x14 : Int) => some (decide (x14 < 0))) else (some false)).bind fun (s12 : Bool) => bif s12 then (some (.rt false)) else (some (.nx ())) : Option (Fl (Unit) Bool))) ()).bind fun (o16 : Fo (Unit) Bool) => o16.cs (fun (s2 : Unit) => (etchhouseref2_within N (p0.toL.length : Int) 1 40).bind fun (x15 : Bool) => some x15) (fun r => some r)
/-- etchhouseref2.checkType -/
def etchhouseref2_checkType (N : Nat) (p0 : PartType) : Option (Int) :=
  (etchhouseref2_IsWord N p0.Name).bind fun (x2 : Bool) => bif (!x2) then (some 5) else (bif ((p0.Pins.length : Int) == 0) then (some 9) else (bif (decide ((p0.Pins.length : Int) > 200)) then (some 2) else ((rng p0.Pins.length (fun (k10 : Nat) (s11 : Unit) => ((idx p0.Pins (k10 : Int)).bind fun (x159 : PinType) => (etchhouseref2_IsWord N x159.Name).bind fun (x163 : Bool) => bif (!x163) then (some (.rt 5)) else ((etchhouseref2_within N x159.Kind 1 7).bind fun (x235 : Bool) => bif (!x235) then (some (.rt 4)) else ((etchhouseref2_within N x159.Group 0 200).bind fun (x271 : Bool) => bif (!x271) then (some (.rt 1)) else ((bif (decide ((k10 : Int) > 0)) then ((idx p0.Pins (IntKind.wrap .i64 ((k10 : Int) - 1))).bind fun (x300 : PinType) => some (x159.Name.ltb x300.Name || x159.Name.eqb x300.Name)) else (some false)).bind fun (s297 : Bool) => bif s297 then (some (.rt 8)) else (some (.nx ()))))) : Option (Fl (Unit) Int))) ()).bind fun (o346 : Fo (Unit) Int) => o346.cs (fun (s11 : Unit) => (rng p0.Pins.length (fun (k307 : Nat) (s308 : Unit) => ((idx p0.Pins (k307 : Int)).bind fun (x327 : PinType) => (slc p0.Pins 0 (k307 : Int)).bind fun (x332 : (List PinType)) => (rng x332.length (fun (k334 : Nat) (s335 : Unit) => ((idx x332 (k334 : Int)).bind fun (x340 : PinType) => bif (((decide (x327.Group > 0)) && (x327.Group == x340.Group)) && (x327.Kind != x340.Kind)) then (some (.rt 12)) else (some (.nx ())) : Option (Fl (Unit) Int))) ()).bind fun (o344 : Fo (Unit) Int) => o344.cs (fun (s335 : Unit) => some (.nx ())) (fun r => some (.rt r)) : Option (Fl (Unit) Int))) ()).bind fun (o345 : Fo (Unit) Int) => o345.cs (fun (s308 : Unit) => some 0) (fun r => some r)) (fun r => some r))))
/-- etchhouseref2.CheckTypes -/
def etchhouseref2_CheckTypes (N : Nat) (p0 : (List PartType)) : Option (Int) :=
  bif (decide ((p0.length : Int) > 200)) then (some 2) else ((rng p0.length (fun (k1 : Nat) (s2 : Unit) => ((idx p0 (k1 : Int)).bind fun (x22 : PartType) => (etchhouseref2_checkType N x22).bind fun (x27 : Int) => bif (x27 != 0) then (some (.rt x27)) else ((bif (decide ((k1 : Int) > 0)) then ((idx p0 (IntKind.wrap .i64 ((k1 : Int) - 1))).bind fun (x36 : PartType) => some (x22.Name.ltb x36.Name || x22.Name.eqb x36.Name)) else (some false)).bind fun (s34 : Bool) => bif s34 then (some (.rt 8)) else (some (.nx ()))) : Option (Fl (Unit) Int))) ()).bind fun (o41 : Fo (Unit) Int) => o41.cs (fun (s2 : Unit) => some 0) (fun r => some r))
/-- etchhouseref2.IsPath -/
def etchhouseref2_IsPath (N : Nat) (p0 : Str) : Option (Bool) :=
  (strings_Split N p0 (⟨[47]⟩)).bind fun (x1 : (List Str)) => (rng x1.length (fun (k3 : Nat) (s4 : Unit) => ((idx x1 (k3 : Int)).bind fun (x7 : Str) => (etchhouseref2_IsWord N x7).bind fun (x8 : Bool) => bif (!x8) then (some (.rt false)) else (some (.nx ())) : Option (Fl (Unit) Bool))) ()).bind fun (o9 : Fo (Unit) Bool) => o9.cs (fun (s4 : Unit) => some (decide ((p0.toL.length : Int) ≤ 200))) (fun r => some r)
/-- etchhouseref2.typeOf -/
def etchhouseref2_typeOf (N : Nat) (p0 : (List PartType)) (p1 : Str) : Option (Int) :=
  (rng p0.length (fun (k1 : Nat) (s2 : Unit) => ((idx p0 (k1 : Int)).bind fun (x7 : PartType) => bif (x7.Name.eqb p1) then (some (.rt (k1 : Int))) else (some (.nx ())) : Option (Fl (Unit) Int))) ()).bind fun (o11 : Fo (Unit) Int) => o11.cs (fun (s2 : Unit) => some (-1)) (fun r => some r)
/-- etchhouseref2.partOf -/
def etchhouseref2_partOf (N : Nat) (p0 : (List Part)) (p1 : Str) : Option (Int) :=
  (rng p0.length (fun (k1 : Nat) (s2 : Unit) => ((idx p0 (k1 : Int)).bind fun (x7 : Part) => bif (x7.Name.eqb p1) then (some (.rt (k1 : Int))) else (some (.nx ())) : Option (Fl (Unit) Int))) ()).bind fun (o11 : Fo (Unit) Int) => o11.cs (fun (s2 : Unit) => some (-1)) (fun r => some r)
/-- etchhouseref2.pinOf -/
def etchhouseref2_pinOf (N : Nat) (p0 : PartType) (p1 : Str) : Option (Int) :=
  (rng p0.Pins.length (fun (k3 : Nat) (s4 : Unit) => ((idx p0.Pins (k3 : Int)).bind fun (x9 : PinType) => bif (x9.Name.eqb p1) then (some (.rt (k3 : Int))) else (some (.nx ())) : Option (Fl (Unit) Int))) ()).bind fun (o13 : Fo (Unit) Int) => o13.cs (fun (s4 : Unit) => some (-1)) (fun r => some r)
/-- etchhouseref2.HasPin -/
def etchhouseref2_HasPin (N : Nat) (p0 : (List PartType)) (p1 : Netlist) (p2 : Pin) : Option (Bool) :=
  (etchhouseref2_partOf N p1.Parts p2.Part).bind fun (x4 : Int) => (bif (decide (x4 ≥ 0)) then ((idx p1.Parts x4).bind fun (x23 : Part) => (etchhouseref2_typeOf N p0 x23.Type_).bind fun (x26 : Int) => (idx p0 x26).bind fun (x27 : PartType) => (etchhouseref2_pinOf N x27 p2.Pin).bind fun (x30 : Int) => some (decide (x30 ≥ 0))) else (some false)).bind fun (s20 : Bool) => some s20
/-- etchhouseref2.before -/
def etchhouseref2_before (N : Nat) (p0 : Pin) (p1 : Pin) : Option (Bool) :=
  some ((p0.Part.ltb p1.Part) || ((p0.Part.eqb p1.Part) && (p0.Pin.ltb p1.Pin)))
/-- slices.Index[[]api.Pin,api.Pin] -/
def slices_Index_Pin (N : Nat) (p0 : (List Pin)) (p1 : Pin) : Option (Int) :=
  (rng p0.length (fun (k2 : Nat) (s3 : Unit) => ((idx p0 (k2 : Int)).bind fun (x12 : Pin) => bif (decide (p1 = x12)) then (some (.rt (k2 : Int))) else (some (.nx ())) : Option (Fl (Unit) Int))) ()).bind fun (o18 : Fo (Unit) Int) => o18.cs (fun (s3 : Unit) => some (-1)) (fun r => some r)
/-- slices.Contains[[]api.Pin,api.Pin] -/
def slices_Contains_Pin (N : Nat) (p0 : (List Pin)) (p1 : Pin) : Option (Bool) :=
  (slices_Index_Pin N p0 p1).bind fun (x3 : Int) => some (decide (x3 ≥ 0))
/-- etchhouseref2.inNets -/
def etchhouseref2_inNets (N : Nat) (p0 : (List Net)) (p1 : Pin) : Option (Bool) :=
  (rng p0.length (fun (k2 : Nat) (s3 : Unit) => ((idx p0 (k2 : Int)).bind fun (x11 : Net) => (slices_Contains_Pin N x11.Pins p1).bind fun (x17 : Bool) => bif x17 then (some (.rt true)) else (some (.nx ())) : Option (Fl (Unit) Bool))) ()).bind fun (o18 : Fo (Unit) Bool) => o18.cs (fun (s3 : Unit) => some false) (fun r => some r)
/-- etchhouseref2.checkList -/
def etchhouseref2_checkList (N : Nat) (p0 : (List PartType)) (p1 : Netlist) : Option (Int) :=
  bif (decide ((p1.Parts.length : Int) > 1000)) then (some 2) else ((rng p1.Parts.length (fun (k4 : Nat) (s5 : Unit) => ((idx p1.Parts (k4 : Int)).bind fun (x81 : Part) => (etchhouseref2_IsPath N x81.Name).bind fun (x85 : Bool) => bif (!x85) then (some (.rt 5)) else ((etchhouseref2_typeOf N p0 x81.Type_).bind fun (x121 : Int) => bif (decide (x121 < 0)) then (some (.rt 9)) else ((bif (decide ((k4 : Int) > 0)) then ((idx p1.Parts (IntKind.wrap .i64 ((k4 : Int) - 1))).bind fun (x150 : Part) => some (x81.Name.ltb x150.Name || x81.Name.eqb x150.Name)) else (some false)).bind fun (s147 : Bool) => bif s147 then (some (.rt 8)) else (some (.nx ())))) : Option (Fl (Unit) Int))) ()).bind fun (o567 : Fo (Unit) Int) => o567.cs (fun (s5 : Unit) => bif (decide ((p1.Nets.length : Int) > 1000)) then (some 2) else ((rng p1.Nets.length (fun (k158 : Nat) (s159 : Unit) => ((idx p1.Nets (k158 : Int)).bind fun (x363 : Net) => (etchhouseref2_IsPath N x363.Name).bind fun (x367 : Bool) => bif (!x367) then (some (.rt 5)) else (bif ((x363.Pins.length : Int) == 0) then (some (.rt 9)) else (bif (decide ((x363.Pins.length : Int) > 500)) then (some (.rt 2)) else ((rng x363.Pins.length (fun (k375 : Nat) (s376 : Unit) => ((idx x363.Pins (k375 : Int)).bind fun (x462 : Pin) => (etchhouseref2_HasPin N p0 p1 x462).bind fun (x468 : Bool) => bif (!x468) then (some (.rt 9)) else ((bif (decide ((k375 : Int) > 0)) then ((idx x363.Pins (IntKind.wrap .i64 ((k375 : Int) - 1))).bind fun (x522 : Pin) => (etchhouseref2_before N x522 x462).bind fun (x526 : Bool) => some (!x526)) else (some false)).bind fun (s519 : Bool) => bif s519 then (some (.rt 8)) else ((slc p1.Nets 0 (k158 : Int)).bind fun (x540 : (List Net)) => (etchhouseref2_inNets N x540 x462).bind fun (x543 : Bool) => bif x543 then (some (.rt 7)) else (some (.nx ())))) : Option (Fl (Unit) Int))) ()).bind fun (o565 : Fo (Unit) Int) => o565.cs (fun (s376 : Unit) => bif (decide ((x363.Ports.length : Int) > 0)) then (some (.rt 3)) else ((bif (decide ((k158 : Int) > 0)) then ((idx p1.Nets (IntKind.wrap .i64 ((k158 : Int) - 1))).bind fun (x559 : Net) => some (x363.Name.ltb x559.Name || x363.Name.eqb x559.Name)) else (some false)).bind fun (s556 : Bool) => bif s556 then (some (.rt 8)) else (some (.nx ())))) (fun r => some (.rt r))))) : Option (Fl (Unit) Int))) ()).bind fun (o566 : Fo (Unit) Int) => o566.cs (fun (s159 : Unit) => some 0) (fun r => some r))) (fun r => some r))
/-- etchhouseref2.CheckList -/
def etchhouseref2_CheckList (N : Nat) (p0 : (List PartType)) (p1 : Netlist) : Option (Int) :=
  (etchhouseref2_CheckTypes N p0).bind fun (x2 : Int) => bif (x2 != 0) then (some x2) else ((etchhouseref2_checkList N p0 p1).bind fun (x4 : Int) => some x4)
/-- etchhouseref2.netOf -/
def etchhouseref2_netOf (N : Nat) (p0 : Netlist) (p1 : Pin) : Option (Int) :=
  (rng p0.Nets.length (fun (k4 : Nat) (s5 : Unit) => ((idx p0.Nets (k4 : Int)).bind fun (x13 : Net) => (slices_Contains_Pin N x13.Pins p1).bind fun (x19 : Bool) => bif x19 then (some (.rt (k4 : Int))) else (some (.nx ())) : Option (Fl (Unit) Int))) ()).bind fun (o20 : Fo (Unit) Int) => o20.cs (fun (s5 : Unit) => some (-1)) (fun r => some r)
/-- etchhouseref2.NetOf -/
def etchhouseref2_NetOf (N : Nat) (p0 : (List PartType)) (p1 : Netlist) (p2 : Pin) : Option (Str × Bool × Int) :=
  (etchhouseref2_CheckList N p0 p1).bind fun (x4 : Int) => bif (x4 != 0) then (some (⟨[]⟩, false, x4)) else ((etchhouseref2_HasPin N p0 p1 p2).bind fun (x7 : Bool) => bif (!x7) then (some (⟨[]⟩, false, 9)) else ((etchhouseref2_netOf N p1 p2).bind fun (x10 : Int) => bif (decide (x10 ≥ 0)) then ((idx p1.Nets x10).bind fun (x16 : Net) => some (x16.Name, true, 0)) else (some (⟨[]⟩, false, 0))))
/-- netlist.pinsOf -/
def netlist_pinsOf (N : Nat) (p0 : (List PartType)) (p1 : Part) : Option ((List Pin)) :=
  (netlist_TypeAt N p0 p1.Type_).bind fun (x2 : Int) => (idx p0 x2).bind fun (x3 : PartType) => (fld x3.Pins.length (fun (k7 : Nat) (s8 : (List Pin)) => ((idx x3.Pins (k7 : Int)).bind fun (x30 : PinType) => (app 32 s8 ([(⟨p1.Name, x30.Name⟩ : Pin)] : (List Pin))).bind fun (x36 : (List Pin)) => some x36 : Option ((List Pin)))) ([] : (List Pin))).bind fun (s8 : (List Pin)) => some s8
/-- netlist.LooseOf -/
def netlist_LooseOf (N : Nat) (p0 : (List PartType)) (p1 : Netlist) : Option ((List Pin)) :=
  (netlist_Nets N p1).bind fun (x3 : (List (Pin × Int))) => (fld p1.Parts.length (fun (k6 : Nat) (s7 : (List Pin)) => ((idx p1.Parts (k6 : Int)).bind fun (x129 : Part) => (netlist_pinsOf N p0 x129).bind fun (x134 : (List Pin)) => (fld x134.length (fun (k136 : Nat) (s137 : (List Pin)) => ((idx x134 (k136 : Int)).bind fun (x171 : Pin) => (bif (!(mhas x3 x171)) then ((app 32 s137 ([x171] : (List Pin))).bind fun (x183 : (List Pin)) => some x183) else (some s137)).bind fun (s179 : (List Pin)) => some s179 : Option ((List Pin)))) s7).bind fun (s137 : (List Pin)) => some s137 : Option ((List Pin)))) ([] : (List Pin))).bind fun (s7 : (List Pin)) => some s7
/-- netlist.Loose -/
def netlist_Loose (N : Nat) (p0 : (List PartType)) (p1 : Netlist) : Option ((List Pin) × Int) :=
  (netlist_CheckList N p0 p1).bind fun (x3 : Int) => bif (x3 != 0) then (some (([] : (List Pin)), x3)) else ((netlist_LooseOf N p0 p1).bind fun (x5 : (List Pin)) => some (x5, 0))
/-- etchhouseref2.loose -/
def etchhouseref2_loose (N : Nat) (p0 : (List PartType)) (p1 : Netlist) : Option ((List Pin)) :=
  (fld p1.Parts.length (fun (k3 : Nat) (s4 : (List Pin)) => ((idx p1.Parts (k3 : Int)).bind fun (x160 : Part) => (etchhouseref2_typeOf N p0 x160.Type_).bind fun (x164 : Int) => (idx p0 x164).bind fun (x165 : PartType) => (fld x165.Pins.length (fun (k169 : Nat) (s170 : (List Pin)) => ((idx x165.Pins (k169 : Int)).bind fun (x214 : PinType) => (etchhouseref2_netOf N p1 (⟨x160.Name, x214.Name⟩ : Pin)).bind fun (x222 : Int) => (bif (decide (x222 < 0)) then ((app 32 s170 ([(⟨x160.Name, x214.Name⟩ : Pin)] : (List Pin))).bind fun (x231 : (List Pin)) => some x231) else (some s170)).bind fun (s227 : (List Pin)) => some s227 : Option ((List Pin)))) s4).bind fun (s170 : (List Pin)) => some s170 : Option ((List Pin)))) ([] : (List Pin))).bind fun (s4 : (List Pin)) => some s4
/-- etchhouseref2.Loose -/
def etchhouseref2_Loose (N : Nat) (p0 : (List PartType)) (p1 : Netlist) : Option ((List Pin) × Int) :=
  (etchhouseref2_CheckList N p0 p1).bind fun (x3 : Int) => bif (x3 != 0) then (some (([] : (List Pin)), x3)) else ((etchhouseref2_loose N p0 p1).bind fun (x5 : (List Pin)) => some (x5, 0))
/-- slices.Equal[[]api.Pin,api.Pin] -/
def slices_Equal_Pin (N : Nat) (p0 : (List Pin)) (p1 : (List Pin)) : Option (Bool) :=
  bif ((p0.length : Int) != (p1.length : Int)) then (some false) else ((rng p0.length (fun (k1 : Nat) (s2 : Unit) => ((idx p0 (k1 : Int)).bind fun (x13 : Pin) => (idx p1 (k1 : Int)).bind fun (x16 : Pin) => bif (!(decide (x13 = x16))) then (some (.rt false)) else (some (.nx ())) : Option (Fl (Unit) Bool))) ()).bind fun (o23 : Fo (Unit) Bool) => o23.cs (fun (s2 : Unit) => some true) (fun r => some r))
/-- etchhouselaw2.awake -/
def etchhouselaw2_awake (N : Nat)  : Option (Bool) :=
  (netlist_Loose N ([(⟨⟨[114]⟩, ([(⟨⟨[49]⟩, 6, 0⟩ : PinType)] : (List PinType))⟩ : PartType)] : (List PartType)) (⟨([(⟨⟨[97]⟩, ⟨[114]⟩⟩ : Part)] : (List Part)), []⟩ : Netlist)).bind fun (x8 : (List Pin) × Int) => (bif (x8.2 == 0) then (bif ((x8.1.length : Int) == 1) then ((idx x8.1 0).bind fun (x19 : Pin) => some (decide (x19 = (⟨⟨[97]⟩, ⟨[49]⟩⟩ : Pin)))) else (some false)) else (some false)).bind fun (s16 : Bool) => some s16
/-- etchhouselaw2.NetlistListsMatchSpec -/
def etchhouselaw2_NetlistListsMatchSpec (N : Nat) (p0 : (List PartType)) (p1 : Netlist) (p2 : Pin) : Option (Bool) :=
  (netlist_NetOf N p0 p1 p2).bind fun (x5 : Str × Bool × Int) => (etchhouseref2_NetOf N p0 p1 p2).bind fun (x8 : Str × Bool × Int) => ((netlist_CheckList N p0 p1).bind fun (x24 : Int) => (etchhouseref2_CheckList N p0 p1).bind fun (x26 : Int) => bif (((x24 != x26) || (x5.2.2 != x8.2.2)) || (!x5.1.eqb x8.1)) then (some true) else (some (x5.2.1 != x8.2.1))).bind fun (s22 : Bool) => bif s22 then (some false) else ((netlist_Loose N p0 p1).bind fun (x33 : (List Pin) × Int) => (etchhouseref2_Loose N p0 p1).bind fun (x36 : (List Pin) × Int) => (bif (x33.2 == x36.2) then ((slices_Equal_Pin N x33.1 x36.1).bind fun (x46 : Bool) => bif x46 then ((etchhouselaw2_awake N ).bind fun (x48 : Bool) => some x48) else (some false)) else (some false)).bind fun (s44 : Bool) => some s44)
/-- internal/stringslite.Cut -/
def stringslite_Cut (N : Nat) (p0 : Str) (p1 : Str) : Option (Str × Str × Bool) :=
  (stringslite_Index N p0 p1).bind fun (x1 : Int) => bif (decide (x1 ≥ 0)) then ((scut p0 0 x1).bind fun (x4 : Str) => (scut p0 (IntKind.wrap .i64 (x1 + (p1.toL.length : Int))) (p0.toL.length : Int)).bind fun (x5 : Str) => some (x4, x5, true)) else (some (p0, ⟨[]⟩, false))
/-- strings.Cut -/
def strings_Cut (N : Nat) (p0 : Str) (p1 : Str) : Option (Str × Str × Bool) :=
  (stringslite_Cut N p0 p1).bind fun (x1 : Str × Str × Bool) => some (x1.1, x1.2.1, x1.2.2)
/-- strings.indexFunc -/
def strings_indexFunc (N : Nat) (p0 : Str) (p1 : R32 → Option Bool) (p2 : Bool) : Option (Int) :=
  (itr (fun (s3 : Nat) => (bif (decide (s3 < p0.toL.length)) then ((p1 (⟨(((Utf8.decode (bs p0) s3).1 : Nat) : Int)⟩ : R32)).bind fun (x9 : Bool) => bif (x9 == p2) then (some (.rt (s3 : Int))) else (some (.nx (s3 + (Utf8.decode (bs p0) s3).2)))) else (some (.br s3)) : Option (Fl (Nat) Int))) N 0).bind fun (o10 : Fo (Nat) Int) => o10.cs (fun (s3 : Nat) => some (-1)) (fun r => some r)
/-- strings.IndexFunc -/
def strings_IndexFunc (N : Nat) (p0 : Str) (p1 : R32 → Option Bool) : Option (Int) :=
  (strings_indexFunc N p0 p1 true).bind fun (x1 : Int) => some x1
/-- strings.ContainsFunc -/
def strings_ContainsFunc (N : Nat) (p0 : Str) (p1 : R32 → Option Bool) : Option (Bool) :=
  (strings_IndexFunc N p0 p1).bind fun (x1 : Int) => some (decide (x1 ≥ 0))
/-- netlist.isPlain$1 -/
def netlist_isPlain_c1 (N : Nat) (p0 : Int) : Option (Bool) :=
  some (((decide (p0 < 33)) || (decide (p0 > 126))) || (p0 == 46))
/-- netlist.isPlain -/
def netlist_isPlain (N : Nat) (p0 : Str) : Option (Bool) :=
  (bif (!p0.eqb (⟨[]⟩)) then ((strings_ContainsFunc N p0 (fun y0 => netlist_isPlain_c1 N y0.n)).bind fun (x5 : Bool) => some (!x5)) else (some false)).bind fun (s3 : Bool) => some s3
/-- netlist.readLine -/
def netlist_readLine (N : Nat) (p0_0 : (List Part)) (p0_1 : (List Net)) (p1 : Str) : Option (Bool × (List Part) × (List Net)) :=
  (strings_Split N p1 (⟨[32]⟩)).bind fun (x1 : (List Str)) => ((idx x1 0).bind fun (x10 : Str) => bif (x10.eqb (⟨[112, 97, 114, 116]⟩)) then (bif ((x1.length : Int) == 3) then (some ((p0_1.length : Int) == 0)) else (some false)) else (some false)).bind fun (s9 : Bool) => bif s9 then ((idx x1 1).bind fun (x195 : Str) => (idx x1 2).bind fun (x196 : Str) => (app 32 p0_0 ([(⟨x195, x196⟩ : Part)] : (List Part))).bind fun (x199 : (List Part)) => ((idx x1 1).bind fun (x212 : Str) => (netlist_isPlain N x212).bind fun (x213 : Bool) => bif x213 then ((idx x1 2).bind fun (x215 : Str) => (netlist_isPlain N x215).bind fun (x216 : Bool) => some x216) else (some false)).bind fun (s211 : Bool) => some (s211, x199, p0_1)) else (((idx x1 0).bind fun (x221 : Str) => bif (x221.eqb (⟨[110, 101, 116]⟩)) then (some (decide ((x1.length : Int) ≥ 2))) else (some false)).bind fun (s220 : Bool) => bif s220 then ((idx x1 1).bind fun (x300 : Str) => (slc x1 2 (x1.length : Int)).bind fun (x302 : (List Str)) => (rng x302.length (fun (k304 : Nat) (s305 : (List Pin)) => ((idx x302 (k304 : Int)).bind fun (x347 : Str) => (strings_Cut N x347 (⟨[46]⟩)).bind fun (x349 : Str × Str × Bool) => (bif (!x349.2.2) then (some true) else ((netlist_isPlain N x349.1).bind fun (x358 : Bool) => bif (!x358) then (some true) else ((netlist_isPlain N x349.2.1).bind fun (x360 : Bool) => some (!x360)))).bind fun (s356 : Bool) => bif s356 then (some (.rt (false, p0_0, p0_1))) else ((app 32 s305 ([(⟨x349.1, x349.2.1⟩ : Pin)] : (List Pin))).bind fun (x363 : (List Pin)) => some (.nx x363)) : Option (Fl ((List Pin)) (Bool × (List Part) × (List Net))))) ([] : (List Pin))).bind fun (o376 : Fo ((List Pin)) (Bool × (List Part) × (List Net))) => o376.cs (fun (s305 : (List Pin)) => (app 64 p0_1 ([(⟨x300, s305, ([] : (List Str))⟩ : Net)] : (List Net))).bind fun (x368 : (List Net)) => (idx x1 1).bind fun (x373 : Str) => (netlist_isPlain N x373).bind fun (x375 : Bool) => some (x375, p0_0, x368)) (fun r => some r)) else (some (false, p0_0, p0_1)))
/-- netlist.Read -/
def netlist_Read (N : Nat) (p0 : Str) : Option (Netlist × Int × Int) :=
  bif (decide ((p0.toL.length : Int) > 2000000)) then (some ((⟨([] : (List Part)), ([] : (List Net))⟩ : Netlist), 0, 2)) else ((itr (fun (s5 : Str × (List Part) × (List Net) × Int) => (bif (!s5.1.eqb (⟨[]⟩)) then ((strings_Cut N s5.1 (⟨[10]⟩)).bind fun (x40 : Str × Str × Bool) => (bif (!x40.2.2) then (some (s5.2.1, s5.2.2.1, true)) else ((netlist_readLine N s5.2.1 s5.2.2.1 x40.1).bind fun (x49 : Bool × (List Part) × (List Net)) => some (x49.2.1, x49.2.2, (!x49.1)))).bind fun (s45 : (List Part) × (List Net) × Bool) => bif s45.2.2 then (some (.rt ((⟨([] : (List Part)), ([] : (List Net))⟩ : Netlist), s5.2.2.2, 10))) else (some (.nx (x40.2.1, s45.1, s45.2.1, (IntKind.wrap .i64 (s5.2.2.2 + 1)))))) else (some (.br (s5.1, s5.2.1, s5.2.2.1, s5.2.2.2))) : Option (Fl (Str × (List Part) × (List Net) × Int) (Netlist × Int × Int)))) N (p0, ([] : (List Part)), ([] : (List Net)), 1)).bind fun (o55 : Fo (Str × (List Part) × (List Net) × Int) (Netlist × Int × Int)) => o55.cs (fun (s5 : Str × (List Part) × (List Net) × Int) => some ((⟨s5.2.1, s5.2.2.1⟩ : Netlist), 0, 0)) (fun r => some r))
/-- etchhouseref2.isListWord -/
def etchhouseref2_isListWord (N : Nat) (p0 : Str) : Option (Bool) :=
  (rng p0.toL.length (fun (k1 : Nat) (s2 : Unit) => (((sidx p0 (k1 : Int)).bind fun (x28 : UInt8) => bif (decide ((x28.toNat : Int) < 33)) then (some true) else ((sidx p0 (k1 : Int)).bind fun (x30 : UInt8) => bif (decide ((x30.toNat : Int) > 126)) then (some true) else ((sidx p0 (k1 : Int)).bind fun (x32 : UInt8) => some ((x32.toNat : Int) == 46)))).bind fun (s27 : Bool) => bif s27 then (some (.rt false)) else (some (.nx ())) : Option (Fl (Unit) Bool))) ()).bind fun (o33 : Fo (Unit) Bool) => o33.cs (fun (s2 : Unit) => some (!p0.eqb (⟨[]⟩))) (fun r => some r)
/-- etchhouseref2.readNet -/
def etchhouseref2_readNet (N : Nat) (p0 : (List Str)) : Option (Net × Bool) :=
  (idx p0 0).bind fun (x2 : Str) => (slc p0 1 (p0.length : Int)).bind fun (x5 : (List Str)) => (rng x5.length (fun (k7 : Nat) (s8 : (List Pin)) => ((idx x5 (k7 : Int)).bind fun (x54 : Str) => (strings_Cut N x54 (⟨[46]⟩)).bind fun (x56 : Str × Str × Bool) => (bif (!x56.2.2) then (some true) else ((etchhouseref2_isListWord N x56.1).bind fun (x65 : Bool) => bif (!x65) then (some true) else ((etchhouseref2_isListWord N x56.2.1).bind fun (x67 : Bool) => some (!x67)))).bind fun (s63 : Bool) => bif s63 then (some (.rt ((⟨x2, s8, ([] : (List Str))⟩ : Net), false))) else ((app 32 s8 ([(⟨x56.1, x56.2.1⟩ : Pin)] : (List Pin))).bind fun (x73 : (List Pin)) => some (.nx x73)) : Option (Fl ((List Pin)) (Net × Bool)))) ([] : (List Pin))).bind fun (o83 : Fo ((List Pin)) (Net × Bool)) => o83.cs (fun (s8 : (List Pin)) => (idx p0 0).bind fun (x77 : Str) => (etchhouseref2_isListWord N x77).bind fun (x79 : Bool) => some ((⟨x2, s8, ([] : (List Str))⟩ : Net), x79)) (fun r => some r)
/-- etchhouseref2.Read -/
def etchhouseref2_Read (N : Nat) (p0 : Str) : Option (Netlist × Int × Int) :=
  bif (decide ((p0.toL.length : Int) > 2000000)) then (some ((⟨([] : (List Part)), ([] : (List Net))⟩ : Netlist), 0, 2)) else ((itr (fun (s5 : Str × (List Part) × (List Net) × Int) => (bif (!s5.1.eqb (⟨[]⟩)) then ((strings_Cut N s5.1 (⟨[10]⟩)).bind fun (x240 : Str × Str × Bool) => (strings_Split N x240.1 (⟨[32]⟩)).bind fun (x241 : (List Str)) => ((idx x241 0).bind fun (x250 : Str) => bif (x250.eqb (⟨[112, 97, 114, 116]⟩)) then (bif ((x241.length : Int) == 3) then (some ((s5.2.2.1.length : Int) == 0)) else (some false)) else (some false)).bind fun (s249 : Bool) => (bif s249 then (((idx x241 1).bind fun (x312 : Str) => (etchhouseref2_isListWord N x312).bind fun (x313 : Bool) => bif x313 then ((idx x241 2).bind fun (x315 : Str) => (etchhouseref2_isListWord N x315).bind fun (x316 : Bool) => some x316) else (some false)).bind fun (s311 : Bool) => (idx x241 1).bind fun (x317 : Str) => (idx x241 2).bind fun (x318 : Str) => (app 32 s5.2.1 ([(⟨x317, x318⟩ : Part)] : (List Part))).bind fun (x321 : (List Part)) => some (x321, s5.2.2.1, s311)) else (((idx x241 0).bind fun (x330 : Str) => bif (x330.eqb (⟨[110, 101, 116]⟩)) then (some (decide ((x241.length : Int) > 1))) else (some false)).bind fun (s329 : Bool) => (bif s329 then ((slc x241 1 (x241.length : Int)).bind fun (x344 : (List Str)) => (etchhouseref2_readNet N x344).bind fun (x346 : Net × Bool) => (app 64 s5.2.2.1 ([x346.1] : (List Net))).bind fun (x350 : (List Net)) => some (x350, x346.2)) else (some (s5.2.2.1, false))).bind fun (s341 : (List Net) × Bool) => some (s5.2.1, s341.1, s341.2))).bind fun (s301 : (List Part) × (List Net) × Bool) => bif ((!s301.2.2) || (!x240.2.2)) then (some (.rt ((⟨([] : (List Part)), ([] : (List Net))⟩ : Netlist), s5.2.2.2, 10))) else (some (.nx (x240.2.1, s301.1, s301.2.1, (IntKind.wrap .i64 (s5.2.2.2 + 1)))))) else (some (.br (s5.1, s5.2.1, s5.2.2.1, s5.2.2.2))) : Option (Fl (Str × (List Part) × (List Net) × Int) (Netlist × Int × Int)))) N (p0, ([] : (List Part)), ([] : (List Net)), 1)).bind fun (o355 : Fo (Str × (List Part) × (List Net) × Int) (Netlist × Int × Int)) => o355.cs (fun (s5 : Str × (List Part) × (List Net) × Int) => some ((⟨s5.2.1, s5.2.2.1⟩ : Netlist), 0, 0)) (fun r => some r))
/-- slices.Equal[[]api.Part,api.Part] -/
def slices_Equal_Part (N : Nat) (p0 : (List Part)) (p1 : (List Part)) : Option (Bool) :=
  bif ((p0.length : Int) != (p1.length : Int)) then (some false) else ((rng p0.length (fun (k1 : Nat) (s2 : Unit) => ((idx p0 (k1 : Int)).bind fun (x13 : Part) => (idx p1 (k1 : Int)).bind fun (x16 : Part) => bif (!(decide (x13 = x16))) then (some (.rt false)) else (some (.nx ())) : Option (Fl (Unit) Bool))) ()).bind fun (o23 : Fo (Unit) Bool) => o23.cs (fun (s2 : Unit) => some true) (fun r => some r))
/-- slices.Equal[[]string,string] -/
def slices_Equal_string (N : Nat) (p0 : (List Str)) (p1 : (List Str)) : Option (Bool) :=
  bif ((p0.length : Int) != (p1.length : Int)) then (some false) else ((rng p0.length (fun (k1 : Nat) (s2 : Unit) => ((idx p0 (k1 : Int)).bind fun (x9 : Str) => (idx p1 (k1 : Int)).bind fun (x11 : Str) => bif (!x9.eqb x11) then (some (.rt false)) else (some (.nx ())) : Option (Fl (Unit) Bool))) ()).bind fun (o15 : Fo (Unit) Bool) => o15.cs (fun (s2 : Unit) => some true) (fun r => some r))
/-- etchhouseref2.Same -/
def etchhouseref2_Same (N : Nat) (p0 : Netlist) (p1 : Netlist) : Option (Bool) :=
  ((slices_Equal_Part N p0.Parts p1.Parts).bind fun (x15 : Bool) => bif (!x15) then (some true) else (some ((p0.Nets.length : Int) != (p1.Nets.length : Int)))).bind fun (s12 : Bool) => bif s12 then (some false) else ((rng p0.Nets.length (fun (k20 : Nat) (s21 : Unit) => ((idx p0.Nets (k20 : Int)).bind fun (x134 : Net) => ((idx p1.Nets (k20 : Int)).bind fun (x203 : Net) => bif (!x134.Name.eqb x203.Name) then (some true) else ((idx p1.Nets (k20 : Int)).bind fun (x212 : Net) => (slices_Equal_Pin N x134.Pins x212.Pins).bind fun (x216 : Bool) => bif (!x216) then (some true) else ((idx p1.Nets (k20 : Int)).bind fun (x228 : Net) => (slices_Equal_string N x134.Ports x228.Ports).bind fun (x232 : Bool) => some (!x232)))).bind fun (s201 : Bool) => bif s201 then (some (.rt false)) else (some (.nx ())) : Option (Fl (Unit) Bool))) ()).bind fun (o246 : Fo (Unit) Bool) => o246.cs (fun (s21 : Unit) => some true) (fun r => some r))
/-- etchhouselaw2.NetlistReadsMatchSpec -/
def etchhouselaw2_NetlistReadsMatchSpec (N : Nat) (p0 : Str) : Option (Bool) :=
  (netlist_Read N p0).bind fun (x1 : Netlist × Int × Int) => (etchhouseref2_Read N p0).bind fun (x4 : Netlist × Int × Int) => (bif ((x1.2.2 == x4.2.2) && (x1.2.1 == x4.2.1)) then ((etchhouseref2_Same N x1.1 x4.1).bind fun (x21 : Bool) => bif x21 then ((etchhouselaw2_awake N ).bind fun (x23 : Bool) => some x23) else (some false)) else (some false)).bind fun (s17 : Bool) => some s17
/-- netlist.checkTwo -/
def netlist_checkTwo (N : Nat) (p0 : (List PartType)) (p1 : Netlist) (p2 : Netlist) : Option (Int) :=
  (netlist_CheckList N p0 p1).bind fun (x4 : Int) => bif (x4 != 0) then (some x4) else ((netlist_CheckList N p0 p2).bind fun (x6 : Int) => some x6)
/-- netlist.Changes$1 -/
def netlist_Changes_c1 (N : Nat) (p0 : Int) (p1 : Str) (p2_0 : (List ListChange)) : Option ((List ListChange)) :=
  (app 40 p2_0 ([(⟨p0, p1, ⟨[]⟩⟩ : ListChange)] : (List ListChange))).bind fun (x3 : (List ListChange)) => some x3
/-- netlist.Changes -/
def netlist_Changes (N : Nat) (p0 : (List PartType)) (p1 : Netlist) (p2 : Netlist) : Option ((List ListChange) × Int) :=
  (netlist_checkTwo N p0 p1 p2).bind fun (x5 : Int) => bif (x5 != 0) then (some (([] : (List ListChange)), x5)) else ((netlist_Nets N p1).bind fun (x8 : (List (Pin × Int))) => (netlist_Nets N p2).bind fun (x11 : (List (Pin × Int))) => (fld p2.Parts.length (fun (k18 : Nat) (s19 : (List ListChange)) => ((idx p2.Parts (k18 : Int)).bind fun (x49 : Part) => (netlist_partAt N p1.Parts x49.Name).bind fun (x54 : Int) => (bif (decide (x54 < 0)) then ((netlist_Changes_c1 N 1 x49.Name s19).bind fun (x59 : (List ListChange)) => some x59) else (some s19)).bind fun (s57 : (List ListChange)) => some s57 : Option ((List ListChange)))) ([] : (List ListChange))).bind fun (s19 : (List ListChange)) => (fld p1.Parts.length (fun (k63 : Nat) (s64 : (List ListChange)) => ((idx p1.Parts (k63 : Int)).bind fun (x94 : Part) => (netlist_partAt N p2.Parts x94.Name).bind fun (x99 : Int) => (bif (decide (x99 < 0)) then ((netlist_Changes_c1 N 2 x94.Name s64).bind fun (x104 : (List ListChange)) => some x104) else (some s64)).bind fun (s102 : (List ListChange)) => some s102 : Option ((List ListChange)))) s19).bind fun (s64 : (List ListChange)) => (fld p1.Parts.length (fun (k108 : Nat) (s109 : (List ListChange) × (List ListChange)) => ((idx p1.Parts (k108 : Int)).bind fun (x466 : Part) => (netlist_partAt N p2.Parts x466.Name).bind fun (x471 : Int) => bif (decide (x471 < 0)) then (some (s109.1, s109.2)) else ((idx p2.Parts x471).bind fun (x473 : Part) => bif (!x473.Type_.eqb x466.Type_) then ((netlist_Changes_c1 N 3 x466.Name s109.1).bind fun (x481 : (List ListChange)) => some (x481, s109.2)) else ((netlist_pinsOf N p0 x466).bind fun (x484 : (List Pin)) => (fld x484.length (fun (k486 : Nat) (s487 : (List ListChange)) => ((idx x484 (k486 : Int)).bind fun (x589 : Pin) => (bif ((mhas x8 x589) != (mhas x11 x589)) then (some true) else (bif (mhas x8 x589) then ((idx p1.Nets (mget x8 x589 (0 : Int))).bind fun (x614 : Net) => (idx p2.Nets (mget x11 x589 (0 : Int))).bind fun (x618 : Net) => some (!x614.Name.eqb x618.Name)) else (some false))).bind fun (s610 : Bool) => (bif s610 then ((app 40 s487 ([(⟨4, x589.Part, x589.Pin⟩ : ListChange)] : (List ListChange))).bind fun (x635 : (List ListChange)) => some x635) else (some s487)).bind fun (s631 : (List ListChange)) => some s631 : Option ((List ListChange)))) s109.2).bind fun (s487 : (List ListChange)) => some (s109.1, s487))) : Option ((List ListChange) × (List ListChange)))) (s64, ([] : (List ListChange)))).bind fun (s109 : (List ListChange) × (List ListChange)) => (app 40 s109.1 s109.2).bind fun (x641 : (List ListChange)) => some (x641, 0))
/-- etchhouseref2.netName -/
def etchhouseref2_netName (N : Nat) (p0 : Netlist) (p1 : Pin) : Option (Str) :=
  (etchhouseref2_netOf N p0 p1).bind fun (x5 : Int) => bif (decide (x5 ≥ 0)) then ((idx p0.Nets x5).bind fun (x11 : Net) => some x11.Name) else (some (⟨[]⟩))
/-- slices.Grow[[]api.ListChange,api.ListChange] -/
def slices_Grow_ListChange_nil (N : Nat) (p1 : Int) : Option ((List ListChange)) :=
  bif (decide (p1 < 0)) then (none) else ((bif (decide ((IntKind.wrap .i64 (p1 - (IntKind.wrap .i64 (((0 : Nat) : Int) - ((0 : Nat) : Int))))) > 0)) then ((appz 40 (⟨0, ⟨[]⟩, ⟨[]⟩⟩ : ListChange) (IntKind.wrap .i64 (p1 - (IntKind.wrap .i64 (((0 : Nat) : Int) - ((0 : Nat) : Int)))))).bind fun (x7 : (List ListChange)) => (slc x7 0 ((0 : Nat) : Int)).bind fun (x9 : (List ListChange)) => some x9) else (some ([] : (List ListChange)))).bind fun (s5 : (List ListChange)) => some s5)
/-- slices.Concat[[]api.ListChange,api.ListChange] -/
def slices_Concat_ListChange (N : Nat) (p0 : (List (List ListChange))) : Option ((List ListChange)) :=
  (fld p0.length (fun (k1 : Nat) (s2 : Int) => ((idx p0 (k1 : Int)).bind fun (x9 : (List ListChange)) => bif (decide ((IntKind.wrap .i64 (s2 + (x9.length : Int))) < 0)) then (none) else (some (IntKind.wrap .i64 (s2 + (x9.length : Int)))) : Option (Int))) 0).bind fun (s2 : Int) => (slices_Grow_ListChange_nil N s2).bind fun (x12 : (List ListChange)) => (fld p0.length (fun (k14 : Nat) (s15 : (List ListChange)) => ((idx p0 (k14 : Int)).bind fun (x31 : (List ListChange)) => (app 40 s15 x31).bind fun (x34 : (List ListChange)) => some x34 : Option ((List ListChange)))) x12).bind fun (s15 : (List ListChange)) => some s15
/-- etchhouseref2.Changes -/
def etchhouseref2_Changes (N : Nat) (p0 : (List PartType)) (p1 : Netlist) (p2 : Netlist) : Option ((List ListChange) × Int) :=
  (etchhouseref2_CheckList N p0 p1).bind fun (x4 : Int) => bif (x4 != 0) then (some (([] : (List ListChange)), x4)) else ((etchhouseref2_checkList N p0 p2).bind fun (x6 : Int) => bif (x6 != 0) then (some (([] : (List ListChange)), x6)) else ((fld p2.Parts.length (fun (k8 : Nat) (s9 : (List ListChange)) => ((idx p2.Parts (k8 : Int)).bind fun (x47 : Part) => (etchhouseref2_partOf N p1.Parts x47.Name).bind fun (x52 : Int) => (bif (decide (x52 < 0)) then ((app 40 s9 ([(⟨1, x47.Name, ⟨[]⟩⟩ : ListChange)] : (List ListChange))).bind fun (x61 : (List ListChange)) => some x61) else (some s9)).bind fun (s57 : (List ListChange)) => some s57 : Option ((List ListChange)))) ([] : (List ListChange))).bind fun (s9 : (List ListChange)) => (fld p1.Parts.length (fun (k65 : Nat) (s66 : (List ListChange) × (List ListChange) × (List ListChange)) => ((idx p1.Parts (k65 : Int)).bind fun (x324 : Part) => (etchhouseref2_partOf N p2.Parts x324.Name).bind fun (x329 : Int) => bif (decide (x329 < 0)) then ((app 40 s66.1 ([(⟨2, x324.Name, ⟨[]⟩⟩ : ListChange)] : (List ListChange))).bind fun (x336 : (List ListChange)) => some (x336, s66.2.1, s66.2.2)) else ((idx p2.Parts x329).bind fun (x339 : Part) => bif (!x339.Type_.eqb x324.Type_) then ((app 40 s66.2.1 ([(⟨3, x324.Name, ⟨[]⟩⟩ : ListChange)] : (List ListChange))).bind fun (x351 : (List ListChange)) => some (s66.1, x351, s66.2.2)) else ((etchhouseref2_typeOf N p0 x324.Type_).bind fun (x353 : Int) => (idx p0 x353).bind fun (x354 : PartType) => (fld x354.Pins.length (fun (k358 : Nat) (s359 : (List ListChange)) => ((idx x354.Pins (k358 : Int)).bind fun (x417 : PinType) => (etchhouseref2_netName N p1 (⟨x324.Name, x417.Name⟩ : Pin)).bind fun (x425 : Str) => (etchhouseref2_netName N p2 (⟨x324.Name, x417.Name⟩ : Pin)).bind fun (x428 : Str) => (bif (!x425.eqb x428) then ((app 40 s359 ([(⟨4, x324.Name, x417.Name⟩ : ListChange)] : (List ListChange))).bind fun (x441 : (List ListChange)) => some x441) else (some s359)).bind fun (s437 : (List ListChange)) => some s437 : Option ((List ListChange)))) s66.2.2).bind fun (s359 : (List ListChange)) => some (s66.1, s66.2.1, s359))) : Option ((List ListChange) × (List ListChange) × (List ListChange)))) (([] : (List ListChange)), ([] : (List ListChange)), ([] : (List ListChange)))).bind fun (s66 : (List ListChange) × (List ListChange) × (List ListChange)) => (slices_Concat_ListChange N ([s9, s66.1, s66.2.1, s66.2.2] : (List (List ListChange)))).bind fun (x449 : (List ListChange)) => some (x449, 0)))
/-- slices.Equal[[]api.ListChange,api.ListChange] -/
def slices_Equal_ListChange (N : Nat) (p0 : (List ListChange)) (p1 : (List ListChange)) : Option (Bool) :=
  bif ((p0.length : Int) != (p1.length : Int)) then (some false) else ((rng p0.length (fun (k1 : Nat) (s2 : Unit) => ((idx p0 (k1 : Int)).bind fun (x13 : ListChange) => (idx p1 (k1 : Int)).bind fun (x16 : ListChange) => bif (!(decide (x13 = x16))) then (some (.rt false)) else (some (.nx ())) : Option (Fl (Unit) Bool))) ()).bind fun (o23 : Fo (Unit) Bool) => o23.cs (fun (s2 : Unit) => some true) (fun r => some r))
/-- etchhouselaw2.NetlistChangesMatchSpec -/
def etchhouselaw2_NetlistChangesMatchSpec (N : Nat) (p0 : (List PartType)) (p1 : Netlist) (p2 : Netlist) : Option (Bool) :=
  (netlist_Changes N p0 p1 p2).bind fun (x5 : (List ListChange) × Int) => (etchhouseref2_Changes N p0 p1 p2).bind fun (x9 : (List ListChange) × Int) => (bif (x5.2 != x9.2) then (some true) else ((slices_Equal_ListChange N x5.1 x9.1).bind fun (x19 : Bool) => bif (!x19) then (some true) else ((etchhouselaw2_awake N ).bind fun (x21 : Bool) => some (!x21)))).bind fun (s17 : Bool) => bif s17 then (some false) else ((netlist_Changes N p0 p1 p1).bind fun (x24 : (List ListChange) × Int) => (bif (x24.2 != 0) then (some true) else (some ((x24.1.length : Int) == 0))).bind fun (s27 : Bool) => some s27)
end Go.Gk
