/-
  Printed by gen.py: Go types as plain structures, and Go functions as plain functions.
-/
import Derived.Test.YtnjoaggeheokeaaDoorK20
set_option linter.unusedVariables false

namespace Go.Gk
open Go
structure PinType where
  Name : Str
  Kind : Int
  Group : Int
  deriving DecidableEq, Inhabited
structure PartType where
  Name : Str
  Pins : (List PinType)
  deriving DecidableEq, Inhabited
structure Part where
  Name : Str
  Type_ : Str
  deriving DecidableEq, Inhabited
structure Pin where
  Part : Str
  Pin : Str
  deriving DecidableEq, Inhabited
structure Net where
  Name : Str
  Pins : (List Pin)
  Ports : (List Str)
  deriving DecidableEq, Inhabited
structure Netlist where
  Parts : (List Part)
  Nets : (List Net)
  deriving DecidableEq, Inhabited
structure Finding where
  Kind : Int
  Net : Str
  Pins : (List Pin)
  deriving DecidableEq, Inhabited
structure ListChange where
  Kind : Int
  Name : Str
  Pin : Str
  deriving DecidableEq, Inhabited
/-- internal/stringslite.IndexByte -/
def stringslite_IndexByte (N : Nat) (p0 : Str) (p1 : Int) : Option (Int) :=
  some (Lib.indexByte p0.toL (Int.toNat p1).toUInt8)
/-- strings.IndexByte -/
def strings_IndexByte (N : Nat) (p0 : Str) (p1 : Int) : Option (Int) :=
  (stringslite_IndexByte N p0 p1).bind fun (x31 : Int) => some x31
/-- netlist.IsWord -/
def netlist_IsWord (N : Nat) (p0 : Str) : Option (Bool) :=
  (rng p0.toL.length (fun (k31 : Nat) (s32 : Unit) => ((sidx p0 (k31 : Int)).bind fun (x39 : UInt8) => (bif ((((decide ((x39.toNat : Int) < 65)) || (decide ((x39.toNat : Int) > 90))) && ((decide ((x39.toNat : Int) < 97)) || (decide ((x39.toNat : Int) > 122)))) && ((decide ((x39.toNat : Int) < 48)) || (decide ((x39.toNat : Int) > 57)))) then ((strings_IndexByte N (⟨[95, 43, 45, 35]⟩) (x39.toNat : Int)).bind fun (x44 : Int) => some (decide (x44 < 0))) else (some false)).bind fun (s42 : Bool) => bif s42 then (some (.rt false)) else (some (.nx ())) : Option (Fl (Unit) Bool))) ()).bind fun (o45 : Fo (Unit) Bool) => o45.cs (fun (s32 : Unit) => some ((decide ((p0.toL.length : Int) ≥ 1)) && (decide ((p0.toL.length : Int) ≤ 40)))) (fun r => some r)
/-- netlist.checkPins$1 -/
def netlist_checkPins_c1 (N : Nat) (p0 : PinType) (p1 : PinType) : Option (Bool) :=
  (bif (decide (p1.Group > 0)) then (bif (p0.Group == p1.Group) then (some (p0.Kind != p1.Kind)) else (some false)) else (some false)).bind fun (s41 : Bool) => some s41
/-- slices.IndexFunc[[]api.PinType,api.PinType] -/
def slices_IndexFunc_PinType (N : Nat) (p0 : (List PinType)) (p1 : PinType → Option Bool) : Option (Int) :=
  (rng p0.length (fun (k31 : Nat) (s32 : Unit) => ((idx p0 (k31 : Int)).bind fun (x37 : PinType) => (p1 x37).bind fun (x40 : Bool) => bif x40 then (some (.rt (k31 : Int))) else (some (.nx ())) : Option (Fl (Unit) Int))) ()).bind fun (o41 : Fo (Unit) Int) => o41.cs (fun (s32 : Unit) => some (-1)) (fun r => some r)
/-- slices.ContainsFunc[[]api.PinType,api.PinType] -/
def slices_ContainsFunc_PinType (N : Nat) (p0 : (List PinType)) (p1 : PinType → Option Bool) : Option (Bool) :=
  (slices_IndexFunc_PinType N p0 p1).bind fun (x31 : Int) => some (decide (x31 ≥ 0))
/-- netlist.checkPins -/
def netlist_checkPins (N : Nat) (p0 : (List PinType)) : Option (Int) :=
  bif ((p0.length : Int) == 0) then (some 9) else (bif (decide ((p0.length : Int) > 200)) then (some 2) else ((rng p0.length (fun (k31 : Nat) (s32 : Unit) => ((idx p0 (k31 : Int)).bind fun (x142 : PinType) => (netlist_IsWord N x142.Name).bind fun (x146 : Bool) => bif (!x146) then (some (.rt 5)) else (bif ((decide (x142.Kind < 1)) || (decide (x142.Kind > 7))) then (some (.rt 4)) else (bif ((decide (x142.Group < 0)) || (decide (x142.Group > 200))) then (some (.rt 1)) else ((bif (decide ((k31 : Int) > 0)) then ((idx p0 (IntKind.wrap .i64 ((k31 : Int) - 1))).bind fun (x246 : PinType) => some (x142.Name.ltb x246.Name || x142.Name.eqb x246.Name)) else (some false)).bind fun (s244 : Bool) => bif s244 then (some (.rt 8)) else (some (.nx ()))))) : Option (Fl (Unit) Int))) ()).bind fun (o268 : Fo (Unit) Int) => o268.cs (fun (s32 : Unit) => (rng p0.length (fun (k251 : Nat) (s252 : Unit) => ((idx p0 (k251 : Int)).bind fun (x260 : PinType) => (slc p0 0 (k251 : Int)).bind fun (x264 : (List PinType)) => (slices_ContainsFunc_PinType N x264 (fun y0 => netlist_checkPins_c1 N y0 x260)).bind fun (x266 : Bool) => bif x266 then (some (.rt 12)) else (some (.nx ())) : Option (Fl (Unit) Int))) ()).bind fun (o267 : Fo (Unit) Int) => o267.cs (fun (s252 : Unit) => some 0) (fun r => some r)) (fun r => some r)))
/-- netlist.CheckTypes -/
def netlist_CheckTypes (N : Nat) (p0 : (List PartType)) : Option (Int) :=
  bif (decide ((p0.length : Int) > 200)) then (some 2) else ((rng p0.length (fun (k31 : Nat) (s32 : Unit) => ((idx p0 (k31 : Int)).bind fun (x53 : PartType) => (netlist_IsWord N x53.Name).bind fun (x57 : Bool) => bif (!x57) then (some (.rt 5)) else ((netlist_checkPins N x53.Pins).bind fun (x59 : Int) => bif (x59 != 0) then (some (.rt x59)) else ((bif (decide ((k31 : Int) > 0)) then ((idx p0 (IntKind.wrap .i64 ((k31 : Int) - 1))).bind fun (x68 : PartType) => some (x53.Name.ltb x68.Name || x53.Name.eqb x68.Name)) else (some false)).bind fun (s66 : Bool) => bif s66 then (some (.rt 8)) else (some (.nx ())))) : Option (Fl (Unit) Int))) ()).bind fun (o73 : Fo (Unit) Int) => o73.cs (fun (s32 : Unit) => some 0) (fun r => some r))
/-- slices.BinarySearchFunc[[]api.PartType,api.PartType,string] -/
def slices_BinarySearchFunc_PartType_string (N : Nat) (p0 : (List PartType)) (p1 : Str) (p2 : PartType → Str → Option Int) : Option (Int × Bool) :=
  (itr (fun (s32 : Int × Int) => (bif (decide (s32.1 < s32.2)) then ((idx p0 (IntKind.wrap .i64 (Int.fdiv (IntKind.wrap .u64 (IntKind.wrap .i64 (s32.1 + s32.2))) 2))).bind fun (x43 : PartType) => (p2 x43 p1).bind fun (x46 : Int) => (bif (decide (x46 < 0)) then (some ((IntKind.wrap .i64 ((IntKind.wrap .i64 (Int.fdiv (IntKind.wrap .u64 (IntKind.wrap .i64 (s32.1 + s32.2))) 2)) + 1)), s32.2)) else (some (s32.1, (IntKind.wrap .i64 (Int.fdiv (IntKind.wrap .u64 (IntKind.wrap .i64 (s32.1 + s32.2))) 2))))).bind fun (s47 : Int × Int) => some (.nx (s47.1, s47.2))) else (some (.br (s32.1, s32.2))) : Option (Fl (Int × Int) Empty))) N (0, (p0.length : Int))).bind fun (o59 : Fo (Int × Int) Empty) => o59.cs (fun (s32 : Int × Int) => (bif (decide (s32.1 < (p0.length : Int))) then ((idx p0 s32.1).bind fun (x55 : PartType) => (p2 x55 p1).bind fun (x58 : Int) => some (x58 == 0)) else (some false)).bind fun (s53 : Bool) => some (s32.1, s53)) (fun r => r.elim)
/-- internal/bytealg.CompareString -/
def bytealg_CompareString (N : Nat) (p0 : Str) (p1 : Str) : Option (Int) :=
  some (Lib.compareBytes p0.toL p1.toL)
/-- strings.Compare -/
def strings_Compare (N : Nat) (p0 : Str) (p1 : Str) : Option (Int) :=
  (bytealg_CompareString N p0 p1).bind fun (x31 : Int) => some x31
/-- netlist.TypeAt$1 -/
def netlist_TypeAt_c1 (N : Nat) (p0 : PartType) (p1 : Str) : Option (Int) :=
  (strings_Compare N p0.Name p1).bind fun (x32 : Int) => some x32
/-- netlist.TypeAt -/
def netlist_TypeAt (N : Nat) (p0 : (List PartType)) (p1 : Str) : Option (Int) :=
  (slices_BinarySearchFunc_PartType_string N p0 p1 (netlist_TypeAt_c1 N)).bind fun (x31 : Int × Bool) => bif (!x31.2) then (some (-1)) else (some x31.1)
/-- netlist.checkParts -/
def netlist_checkParts (N : Nat) (p0 : (List PartType)) (p1 : (List Part)) (p2 : Str → Option Bool) : Option (Int) :=
  bif (decide ((p1.length : Int) > 1000)) then (some 2) else ((rng p1.length (fun (k31 : Nat) (s32 : Unit) => ((idx p1 (k31 : Int)).bind fun (x92 : Part) => (p2 x92.Name).bind fun (x96 : Bool) => bif (!x96) then (some (.rt 5)) else ((netlist_TypeAt N p0 x92.Type_).bind fun (x124 : Int) => bif (decide (x124 < 0)) then (some (.rt 9)) else ((bif (decide ((k31 : Int) > 0)) then ((idx p1 (IntKind.wrap .i64 ((k31 : Int) - 1))).bind fun (x146 : Part) => some (x92.Name.ltb x146.Name || x92.Name.eqb x146.Name)) else (some false)).bind fun (s144 : Bool) => bif s144 then (some (.rt 8)) else (some (.nx ())))) : Option (Fl (Unit) Int))) ()).bind fun (o151 : Fo (Unit) Int) => o151.cs (fun (s32 : Unit) => some 0) (fun r => some r))
/-- internal/stringslite.Index -/
def stringslite_Index (N : Nat) (p0 : Str) (p1 : Str) : Option (Int) :=
  bif (((p1.toL.length : Int) == 0) || (p1.eqb p0)) then (some 0) else (bif ((p1.toL.length : Int) == 1) then ((sidx p1 0).bind fun (x37 : UInt8) => (stringslite_IndexByte N p0 (x37.toNat : Int)).bind fun (x38 : Int) => some x38) else (bif (decide ((p1.toL.length : Int) ≥ (p0.toL.length : Int))) then (some (-1)) else (none)))
/-- strings.Index -/
def strings_Index (N : Nat) (p0 : Str) (p1 : Str) : Option (Int) :=
  (stringslite_Index N p0 p1).bind fun (x31 : Int) => some x31
/-- strings.Count -/
def strings_Count (N : Nat) (p0 : Str) (p1 : Str) : Option (Int) :=
  bif ((p1.toL.length : Int) == 0) then (none) else (bif ((p1.toL.length : Int) == 1) then ((sidx p1 0).bind fun (x32 : UInt8) => some ((Lib.countByte p0.toL (Int.toNat (x32.toNat : Int)).toUInt8 : Nat) : Int)) else ((itr (fun (s34 : Str × Int) => ((strings_Index N s34.1 p1).bind fun (x39 : Int) => bif (x39 == (-1)) then (some (.rt s34.2)) else ((scut s34.1 (IntKind.wrap .i64 (x39 + (p1.toL.length : Int))) (s34.1.toL.length : Int)).bind fun (x40 : Str) => some (.nx (x40, (IntKind.wrap .i64 (s34.2 + 1))))) : Option (Fl (Str × Int) Int))) N (p0, 0)).bind fun (o41 : Fo (Str × Int) Int) => o41.cs (fun (s34 : Str × Int) => some 0) (fun r => some r)))
/-- strings.genSplit -/
def strings_genSplit (N : Nat) (p0 : Str) (p1 : Str) (p2 : Int) (p3 : Int) : Option ((List Str)) :=
  bif (p3 == 0) then (some ([] : (List Str))) else (bif (p1.eqb (⟨[]⟩)) then (none) else ((bif (decide (p3 < 0)) then ((strings_Count N p0 p1).bind fun (x33 : Int) => some (IntKind.wrap .i64 (x33 + 1))) else (some p3)).bind fun (s32 : Int) => (mk 16 (⟨[]⟩ : Str) (if (IntKind.wrap .i64 ((p0.toL.length : Int) + 1)) < s32 then (IntKind.wrap .i64 ((p0.toL.length : Int) + 1)) else s32)).bind fun (x34 : (List Str)) => (itr (fun (s37 : Str × (List Str) × Int) => (bif (decide (s37.2.2 < (IntKind.wrap .i64 ((if (IntKind.wrap .i64 ((p0.toL.length : Int) + 1)) < s32 then (IntKind.wrap .i64 ((p0.toL.length : Int) + 1)) else s32) - 1)))) then ((strings_Index N s37.1 p1).bind fun (x46 : Int) => bif (decide (x46 < 0)) then (some (.br (s37.1, s37.2.1, s37.2.2))) else ((scut s37.1 0 (IntKind.wrap .i64 (x46 + p2))).bind fun (x47 : Str) => (idx s37.2.1 s37.2.2).bind fun (x48 : Str) => (scut s37.1 (IntKind.wrap .i64 (x46 + (p1.toL.length : Int))) (s37.1.toL.length : Int)).bind fun (x49 : Str) => some (.nx (x49, (s37.2.1.set (Int.toNat s37.2.2) x47), (IntKind.wrap .i64 (s37.2.2 + 1)))))) else (some (.br (s37.1, s37.2.1, s37.2.2))) : Option (Fl (Str × (List Str) × Int) Empty))) N (p0, x34, 0)).bind fun (o53 : Fo (Str × (List Str) × Int) Empty) => o53.cs (fun (s37 : Str × (List Str) × Int) => (idx s37.2.1 s37.2.2).bind fun (x50 : Str) => (slc (s37.2.1.set (Int.toNat s37.2.2) s37.1) 0 (IntKind.wrap .i64 (s37.2.2 + 1))).bind fun (x51 : (List Str)) => some x51) (fun r => r.elim)))
/-- strings.Split -/
def strings_Split (N : Nat) (p0 : Str) (p1 : Str) : Option ((List Str)) :=
  (strings_genSplit N p0 p1 0 (-1)).bind fun (x31 : (List Str)) => some x31
/-- slices.IndexFunc[[]string,string] -/
def slices_IndexFunc_string (N : Nat) (p0 : (List Str)) (p1 : Str → Option Bool) : Option (Int) :=
  (rng p0.length (fun (k31 : Nat) (s32 : Unit) => ((idx p0 (k31 : Int)).bind fun (x36 : Str) => (p1 x36).bind fun (x38 : Bool) => bif x38 then (some (.rt (k31 : Int))) else (some (.nx ())) : Option (Fl (Unit) Int))) ()).bind fun (o39 : Fo (Unit) Int) => o39.cs (fun (s32 : Unit) => some (-1)) (fun r => some r)
/-- slices.ContainsFunc[[]string,string] -/
def slices_ContainsFunc_string (N : Nat) (p0 : (List Str)) (p1 : Str → Option Bool) : Option (Bool) :=
  (slices_IndexFunc_string N p0 p1).bind fun (x31 : Int) => some (decide (x31 ≥ 0))
/-- netlist.IsPath$1 -/
def netlist_IsPath_c1 (N : Nat) (p0 : Str) : Option (Bool) :=
  (netlist_IsWord N p0).bind fun (x31 : Bool) => some (!x31)
/-- netlist.IsPath -/
def netlist_IsPath (N : Nat) (p0 : Str) : Option (Bool) :=
  (bif (decide ((p0.toL.length : Int) ≤ 200)) then ((strings_Split N p0 (⟨[47]⟩)).bind fun (x37 : (List Str)) => (slices_ContainsFunc_string N x37 (netlist_IsPath_c1 N)).bind fun (x39 : Bool) => some (!x39)) else (some false)).bind fun (s35 : Bool) => some s35
/-- slices.BinarySearchFunc[[]api.Part,api.Part,string] -/
def slices_BinarySearchFunc_Part_string (N : Nat) (p0 : (List Part)) (p1 : Str) (p2 : Part → Str → Option Int) : Option (Int × Bool) :=
  (itr (fun (s32 : Int × Int) => (bif (decide (s32.1 < s32.2)) then ((idx p0 (IntKind.wrap .i64 (Int.fdiv (IntKind.wrap .u64 (IntKind.wrap .i64 (s32.1 + s32.2))) 2))).bind fun (x43 : Part) => (p2 x43 p1).bind fun (x46 : Int) => (bif (decide (x46 < 0)) then (some ((IntKind.wrap .i64 ((IntKind.wrap .i64 (Int.fdiv (IntKind.wrap .u64 (IntKind.wrap .i64 (s32.1 + s32.2))) 2)) + 1)), s32.2)) else (some (s32.1, (IntKind.wrap .i64 (Int.fdiv (IntKind.wrap .u64 (IntKind.wrap .i64 (s32.1 + s32.2))) 2))))).bind fun (s47 : Int × Int) => some (.nx (s47.1, s47.2))) else (some (.br (s32.1, s32.2))) : Option (Fl (Int × Int) Empty))) N (0, (p0.length : Int))).bind fun (o59 : Fo (Int × Int) Empty) => o59.cs (fun (s32 : Int × Int) => (bif (decide (s32.1 < (p0.length : Int))) then ((idx p0 s32.1).bind fun (x55 : Part) => (p2 x55 p1).bind fun (x58 : Int) => some (x58 == 0)) else (some false)).bind fun (s53 : Bool) => some (s32.1, s53)) (fun r => r.elim)
/-- netlist.partAt$1 -/
def netlist_partAt_c1 (N : Nat) (p0 : Part) (p1 : Str) : Option (Int) :=
  (strings_Compare N p0.Name p1).bind fun (x32 : Int) => some x32
/-- netlist.partAt -/
def netlist_partAt (N : Nat) (p0 : (List Part)) (p1 : Str) : Option (Int) :=
  (slices_BinarySearchFunc_Part_string N p0 p1 (netlist_partAt_c1 N)).bind fun (x31 : Int × Bool) => bif (!x31.2) then (some (-1)) else (some x31.1)
/-- slices.BinarySearchFunc[[]api.PinType,api.PinType,string] -/
def slices_BinarySearchFunc_PinType_string (N : Nat) (p0 : (List PinType)) (p1 : Str) (p2 : PinType → Str → Option Int) : Option (Int × Bool) :=
  (itr (fun (s32 : Int × Int) => (bif (decide (s32.1 < s32.2)) then ((idx p0 (IntKind.wrap .i64 (Int.fdiv (IntKind.wrap .u64 (IntKind.wrap .i64 (s32.1 + s32.2))) 2))).bind fun (x43 : PinType) => (p2 x43 p1).bind fun (x46 : Int) => (bif (decide (x46 < 0)) then (some ((IntKind.wrap .i64 ((IntKind.wrap .i64 (Int.fdiv (IntKind.wrap .u64 (IntKind.wrap .i64 (s32.1 + s32.2))) 2)) + 1)), s32.2)) else (some (s32.1, (IntKind.wrap .i64 (Int.fdiv (IntKind.wrap .u64 (IntKind.wrap .i64 (s32.1 + s32.2))) 2))))).bind fun (s47 : Int × Int) => some (.nx (s47.1, s47.2))) else (some (.br (s32.1, s32.2))) : Option (Fl (Int × Int) Empty))) N (0, (p0.length : Int))).bind fun (o59 : Fo (Int × Int) Empty) => o59.cs (fun (s32 : Int × Int) => (bif (decide (s32.1 < (p0.length : Int))) then ((idx p0 s32.1).bind fun (x55 : PinType) => (p2 x55 p1).bind fun (x58 : Int) => some (x58 == 0)) else (some false)).bind fun (s53 : Bool) => some (s32.1, s53)) (fun r => r.elim)
/-- netlist.PinAt$1 -/
def netlist_PinAt_c1 (N : Nat) (p0 : PinType) (p1 : Str) : Option (Int) :=
  (strings_Compare N p0.Name p1).bind fun (x32 : Int) => some x32
/-- netlist.PinAt -/
def netlist_PinAt (N : Nat) (p0 : PartType) (p1 : Str) : Option (Int) :=
  (slices_BinarySearchFunc_PinType_string N p0.Pins p1 (netlist_PinAt_c1 N)).bind fun (x33 : Int × Bool) => bif (!x33.2) then (some (-1)) else (some x33.1)
/-- netlist.hasPin -/
def netlist_hasPin (N : Nat) (p0 : (List PartType)) (p1 : (List Part)) (p2 : Pin) : Option (Bool) :=
  (netlist_partAt N p1 p2.Part).bind fun (x32 : Int) => (bif (decide (x32 ≥ 0)) then ((idx p1 x32).bind fun (x48 : Part) => (netlist_TypeAt N p0 x48.Type_).bind fun (x51 : Int) => (idx p0 x51).bind fun (x52 : PartType) => (netlist_PinAt N x52 p2.Pin).bind fun (x55 : Int) => some (decide (x55 ≥ 0))) else (some false)).bind fun (s46 : Bool) => some s46
/-- netlist.CheckList$1 -/
def netlist_CheckList_c1 (N : Nat) (p0 : Pin) (p1 : (List PartType)) (p2 : Netlist) : Option (Bool) :=
  (netlist_hasPin N p1 p2.Parts p0).bind fun (x36 : Bool) => some x36
/-- netlist.ComparePins -/
def netlist_ComparePins (N : Nat) (p0 : Pin) (p1 : Pin) : Option (Int) :=
  (strings_Compare N p0.Part p1.Part).bind fun (x33 : Int) => bif (x33 != 0) then (some x33) else ((strings_Compare N p0.Pin p1.Pin).bind fun (x34 : Int) => some x34)
/-- netlist.checkNetPins -/
def netlist_checkNetPins (N : Nat) (p0 : (List Pin)) (p1 : Pin → Option Bool) (p2 : (List (Pin × Bool))) : Option (Int × (List (Pin × Bool))) :=
  bif (decide ((p0.length : Int) > 500)) then (some (2, p2)) else ((rng p0.length (fun (k31 : Nat) (s32 : Unit) => ((idx p0 (k31 : Int)).bind fun (x81 : Pin) => (p1 x81).bind fun (x86 : Bool) => bif (!x86) then (some (.rt (9, p2))) else ((bif (decide ((k31 : Int) > 0)) then ((idx p0 (IntKind.wrap .i64 ((k31 : Int) - 1))).bind fun (x120 : Pin) => (netlist_ComparePins N x81 x120).bind fun (x123 : Int) => some (decide (x123 ≤ 0))) else (some false)).bind fun (s117 : Bool) => bif s117 then (some (.rt (8, p2))) else (bif (mget p2 x81 (false : Bool)) then (some (.rt (7, p2))) else (some (.nx ())))) : Option (Fl (Unit) (Int × (List (Pin × Bool)))))) ()).bind fun (o147 : Fo (Unit) (Int × (List (Pin × Bool)))) => o147.cs (fun (s32 : Unit) => (fld p0.length (fun (k129 : Nat) (s130 : (List (Pin × Bool))) => ((idx p0 (k129 : Int)).bind fun (x141 : Pin) => some (mput s130 x141 true) : Option ((List (Pin × Bool))))) p2).bind fun (s130 : (List (Pin × Bool))) => some (0, s130)) (fun r => some r))
/-- netlist.CheckList -/
def netlist_CheckList (N : Nat) (p0 : (List PartType)) (p1 : Netlist) : Option (Int) :=
  (netlist_CheckTypes N p0).bind fun (x34 : Int) => bif (x34 != 0) then (some x34) else ((netlist_checkParts N p0 p1.Parts (netlist_IsPath N)).bind fun (x38 : Int) => bif (x38 != 0) then (some x38) else (bif (decide ((p1.Nets.length : Int) > 1000)) then (some 2) else ((rng p1.Nets.length (fun (k44 : Nat) (s45 : (List (Pin × Bool))) => ((idx p1.Nets (k44 : Int)).bind fun (x106 : Net) => (netlist_IsPath N x106.Name).bind fun (x110 : Bool) => bif (!x110) then (some (.rt 5)) else (bif ((x106.Pins.length : Int) == 0) then (some (.rt 9)) else ((netlist_checkNetPins N x106.Pins (fun y0 => netlist_CheckList_c1 N y0 p0 p1) s45).bind fun (x113 : Int × (List (Pin × Bool))) => bif (x113.1 != 0) then (some (.rt x113.1)) else (bif (decide ((x106.Ports.length : Int) > 0)) then (some (.rt 3)) else ((bif (decide ((k44 : Int) > 0)) then ((idx p1.Nets (IntKind.wrap .i64 ((k44 : Int) - 1))).bind fun (x129 : Net) => some (x106.Name.ltb x129.Name || x106.Name.eqb x129.Name)) else (some false)).bind fun (s125 : Bool) => bif s125 then (some (.rt 8)) else (some (.nx x113.2)))))) : Option (Fl ((List (Pin × Bool))) Int))) ([] : (List (Pin × Bool)))).bind fun (o136 : Fo ((List (Pin × Bool))) Int) => o136.cs (fun (s45 : (List (Pin × Bool))) => some 0) (fun r => some r))))
/-- netlist.Nets -/
def netlist_Nets (N : Nat) (p0 : Netlist) : Option ((List (Pin × Int))) :=
  (fld p0.Nets.length (fun (k34 : Nat) (s35 : (List (Pin × Int))) => ((idx p0.Nets (k34 : Int)).bind fun (x82 : Net) => (fld x82.Pins.length (fun (k87 : Nat) (s88 : (List (Pin × Int))) => ((idx x82.Pins (k87 : Int)).bind fun (x99 : Pin) => some (mput s88 x99 (k34 : Int)) : Option ((List (Pin × Int))))) s35).bind fun (s88 : (List (Pin × Int))) => some s88 : Option ((List (Pin × Int))))) ([] : (List (Pin × Int)))).bind fun (s35 : (List (Pin × Int))) => some s35
/-- netlist.NetOf -/
def netlist_NetOf (N : Nat) (p0 : (List PartType)) (p1 : Netlist) (p2 : Pin) : Option (Str × Bool × Int) :=
  (netlist_CheckList N p0 p1).bind fun (x34 : Int) => bif (x34 != 0) then (some (⟨[]⟩, false, x34)) else ((netlist_hasPin N p0 p1.Parts p2).bind fun (x37 : Bool) => bif (!x37) then (some (⟨[]⟩, false, 9)) else ((netlist_Nets N p1).bind fun (x39 : (List (Pin × Int))) => bif (!(mhas x39 p2)) then (some (⟨[]⟩, false, 0)) else ((idx p1.Nets (mget x39 p2 (0 : Int))).bind fun (x46 : Net) => some (x46.Name, true, 0))))
/-- etchhouseref2.within -/
def etchhouseref2_within (N : Nat) (p0 : Int) (p1 : Int) (p2 : Int) : Option (Bool) :=
  some ((decide (p1 ≤ p0)) && (decide (p0 ≤ p2)))
/-- etchhouseref2.IsWord -/
def etchhouseref2_IsWord (N : Nat) (p0 : Str) : Option (Bool) :=
  (rng p0.toL.length (fun (k31 : Nat) (s32 : Unit) => ((sidx p0 (k31 : Int)).bind fun (x39 : UInt8) => (bif ((((decide ((x39.toNat : Int) < 97)) || (decide ((x39.toNat : Int) > 122))) && ((decide ((x39.toNat : Int) < 65)) || (decide ((x39.toNat : Int) > 90)))) && ((decide ((x39.toNat : Int) < 48)) || (decide ((x39.toNat : Int) > 57)))) then ((strings_IndexByte N (⟨[95, 43, 45, 35]⟩) (x39.toNat : Int)).bind fun (x44 : Int) => some (decide (x44 < 0))) else (some false)).bind fun (s42 : Bool) => bif s42 then (some (.rt false)) else (some (.nx ())) : Option (Fl (Unit) Bool))) ()).bind fun (o46 : Fo (Unit) Bool) => o46.cs (fun (s32 : Unit) => (etchhouseref2_within N (p0.toL.length : Int) 1 40).bind fun (x45 : Bool) => some x45) (fun r => some r)
/-- etchhouseref2.checkType -/
def etchhouseref2_checkType (N : Nat) (p0 : PartType) : Option (Int) :=
  (etchhouseref2_IsWord N p0.Name).bind fun (x32 : Bool) => bif (!x32) then (some 5) else (bif ((p0.Pins.length : Int) == 0) then (some 9) else (bif (decide ((p0.Pins.length : Int) > 200)) then (some 2) else ((rng p0.Pins.length (fun (k40 : Nat) (s41 : Unit) => ((idx p0.Pins (k40 : Int)).bind fun (x189 : PinType) => (etchhouseref2_IsWord N x189.Name).bind fun (x193 : Bool) => bif (!x193) then (some (.rt 5)) else ((etchhouseref2_within N x189.Kind 1 7).bind fun (x265 : Bool) => bif (!x265) then (some (.rt 4)) else ((etchhouseref2_within N x189.Group 0 200).bind fun (x301 : Bool) => bif (!x301) then (some (.rt 1)) else ((bif (decide ((k40 : Int) > 0)) then ((idx p0.Pins (IntKind.wrap .i64 ((k40 : Int) - 1))).bind fun (x330 : PinType) => some (x189.Name.ltb x330.Name || x189.Name.eqb x330.Name)) else (some false)).bind fun (s327 : Bool) => bif s327 then (some (.rt 8)) else (some (.nx ()))))) : Option (Fl (Unit) Int))) ()).bind fun (o376 : Fo (Unit) Int) => o376.cs (fun (s41 : Unit) => (rng p0.Pins.length (fun (k337 : Nat) (s338 : Unit) => ((idx p0.Pins (k337 : Int)).bind fun (x357 : PinType) => (slc p0.Pins 0 (k337 : Int)).bind fun (x362 : (List PinType)) => (rng x362.length (fun (k364 : Nat) (s365 : Unit) => ((idx x362 (k364 : Int)).bind fun (x370 : PinType) => bif (((decide (x357.Group > 0)) && (x357.Group == x370.Group)) && (x357.Kind != x370.Kind)) then (some (.rt 12)) else (some (.nx ())) : Option (Fl (Unit) Int))) ()).bind fun (o374 : Fo (Unit) Int) => o374.cs (fun (s365 : Unit) => some (.nx ())) (fun r => some (.rt r)) : Option (Fl (Unit) Int))) ()).bind fun (o375 : Fo (Unit) Int) => o375.cs (fun (s338 : Unit) => some 0) (fun r => some r)) (fun r => some r))))
/-- etchhouseref2.CheckTypes -/
def etchhouseref2_CheckTypes (N : Nat) (p0 : (List PartType)) : Option (Int) :=
  bif (decide ((p0.length : Int) > 200)) then (some 2) else ((rng p0.length (fun (k31 : Nat) (s32 : Unit) => ((idx p0 (k31 : Int)).bind fun (x52 : PartType) => (etchhouseref2_checkType N x52).bind fun (x57 : Int) => bif (x57 != 0) then (some (.rt x57)) else ((bif (decide ((k31 : Int) > 0)) then ((idx p0 (IntKind.wrap .i64 ((k31 : Int) - 1))).bind fun (x66 : PartType) => some (x52.Name.ltb x66.Name || x52.Name.eqb x66.Name)) else (some false)).bind fun (s64 : Bool) => bif s64 then (some (.rt 8)) else (some (.nx ()))) : Option (Fl (Unit) Int))) ()).bind fun (o71 : Fo (Unit) Int) => o71.cs (fun (s32 : Unit) => some 0) (fun r => some r))
/-- etchhouseref2.IsPath -/
def etchhouseref2_IsPath (N : Nat) (p0 : Str) : Option (Bool) :=
  (strings_Split N p0 (⟨[47]⟩)).bind fun (x31 : (List Str)) => (rng x31.length (fun (k33 : Nat) (s34 : Unit) => ((idx x31 (k33 : Int)).bind fun (x37 : Str) => (etchhouseref2_IsWord N x37).bind fun (x38 : Bool) => bif (!x38) then (some (.rt false)) else (some (.nx ())) : Option (Fl (Unit) Bool))) ()).bind fun (o39 : Fo (Unit) Bool) => o39.cs (fun (s34 : Unit) => some (decide ((p0.toL.length : Int) ≤ 200))) (fun r => some r)
/-- etchhouseref2.typeOf -/
def etchhouseref2_typeOf (N : Nat) (p0 : (List PartType)) (p1 : Str) : Option (Int) :=
  (rng p0.length (fun (k31 : Nat) (s32 : Unit) => ((idx p0 (k31 : Int)).bind fun (x37 : PartType) => bif (x37.Name.eqb p1) then (some (.rt (k31 : Int))) else (some (.nx ())) : Option (Fl (Unit) Int))) ()).bind fun (o41 : Fo (Unit) Int) => o41.cs (fun (s32 : Unit) => some (-1)) (fun r => some r)
/-- etchhouseref2.partOf -/
def etchhouseref2_partOf (N : Nat) (p0 : (List Part)) (p1 : Str) : Option (Int) :=
  (rng p0.length (fun (k31 : Nat) (s32 : Unit) => ((idx p0 (k31 : Int)).bind fun (x37 : Part) => bif (x37.Name.eqb p1) then (some (.rt (k31 : Int))) else (some (.nx ())) : Option (Fl (Unit) Int))) ()).bind fun (o41 : Fo (Unit) Int) => o41.cs (fun (s32 : Unit) => some (-1)) (fun r => some r)
/-- etchhouseref2.pinOf -/
def etchhouseref2_pinOf (N : Nat) (p0 : PartType) (p1 : Str) : Option (Int) :=
  (rng p0.Pins.length (fun (k33 : Nat) (s34 : Unit) => ((idx p0.Pins (k33 : Int)).bind fun (x39 : PinType) => bif (x39.Name.eqb p1) then (some (.rt (k33 : Int))) else (some (.nx ())) : Option (Fl (Unit) Int))) ()).bind fun (o43 : Fo (Unit) Int) => o43.cs (fun (s34 : Unit) => some (-1)) (fun r => some r)
/-- etchhouseref2.HasPin -/
def etchhouseref2_HasPin (N : Nat) (p0 : (List PartType)) (p1 : Netlist) (p2 : Pin) : Option (Bool) :=
  (etchhouseref2_partOf N p1.Parts p2.Part).bind fun (x34 : Int) => (bif (decide (x34 ≥ 0)) then ((idx p1.Parts x34).bind fun (x53 : Part) => (etchhouseref2_typeOf N p0 x53.Type_).bind fun (x56 : Int) => (idx p0 x56).bind fun (x57 : PartType) => (etchhouseref2_pinOf N x57 p2.Pin).bind fun (x60 : Int) => some (decide (x60 ≥ 0))) else (some false)).bind fun (s50 : Bool) => some s50
/-- etchhouseref2.before -/
def etchhouseref2_before (N : Nat) (p0 : Pin) (p1 : Pin) : Option (Bool) :=
  some ((p0.Part.ltb p1.Part) || ((p0.Part.eqb p1.Part) && (p0.Pin.ltb p1.Pin)))
/-- slices.Index[[]api.Pin,api.Pin] -/
def slices_Index_Pin (N : Nat) (p0 : (List Pin)) (p1 : Pin) : Option (Int) :=
  (rng p0.length (fun (k32 : Nat) (s33 : Unit) => ((idx p0 (k32 : Int)).bind fun (x42 : Pin) => bif (decide (p1 = x42)) then (some (.rt (k32 : Int))) else (some (.nx ())) : Option (Fl (Unit) Int))) ()).bind fun (o48 : Fo (Unit) Int) => o48.cs (fun (s33 : Unit) => some (-1)) (fun r => some r)
/-- slices.Contains[[]api.Pin,api.Pin] -/
def slices_Contains_Pin (N : Nat) (p0 : (List Pin)) (p1 : Pin) : Option (Bool) :=
  (slices_Index_Pin N p0 p1).bind fun (x33 : Int) => some (decide (x33 ≥ 0))
/-- etchhouseref2.inNets -/
def etchhouseref2_inNets (N : Nat) (p0 : (List Net)) (p1 : Pin) : Option (Bool) :=
  (rng p0.length (fun (k32 : Nat) (s33 : Unit) => ((idx p0 (k32 : Int)).bind fun (x41 : Net) => (slices_Contains_Pin N x41.Pins p1).bind fun (x47 : Bool) => bif x47 then (some (.rt true)) else (some (.nx ())) : Option (Fl (Unit) Bool))) ()).bind fun (o48 : Fo (Unit) Bool) => o48.cs (fun (s33 : Unit) => some false) (fun r => some r)
/-- etchhouseref2.checkList -/
def etchhouseref2_checkList (N : Nat) (p0 : (List PartType)) (p1 : Netlist) : Option (Int) :=
  bif (decide ((p1.Parts.length : Int) > 1000)) then (some 2) else ((rng p1.Parts.length (fun (k34 : Nat) (s35 : Unit) => ((idx p1.Parts (k34 : Int)).bind fun (x111 : Part) => (etchhouseref2_IsPath N x111.Name).bind fun (x115 : Bool) => bif (!x115) then (some (.rt 5)) else ((etchhouseref2_typeOf N p0 x111.Type_).bind fun (x151 : Int) => bif (decide (x151 < 0)) then (some (.rt 9)) else ((bif (decide ((k34 : Int) > 0)) then ((idx p1.Parts (IntKind.wrap .i64 ((k34 : Int) - 1))).bind fun (x180 : Part) => some (x111.Name.ltb x180.Name || x111.Name.eqb x180.Name)) else (some false)).bind fun (s177 : Bool) => bif s177 then (some (.rt 8)) else (some (.nx ())))) : Option (Fl (Unit) Int))) ()).bind fun (o597 : Fo (Unit) Int) => o597.cs (fun (s35 : Unit) => bif (decide ((p1.Nets.length : Int) > 1000)) then (some 2) else ((rng p1.Nets.length (fun (k188 : Nat) (s189 : Unit) => ((idx p1.Nets (k188 : Int)).bind fun (x393 : Net) => (etchhouseref2_IsPath N x393.Name).bind fun (x397 : Bool) => bif (!x397) then (some (.rt 5)) else (bif ((x393.Pins.length : Int) == 0) then (some (.rt 9)) else (bif (decide ((x393.Pins.length : Int) > 500)) then (some (.rt 2)) else ((rng x393.Pins.length (fun (k405 : Nat) (s406 : Unit) => ((idx x393.Pins (k405 : Int)).bind fun (x492 : Pin) => (etchhouseref2_HasPin N p0 p1 x492).bind fun (x498 : Bool) => bif (!x498) then (some (.rt 9)) else ((bif (decide ((k405 : Int) > 0)) then ((idx x393.Pins (IntKind.wrap .i64 ((k405 : Int) - 1))).bind fun (x552 : Pin) => (etchhouseref2_before N x552 x492).bind fun (x556 : Bool) => some (!x556)) else (some false)).bind fun (s549 : Bool) => bif s549 then (some (.rt 8)) else ((slc p1.Nets 0 (k188 : Int)).bind fun (x570 : (List Net)) => (etchhouseref2_inNets N x570 x492).bind fun (x573 : Bool) => bif x573 then (some (.rt 7)) else (some (.nx ())))) : Option (Fl (Unit) Int))) ()).bind fun (o595 : Fo (Unit) Int) => o595.cs (fun (s406 : Unit) => bif (decide ((x393.Ports.length : Int) > 0)) then (some (.rt 3)) else ((bif (decide ((k188 : Int) > 0)) then ((idx p1.Nets (IntKind.wrap .i64 ((k188 : Int) - 1))).bind fun (x589 : Net) => some (x393.Name.ltb x589.Name || x393.Name.eqb x589.Name)) else (some false)).bind fun (s586 : Bool) => bif s586 then (some (.rt 8)) else (some (.nx ())))) (fun r => some (.rt r))))) : Option (Fl (Unit) Int))) ()).bind fun (o596 : Fo (Unit) Int) => o596.cs (fun (s189 : Unit) => some 0) (fun r => some r))) (fun r => some r))
/-- etchhouseref2.CheckList -/
def etchhouseref2_CheckList (N : Nat) (p0 : (List PartType)) (p1 : Netlist) : Option (Int) :=
  (etchhouseref2_CheckTypes N p0).bind fun (x32 : Int) => bif (x32 != 0) then (some x32) else ((etchhouseref2_checkList N p0 p1).bind fun (x34 : Int) => some x34)
/-- etchhouseref2.netOf -/
def etchhouseref2_netOf (N : Nat) (p0 : Netlist) (p1 : Pin) : Option (Int) :=
  (rng p0.Nets.length (fun (k34 : Nat) (s35 : Unit) => ((idx p0.Nets (k34 : Int)).bind fun (x43 : Net) => (slices_Contains_Pin N x43.Pins p1).bind fun (x49 : Bool) => bif x49 then (some (.rt (k34 : Int))) else (some (.nx ())) : Option (Fl (Unit) Int))) ()).bind fun (o50 : Fo (Unit) Int) => o50.cs (fun (s35 : Unit) => some (-1)) (fun r => some r)
/-- etchhouseref2.NetOf -/
def etchhouseref2_NetOf (N : Nat) (p0 : (List PartType)) (p1 : Netlist) (p2 : Pin) : Option (Str × Bool × Int) :=
  (etchhouseref2_CheckList N p0 p1).bind fun (x34 : Int) => bif (x34 != 0) then (some (⟨[]⟩, false, x34)) else ((etchhouseref2_HasPin N p0 p1 p2).bind fun (x37 : Bool) => bif (!x37) then (some (⟨[]⟩, false, 9)) else ((etchhouseref2_netOf N p1 p2).bind fun (x40 : Int) => bif (decide (x40 ≥ 0)) then ((idx p1.Nets x40).bind fun (x46 : Net) => some (x46.Name, true, 0)) else (some (⟨[]⟩, false, 0))))
/-- netlist.pinsOf -/
def netlist_pinsOf (N : Nat) (p0 : (List PartType)) (p1 : Part) : Option ((List Pin)) :=
  (netlist_TypeAt N p0 p1.Type_).bind fun (x32 : Int) => (idx p0 x32).bind fun (x33 : PartType) => (fld x33.Pins.length (fun (k37 : Nat) (s38 : (List Pin)) => ((idx x33.Pins (k37 : Int)).bind fun (x60 : PinType) => (app 32 s38 ([(⟨p1.Name, x60.Name⟩ : Pin)] : (List Pin))).bind fun (x66 : (List Pin)) => some x66 : Option ((List Pin)))) ([] : (List Pin))).bind fun (s38 : (List Pin)) => some s38
/-- netlist.LooseOf -/
def netlist_LooseOf (N : Nat) (p0 : (List PartType)) (p1 : Netlist) : Option ((List Pin)) :=
  (netlist_Nets N p1).bind fun (x33 : (List (Pin × Int))) => (fld p1.Parts.length (fun (k36 : Nat) (s37 : (List Pin)) => ((idx p1.Parts (k36 : Int)).bind fun (x159 : Part) => (netlist_pinsOf N p0 x159).bind fun (x164 : (List Pin)) => (fld x164.length (fun (k166 : Nat) (s167 : (List Pin)) => ((idx x164 (k166 : Int)).bind fun (x201 : Pin) => (bif (!(mhas x33 x201)) then ((app 32 s167 ([x201] : (List Pin))).bind fun (x213 : (List Pin)) => some x213) else (some s167)).bind fun (s209 : (List Pin)) => some s209 : Option ((List Pin)))) s37).bind fun (s167 : (List Pin)) => some s167 : Option ((List Pin)))) ([] : (List Pin))).bind fun (s37 : (List Pin)) => some s37
/-- netlist.Loose -/
def netlist_Loose (N : Nat) (p0 : (List PartType)) (p1 : Netlist) : Option ((List Pin) × Int) :=
  (netlist_CheckList N p0 p1).bind fun (x33 : Int) => bif (x33 != 0) then (some (([] : (List Pin)), x33)) else ((netlist_LooseOf N p0 p1).bind fun (x35 : (List Pin)) => some (x35, 0))
/-- etchhouseref2.loose -/
def etchhouseref2_loose (N : Nat) (p0 : (List PartType)) (p1 : Netlist) : Option ((List Pin)) :=
  (fld p1.Parts.length (fun (k33 : Nat) (s34 : (List Pin)) => ((idx p1.Parts (k33 : Int)).bind fun (x190 : Part) => (etchhouseref2_typeOf N p0 x190.Type_).bind fun (x194 : Int) => (idx p0 x194).bind fun (x195 : PartType) => (fld x195.Pins.length (fun (k199 : Nat) (s200 : (List Pin)) => ((idx x195.Pins (k199 : Int)).bind fun (x244 : PinType) => (etchhouseref2_netOf N p1 (⟨x190.Name, x244.Name⟩ : Pin)).bind fun (x252 : Int) => (bif (decide (x252 < 0)) then ((app 32 s200 ([(⟨x190.Name, x244.Name⟩ : Pin)] : (List Pin))).bind fun (x261 : (List Pin)) => some x261) else (some s200)).bind fun (s257 : (List Pin)) => some s257 : Option ((List Pin)))) s34).bind fun (s200 : (List Pin)) => some s200 : Option ((List Pin)))) ([] : (List Pin))).bind fun (s34 : (List Pin)) => some s34
/-- etchhouseref2.Loose -/
def etchhouseref2_Loose (N : Nat) (p0 : (List PartType)) (p1 : Netlist) : Option ((List Pin) × Int) :=
  (etchhouseref2_CheckList N p0 p1).bind fun (x33 : Int) => bif (x33 != 0) then (some (([] : (List Pin)), x33)) else ((etchhouseref2_loose N p0 p1).bind fun (x35 : (List Pin)) => some (x35, 0))
/-- slices.Equal[[]api.Pin,api.Pin] -/
def slices_Equal_Pin (N : Nat) (p0 : (List Pin)) (p1 : (List Pin)) : Option (Bool) :=
  bif ((p0.length : Int) != (p1.length : Int)) then (some false) else ((rng p0.length (fun (k31 : Nat) (s32 : Unit) => ((idx p0 (k31 : Int)).bind fun (x43 : Pin) => (idx p1 (k31 : Int)).bind fun (x46 : Pin) => bif (!(decide (x43 = x46))) then (some (.rt false)) else (some (.nx ())) : Option (Fl (Unit) Bool))) ()).bind fun (o53 : Fo (Unit) Bool) => o53.cs (fun (s32 : Unit) => some true) (fun r => some r))
/-- etchhouselaw2.awake -/
def etchhouselaw2_awake (N : Nat)  : Option (Bool) :=
  (netlist_Loose N ([(⟨⟨[114]⟩, ([(⟨⟨[49]⟩, 6, 0⟩ : PinType)] : (List PinType))⟩ : PartType)] : (List PartType)) (⟨([(⟨⟨[97]⟩, ⟨[114]⟩⟩ : Part)] : (List Part)), []⟩ : Netlist)).bind fun (x38 : (List Pin) × Int) => (bif (x38.2 == 0) then (bif ((x38.1.length : Int) == 1) then ((idx x38.1 0).bind fun (x49 : Pin) => some (decide (x49 = (⟨⟨[97]⟩, ⟨[49]⟩⟩ : Pin)))) else (some false)) else (some false)).bind fun (s46 : Bool) => some s46
/-- etchhouselaw2.NetlistListsMatchSpec -/
def etchhouselaw2_NetlistListsMatchSpec (N : Nat) (p0 : (List PartType)) (p1 : Netlist) (p2 : Pin) : Option (Bool) :=
  (netlist_NetOf N p0 p1 p2).bind fun (x35 : Str × Bool × Int) => (etchhouseref2_NetOf N p0 p1 p2).bind fun (x38 : Str × Bool × Int) => ((netlist_CheckList N p0 p1).bind fun (x54 : Int) => (etchhouseref2_CheckList N p0 p1).bind fun (x56 : Int) => bif (((x54 != x56) || (x35.2.2 != x38.2.2)) || (!x35.1.eqb x38.1)) then (some true) else (some (x35.2.1 != x38.2.1))).bind fun (s52 : Bool) => bif s52 then (some false) else ((netlist_Loose N p0 p1).bind fun (x63 : (List Pin) × Int) => (etchhouseref2_Loose N p0 p1).bind fun (x66 : (List Pin) × Int) => (bif (x63.2 == x66.2) then ((slices_Equal_Pin N x63.1 x66.1).bind fun (x76 : Bool) => bif x76 then ((etchhouselaw2_awake N ).bind fun (x78 : Bool) => some x78) else (some false)) else (some false)).bind fun (s74 : Bool) => some s74)
/-- internal/stringslite.Cut -/
def stringslite_Cut (N : Nat) (p0 : Str) (p1 : Str) : Option (Str × Str × Bool) :=
  (stringslite_Index N p0 p1).bind fun (x31 : Int) => bif (decide (x31 ≥ 0)) then ((scut p0 0 x31).bind fun (x34 : Str) => (scut p0 (IntKind.wrap .i64 (x31 + (p1.toL.length : Int))) (p0.toL.length : Int)).bind fun (x35 : Str) => some (x34, x35, true)) else (some (p0, ⟨[]⟩, false))
/-- strings.Cut -/
def strings_Cut (N : Nat) (p0 : Str) (p1 : Str) : Option (Str × Str × Bool) :=
  (stringslite_Cut N p0 p1).bind fun (x31 : Str × Str × Bool) => some (x31.1, x31.2.1, x31.2.2)
/-- strings.indexFunc -/
def strings_indexFunc (N : Nat) (p0 : Str) (p1 : R32 → Option Bool) (p2 : Bool) : Option (Int) :=
  (itr (fun (s33 : Nat) => (bif (decide (s33 < p0.toL.length)) then ((p1 (⟨(((Utf8.decode (bs p0) s33).1 : Nat) : Int)⟩ : R32)).bind fun (x39 : Bool) => bif (x39 == p2) then (some (.rt (s33 : Int))) else (some (.nx (s33 + (Utf8.decode (bs p0) s33).2)))) else (some (.br s33)) : Option (Fl (Nat) Int))) N 0).bind fun (o40 : Fo (Nat) Int) => o40.cs (fun (s33 : Nat) => some (-1)) (fun r => some r)
/-- strings.IndexFunc -/
def strings_IndexFunc (N : Nat) (p0 : Str) (p1 : R32 → Option Bool) : Option (Int) :=
  (strings_indexFunc N p0 p1 true).bind fun (x31 : Int) => some x31
/-- strings.ContainsFunc -/
def strings_ContainsFunc (N : Nat) (p0 : Str) (p1 : R32 → Option Bool) : Option (Bool) :=
  (strings_IndexFunc N p0 p1).bind fun (x31 : Int) => some (decide (x31 ≥ 0))
/-- netlist.isPlain$1 -/
def netlist_isPlain_c1 (N : Nat) (p0 : Int) : Option (Bool) :=
  some (((decide (p0 < 33)) || (decide (p0 > 126))) || (p0 == 46))
/-- netlist.isPlain -/
def netlist_isPlain (N : Nat) (p0 : Str) : Option (Bool) :=
  (bif (!p0.eqb (⟨[]⟩)) then ((strings_ContainsFunc N p0 (fun y0 => netlist_isPlain_c1 N y0.n)).bind fun (x35 : Bool) => some (!x35)) else (some false)).bind fun (s33 : Bool) => some s33
/-- netlist.readLine -/
def netlist_readLine (N : Nat) (p0_0 : (List Part)) (p0_1 : (List Net)) (p1 : Str) : Option (Bool × (List Part) × (List Net)) :=
  (strings_Split N p1 (⟨[32]⟩)).bind fun (x31 : (List Str)) => ((idx x31 0).bind fun (x40 : Str) => bif (x40.eqb (⟨[112, 97, 114, 116]⟩)) then (bif ((x31.length : Int) == 3) then (some ((p0_1.length : Int) == 0)) else (some false)) else (some false)).bind fun (s39 : Bool) => bif s39 then ((idx x31 1).bind fun (x215 : Str) => (idx x31 2).bind fun (x216 : Str) => (app 32 p0_0 ([(⟨x215, x216⟩ : Part)] : (List Part))).bind fun (x219 : (List Part)) => ((idx x31 1).bind fun (x232 : Str) => (netlist_isPlain N x232).bind fun (x233 : Bool) => bif x233 then ((idx x31 2).bind fun (x235 : Str) => (netlist_isPlain N x235).bind fun (x236 : Bool) => some x236) else (some false)).bind fun (s231 : Bool) => some (s231, x219, p0_1)) else (((idx x31 0).bind fun (x241 : Str) => bif (x241.eqb (⟨[110, 101, 116]⟩)) then (some (decide ((x31.length : Int) ≥ 2))) else (some false)).bind fun (s240 : Bool) => bif s240 then ((idx x31 1).bind fun (x315 : Str) => (slc x31 2 (x31.length : Int)).bind fun (x317 : (List Str)) => (rng (x31.length - Int.toNat 2) (fun (k318 : Nat) (s319 : (List Pin)) => ((idxv x31 2 (k318 : Int)).bind fun (x359 : Str) => (strings_Cut N x359 (⟨[46]⟩)).bind fun (x360 : Str × Str × Bool) => (bif (!x360.2.2) then (some true) else ((netlist_isPlain N x360.1).bind fun (x369 : Bool) => bif (!x369) then (some true) else ((netlist_isPlain N x360.2.1).bind fun (x371 : Bool) => some (!x371)))).bind fun (s367 : Bool) => bif s367 then (some (.rt (false, p0_0, p0_1))) else ((app 32 s319 ([(⟨x360.1, x360.2.1⟩ : Pin)] : (List Pin))).bind fun (x374 : (List Pin)) => some (.nx x374)) : Option (Fl ((List Pin)) (Bool × (List Part) × (List Net))))) ([] : (List Pin))).bind fun (o386 : Fo ((List Pin)) (Bool × (List Part) × (List Net))) => o386.cs (fun (s319 : (List Pin)) => (app 64 p0_1 ([(⟨x315, s319, ([] : (List Str))⟩ : Net)] : (List Net))).bind fun (x379 : (List Net)) => (idx x31 1).bind fun (x384 : Str) => (netlist_isPlain N x384).bind fun (x385 : Bool) => some (x385, p0_0, x379)) (fun r => some r)) else (some (false, p0_0, p0_1)))
/-- netlist.Read -/
def netlist_Read (N : Nat) (p0 : Str) : Option (Netlist × Int × Int) :=
  bif (decide ((p0.toL.length : Int) > 2000000)) then (some ((⟨([] : (List Part)), ([] : (List Net))⟩ : Netlist), 0, 2)) else ((itr (fun (s35 : Str × (List Part) × (List Net) × Int) => (bif (!s35.1.eqb (⟨[]⟩)) then ((strings_Cut N s35.1 (⟨[10]⟩)).bind fun (x70 : Str × Str × Bool) => (bif (!x70.2.2) then (some (s35.2.1, s35.2.2.1, true)) else ((netlist_readLine N s35.2.1 s35.2.2.1 x70.1).bind fun (x79 : Bool × (List Part) × (List Net)) => some (x79.2.1, x79.2.2, (!x79.1)))).bind fun (s75 : (List Part) × (List Net) × Bool) => bif s75.2.2 then (some (.rt ((⟨([] : (List Part)), ([] : (List Net))⟩ : Netlist), s35.2.2.2, 10))) else (some (.nx (x70.2.1, s75.1, s75.2.1, (IntKind.wrap .i64 (s35.2.2.2 + 1)))))) else (some (.br (s35.1, s35.2.1, s35.2.2.1, s35.2.2.2))) : Option (Fl (Str × (List Part) × (List Net) × Int) (Netlist × Int × Int)))) N (p0, ([] : (List Part)), ([] : (List Net)), 1)).bind fun (o85 : Fo (Str × (List Part) × (List Net) × Int) (Netlist × Int × Int)) => o85.cs (fun (s35 : Str × (List Part) × (List Net) × Int) => some ((⟨s35.2.1, s35.2.2.1⟩ : Netlist), 0, 0)) (fun r => some r))
/-- etchhouseref2.isListWord -/
def etchhouseref2_isListWord (N : Nat) (p0 : Str) : Option (Bool) :=
  (rng p0.toL.length (fun (k31 : Nat) (s32 : Unit) => (((sidx p0 (k31 : Int)).bind fun (x58 : UInt8) => bif (decide ((x58.toNat : Int) < 33)) then (some true) else ((sidx p0 (k31 : Int)).bind fun (x60 : UInt8) => bif (decide ((x60.toNat : Int) > 126)) then (some true) else ((sidx p0 (k31 : Int)).bind fun (x62 : UInt8) => some ((x62.toNat : Int) == 46)))).bind fun (s57 : Bool) => bif s57 then (some (.rt false)) else (some (.nx ())) : Option (Fl (Unit) Bool))) ()).bind fun (o63 : Fo (Unit) Bool) => o63.cs (fun (s32 : Unit) => some (!p0.eqb (⟨[]⟩))) (fun r => some r)
/-- etchhouseref2.readNet -/
def etchhouseref2_readNet (N : Nat) (p0 : (List Str)) : Option (Net × Bool) :=
  (idx p0 0).bind fun (x32 : Str) => (slc p0 1 (p0.length : Int)).bind fun (x35 : (List Str)) => (rng x35.length (fun (k37 : Nat) (s38 : (List Pin)) => ((idx x35 (k37 : Int)).bind fun (x84 : Str) => (strings_Cut N x84 (⟨[46]⟩)).bind fun (x86 : Str × Str × Bool) => (bif (!x86.2.2) then (some true) else ((etchhouseref2_isListWord N x86.1).bind fun (x95 : Bool) => bif (!x95) then (some true) else ((etchhouseref2_isListWord N x86.2.1).bind fun (x97 : Bool) => some (!x97)))).bind fun (s93 : Bool) => bif s93 then (some (.rt ((⟨x32, s38, ([] : (List Str))⟩ : Net), false))) else ((app 32 s38 ([(⟨x86.1, x86.2.1⟩ : Pin)] : (List Pin))).bind fun (x103 : (List Pin)) => some (.nx x103)) : Option (Fl ((List Pin)) (Net × Bool)))) ([] : (List Pin))).bind fun (o113 : Fo ((List Pin)) (Net × Bool)) => o113.cs (fun (s38 : (List Pin)) => (idx p0 0).bind fun (x107 : Str) => (etchhouseref2_isListWord N x107).bind fun (x109 : Bool) => some ((⟨x32, s38, ([] : (List Str))⟩ : Net), x109)) (fun r => some r)
/-- etchhouseref2.Read -/
def etchhouseref2_Read (N : Nat) (p0 : Str) : Option (Netlist × Int × Int) :=
  bif (decide ((p0.toL.length : Int) > 2000000)) then (some ((⟨([] : (List Part)), ([] : (List Net))⟩ : Netlist), 0, 2)) else ((itr (fun (s35 : Str × (List Part) × (List Net) × Int) => (bif (!s35.1.eqb (⟨[]⟩)) then ((strings_Cut N s35.1 (⟨[10]⟩)).bind fun (x270 : Str × Str × Bool) => (strings_Split N x270.1 (⟨[32]⟩)).bind fun (x271 : (List Str)) => ((idx x271 0).bind fun (x280 : Str) => bif (x280.eqb (⟨[112, 97, 114, 116]⟩)) then (bif ((x271.length : Int) == 3) then (some ((s35.2.2.1.length : Int) == 0)) else (some false)) else (some false)).bind fun (s279 : Bool) => (bif s279 then (((idx x271 1).bind fun (x342 : Str) => (etchhouseref2_isListWord N x342).bind fun (x343 : Bool) => bif x343 then ((idx x271 2).bind fun (x345 : Str) => (etchhouseref2_isListWord N x345).bind fun (x346 : Bool) => some x346) else (some false)).bind fun (s341 : Bool) => (idx x271 1).bind fun (x347 : Str) => (idx x271 2).bind fun (x348 : Str) => (app 32 s35.2.1 ([(⟨x347, x348⟩ : Part)] : (List Part))).bind fun (x351 : (List Part)) => some (x351, s35.2.2.1, s341)) else (((idx x271 0).bind fun (x360 : Str) => bif (x360.eqb (⟨[110, 101, 116]⟩)) then (some (decide ((x271.length : Int) > 1))) else (some false)).bind fun (s359 : Bool) => (bif s359 then ((slc x271 1 (x271.length : Int)).bind fun (x374 : (List Str)) => (etchhouseref2_readNet N x374).bind fun (x376 : Net × Bool) => (app 64 s35.2.2.1 ([x376.1] : (List Net))).bind fun (x380 : (List Net)) => some (x380, x376.2)) else (some (s35.2.2.1, false))).bind fun (s371 : (List Net) × Bool) => some (s35.2.1, s371.1, s371.2))).bind fun (s331 : (List Part) × (List Net) × Bool) => bif ((!s331.2.2) || (!x270.2.2)) then (some (.rt ((⟨([] : (List Part)), ([] : (List Net))⟩ : Netlist), s35.2.2.2, 10))) else (some (.nx (x270.2.1, s331.1, s331.2.1, (IntKind.wrap .i64 (s35.2.2.2 + 1)))))) else (some (.br (s35.1, s35.2.1, s35.2.2.1, s35.2.2.2))) : Option (Fl (Str × (List Part) × (List Net) × Int) (Netlist × Int × Int)))) N (p0, ([] : (List Part)), ([] : (List Net)), 1)).bind fun (o385 : Fo (Str × (List Part) × (List Net) × Int) (Netlist × Int × Int)) => o385.cs (fun (s35 : Str × (List Part) × (List Net) × Int) => some ((⟨s35.2.1, s35.2.2.1⟩ : Netlist), 0, 0)) (fun r => some r))
/-- slices.Equal[[]api.Part,api.Part] -/
def slices_Equal_Part (N : Nat) (p0 : (List Part)) (p1 : (List Part)) : Option (Bool) :=
  bif ((p0.length : Int) != (p1.length : Int)) then (some false) else ((rng p0.length (fun (k31 : Nat) (s32 : Unit) => ((idx p0 (k31 : Int)).bind fun (x43 : Part) => (idx p1 (k31 : Int)).bind fun (x46 : Part) => bif (!(decide (x43 = x46))) then (some (.rt false)) else (some (.nx ())) : Option (Fl (Unit) Bool))) ()).bind fun (o53 : Fo (Unit) Bool) => o53.cs (fun (s32 : Unit) => some true) (fun r => some r))
/-- slices.Equal[[]string,string] -/
def slices_Equal_string (N : Nat) (p0 : (List Str)) (p1 : (List Str)) : Option (Bool) :=
  bif ((p0.length : Int) != (p1.length : Int)) then (some false) else ((rng p0.length (fun (k31 : Nat) (s32 : Unit) => ((idx p0 (k31 : Int)).bind fun (x39 : Str) => (idx p1 (k31 : Int)).bind fun (x41 : Str) => bif (!x39.eqb x41) then (some (.rt false)) else (some (.nx ())) : Option (Fl (Unit) Bool))) ()).bind fun (o45 : Fo (Unit) Bool) => o45.cs (fun (s32 : Unit) => some true) (fun r => some r))
/-- etchhouseref2.Same -/
def etchhouseref2_Same (N : Nat) (p0 : Netlist) (p1 : Netlist) : Option (Bool) :=
  ((slices_Equal_Part N p0.Parts p1.Parts).bind fun (x45 : Bool) => bif (!x45) then (some true) else (some ((p0.Nets.length : Int) != (p1.Nets.length : Int)))).bind fun (s42 : Bool) => bif s42 then (some false) else ((rng p0.Nets.length (fun (k50 : Nat) (s51 : Unit) => ((idx p0.Nets (k50 : Int)).bind fun (x164 : Net) => ((idx p1.Nets (k50 : Int)).bind fun (x233 : Net) => bif (!x164.Name.eqb x233.Name) then (some true) else ((idx p1.Nets (k50 : Int)).bind fun (x242 : Net) => (slices_Equal_Pin N x164.Pins x242.Pins).bind fun (x246 : Bool) => bif (!x246) then (some true) else ((idx p1.Nets (k50 : Int)).bind fun (x258 : Net) => (slices_Equal_string N x164.Ports x258.Ports).bind fun (x262 : Bool) => some (!x262)))).bind fun (s231 : Bool) => bif s231 then (some (.rt false)) else (some (.nx ())) : Option (Fl (Unit) Bool))) ()).bind fun (o276 : Fo (Unit) Bool) => o276.cs (fun (s51 : Unit) => some true) (fun r => some r))
/-- etchhouselaw2.NetlistReadsMatchSpec -/
def etchhouselaw2_NetlistReadsMatchSpec (N : Nat) (p0 : Str) : Option (Bool) :=
  (netlist_Read N p0).bind fun (x31 : Netlist × Int × Int) => (etchhouseref2_Read N p0).bind fun (x34 : Netlist × Int × Int) => (bif ((x31.2.2 == x34.2.2) && (x31.2.1 == x34.2.1)) then ((etchhouseref2_Same N x31.1 x34.1).bind fun (x51 : Bool) => bif x51 then ((etchhouselaw2_awake N ).bind fun (x53 : Bool) => some x53) else (some false)) else (some false)).bind fun (s47 : Bool) => some s47
/-- netlist.checkTwo -/
def netlist_checkTwo (N : Nat) (p0 : (List PartType)) (p1 : Netlist) (p2 : Netlist) : Option (Int) :=
  (netlist_CheckList N p0 p1).bind fun (x34 : Int) => bif (x34 != 0) then (some x34) else ((netlist_CheckList N p0 p2).bind fun (x36 : Int) => some x36)
/-- netlist.Changes$1 -/
def netlist_Changes_c1 (N : Nat) (p0 : Int) (p1 : Str) (p2_0 : (List ListChange)) : Option ((List ListChange)) :=
  (app 40 p2_0 ([(⟨p0, p1, ⟨[]⟩⟩ : ListChange)] : (List ListChange))).bind fun (x33 : (List ListChange)) => some x33
/-- netlist.Changes -/
def netlist_Changes (N : Nat) (p0 : (List PartType)) (p1 : Netlist) (p2 : Netlist) : Option ((List ListChange) × Int) :=
  (netlist_checkTwo N p0 p1 p2).bind fun (x35 : Int) => bif (x35 != 0) then (some (([] : (List ListChange)), x35)) else ((netlist_Nets N p1).bind fun (x38 : (List (Pin × Int))) => (netlist_Nets N p2).bind fun (x41 : (List (Pin × Int))) => (fld p2.Parts.length (fun (k48 : Nat) (s49 : (List ListChange)) => ((idx p2.Parts (k48 : Int)).bind fun (x79 : Part) => (netlist_partAt N p1.Parts x79.Name).bind fun (x84 : Int) => (bif (decide (x84 < 0)) then ((netlist_Changes_c1 N 1 x79.Name s49).bind fun (x89 : (List ListChange)) => some x89) else (some s49)).bind fun (s87 : (List ListChange)) => some s87 : Option ((List ListChange)))) ([] : (List ListChange))).bind fun (s49 : (List ListChange)) => (fld p1.Parts.length (fun (k93 : Nat) (s94 : (List ListChange)) => ((idx p1.Parts (k93 : Int)).bind fun (x124 : Part) => (netlist_partAt N p2.Parts x124.Name).bind fun (x129 : Int) => (bif (decide (x129 < 0)) then ((netlist_Changes_c1 N 2 x124.Name s94).bind fun (x134 : (List ListChange)) => some x134) else (some s94)).bind fun (s132 : (List ListChange)) => some s132 : Option ((List ListChange)))) s49).bind fun (s94 : (List ListChange)) => (fld p1.Parts.length (fun (k138 : Nat) (s139 : (List ListChange) × (List ListChange)) => ((idx p1.Parts (k138 : Int)).bind fun (x496 : Part) => (netlist_partAt N p2.Parts x496.Name).bind fun (x501 : Int) => bif (decide (x501 < 0)) then (some (s139.1, s139.2)) else ((idx p2.Parts x501).bind fun (x503 : Part) => bif (!x503.Type_.eqb x496.Type_) then ((netlist_Changes_c1 N 3 x496.Name s139.1).bind fun (x511 : (List ListChange)) => some (x511, s139.2)) else ((netlist_pinsOf N p0 x496).bind fun (x514 : (List Pin)) => (fld x514.length (fun (k516 : Nat) (s517 : (List ListChange)) => ((idx x514 (k516 : Int)).bind fun (x619 : Pin) => (bif ((mhas x38 x619) != (mhas x41 x619)) then (some true) else (bif (mhas x38 x619) then ((idx p1.Nets (mget x38 x619 (0 : Int))).bind fun (x644 : Net) => (idx p2.Nets (mget x41 x619 (0 : Int))).bind fun (x648 : Net) => some (!x644.Name.eqb x648.Name)) else (some false))).bind fun (s640 : Bool) => (bif s640 then ((app 40 s517 ([(⟨4, x619.Part, x619.Pin⟩ : ListChange)] : (List ListChange))).bind fun (x665 : (List ListChange)) => some x665) else (some s517)).bind fun (s661 : (List ListChange)) => some s661 : Option ((List ListChange)))) s139.2).bind fun (s517 : (List ListChange)) => some (s139.1, s517))) : Option ((List ListChange) × (List ListChange)))) (s94, ([] : (List ListChange)))).bind fun (s139 : (List ListChange) × (List ListChange)) => (app 40 s139.1 s139.2).bind fun (x671 : (List ListChange)) => some (x671, 0))
/-- etchhouseref2.netName -/
def etchhouseref2_netName (N : Nat) (p0 : Netlist) (p1 : Pin) : Option (Str) :=
  (etchhouseref2_netOf N p0 p1).bind fun (x35 : Int) => bif (decide (x35 ≥ 0)) then ((idx p0.Nets x35).bind fun (x41 : Net) => some x41.Name) else (some (⟨[]⟩))
/-- slices.Grow[[]api.ListChange,api.ListChange] -/
def slices_Grow_ListChange_nil (N : Nat) (p1 : Int) : Option ((List ListChange)) :=
  bif (decide (p1 < 0)) then (none) else ((bif (decide ((IntKind.wrap .i64 (p1 - (IntKind.wrap .i64 (((0 : Nat) : Int) - ((0 : Nat) : Int))))) > 0)) then ((appz 40 (⟨0, ⟨[]⟩, ⟨[]⟩⟩ : ListChange) (IntKind.wrap .i64 (p1 - (IntKind.wrap .i64 (((0 : Nat) : Int) - ((0 : Nat) : Int)))))).bind fun (x37 : (List ListChange)) => (slc x37 0 ((0 : Nat) : Int)).bind fun (x39 : (List ListChange)) => some x39) else (some ([] : (List ListChange)))).bind fun (s35 : (List ListChange)) => some s35)
/-- slices.Concat[[]api.ListChange,api.ListChange] -/
def slices_Concat_ListChange (N : Nat) (p0 : (List (List ListChange))) : Option ((List ListChange)) :=
  (fld p0.length (fun (k31 : Nat) (s32 : Int) => ((idx p0 (k31 : Int)).bind fun (x39 : (List ListChange)) => bif (decide ((IntKind.wrap .i64 (s32 + (x39.length : Int))) < 0)) then (none) else (some (IntKind.wrap .i64 (s32 + (x39.length : Int)))) : Option (Int))) 0).bind fun (s32 : Int) => (slices_Grow_ListChange_nil N s32).bind fun (x42 : (List ListChange)) => (fld p0.length (fun (k44 : Nat) (s45 : (List ListChange)) => ((idx p0 (k44 : Int)).bind fun (x61 : (List ListChange)) => (app 40 s45 x61).bind fun (x64 : (List ListChange)) => some x64 : Option ((List ListChange)))) x42).bind fun (s45 : (List ListChange)) => some s45
/-- etchhouseref2.Changes -/
def etchhouseref2_Changes (N : Nat) (p0 : (List PartType)) (p1 : Netlist) (p2 : Netlist) : Option ((List ListChange) × Int) :=
  (etchhouseref2_CheckList N p0 p1).bind fun (x34 : Int) => bif (x34 != 0) then (some (([] : (List ListChange)), x34)) else ((etchhouseref2_checkList N p0 p2).bind fun (x36 : Int) => bif (x36 != 0) then (some (([] : (List ListChange)), x36)) else ((fld p2.Parts.length (fun (k38 : Nat) (s39 : (List ListChange)) => ((idx p2.Parts (k38 : Int)).bind fun (x77 : Part) => (etchhouseref2_partOf N p1.Parts x77.Name).bind fun (x82 : Int) => (bif (decide (x82 < 0)) then ((app 40 s39 ([(⟨1, x77.Name, ⟨[]⟩⟩ : ListChange)] : (List ListChange))).bind fun (x91 : (List ListChange)) => some x91) else (some s39)).bind fun (s87 : (List ListChange)) => some s87 : Option ((List ListChange)))) ([] : (List ListChange))).bind fun (s39 : (List ListChange)) => (fld p1.Parts.length (fun (k95 : Nat) (s96 : (List ListChange) × (List ListChange) × (List ListChange)) => ((idx p1.Parts (k95 : Int)).bind fun (x354 : Part) => (etchhouseref2_partOf N p2.Parts x354.Name).bind fun (x359 : Int) => bif (decide (x359 < 0)) then ((app 40 s96.1 ([(⟨2, x354.Name, ⟨[]⟩⟩ : ListChange)] : (List ListChange))).bind fun (x366 : (List ListChange)) => some (x366, s96.2.1, s96.2.2)) else ((idx p2.Parts x359).bind fun (x369 : Part) => bif (!x369.Type_.eqb x354.Type_) then ((app 40 s96.2.1 ([(⟨3, x354.Name, ⟨[]⟩⟩ : ListChange)] : (List ListChange))).bind fun (x381 : (List ListChange)) => some (s96.1, x381, s96.2.2)) else ((etchhouseref2_typeOf N p0 x354.Type_).bind fun (x383 : Int) => (idx p0 x383).bind fun (x384 : PartType) => (fld x384.Pins.length (fun (k388 : Nat) (s389 : (List ListChange)) => ((idx x384.Pins (k388 : Int)).bind fun (x447 : PinType) => (etchhouseref2_netName N p1 (⟨x354.Name, x447.Name⟩ : Pin)).bind fun (x455 : Str) => (etchhouseref2_netName N p2 (⟨x354.Name, x447.Name⟩ : Pin)).bind fun (x458 : Str) => (bif (!x455.eqb x458) then ((app 40 s389 ([(⟨4, x354.Name, x447.Name⟩ : ListChange)] : (List ListChange))).bind fun (x471 : (List ListChange)) => some x471) else (some s389)).bind fun (s467 : (List ListChange)) => some s467 : Option ((List ListChange)))) s96.2.2).bind fun (s389 : (List ListChange)) => some (s96.1, s96.2.1, s389))) : Option ((List ListChange) × (List ListChange) × (List ListChange)))) (([] : (List ListChange)), ([] : (List ListChange)), ([] : (List ListChange)))).bind fun (s96 : (List ListChange) × (List ListChange) × (List ListChange)) => (slices_Concat_ListChange N ([s39, s96.1, s96.2.1, s96.2.2] : (List (List ListChange)))).bind fun (x479 : (List ListChange)) => some (x479, 0)))
/-- slices.Equal[[]api.ListChange,api.ListChange] -/
def slices_Equal_ListChange (N : Nat) (p0 : (List ListChange)) (p1 : (List ListChange)) : Option (Bool) :=
  bif ((p0.length : Int) != (p1.length : Int)) then (some false) else ((rng p0.length (fun (k31 : Nat) (s32 : Unit) => ((idx p0 (k31 : Int)).bind fun (x43 : ListChange) => (idx p1 (k31 : Int)).bind fun (x46 : ListChange) => bif (!(decide (x43 = x46))) then (some (.rt false)) else (some (.nx ())) : Option (Fl (Unit) Bool))) ()).bind fun (o53 : Fo (Unit) Bool) => o53.cs (fun (s32 : Unit) => some true) (fun r => some r))
/-- etchhouselaw2.NetlistChangesMatchSpec -/
def etchhouselaw2_NetlistChangesMatchSpec (N : Nat) (p0 : (List PartType)) (p1 : Netlist) (p2 : Netlist) : Option (Bool) :=
  (netlist_Changes N p0 p1 p2).bind fun (x35 : (List ListChange) × Int) => (etchhouseref2_Changes N p0 p1 p2).bind fun (x39 : (List ListChange) × Int) => (bif (x35.2 != x39.2) then (some true) else ((slices_Equal_ListChange N x35.1 x39.1).bind fun (x49 : Bool) => bif (!x49) then (some true) else ((etchhouselaw2_awake N ).bind fun (x51 : Bool) => some (!x51)))).bind fun (s47 : Bool) => bif s47 then (some false) else ((netlist_Changes N p0 p1 p1).bind fun (x54 : (List ListChange) × Int) => (bif (x54.2 != 0) then (some true) else (some ((x54.1.length : Int) == 0))).bind fun (s57 : Bool) => some s57)
/-- netlist.checkNames -/
def netlist_checkNames (N : Nat) (p0 : (List Str)) (p1 : Int) (p2 : Str → Option Bool) : Option (Int) :=
  bif (decide ((p0.length : Int) > p1)) then (some 2) else ((rng p0.length (fun (k31 : Nat) (s32 : Unit) => ((idx p0 (k31 : Int)).bind fun (x43 : Str) => (p2 x43).bind fun (x45 : Bool) => bif (!x45) then (some (.rt 9)) else ((bif (decide ((k31 : Int) > 0)) then ((idx p0 (IntKind.wrap .i64 ((k31 : Int) - 1))).bind fun (x51 : Str) => some (x43.ltb x51 || x43.eqb x51)) else (some false)).bind fun (s49 : Bool) => bif s49 then (some (.rt 8)) else (some (.nx ()))) : Option (Fl (Unit) Int))) ()).bind fun (o53 : Fo (Unit) Int) => o53.cs (fun (s32 : Unit) => some 0) (fun r => some r))
/-- cmp.isNaN[string] -/
def cmp_isNaN_string (N : Nat) (p0 : Str) : Option (Bool) :=
  some (!p0.eqb p0)
/-- cmp.Less[string] -/
def cmp_Less_string (N : Nat) (p0 : Str) (p1 : Str) : Option (Bool) :=
  ((cmp_isNaN_string N p0).bind fun (x36 : Bool) => bif x36 then ((cmp_isNaN_string N p1).bind fun (x38 : Bool) => some ((!x38) || (p0.ltb p1))) else (some (p0.ltb p1))).bind fun (s35 : Bool) => some s35
/-- slices.isNaN[string] -/
def slices_isNaN_string (N : Nat) (p0 : Str) : Option (Bool) :=
  some (!p0.eqb p0)
/-- slices.BinarySearch[[]string,string] -/
def slices_BinarySearch_string (N : Nat) (p0 : (List Str)) (p1 : Str) : Option (Int × Bool) :=
  (itr (fun (s32 : Int × Int) => (bif (decide (s32.1 < s32.2)) then ((idx p0 (IntKind.wrap .i64 (Int.fdiv (IntKind.wrap .u64 (IntKind.wrap .i64 (s32.1 + s32.2))) 2))).bind fun (x41 : Str) => (cmp_Less_string N x41 p1).bind fun (x43 : Bool) => (bif x43 then (some ((IntKind.wrap .i64 ((IntKind.wrap .i64 (Int.fdiv (IntKind.wrap .u64 (IntKind.wrap .i64 (s32.1 + s32.2))) 2)) + 1)), s32.2)) else (some (s32.1, (IntKind.wrap .i64 (Int.fdiv (IntKind.wrap .u64 (IntKind.wrap .i64 (s32.1 + s32.2))) 2))))).bind fun (s44 : Int × Int) => some (.nx (s44.1, s44.2))) else (some (.br (s32.1, s32.2))) : Option (Fl (Int × Int) Empty))) N (0, (p0.length : Int))).bind fun (o74 : Fo (Int × Int) Empty) => o74.cs (fun (s32 : Int × Int) => (bif (decide (s32.1 < (p0.length : Int))) then ((idx p0 s32.1).bind fun (x66 : Str) => bif (x66.eqb p1) then (some true) else ((idx p0 s32.1).bind fun (x69 : Str) => (slices_isNaN_string N x69).bind fun (x71 : Bool) => bif x71 then ((slices_isNaN_string N p1).bind fun (x73 : Bool) => some x73) else (some false))) else (some false)).bind fun (s64 : Bool) => some (s32.1, s64)) (fun r => r.elim)
/-- netlist.has -/
def netlist_has (N : Nat) (p0 : (List Str)) (p1 : Str) : Option (Bool) :=
  (slices_BinarySearch_string N p0 p1).bind fun (x31 : Int × Bool) => some x31.2
/-- slices.BinarySearchFunc[[]api.Net,api.Net,string] -/
def slices_BinarySearchFunc_Net_string (N : Nat) (p0 : (List Net)) (p1 : Str) (p2 : Net → Str → Option Int) : Option (Int × Bool) :=
  (itr (fun (s32 : Int × Int) => (bif (decide (s32.1 < s32.2)) then ((idx p0 (IntKind.wrap .i64 (Int.fdiv (IntKind.wrap .u64 (IntKind.wrap .i64 (s32.1 + s32.2))) 2))).bind fun (x43 : Net) => (p2 x43 p1).bind fun (x46 : Int) => (bif (decide (x46 < 0)) then (some ((IntKind.wrap .i64 ((IntKind.wrap .i64 (Int.fdiv (IntKind.wrap .u64 (IntKind.wrap .i64 (s32.1 + s32.2))) 2)) + 1)), s32.2)) else (some (s32.1, (IntKind.wrap .i64 (Int.fdiv (IntKind.wrap .u64 (IntKind.wrap .i64 (s32.1 + s32.2))) 2))))).bind fun (s47 : Int × Int) => some (.nx (s47.1, s47.2))) else (some (.br (s32.1, s32.2))) : Option (Fl (Int × Int) Empty))) N (0, (p0.length : Int))).bind fun (o59 : Fo (Int × Int) Empty) => o59.cs (fun (s32 : Int × Int) => (bif (decide (s32.1 < (p0.length : Int))) then ((idx p0 s32.1).bind fun (x55 : Net) => (p2 x55 p1).bind fun (x58 : Int) => some (x58 == 0)) else (some false)).bind fun (s53 : Bool) => some (s32.1, s53)) (fun r => r.elim)
/-- netlist.NetAt$1 -/
def netlist_NetAt_c1 (N : Nat) (p0 : Net) (p1 : Str) : Option (Int) :=
  (strings_Compare N p0.Name p1).bind fun (x32 : Int) => some x32
/-- netlist.NetAt -/
def netlist_NetAt (N : Nat) (p0 : Netlist) (p1 : Str) : Option (Int) :=
  (slices_BinarySearchFunc_Net_string N p0.Nets p1 (netlist_NetAt_c1 N)).bind fun (x33 : Int × Bool) => bif (!x33.2) then (some (-1)) else (some x33.1)
/-- netlist.Islands$1 -/
def netlist_Islands_c1 (N : Nat) (p0 : Str) (p1 : Netlist) : Option (Bool) :=
  (netlist_NetAt N p1 p0).bind fun (x32 : Int) => some (decide (x32 ≥ 0))
/-- netlist.NewUnion -/
def netlist_NewUnion (N : Nat) (p0 : Int) : Option (((List Int))) :=
  (mk 8 (0 : Int) p0).bind fun (x31 : (List Int)) => (fld x31.length (fun (k34 : Nat) (s35 : (List Int)) => ((idx s35 (k34 : Int)).bind fun (x38 : Int) => some (s35.set (Int.toNat (k34 : Int)) (k34 : Int)) : Option ((List Int)))) x31).bind fun (s35 : (List Int)) => some s35
/-- (*netlist.Union).Top -/
def netlist_Union_Top (N : Nat) (p0_0 : (List Int)) (p1 : Int) : Option (Int × (List Int)) :=
  (itr (fun (s32 : (List Int) × Int) => ((idx s32.1 s32.2).bind fun (x43 : Int) => bif (x43 != s32.2) then ((idx s32.1 s32.2).bind fun (x44 : Int) => (idx s32.1 x44).bind fun (x45 : Int) => (idx s32.1 s32.2).bind fun (x46 : Int) => (idx (s32.1.set (Int.toNat s32.2) x45) s32.2).bind fun (x47 : Int) => some (.nx ((s32.1.set (Int.toNat s32.2) x45), x47))) else (some (.br (s32.1, s32.2))) : Option (Fl ((List Int) × Int) Empty))) N (p0_0, p1)).bind fun (o48 : Fo ((List Int) × Int) Empty) => o48.cs (fun (s32 : (List Int) × Int) => some (s32.2, s32.1)) (fun r => r.elim)
/-- (*netlist.Union).Join -/
def netlist_Union_Join (N : Nat) (p0_0 : (List Int)) (p1 : Int) (p2 : Int) : Option ((List Int)) :=
  (netlist_Union_Top N p0_0 p1).bind fun (x31 : Int × (List Int)) => (netlist_Union_Top N x31.2 p2).bind fun (x33 : Int × (List Int)) => (idx x33.2 (if x31.1 < x33.1 then x33.1 else x31.1)).bind fun (x35 : Int) => some (x33.2.set (Int.toNat (if x31.1 < x33.1 then x33.1 else x31.1)) (if x33.1 < x31.1 then x33.1 else x31.1))
/-- (*netlist.Union).Sets -/
def netlist_Union_Sets (N : Nat) (p0_0 : (List Int)) : Option ((List (List Int)) × (List Int)) :=
  (fld p0_0.length (fun (k32 : Nat) (s33 : (List Int) × (List (List Int)) × (List (Int × Int))) => ((netlist_Union_Top N s33.1 (k32 : Int)).bind fun (x117 : Int × (List Int)) => (bif (x117.1 == (k32 : Int)) then ((app 24 s33.2.1 [([] : (List Int))]).bind fun (x126 : (List (List Int))) => some (x126, (mput s33.2.2 (k32 : Int) (s33.2.1.length : Int)))) else (some (s33.2.1, s33.2.2))).bind fun (s122 : (List (List Int)) × (List (Int × Int))) => (idx s122.1 (mget s122.2 x117.1 (0 : Int))).bind fun (x128 : (List Int)) => (app 8 x128 ([(k32 : Int)] : (List Int))).bind fun (x134 : (List Int)) => (idx s122.1 (mget s122.2 x117.1 (0 : Int))).bind fun (x136 : (List Int)) => some (x117.2, (s122.1.set (Int.toNat (mget s122.2 x117.1 (0 : Int))) x134), s122.2) : Option ((List Int) × (List (List Int)) × (List (Int × Int))))) (p0_0, ([] : (List (List Int))), ([] : (List (Int × Int))))).bind fun (s33 : (List Int) × (List (List Int)) × (List (Int × Int))) => some (s33.2.1, s33.1)
/-- netlist.Islands -/
def netlist_Islands (N : Nat) (p0 : (List PartType)) (p1 : Netlist) (p2 : (List Str)) : Option ((List (List Str)) × Int) :=
  (netlist_CheckList N p0 p1).bind fun (x33 : Int) => bif (x33 != 0) then (some (([] : (List (List Str))), x33)) else ((netlist_checkNames N p2 1000 (fun y0 => netlist_Islands_c1 N y0 p1)).bind fun (x34 : Int) => bif (x34 != 0) then (some (([] : (List (List Str))), x34)) else ((netlist_NewUnion N (p1.Parts.length : Int)).bind fun (x37 : ((List Int))) => (fld p1.Nets.length (fun (k42 : Nat) (s43 : (List Int)) => ((idx p1.Nets (k42 : Int)).bind fun (x223 : Net) => (netlist_has N p2 x223.Name).bind fun (x227 : Bool) => bif x227 then (some s43) else ((fld x223.Pins.length (fun (k229 : Nat) (s230 : (List Int)) => ((idx x223.Pins (k229 : Int)).bind fun (x284 : Pin) => (netlist_partAt N p1.Parts x284.Part).bind fun (x290 : Int) => (idx x223.Pins 0).bind fun (x294 : Pin) => (netlist_partAt N p1.Parts x294.Part).bind fun (x297 : Int) => (netlist_Union_Join N s230 x290 x297).bind fun (x298 : (List Int)) => some x298 : Option ((List Int)))) s43).bind fun (s230 : (List Int)) => some s230) : Option ((List Int)))) x37).bind fun (s43 : (List Int)) => (netlist_Union_Sets N s43).bind fun (x311 : (List (List Int)) × (List Int)) => (fld x311.1.length (fun (k314 : Nat) (s315 : (List (List Str))) => ((idx x311.1 (k314 : Int)).bind fun (x409 : (List Int)) => (fld x409.length (fun (k411 : Nat) (s412 : (List Str)) => ((idx x409 (k411 : Int)).bind fun (x438 : Int) => (idx p1.Parts x438).bind fun (x442 : Part) => (app 16 s412 ([x442.Name] : (List Str))).bind fun (x446 : (List Str)) => some x446 : Option ((List Str)))) ([] : (List Str))).bind fun (s412 : (List Str)) => (app 24 s315 ([s412] : (List (List Str)))).bind fun (x450 : (List (List Str))) => some x450 : Option ((List (List Str))))) ([] : (List (List Str)))).bind fun (s315 : (List (List Str))) => some (s315, 0)))
/-- etchhouseref2.netNamed -/
def etchhouseref2_netNamed (N : Nat) (p0 : Netlist) (p1 : Str) : Option (Int) :=
  (rng p0.Nets.length (fun (k33 : Nat) (s34 : Unit) => ((idx p0.Nets (k33 : Int)).bind fun (x39 : Net) => bif (x39.Name.eqb p1) then (some (.rt (k33 : Int))) else (some (.nx ())) : Option (Fl (Unit) Int))) ()).bind fun (o43 : Fo (Unit) Int) => o43.cs (fun (s34 : Unit) => some (-1)) (fun r => some r)
/-- etchhouseref2.checkNetNames -/
def etchhouseref2_checkNetNames (N : Nat) (p0 : Netlist) (p1 : (List Str)) : Option (Int) :=
  bif (decide ((p1.length : Int) > 1000)) then (some 2) else ((rng p1.length (fun (k32 : Nat) (s33 : Unit) => ((idx p1 (k32 : Int)).bind fun (x45 : Str) => (etchhouseref2_netNamed N p0 x45).bind fun (x48 : Int) => bif (decide (x48 < 0)) then (some (.rt 9)) else ((bif (decide ((k32 : Int) > 0)) then ((idx p1 (IntKind.wrap .i64 ((k32 : Int) - 1))).bind fun (x54 : Str) => some (x45.ltb x54 || x45.eqb x54)) else (some false)).bind fun (s52 : Bool) => bif s52 then (some (.rt 8)) else (some (.nx ()))) : Option (Fl (Unit) Int))) ()).bind fun (o56 : Fo (Unit) Int) => o56.cs (fun (s33 : Unit) => some 0) (fun r => some r))
/-- slices.Index[[]string,string] -/
def slices_Index_string (N : Nat) (p0 : (List Str)) (p1 : Str) : Option (Int) :=
  (rng p0.length (fun (k31 : Nat) (s32 : Unit) => ((idx p0 (k31 : Int)).bind fun (x35 : Str) => bif (p1.eqb x35) then (some (.rt (k31 : Int))) else (some (.nx ())) : Option (Fl (Unit) Int))) ()).bind fun (o37 : Fo (Unit) Int) => o37.cs (fun (s32 : Unit) => some (-1)) (fun r => some r)
/-- slices.Contains[[]string,string] -/
def slices_Contains_string (N : Nat) (p0 : (List Str)) (p1 : Str) : Option (Bool) :=
  (slices_Index_string N p0 p1).bind fun (x31 : Int) => some (decide (x31 ≥ 0))
/-- etchhouseref2.island -/
def etchhouseref2_island (N : Nat) (p0 : Netlist) (p1 : (List Str)) (p2 : Int) : Option ((List Int)) :=
  (mk 1 (false : Bool) (p0.Parts.length : Int)).bind fun (x33 : (List Bool)) => (idx x33 p2).bind fun (x35 : Bool) => (itr (fun (s37 : (List Bool) × Bool) => (bif s37.2 then ((fld p0.Nets.length (fun (k593 : Nat) (s594 : (List Bool) × Bool) => ((idx p0.Nets (k593 : Int)).bind fun (x777 : Net) => (slices_Contains_string N p1 x777.Name).bind fun (x781 : Bool) => bif x781 then (some (s594.1, s594.2)) else ((fld x777.Pins.length (fun (k783 : Nat) (s784 : Bool) => ((idx x777.Pins (k783 : Int)).bind fun (x808 : Pin) => (bif s784 then (some true) else ((etchhouseref2_partOf N p0.Parts x808.Part).bind fun (x819 : Int) => (idx s594.1 x819).bind fun (x820 : Bool) => some x820)).bind fun (s816 : Bool) => some s816 : Option (Bool))) false).bind fun (s784 : Bool) => (fld x777.Pins.length (fun (k822 : Nat) (s823 : (List Bool) × Bool) => ((idx x777.Pins (k822 : Int)).bind fun (x852 : Pin) => (etchhouseref2_partOf N p0.Parts x852.Part).bind fun (x857 : Int) => (bif s784 then ((idx s823.1 x857).bind fun (x862 : Bool) => some (!x862)) else (some false)).bind fun (s860 : Bool) => (bif s860 then ((idx s823.1 x857).bind fun (x865 : Bool) => some ((s823.1.set (Int.toNat x857) true), true)) else (some (s823.1, s823.2))).bind fun (s864 : (List Bool) × Bool) => some (s864.1, s864.2) : Option ((List Bool) × Bool))) (s594.1, s594.2)).bind fun (s823 : (List Bool) × Bool) => some (s823.1, s823.2)) : Option ((List Bool) × Bool))) (s37.1, false)).bind fun (s594 : (List Bool) × Bool) => some (.nx (s594.1, s594.2))) else (some (.br (s37.1, s37.2))) : Option (Fl ((List Bool) × Bool) Empty))) N ((x33.set (Int.toNat p2) true), true)).bind fun (o905 : Fo ((List Bool) × Bool) Empty) => o905.cs (fun (s37 : (List Bool) × Bool) => (fld s37.1.length (fun (k869 : Nat) (s870 : (List Int)) => ((idx s37.1 (k869 : Int)).bind fun (x894 : Bool) => (bif x894 then ((app 8 s870 ([(k869 : Int)] : (List Int))).bind fun (x901 : (List Int)) => some x901) else (some s870)).bind fun (s898 : (List Int)) => some s898 : Option ((List Int)))) ([] : (List Int))).bind fun (s870 : (List Int)) => some s870) (fun r => r.elim)
/-- etchhouseref2.Islands -/
def etchhouseref2_Islands (N : Nat) (p0 : (List PartType)) (p1 : Netlist) (p2 : (List Str)) : Option ((List (List Str)) × Int) :=
  (etchhouseref2_CheckList N p0 p1).bind fun (x33 : Int) => bif (x33 != 0) then (some (([] : (List (List Str))), x33)) else ((etchhouseref2_checkNetNames N p1 p2).bind fun (x35 : Int) => bif (x35 != 0) then (some (([] : (List (List Str))), x35)) else ((mk 1 (false : Bool) (p1.Parts.length : Int)).bind fun (x37 : (List Bool)) => (fld p1.Parts.length (fun (k40 : Nat) (s41 : (List Bool) × (List (List Str))) => ((idx s41.1 (k40 : Int)).bind fun (x133 : Bool) => bif x133 then (some (s41.1, s41.2)) else ((etchhouseref2_island N p1 p2 (k40 : Int)).bind fun (x135 : (List Int)) => (fld x135.length (fun (k137 : Nat) (s138 : (List Bool) × (List Str)) => ((idx x135 (k137 : Int)).bind fun (x162 : Int) => (idx s138.1 x162).bind fun (x163 : Bool) => (idx p1.Parts x162).bind fun (x165 : Part) => (app 16 s138.2 ([x165.Name] : (List Str))).bind fun (x169 : (List Str)) => some ((s138.1.set (Int.toNat x162) true), x169) : Option ((List Bool) × (List Str)))) (s41.1, ([] : (List Str)))).bind fun (s138 : (List Bool) × (List Str)) => (app 24 s41.2 ([s138.2] : (List (List Str)))).bind fun (x173 : (List (List Str))) => some (s138.1, x173)) : Option ((List Bool) × (List (List Str))))) (x37, ([] : (List (List Str))))).bind fun (s41 : (List Bool) × (List (List Str))) => some (s41.2, 0)))
/-- etchhouseref2.SameRows -/
def etchhouseref2_SameRows (N : Nat) (p0 : (List (List Str))) (p1 : (List (List Str))) : Option (Bool) :=
  bif ((p0.length : Int) != (p1.length : Int)) then (some false) else ((rng p0.length (fun (k31 : Nat) (s32 : Unit) => ((idx p0 (k31 : Int)).bind fun (x44 : (List Str)) => (idx p1 (k31 : Int)).bind fun (x47 : (List Str)) => (slices_Equal_string N x44 x47).bind fun (x50 : Bool) => bif (!x50) then (some (.rt false)) else (some (.nx ())) : Option (Fl (Unit) Bool))) ()).bind fun (o55 : Fo (Unit) Bool) => o55.cs (fun (s32 : Unit) => some true) (fun r => some r))
/-- etchhouselaw2.NetlistIslandsMatchSpec -/
def etchhouselaw2_NetlistIslandsMatchSpec (N : Nat) (p0 : (List PartType)) (p1 : Netlist) (p2 : (List Str)) : Option (Bool) :=
  (netlist_Islands N p0 p1 p2).bind fun (x33 : (List (List Str)) × Int) => (etchhouseref2_Islands N p0 p1 p2).bind fun (x36 : (List (List Str)) × Int) => (bif (x33.2 == x36.2) then ((etchhouseref2_SameRows N x33.1 x36.1).bind fun (x46 : Bool) => bif x46 then ((etchhouselaw2_awake N ).bind fun (x48 : Bool) => some x48) else (some false)) else (some false)).bind fun (s44 : Bool) => some s44
end Go.Gk
