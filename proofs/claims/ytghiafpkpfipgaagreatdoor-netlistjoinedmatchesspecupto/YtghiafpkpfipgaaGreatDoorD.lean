/-
  Printed by gen.py: Go types as plain structures, and Go functions as plain functions.
-/
import Derived.Test.YtghiafpkpfipgaaGreatDoorK22
import Derived.Test.YtghiafpkpfipgaaGreatDoorK26
import Derived.Test.YtghiafpkpfipgaaGreatDoorK18
set_option linter.unusedVariables false

namespace Go.Gk
open Go
noncomputable section
structure PinType where
  Name : Str
  Kind : Int
  Group : Int
  deriving DecidableEq, Inhabited
structure PartType where
  Name : Str
  Pins : (List PinType)
  deriving DecidableEq, Inhabited
structure Part where
  Name : Str
  Type_ : Str
  deriving DecidableEq, Inhabited
structure Pin where
  Part : Str
  Pin : Str
  deriving DecidableEq, Inhabited
structure Net where
  Name : Str
  Pins : (List Pin)
  Ports : (List Str)
  deriving DecidableEq, Inhabited
structure Netlist where
  Parts : (List Part)
  Nets : (List Net)
  deriving DecidableEq, Inhabited
/-- internal/stringslite.IndexByte -/
def stringslite_IndexByte (N : Nat) (p0 : Str) (p1 : Int) : Option (Int) :=
  some (Lib.indexByte p0.toL (Int.toNat p1).toUInt8)
/-- strings.IndexByte -/
def strings_IndexByte (N : Nat) (p0 : Str) (p1 : Int) : Option (Int) :=
  (stringslite_IndexByte N p0 p1).bind fun (x31 : Int) => some x31
/-- netlist.IsWord -/
def netlist_IsWord (N : Nat) (p0 : Str) : Option (Bool) :=
  (rng p0.toL.length (fun (k31 : Nat) (s32 : Unit) => ((sidx p0 (k31 : Int)).bind fun (x39 : UInt8) => (bif ((((decide ((x39.toNat : Int) < 65)) || (decide ((x39.toNat : Int) > 90))) && ((decide ((x39.toNat : Int) < 97)) || (decide ((x39.toNat : Int) > 122)))) && ((decide ((x39.toNat : Int) < 48)) || (decide ((x39.toNat : Int) > 57)))) then ((strings_IndexByte N (⟨[95, 43, 45, 35]⟩) (x39.toNat : Int)).bind fun (x44 : Int) => some (decide (x44 < 0))) else (some false)).bind fun (s42 : Bool) => bif s42 then (some (.rt false)) else (some (.nx ())) : Option (Fl (Unit) Bool))) ()).bind fun (o45 : Fo (Unit) Bool) => o45.cs (fun (s32 : Unit) => some ((decide ((p0.toL.length : Int) ≥ 1)) && (decide ((p0.toL.length : Int) ≤ 40)))) (fun r => some r)
/-- netlist.checkPins$1 -/
def netlist_checkPins_c1 (N : Nat) (p0 : PinType) (p1 : PinType) : Option (Bool) :=
  (bif (decide (p1.Group > 0)) then (bif (p0.Group == p1.Group) then (some (p0.Kind != p1.Kind)) else (some false)) else (some false)).bind fun (s41 : Bool) => some s41
/-- slices.IndexFunc[[]api.PinType,api.PinType] -/
def slices_IndexFunc_PinType (N : Nat) (p0 : (List PinType)) (p1 : PinType → Option Bool) : Option (Int) :=
  (rng p0.length (fun (k31 : Nat) (s32 : Unit) => ((idx p0 (k31 : Int)).bind fun (x37 : PinType) => (p1 x37).bind fun (x40 : Bool) => bif x40 then (some (.rt (k31 : Int))) else (some (.nx ())) : Option (Fl (Unit) Int))) ()).bind fun (o41 : Fo (Unit) Int) => o41.cs (fun (s32 : Unit) => some (-1)) (fun r => some r)
/-- slices.ContainsFunc[[]api.PinType,api.PinType] -/
def slices_ContainsFunc_PinType (N : Nat) (p0 : (List PinType)) (p1 : PinType → Option Bool) : Option (Bool) :=
  (slices_IndexFunc_PinType N p0 p1).bind fun (x31 : Int) => some (decide (x31 ≥ 0))
/-- netlist.checkPins -/
def netlist_checkPins (N : Nat) (p0 : (List PinType)) : Option (Int) :=
  bif ((p0.length : Int) == 0) then (some 9) else (bif (decide ((p0.length : Int) > 200)) then (some 2) else ((rng p0.length (fun (k31 : Nat) (s32 : Unit) => ((idx p0 (k31 : Int)).bind fun (x142 : PinType) => (netlist_IsWord N x142.Name).bind fun (x146 : Bool) => bif (!x146) then (some (.rt 5)) else (bif ((decide (x142.Kind < 1)) || (decide (x142.Kind > 7))) then (some (.rt 4)) else (bif ((decide (x142.Group < 0)) || (decide (x142.Group > 200))) then (some (.rt 1)) else ((bif (decide ((k31 : Int) > 0)) then ((idx p0 (IntKind.wrap .i64 ((k31 : Int) - 1))).bind fun (x246 : PinType) => some (x142.Name.ltb x246.Name || x142.Name.eqb x246.Name)) else (some false)).bind fun (s244 : Bool) => bif s244 then (some (.rt 8)) else (some (.nx ()))))) : Option (Fl (Unit) Int))) ()).bind fun (o268 : Fo (Unit) Int) => o268.cs (fun (s32 : Unit) => (rng p0.length (fun (k251 : Nat) (s252 : Unit) => ((idx p0 (k251 : Int)).bind fun (x260 : PinType) => (slc p0 0 (k251 : Int)).bind fun (x264 : (List PinType)) => (slices_ContainsFunc_PinType N x264 (fun y0 => netlist_checkPins_c1 N y0 x260)).bind fun (x266 : Bool) => bif x266 then (some (.rt 12)) else (some (.nx ())) : Option (Fl (Unit) Int))) ()).bind fun (o267 : Fo (Unit) Int) => o267.cs (fun (s252 : Unit) => some 0) (fun r => some r)) (fun r => some r)))
/-- netlist.CheckTypes -/
def netlist_CheckTypes (N : Nat) (p0 : (List PartType)) : Option (Int) :=
  bif (decide ((p0.length : Int) > 200)) then (some 2) else ((rng p0.length (fun (k31 : Nat) (s32 : Unit) => ((idx p0 (k31 : Int)).bind fun (x53 : PartType) => (netlist_IsWord N x53.Name).bind fun (x57 : Bool) => bif (!x57) then (some (.rt 5)) else ((netlist_checkPins N x53.Pins).bind fun (x59 : Int) => bif (x59 != 0) then (some (.rt x59)) else ((bif (decide ((k31 : Int) > 0)) then ((idx p0 (IntKind.wrap .i64 ((k31 : Int) - 1))).bind fun (x68 : PartType) => some (x53.Name.ltb x68.Name || x53.Name.eqb x68.Name)) else (some false)).bind fun (s66 : Bool) => bif s66 then (some (.rt 8)) else (some (.nx ())))) : Option (Fl (Unit) Int))) ()).bind fun (o73 : Fo (Unit) Int) => o73.cs (fun (s32 : Unit) => some 0) (fun r => some r))
/-- slices.BinarySearchFunc[[]api.PartType,api.PartType,string] -/
def slices_BinarySearchFunc_PartType_string (N : Nat) (p0 : (List PartType)) (p1 : Str) (p2 : PartType → Str → Option Int) : Option (Int × Bool) :=
  (itr (fun (s32 : Int × Int) => (bif (decide (s32.1 < s32.2)) then ((idx p0 (IntKind.wrap .i64 (Int.fdiv (IntKind.wrap .u64 (IntKind.wrap .i64 (s32.1 + s32.2))) 2))).bind fun (x43 : PartType) => (p2 x43 p1).bind fun (x46 : Int) => (bif (decide (x46 < 0)) then (some ((IntKind.wrap .i64 ((IntKind.wrap .i64 (Int.fdiv (IntKind.wrap .u64 (IntKind.wrap .i64 (s32.1 + s32.2))) 2)) + 1)), s32.2)) else (some (s32.1, (IntKind.wrap .i64 (Int.fdiv (IntKind.wrap .u64 (IntKind.wrap .i64 (s32.1 + s32.2))) 2))))).bind fun (s47 : Int × Int) => some (.nx (s47.1, s47.2))) else (some (.br (s32.1, s32.2))) : Option (Fl (Int × Int) Empty))) N (0, (p0.length : Int))).bind fun (o59 : Fo (Int × Int) Empty) => o59.cs (fun (s32 : Int × Int) => (bif (decide (s32.1 < (p0.length : Int))) then ((idx p0 s32.1).bind fun (x55 : PartType) => (p2 x55 p1).bind fun (x58 : Int) => some (x58 == 0)) else (some false)).bind fun (s53 : Bool) => some (s32.1, s53)) (fun r => r.elim)
/-- internal/bytealg.CompareString -/
def bytealg_CompareString (N : Nat) (p0 : Str) (p1 : Str) : Option (Int) :=
  some (Lib.compareBytes p0.toL p1.toL)
/-- strings.Compare -/
def strings_Compare (N : Nat) (p0 : Str) (p1 : Str) : Option (Int) :=
  (bytealg_CompareString N p0 p1).bind fun (x31 : Int) => some x31
/-- netlist.TypeAt$1 -/
def netlist_TypeAt_c1 (N : Nat) (p0 : PartType) (p1 : Str) : Option (Int) :=
  (strings_Compare N p0.Name p1).bind fun (x32 : Int) => some x32
/-- netlist.TypeAt -/
def netlist_TypeAt (N : Nat) (p0 : (List PartType)) (p1 : Str) : Option (Int) :=
  (slices_BinarySearchFunc_PartType_string N p0 p1 (netlist_TypeAt_c1 N)).bind fun (x31 : Int × Bool) => bif (!x31.2) then (some (-1)) else (some x31.1)
/-- netlist.checkParts -/
def netlist_checkParts (N : Nat) (p0 : (List PartType)) (p1 : (List Part)) (p2 : Str → Option Bool) : Option (Int) :=
  bif (decide ((p1.length : Int) > 1000)) then (some 2) else ((rng p1.length (fun (k31 : Nat) (s32 : Unit) => ((idx p1 (k31 : Int)).bind fun (x92 : Part) => (p2 x92.Name).bind fun (x96 : Bool) => bif (!x96) then (some (.rt 5)) else ((netlist_TypeAt N p0 x92.Type_).bind fun (x124 : Int) => bif (decide (x124 < 0)) then (some (.rt 9)) else ((bif (decide ((k31 : Int) > 0)) then ((idx p1 (IntKind.wrap .i64 ((k31 : Int) - 1))).bind fun (x146 : Part) => some (x92.Name.ltb x146.Name || x92.Name.eqb x146.Name)) else (some false)).bind fun (s144 : Bool) => bif s144 then (some (.rt 8)) else (some (.nx ())))) : Option (Fl (Unit) Int))) ()).bind fun (o151 : Fo (Unit) Int) => o151.cs (fun (s32 : Unit) => some 0) (fun r => some r))
/-- internal/stringslite.Index -/
def stringslite_Index (N : Nat) (p0 : Str) (p1 : Str) : Option (Int) :=
  bif (((p1.toL.length : Int) == 0) || (p1.eqb p0)) then (some 0) else (bif ((p1.toL.length : Int) == 1) then ((sidx p1 0).bind fun (x37 : UInt8) => (stringslite_IndexByte N p0 (x37.toNat : Int)).bind fun (x38 : Int) => some x38) else (bif (decide ((p1.toL.length : Int) ≥ (p0.toL.length : Int))) then (some (-1)) else (none)))
/-- strings.Index -/
def strings_Index (N : Nat) (p0 : Str) (p1 : Str) : Option (Int) :=
  (stringslite_Index N p0 p1).bind fun (x31 : Int) => some x31
/-- strings.Count -/
def strings_Count (N : Nat) (p0 : Str) (p1 : Str) : Option (Int) :=
  bif ((p1.toL.length : Int) == 0) then (none) else (bif ((p1.toL.length : Int) == 1) then ((sidx p1 0).bind fun (x32 : UInt8) => some ((Lib.countByte p0.toL (Int.toNat (x32.toNat : Int)).toUInt8 : Nat) : Int)) else ((itr (fun (s34 : Str × Int) => ((strings_Index N s34.1 p1).bind fun (x39 : Int) => bif (x39 == (-1)) then (some (.rt s34.2)) else ((scut s34.1 (IntKind.wrap .i64 (x39 + (p1.toL.length : Int))) (s34.1.toL.length : Int)).bind fun (x40 : Str) => some (.nx (x40, (IntKind.wrap .i64 (s34.2 + 1))))) : Option (Fl (Str × Int) Int))) N (p0, 0)).bind fun (o41 : Fo (Str × Int) Int) => o41.cs (fun (s34 : Str × Int) => some 0) (fun r => some r)))
/-- strings.genSplit -/
def strings_genSplit (N : Nat) (p0 : Str) (p1 : Str) (p2 : Int) (p3 : Int) : Option ((List Str)) :=
  bif (p3 == 0) then (some ([] : (List Str))) else (bif (p1.eqb (⟨[]⟩)) then (none) else ((bif (decide (p3 < 0)) then ((strings_Count N p0 p1).bind fun (x33 : Int) => some (IntKind.wrap .i64 (x33 + 1))) else (some p3)).bind fun (s32 : Int) => (mk 16 (⟨[]⟩ : Str) (if (IntKind.wrap .i64 ((p0.toL.length : Int) + 1)) < s32 then (IntKind.wrap .i64 ((p0.toL.length : Int) + 1)) else s32)).bind fun (x34 : (List Str)) => (itr (fun (s37 : Str × (List Str) × Int) => (bif (decide (s37.2.2 < (IntKind.wrap .i64 ((if (IntKind.wrap .i64 ((p0.toL.length : Int) + 1)) < s32 then (IntKind.wrap .i64 ((p0.toL.length : Int) + 1)) else s32) - 1)))) then ((strings_Index N s37.1 p1).bind fun (x46 : Int) => bif (decide (x46 < 0)) then (some (.br (s37.1, s37.2.1, s37.2.2))) else ((scut s37.1 0 (IntKind.wrap .i64 (x46 + p2))).bind fun (x47 : Str) => (idx s37.2.1 s37.2.2).bind fun (x48 : Str) => (scut s37.1 (IntKind.wrap .i64 (x46 + (p1.toL.length : Int))) (s37.1.toL.length : Int)).bind fun (x49 : Str) => some (.nx (x49, (s37.2.1.set (Int.toNat s37.2.2) x47), (IntKind.wrap .i64 (s37.2.2 + 1)))))) else (some (.br (s37.1, s37.2.1, s37.2.2))) : Option (Fl (Str × (List Str) × Int) Empty))) N (p0, x34, 0)).bind fun (o53 : Fo (Str × (List Str) × Int) Empty) => o53.cs (fun (s37 : Str × (List Str) × Int) => (idx s37.2.1 s37.2.2).bind fun (x50 : Str) => (slc (s37.2.1.set (Int.toNat s37.2.2) s37.1) 0 (IntKind.wrap .i64 (s37.2.2 + 1))).bind fun (x51 : (List Str)) => some x51) (fun r => r.elim)))
/-- strings.Split -/
def strings_Split (N : Nat) (p0 : Str) (p1 : Str) : Option ((List Str)) :=
  (strings_genSplit N p0 p1 0 (-1)).bind fun (x31 : (List Str)) => some x31
/-- slices.IndexFunc[[]string,string] -/
def slices_IndexFunc_string (N : Nat) (p0 : (List Str)) (p1 : Str → Option Bool) : Option (Int) :=
  (rng p0.length (fun (k31 : Nat) (s32 : Unit) => ((idx p0 (k31 : Int)).bind fun (x36 : Str) => (p1 x36).bind fun (x38 : Bool) => bif x38 then (some (.rt (k31 : Int))) else (some (.nx ())) : Option (Fl (Unit) Int))) ()).bind fun (o39 : Fo (Unit) Int) => o39.cs (fun (s32 : Unit) => some (-1)) (fun r => some r)
/-- slices.ContainsFunc[[]string,string] -/
def slices_ContainsFunc_string (N : Nat) (p0 : (List Str)) (p1 : Str → Option Bool) : Option (Bool) :=
  (slices_IndexFunc_string N p0 p1).bind fun (x31 : Int) => some (decide (x31 ≥ 0))
/-- netlist.IsPath$1 -/
def netlist_IsPath_c1 (N : Nat) (p0 : Str) : Option (Bool) :=
  (netlist_IsWord N p0).bind fun (x31 : Bool) => some (!x31)
/-- netlist.IsPath -/
def netlist_IsPath (N : Nat) (p0 : Str) : Option (Bool) :=
  (bif (decide ((p0.toL.length : Int) ≤ 200)) then ((strings_Split N p0 (⟨[47]⟩)).bind fun (x37 : (List Str)) => (slices_ContainsFunc_string N x37 (netlist_IsPath_c1 N)).bind fun (x39 : Bool) => some (!x39)) else (some false)).bind fun (s35 : Bool) => some s35
/-- slices.BinarySearchFunc[[]api.Part,api.Part,string] -/
def slices_BinarySearchFunc_Part_string (N : Nat) (p0 : (List Part)) (p1 : Str) (p2 : Part → Str → Option Int) : Option (Int × Bool) :=
  (itr (fun (s32 : Int × Int) => (bif (decide (s32.1 < s32.2)) then ((idx p0 (IntKind.wrap .i64 (Int.fdiv (IntKind.wrap .u64 (IntKind.wrap .i64 (s32.1 + s32.2))) 2))).bind fun (x43 : Part) => (p2 x43 p1).bind fun (x46 : Int) => (bif (decide (x46 < 0)) then (some ((IntKind.wrap .i64 ((IntKind.wrap .i64 (Int.fdiv (IntKind.wrap .u64 (IntKind.wrap .i64 (s32.1 + s32.2))) 2)) + 1)), s32.2)) else (some (s32.1, (IntKind.wrap .i64 (Int.fdiv (IntKind.wrap .u64 (IntKind.wrap .i64 (s32.1 + s32.2))) 2))))).bind fun (s47 : Int × Int) => some (.nx (s47.1, s47.2))) else (some (.br (s32.1, s32.2))) : Option (Fl (Int × Int) Empty))) N (0, (p0.length : Int))).bind fun (o59 : Fo (Int × Int) Empty) => o59.cs (fun (s32 : Int × Int) => (bif (decide (s32.1 < (p0.length : Int))) then ((idx p0 s32.1).bind fun (x55 : Part) => (p2 x55 p1).bind fun (x58 : Int) => some (x58 == 0)) else (some false)).bind fun (s53 : Bool) => some (s32.1, s53)) (fun r => r.elim)
/-- netlist.partAt$1 -/
def netlist_partAt_c1 (N : Nat) (p0 : Part) (p1 : Str) : Option (Int) :=
  (strings_Compare N p0.Name p1).bind fun (x32 : Int) => some x32
/-- netlist.partAt -/
def netlist_partAt (N : Nat) (p0 : (List Part)) (p1 : Str) : Option (Int) :=
  (slices_BinarySearchFunc_Part_string N p0 p1 (netlist_partAt_c1 N)).bind fun (x31 : Int × Bool) => bif (!x31.2) then (some (-1)) else (some x31.1)
/-- slices.BinarySearchFunc[[]api.PinType,api.PinType,string] -/
def slices_BinarySearchFunc_PinType_string (N : Nat) (p0 : (List PinType)) (p1 : Str) (p2 : PinType → Str → Option Int) : Option (Int × Bool) :=
  (itr (fun (s32 : Int × Int) => (bif (decide (s32.1 < s32.2)) then ((idx p0 (IntKind.wrap .i64 (Int.fdiv (IntKind.wrap .u64 (IntKind.wrap .i64 (s32.1 + s32.2))) 2))).bind fun (x43 : PinType) => (p2 x43 p1).bind fun (x46 : Int) => (bif (decide (x46 < 0)) then (some ((IntKind.wrap .i64 ((IntKind.wrap .i64 (Int.fdiv (IntKind.wrap .u64 (IntKind.wrap .i64 (s32.1 + s32.2))) 2)) + 1)), s32.2)) else (some (s32.1, (IntKind.wrap .i64 (Int.fdiv (IntKind.wrap .u64 (IntKind.wrap .i64 (s32.1 + s32.2))) 2))))).bind fun (s47 : Int × Int) => some (.nx (s47.1, s47.2))) else (some (.br (s32.1, s32.2))) : Option (Fl (Int × Int) Empty))) N (0, (p0.length : Int))).bind fun (o59 : Fo (Int × Int) Empty) => o59.cs (fun (s32 : Int × Int) => (bif (decide (s32.1 < (p0.length : Int))) then ((idx p0 s32.1).bind fun (x55 : PinType) => (p2 x55 p1).bind fun (x58 : Int) => some (x58 == 0)) else (some false)).bind fun (s53 : Bool) => some (s32.1, s53)) (fun r => r.elim)
/-- netlist.PinAt$1 -/
def netlist_PinAt_c1 (N : Nat) (p0 : PinType) (p1 : Str) : Option (Int) :=
  (strings_Compare N p0.Name p1).bind fun (x32 : Int) => some x32
/-- netlist.PinAt -/
def netlist_PinAt (N : Nat) (p0 : PartType) (p1 : Str) : Option (Int) :=
  (slices_BinarySearchFunc_PinType_string N p0.Pins p1 (netlist_PinAt_c1 N)).bind fun (x33 : Int × Bool) => bif (!x33.2) then (some (-1)) else (some x33.1)
/-- netlist.hasPin -/
def netlist_hasPin (N : Nat) (p0 : (List PartType)) (p1 : (List Part)) (p2 : Pin) : Option (Bool) :=
  (netlist_partAt N p1 p2.Part).bind fun (x32 : Int) => (bif (decide (x32 ≥ 0)) then ((idx p1 x32).bind fun (x48 : Part) => (netlist_TypeAt N p0 x48.Type_).bind fun (x51 : Int) => (idx p0 x51).bind fun (x52 : PartType) => (netlist_PinAt N x52 p2.Pin).bind fun (x55 : Int) => some (decide (x55 ≥ 0))) else (some false)).bind fun (s46 : Bool) => some s46
/-- netlist.CheckList$1 -/
def netlist_CheckList_c1 (N : Nat) (p0 : Pin) (p1 : (List PartType)) (p2 : Netlist) : Option (Bool) :=
  (netlist_hasPin N p1 p2.Parts p0).bind fun (x36 : Bool) => some x36
/-- netlist.ComparePins -/
def netlist_ComparePins (N : Nat) (p0 : Pin) (p1 : Pin) : Option (Int) :=
  (strings_Compare N p0.Part p1.Part).bind fun (x33 : Int) => bif (x33 != 0) then (some x33) else ((strings_Compare N p0.Pin p1.Pin).bind fun (x34 : Int) => some x34)
/-- netlist.checkNetPins -/
def netlist_checkNetPins (N : Nat) (p0 : (List Pin)) (p1 : Pin → Option Bool) (p2 : (List (Pin × Bool))) : Option (Int × (List (Pin × Bool))) :=
  bif (decide ((p0.length : Int) > 500)) then (some (2, p2)) else ((rng p0.length (fun (k31 : Nat) (s32 : Unit) => ((idx p0 (k31 : Int)).bind fun (x81 : Pin) => (p1 x81).bind fun (x86 : Bool) => bif (!x86) then (some (.rt (9, p2))) else ((bif (decide ((k31 : Int) > 0)) then ((idx p0 (IntKind.wrap .i64 ((k31 : Int) - 1))).bind fun (x120 : Pin) => (netlist_ComparePins N x81 x120).bind fun (x123 : Int) => some (decide (x123 ≤ 0))) else (some false)).bind fun (s117 : Bool) => bif s117 then (some (.rt (8, p2))) else (bif (mget p2 x81 (false : Bool)) then (some (.rt (7, p2))) else (some (.nx ())))) : Option (Fl (Unit) (Int × (List (Pin × Bool)))))) ()).bind fun (o147 : Fo (Unit) (Int × (List (Pin × Bool)))) => o147.cs (fun (s32 : Unit) => (fld p0.length (fun (k129 : Nat) (s130 : (List (Pin × Bool))) => ((idx p0 (k129 : Int)).bind fun (x141 : Pin) => some (mput s130 x141 true) : Option ((List (Pin × Bool))))) p2).bind fun (s130 : (List (Pin × Bool))) => some (0, s130)) (fun r => some r))
/-- netlist.CheckList -/
def netlist_CheckList (N : Nat) (p0 : (List PartType)) (p1 : Netlist) : Option (Int) :=
  (netlist_CheckTypes N p0).bind fun (x34 : Int) => bif (x34 != 0) then (some x34) else ((netlist_checkParts N p0 p1.Parts (netlist_IsPath N)).bind fun (x38 : Int) => bif (x38 != 0) then (some x38) else (bif (decide ((p1.Nets.length : Int) > 1000)) then (some 2) else ((rng p1.Nets.length (fun (k44 : Nat) (s45 : (List (Pin × Bool))) => ((idx p1.Nets (k44 : Int)).bind fun (x106 : Net) => (netlist_IsPath N x106.Name).bind fun (x110 : Bool) => bif (!x110) then (some (.rt 5)) else (bif ((x106.Pins.length : Int) == 0) then (some (.rt 9)) else ((netlist_checkNetPins N x106.Pins (fun y0 => netlist_CheckList_c1 N y0 p0 p1) s45).bind fun (x113 : Int × (List (Pin × Bool))) => bif (x113.1 != 0) then (some (.rt x113.1)) else (bif (decide ((x106.Ports.length : Int) > 0)) then (some (.rt 3)) else ((bif (decide ((k44 : Int) > 0)) then ((idx p1.Nets (IntKind.wrap .i64 ((k44 : Int) - 1))).bind fun (x129 : Net) => some (x106.Name.ltb x129.Name || x106.Name.eqb x129.Name)) else (some false)).bind fun (s125 : Bool) => bif s125 then (some (.rt 8)) else (some (.nx x113.2)))))) : Option (Fl ((List (Pin × Bool))) Int))) ([] : (List (Pin × Bool)))).bind fun (o136 : Fo ((List (Pin × Bool))) Int) => o136.cs (fun (s45 : (List (Pin × Bool))) => some 0) (fun r => some r))))
/-- slices.BinarySearchFunc[[]api.Net,api.Net,string] -/
def slices_BinarySearchFunc_Net_string (N : Nat) (p0 : (List Net)) (p1 : Str) (p2 : Net → Str → Option Int) : Option (Int × Bool) :=
  (itr (fun (s32 : Int × Int) => (bif (decide (s32.1 < s32.2)) then ((idx p0 (IntKind.wrap .i64 (Int.fdiv (IntKind.wrap .u64 (IntKind.wrap .i64 (s32.1 + s32.2))) 2))).bind fun (x43 : Net) => (p2 x43 p1).bind fun (x46 : Int) => (bif (decide (x46 < 0)) then (some ((IntKind.wrap .i64 ((IntKind.wrap .i64 (Int.fdiv (IntKind.wrap .u64 (IntKind.wrap .i64 (s32.1 + s32.2))) 2)) + 1)), s32.2)) else (some (s32.1, (IntKind.wrap .i64 (Int.fdiv (IntKind.wrap .u64 (IntKind.wrap .i64 (s32.1 + s32.2))) 2))))).bind fun (s47 : Int × Int) => some (.nx (s47.1, s47.2))) else (some (.br (s32.1, s32.2))) : Option (Fl (Int × Int) Empty))) N (0, (p0.length : Int))).bind fun (o59 : Fo (Int × Int) Empty) => o59.cs (fun (s32 : Int × Int) => (bif (decide (s32.1 < (p0.length : Int))) then ((idx p0 s32.1).bind fun (x55 : Net) => (p2 x55 p1).bind fun (x58 : Int) => some (x58 == 0)) else (some false)).bind fun (s53 : Bool) => some (s32.1, s53)) (fun r => r.elim)
/-- netlist.NetAt$1 -/
def netlist_NetAt_c1 (N : Nat) (p0 : Net) (p1 : Str) : Option (Int) :=
  (strings_Compare N p0.Name p1).bind fun (x32 : Int) => some x32
/-- netlist.NetAt -/
def netlist_NetAt (N : Nat) (p0 : Netlist) (p1 : Str) : Option (Int) :=
  (slices_BinarySearchFunc_Net_string N p0.Nets p1 (netlist_NetAt_c1 N)).bind fun (x33 : Int × Bool) => bif (!x33.2) then (some (-1)) else (some x33.1)
/-- slices.Clone[[]api.Part,api.Part] -/
def slices_Clone_Part (N : Nat) (p0 : (List Part)) : Option ((List Part)) :=
  (app 32 ([] : (List Part)) p0).bind fun (x32 : (List Part)) => some x32
/-- slices.Clone[[]api.Net,api.Net] -/
def slices_Clone_Net (N : Nat) (p0 : (List Net)) : Option ((List Net)) :=
  (app 64 ([] : (List Net)) p0).bind fun (x32 : (List Net)) => some x32
/-- slices.Clone[[]api.Pin,api.Pin] -/
def slices_Clone_Pin (N : Nat) (p0 : (List Pin)) : Option ((List Pin)) :=
  (app 32 ([] : (List Pin)) p0).bind fun (x32 : (List Pin)) => some x32
/-- netlist.Own -/
def netlist_Own (N : Nat) (p0 : Netlist) : Option (((List Part) × (List Net))) :=
  (slices_Clone_Part N p0.Parts).bind fun (x34 : (List Part)) => (slices_Clone_Net N p0.Nets).bind fun (x37 : (List Net)) => (fld x37.length (fun (k48 : Nat) (s49 : (List (Bool × Net))) => ((idx s49 (k48 : Int)).bind fun (x141 : Bool × Net) => (ffq x141).bind fun (x148 : Net) => (slices_Clone_Pin N x148.Pins).bind fun (x149 : (List Pin)) => (idx s49 (k48 : Int)).bind fun (x151 : Bool × Net) => (idx (s49.set (Int.toNat (k48 : Int)) (true, { x151.2 with Pins := x149 })) (k48 : Int)).bind fun (x158 : Bool × Net) => some ((s49.set (Int.toNat (k48 : Int)) (true, { x151.2 with Pins := x149 })).set (Int.toNat (k48 : Int)) (x158.1, { x158.2 with Ports := ([] : (List Str)) })) : Option ((List (Bool × Net))))) (x37.map fun x => (false, x))).bind fun (s49 : (List (Bool × Net))) => (allT s49).bind fun (y185 : (List Net)) => some (x34, y185)
/-- netlist.Joined -/
def netlist_Joined (N : Nat) (p0 : (List PartType)) (p1 : Netlist) (p2 : Str) (p3 : Str) : Option (Netlist × Int) :=
  (netlist_CheckList N p0 p1).bind fun (x34 : Int) => bif (x34 != 0) then (some ((⟨([] : (List Part)), ([] : (List Net))⟩ : Netlist), x34)) else ((netlist_NetAt N p1 p2).bind fun (x37 : Int) => (netlist_NetAt N p1 p3).bind fun (x39 : Int) => bif ((decide (x37 < 0)) || (decide (x39 < 0))) then (some ((⟨([] : (List Part)), ([] : (List Net))⟩ : Netlist), 9)) else (bif (x37 == x39) then (some ((⟨([] : (List Part)), ([] : (List Net))⟩ : Netlist), 12)) else ((idx p1.Nets x37).bind fun (x99 : Net) => (idx p1.Nets x39).bind fun (x104 : Net) => bif (decide ((IntKind.wrap .i64 ((x99.Pins.length : Int) + (x104.Pins.length : Int))) > 500)) then (some ((⟨([] : (List Part)), ([] : (List Net))⟩ : Netlist), 2)) else ((netlist_Own N p1).bind fun (x118 : ((List Part) × (List Net))) => (idx x118.2 (if x39 < x37 then x39 else x37)).bind fun (x123 : Net) => (idx x118.2 (if x37 < x39 then x39 else x37)).bind fun (x131 : Net) => (ne? (if x39 < x37 then x39 else x37) (if x37 < x39 then x39 else x37)).bind fun (x138 : Unit) => (app 32 x123.Pins x131.Pins).bind fun (x139 : (List Pin)) => (idx (x118.2.set (Int.toNat (if x39 < x37 then x39 else x37)) { x123 with Pins := x139 }) (if x39 < x37 then x39 else x37)).bind fun (x160 : Net) => (gSort (netlist_ComparePins N) x160.Pins).bind fun (x165 : (List Pin)) => (gDelAt ((x118.2.set (Int.toNat (if x39 < x37 then x39 else x37)) { x123 with Pins := x139 }).set (Int.toNat (if x39 < x37 then x39 else x37)) { x160 with Pins := x165 }) (if x37 < x39 then x39 else x37) (IntKind.wrap .i64 ((if x37 < x39 then x39 else x37) + 1))).bind fun (x166 : (List Net)) => some ((⟨x118.1, x166⟩ : Netlist), 0)))))
/-- etchhouseref2.within -/
def etchhouseref2_within (N : Nat) (p0 : Int) (p1 : Int) (p2 : Int) : Option (Bool) :=
  some ((decide (p1 ≤ p0)) && (decide (p0 ≤ p2)))
/-- etchhouseref2.IsWord -/
def etchhouseref2_IsWord (N : Nat) (p0 : Str) : Option (Bool) :=
  (rng p0.toL.length (fun (k31 : Nat) (s32 : Unit) => ((sidx p0 (k31 : Int)).bind fun (x39 : UInt8) => (bif ((((decide ((x39.toNat : Int) < 97)) || (decide ((x39.toNat : Int) > 122))) && ((decide ((x39.toNat : Int) < 65)) || (decide ((x39.toNat : Int) > 90)))) && ((decide ((x39.toNat : Int) < 48)) || (decide ((x39.toNat : Int) > 57)))) then ((strings_IndexByte N (⟨[95, 43, 45, 35]⟩) (x39.toNat : Int)).bind fun (x44 : Int) => some (decide (x44 < 0))) else (some false)).bind fun (s42 : Bool) => bif s42 then (some (.rt false)) else (some (.nx ())) : Option (Fl (Unit) Bool))) ()).bind fun (o46 : Fo (Unit) Bool) => o46.cs (fun (s32 : Unit) => (etchhouseref2_within N (p0.toL.length : Int) 1 40).bind fun (x45 : Bool) => some x45) (fun r => some r)
/-- etchhouseref2.checkType -/
def etchhouseref2_checkType (N : Nat) (p0 : PartType) : Option (Int) :=
  (etchhouseref2_IsWord N p0.Name).bind fun (x32 : Bool) => bif (!x32) then (some 5) else (bif ((p0.Pins.length : Int) == 0) then (some 9) else (bif (decide ((p0.Pins.length : Int) > 200)) then (some 2) else ((rng p0.Pins.length (fun (k40 : Nat) (s41 : Unit) => ((idx p0.Pins (k40 : Int)).bind fun (x189 : PinType) => (etchhouseref2_IsWord N x189.Name).bind fun (x193 : Bool) => bif (!x193) then (some (.rt 5)) else ((etchhouseref2_within N x189.Kind 1 7).bind fun (x265 : Bool) => bif (!x265) then (some (.rt 4)) else ((etchhouseref2_within N x189.Group 0 200).bind fun (x301 : Bool) => bif (!x301) then (some (.rt 1)) else ((bif (decide ((k40 : Int) > 0)) then ((idx p0.Pins (IntKind.wrap .i64 ((k40 : Int) - 1))).bind fun (x330 : PinType) => some (x189.Name.ltb x330.Name || x189.Name.eqb x330.Name)) else (some false)).bind fun (s327 : Bool) => bif s327 then (some (.rt 8)) else (some (.nx ()))))) : Option (Fl (Unit) Int))) ()).bind fun (o376 : Fo (Unit) Int) => o376.cs (fun (s41 : Unit) => (rng p0.Pins.length (fun (k337 : Nat) (s338 : Unit) => ((idx p0.Pins (k337 : Int)).bind fun (x357 : PinType) => (slc p0.Pins 0 (k337 : Int)).bind fun (x362 : (List PinType)) => (rng x362.length (fun (k364 : Nat) (s365 : Unit) => ((idx x362 (k364 : Int)).bind fun (x370 : PinType) => bif (((decide (x357.Group > 0)) && (x357.Group == x370.Group)) && (x357.Kind != x370.Kind)) then (some (.rt 12)) else (some (.nx ())) : Option (Fl (Unit) Int))) ()).bind fun (o374 : Fo (Unit) Int) => o374.cs (fun (s365 : Unit) => some (.nx ())) (fun r => some (.rt r)) : Option (Fl (Unit) Int))) ()).bind fun (o375 : Fo (Unit) Int) => o375.cs (fun (s338 : Unit) => some 0) (fun r => some r)) (fun r => some r))))
/-- etchhouseref2.CheckTypes -/
def etchhouseref2_CheckTypes (N : Nat) (p0 : (List PartType)) : Option (Int) :=
  bif (decide ((p0.length : Int) > 200)) then (some 2) else ((rng p0.length (fun (k31 : Nat) (s32 : Unit) => ((idx p0 (k31 : Int)).bind fun (x52 : PartType) => (etchhouseref2_checkType N x52).bind fun (x57 : Int) => bif (x57 != 0) then (some (.rt x57)) else ((bif (decide ((k31 : Int) > 0)) then ((idx p0 (IntKind.wrap .i64 ((k31 : Int) - 1))).bind fun (x66 : PartType) => some (x52.Name.ltb x66.Name || x52.Name.eqb x66.Name)) else (some false)).bind fun (s64 : Bool) => bif s64 then (some (.rt 8)) else (some (.nx ()))) : Option (Fl (Unit) Int))) ()).bind fun (o71 : Fo (Unit) Int) => o71.cs (fun (s32 : Unit) => some 0) (fun r => some r))
/-- etchhouseref2.IsPath -/
def etchhouseref2_IsPath (N : Nat) (p0 : Str) : Option (Bool) :=
  (strings_Split N p0 (⟨[47]⟩)).bind fun (x31 : (List Str)) => (rng x31.length (fun (k33 : Nat) (s34 : Unit) => ((idx x31 (k33 : Int)).bind fun (x37 : Str) => (etchhouseref2_IsWord N x37).bind fun (x38 : Bool) => bif (!x38) then (some (.rt false)) else (some (.nx ())) : Option (Fl (Unit) Bool))) ()).bind fun (o39 : Fo (Unit) Bool) => o39.cs (fun (s34 : Unit) => some (decide ((p0.toL.length : Int) ≤ 200))) (fun r => some r)
/-- etchhouseref2.typeOf -/
def etchhouseref2_typeOf (N : Nat) (p0 : (List PartType)) (p1 : Str) : Option (Int) :=
  (rng p0.length (fun (k31 : Nat) (s32 : Unit) => ((idx p0 (k31 : Int)).bind fun (x37 : PartType) => bif (x37.Name.eqb p1) then (some (.rt (k31 : Int))) else (some (.nx ())) : Option (Fl (Unit) Int))) ()).bind fun (o41 : Fo (Unit) Int) => o41.cs (fun (s32 : Unit) => some (-1)) (fun r => some r)
/-- etchhouseref2.partOf -/
def etchhouseref2_partOf (N : Nat) (p0 : (List Part)) (p1 : Str) : Option (Int) :=
  (rng p0.length (fun (k31 : Nat) (s32 : Unit) => ((idx p0 (k31 : Int)).bind fun (x37 : Part) => bif (x37.Name.eqb p1) then (some (.rt (k31 : Int))) else (some (.nx ())) : Option (Fl (Unit) Int))) ()).bind fun (o41 : Fo (Unit) Int) => o41.cs (fun (s32 : Unit) => some (-1)) (fun r => some r)
/-- etchhouseref2.pinOf -/
def etchhouseref2_pinOf (N : Nat) (p0 : PartType) (p1 : Str) : Option (Int) :=
  (rng p0.Pins.length (fun (k33 : Nat) (s34 : Unit) => ((idx p0.Pins (k33 : Int)).bind fun (x39 : PinType) => bif (x39.Name.eqb p1) then (some (.rt (k33 : Int))) else (some (.nx ())) : Option (Fl (Unit) Int))) ()).bind fun (o43 : Fo (Unit) Int) => o43.cs (fun (s34 : Unit) => some (-1)) (fun r => some r)
/-- etchhouseref2.HasPin -/
def etchhouseref2_HasPin (N : Nat) (p0 : (List PartType)) (p1 : Netlist) (p2 : Pin) : Option (Bool) :=
  (etchhouseref2_partOf N p1.Parts p2.Part).bind fun (x34 : Int) => (bif (decide (x34 ≥ 0)) then ((idx p1.Parts x34).bind fun (x53 : Part) => (etchhouseref2_typeOf N p0 x53.Type_).bind fun (x56 : Int) => (idx p0 x56).bind fun (x57 : PartType) => (etchhouseref2_pinOf N x57 p2.Pin).bind fun (x60 : Int) => some (decide (x60 ≥ 0))) else (some false)).bind fun (s50 : Bool) => some s50
/-- etchhouseref2.before -/
def etchhouseref2_before (N : Nat) (p0 : Pin) (p1 : Pin) : Option (Bool) :=
  some ((p0.Part.ltb p1.Part) || ((p0.Part.eqb p1.Part) && (p0.Pin.ltb p1.Pin)))
/-- slices.Index[[]api.Pin,api.Pin] -/
def slices_Index_Pin (N : Nat) (p0 : (List Pin)) (p1 : Pin) : Option (Int) :=
  (rng p0.length (fun (k32 : Nat) (s33 : Unit) => ((idx p0 (k32 : Int)).bind fun (x42 : Pin) => bif (decide (p1 = x42)) then (some (.rt (k32 : Int))) else (some (.nx ())) : Option (Fl (Unit) Int))) ()).bind fun (o48 : Fo (Unit) Int) => o48.cs (fun (s33 : Unit) => some (-1)) (fun r => some r)
/-- slices.Contains[[]api.Pin,api.Pin] -/
def slices_Contains_Pin (N : Nat) (p0 : (List Pin)) (p1 : Pin) : Option (Bool) :=
  (slices_Index_Pin N p0 p1).bind fun (x33 : Int) => some (decide (x33 ≥ 0))
/-- etchhouseref2.inNets -/
def etchhouseref2_inNets (N : Nat) (p0 : (List Net)) (p1 : Pin) : Option (Bool) :=
  (rng p0.length (fun (k32 : Nat) (s33 : Unit) => ((idx p0 (k32 : Int)).bind fun (x41 : Net) => (slices_Contains_Pin N x41.Pins p1).bind fun (x47 : Bool) => bif x47 then (some (.rt true)) else (some (.nx ())) : Option (Fl (Unit) Bool))) ()).bind fun (o48 : Fo (Unit) Bool) => o48.cs (fun (s33 : Unit) => some false) (fun r => some r)
/-- etchhouseref2.checkList -/
def etchhouseref2_checkList (N : Nat) (p0 : (List PartType)) (p1 : Netlist) : Option (Int) :=
  bif (decide ((p1.Parts.length : Int) > 1000)) then (some 2) else ((rng p1.Parts.length (fun (k34 : Nat) (s35 : Unit) => ((idx p1.Parts (k34 : Int)).bind fun (x111 : Part) => (etchhouseref2_IsPath N x111.Name).bind fun (x115 : Bool) => bif (!x115) then (some (.rt 5)) else ((etchhouseref2_typeOf N p0 x111.Type_).bind fun (x151 : Int) => bif (decide (x151 < 0)) then (some (.rt 9)) else ((bif (decide ((k34 : Int) > 0)) then ((idx p1.Parts (IntKind.wrap .i64 ((k34 : Int) - 1))).bind fun (x180 : Part) => some (x111.Name.ltb x180.Name || x111.Name.eqb x180.Name)) else (some false)).bind fun (s177 : Bool) => bif s177 then (some (.rt 8)) else (some (.nx ())))) : Option (Fl (Unit) Int))) ()).bind fun (o597 : Fo (Unit) Int) => o597.cs (fun (s35 : Unit) => bif (decide ((p1.Nets.length : Int) > 1000)) then (some 2) else ((rng p1.Nets.length (fun (k188 : Nat) (s189 : Unit) => ((idx p1.Nets (k188 : Int)).bind fun (x393 : Net) => (etchhouseref2_IsPath N x393.Name).bind fun (x397 : Bool) => bif (!x397) then (some (.rt 5)) else (bif ((x393.Pins.length : Int) == 0) then (some (.rt 9)) else (bif (decide ((x393.Pins.length : Int) > 500)) then (some (.rt 2)) else ((rng x393.Pins.length (fun (k405 : Nat) (s406 : Unit) => ((idx x393.Pins (k405 : Int)).bind fun (x492 : Pin) => (etchhouseref2_HasPin N p0 p1 x492).bind fun (x498 : Bool) => bif (!x498) then (some (.rt 9)) else ((bif (decide ((k405 : Int) > 0)) then ((idx x393.Pins (IntKind.wrap .i64 ((k405 : Int) - 1))).bind fun (x552 : Pin) => (etchhouseref2_before N x552 x492).bind fun (x556 : Bool) => some (!x556)) else (some false)).bind fun (s549 : Bool) => bif s549 then (some (.rt 8)) else ((slc p1.Nets 0 (k188 : Int)).bind fun (x570 : (List Net)) => (etchhouseref2_inNets N x570 x492).bind fun (x573 : Bool) => bif x573 then (some (.rt 7)) else (some (.nx ())))) : Option (Fl (Unit) Int))) ()).bind fun (o595 : Fo (Unit) Int) => o595.cs (fun (s406 : Unit) => bif (decide ((x393.Ports.length : Int) > 0)) then (some (.rt 3)) else ((bif (decide ((k188 : Int) > 0)) then ((idx p1.Nets (IntKind.wrap .i64 ((k188 : Int) - 1))).bind fun (x589 : Net) => some (x393.Name.ltb x589.Name || x393.Name.eqb x589.Name)) else (some false)).bind fun (s586 : Bool) => bif s586 then (some (.rt 8)) else (some (.nx ())))) (fun r => some (.rt r))))) : Option (Fl (Unit) Int))) ()).bind fun (o596 : Fo (Unit) Int) => o596.cs (fun (s189 : Unit) => some 0) (fun r => some r))) (fun r => some r))
/-- etchhouseref2.CheckList -/
def etchhouseref2_CheckList (N : Nat) (p0 : (List PartType)) (p1 : Netlist) : Option (Int) :=
  (etchhouseref2_CheckTypes N p0).bind fun (x32 : Int) => bif (x32 != 0) then (some x32) else ((etchhouseref2_checkList N p0 p1).bind fun (x34 : Int) => some x34)
/-- etchhouseref2.netNamed -/
def etchhouseref2_netNamed (N : Nat) (p0 : Netlist) (p1 : Str) : Option (Int) :=
  (rng p0.Nets.length (fun (k33 : Nat) (s34 : Unit) => ((idx p0.Nets (k33 : Int)).bind fun (x39 : Net) => bif (x39.Name.eqb p1) then (some (.rt (k33 : Int))) else (some (.nx ())) : Option (Fl (Unit) Int))) ()).bind fun (o43 : Fo (Unit) Int) => o43.cs (fun (s34 : Unit) => some (-1)) (fun r => some r)
/-- slices.Grow[[]api.Pin,api.Pin] -/
def slices_Grow_Pin_nil (N : Nat) (p1 : Int) : Option ((List Pin)) :=
  bif (decide (p1 < 0)) then (none) else ((bif (decide ((IntKind.wrap .i64 (p1 - (IntKind.wrap .i64 (((0 : Nat) : Int) - ((0 : Nat) : Int))))) > 0)) then ((appz 32 (⟨⟨[]⟩, ⟨[]⟩⟩ : Pin) (IntKind.wrap .i64 (p1 - (IntKind.wrap .i64 (((0 : Nat) : Int) - ((0 : Nat) : Int)))))).bind fun (x37 : (List Pin)) => (slc x37 0 ((0 : Nat) : Int)).bind fun (x39 : (List Pin)) => some x39) else (some ([] : (List Pin)))).bind fun (s35 : (List Pin)) => some s35)
/-- slices.Concat[[]api.Pin,api.Pin] -/
def slices_Concat_Pin (N : Nat) (p0 : (List (List Pin))) : Option ((List Pin)) :=
  (fld p0.length (fun (k31 : Nat) (s32 : Int) => ((idx p0 (k31 : Int)).bind fun (x39 : (List Pin)) => bif (decide ((IntKind.wrap .i64 (s32 + (x39.length : Int))) < 0)) then (none) else (some (IntKind.wrap .i64 (s32 + (x39.length : Int)))) : Option (Int))) 0).bind fun (s32 : Int) => (slices_Grow_Pin_nil N s32).bind fun (x42 : (List Pin)) => (fld p0.length (fun (k44 : Nat) (s45 : (List Pin)) => ((idx p0 (k44 : Int)).bind fun (x61 : (List Pin)) => (app 32 s45 x61).bind fun (x64 : (List Pin)) => some x64 : Option ((List Pin)))) x42).bind fun (s45 : (List Pin)) => some s45
/-- etchhouseref2.sortedPins -/
def etchhouseref2_sortedPins (N : Nat) (p0 : (List Pin)) : Option ((List Pin)) :=
  (fld p0.length (fun (k31 : Nat) (s32 : (List Pin)) => ((idx p0 (k31 : Int)).bind fun (x162 : Pin) => (itr (fun (s167 : Int) => ((bif (decide (s167 > 0)) then ((idx s32 (IntKind.wrap .i64 (s167 - 1))).bind fun (x208 : Pin) => (etchhouseref2_before N x162 x208).bind fun (x210 : Bool) => some x210) else (some false)).bind fun (s205 : Bool) => bif s205 then (some (.nx (IntKind.wrap .i64 (s167 - 1)))) else (some (.br s167)) : Option (Fl (Int) Empty))) N (s32.length : Int)).bind fun (o217 : Fo (Int) Empty) => o217.cs (fun (s167 : Int) => (gIns 32 s32 s167 ([x162] : (List Pin))).bind fun (x215 : (List Pin)) => some x215) (fun r => r.elim) : Option ((List Pin)))) ([] : (List Pin))).bind fun (s32 : (List Pin)) => some s32
/-- etchhouseref2.Joined -/
def etchhouseref2_Joined (N : Nat) (p0 : (List PartType)) (p1 : Netlist) (p2 : Str) (p3 : Str) : Option (Netlist × Int) :=
  (etchhouseref2_CheckList N p0 p1).bind fun (x34 : Int) => bif (x34 != 0) then (some ((⟨([] : (List Part)), ([] : (List Net))⟩ : Netlist), x34)) else ((etchhouseref2_netNamed N p1 p2).bind fun (x37 : Int) => (etchhouseref2_netNamed N p1 p3).bind fun (x39 : Int) => bif ((decide (x37 < 0)) || (decide (x39 < 0))) then (some ((⟨([] : (List Part)), ([] : (List Net))⟩ : Netlist), 9)) else (bif (x37 == x39) then (some ((⟨([] : (List Part)), ([] : (List Net))⟩ : Netlist), 12)) else ((idx p1.Nets x37).bind fun (x99 : Net) => (idx p1.Nets x39).bind fun (x104 : Net) => bif (decide ((IntKind.wrap .i64 ((x99.Pins.length : Int) + (x104.Pins.length : Int))) > 500)) then (some ((⟨([] : (List Part)), ([] : (List Net))⟩ : Netlist), 2)) else ((slices_Clone_Part N p1.Parts).bind fun (x118 : (List Part)) => (fld p1.Nets.length (fun (k122 : Nat) (s123 : (List Net)) => ((idx p1.Nets (k122 : Int)).bind fun (x509 : Net) => (bif ((k122 : Int) == (if x37 < x39 then x39 else x37)) then (some s123) else ((bif ((k122 : Int) == (if x39 < x37 then x39 else x37)) then ((idx p1.Nets x37).bind fun (x655 : Net) => (idx p1.Nets x39).bind fun (x660 : Net) => (slices_Concat_Pin N ([x655.Pins, x660.Pins] : (List (List Pin)))).bind fun (x665 : (List Pin)) => (etchhouseref2_sortedPins N x665).bind fun (x667 : (List Pin)) => (app 64 s123 ([(⟨x509.Name, x667, []⟩ : Net)] : (List Net))).bind fun (x671 : (List Net)) => some x671) else ((slices_Clone_Pin N x509.Pins).bind fun (x688 : (List Pin)) => (app 64 s123 ([(⟨x509.Name, x688, []⟩ : Net)] : (List Net))).bind fun (x692 : (List Net)) => some x692)).bind fun (s652 : (List Net)) => some s652)).bind fun (s605 : (List Net)) => some s605 : Option ((List Net)))) ([] : (List Net))).bind fun (s123 : (List Net)) => some ((⟨x118, s123⟩ : Netlist), 0)))))
/-- slices.Equal[[]api.Part,api.Part] -/
def slices_Equal_Part (N : Nat) (p0 : (List Part)) (p1 : (List Part)) : Option (Bool) :=
  bif ((p0.length : Int) != (p1.length : Int)) then (some false) else ((rng p0.length (fun (k31 : Nat) (s32 : Unit) => ((idx p0 (k31 : Int)).bind fun (x43 : Part) => (idx p1 (k31 : Int)).bind fun (x46 : Part) => bif (!(decide (x43 = x46))) then (some (.rt false)) else (some (.nx ())) : Option (Fl (Unit) Bool))) ()).bind fun (o53 : Fo (Unit) Bool) => o53.cs (fun (s32 : Unit) => some true) (fun r => some r))
/-- slices.Equal[[]api.Pin,api.Pin] -/
def slices_Equal_Pin (N : Nat) (p0 : (List Pin)) (p1 : (List Pin)) : Option (Bool) :=
  bif ((p0.length : Int) != (p1.length : Int)) then (some false) else ((rng p0.length (fun (k31 : Nat) (s32 : Unit) => ((idx p0 (k31 : Int)).bind fun (x43 : Pin) => (idx p1 (k31 : Int)).bind fun (x46 : Pin) => bif (!(decide (x43 = x46))) then (some (.rt false)) else (some (.nx ())) : Option (Fl (Unit) Bool))) ()).bind fun (o53 : Fo (Unit) Bool) => o53.cs (fun (s32 : Unit) => some true) (fun r => some r))
/-- slices.Equal[[]string,string] -/
def slices_Equal_string (N : Nat) (p0 : (List Str)) (p1 : (List Str)) : Option (Bool) :=
  bif ((p0.length : Int) != (p1.length : Int)) then (some false) else ((rng p0.length (fun (k31 : Nat) (s32 : Unit) => ((idx p0 (k31 : Int)).bind fun (x39 : Str) => (idx p1 (k31 : Int)).bind fun (x41 : Str) => bif (!x39.eqb x41) then (some (.rt false)) else (some (.nx ())) : Option (Fl (Unit) Bool))) ()).bind fun (o45 : Fo (Unit) Bool) => o45.cs (fun (s32 : Unit) => some true) (fun r => some r))
/-- etchhouseref2.Same -/
def etchhouseref2_Same (N : Nat) (p0 : Netlist) (p1 : Netlist) : Option (Bool) :=
  ((slices_Equal_Part N p0.Parts p1.Parts).bind fun (x45 : Bool) => bif (!x45) then (some true) else (some ((p0.Nets.length : Int) != (p1.Nets.length : Int)))).bind fun (s42 : Bool) => bif s42 then (some false) else ((rng p0.Nets.length (fun (k50 : Nat) (s51 : Unit) => ((idx p0.Nets (k50 : Int)).bind fun (x164 : Net) => ((idx p1.Nets (k50 : Int)).bind fun (x233 : Net) => bif (!x164.Name.eqb x233.Name) then (some true) else ((idx p1.Nets (k50 : Int)).bind fun (x242 : Net) => (slices_Equal_Pin N x164.Pins x242.Pins).bind fun (x246 : Bool) => bif (!x246) then (some true) else ((idx p1.Nets (k50 : Int)).bind fun (x258 : Net) => (slices_Equal_string N x164.Ports x258.Ports).bind fun (x262 : Bool) => some (!x262)))).bind fun (s231 : Bool) => bif s231 then (some (.rt false)) else (some (.nx ())) : Option (Fl (Unit) Bool))) ()).bind fun (o276 : Fo (Unit) Bool) => o276.cs (fun (s51 : Unit) => some true) (fun r => some r))
/-- netlist.Nets -/
def netlist_Nets (N : Nat) (p0 : Netlist) : Option ((List (Pin × Int))) :=
  (fld p0.Nets.length (fun (k34 : Nat) (s35 : (List (Pin × Int))) => ((idx p0.Nets (k34 : Int)).bind fun (x82 : Net) => (fld x82.Pins.length (fun (k87 : Nat) (s88 : (List (Pin × Int))) => ((idx x82.Pins (k87 : Int)).bind fun (x99 : Pin) => some (mput s88 x99 (k34 : Int)) : Option ((List (Pin × Int))))) s35).bind fun (s88 : (List (Pin × Int))) => some s88 : Option ((List (Pin × Int))))) ([] : (List (Pin × Int)))).bind fun (s35 : (List (Pin × Int))) => some s35
/-- netlist.pinsOf -/
def netlist_pinsOf (N : Nat) (p0 : (List PartType)) (p1 : Part) : Option ((List Pin)) :=
  (netlist_TypeAt N p0 p1.Type_).bind fun (x32 : Int) => (idx p0 x32).bind fun (x33 : PartType) => (fld x33.Pins.length (fun (k37 : Nat) (s38 : (List Pin)) => ((idx x33.Pins (k37 : Int)).bind fun (x60 : PinType) => (app 32 s38 ([(⟨p1.Name, x60.Name⟩ : Pin)] : (List Pin))).bind fun (x66 : (List Pin)) => some x66 : Option ((List Pin)))) ([] : (List Pin))).bind fun (s38 : (List Pin)) => some s38
/-- netlist.LooseOf -/
def netlist_LooseOf (N : Nat) (p0 : (List PartType)) (p1 : Netlist) : Option ((List Pin)) :=
  (netlist_Nets N p1).bind fun (x33 : (List (Pin × Int))) => (fld p1.Parts.length (fun (k36 : Nat) (s37 : (List Pin)) => ((idx p1.Parts (k36 : Int)).bind fun (x159 : Part) => (netlist_pinsOf N p0 x159).bind fun (x164 : (List Pin)) => (fld x164.length (fun (k166 : Nat) (s167 : (List Pin)) => ((idx x164 (k166 : Int)).bind fun (x201 : Pin) => (bif (!(mhas x33 x201)) then ((app 32 s167 ([x201] : (List Pin))).bind fun (x213 : (List Pin)) => some x213) else (some s167)).bind fun (s209 : (List Pin)) => some s209 : Option ((List Pin)))) s37).bind fun (s167 : (List Pin)) => some s167 : Option ((List Pin)))) ([] : (List Pin))).bind fun (s37 : (List Pin)) => some s37
/-- netlist.Loose -/
def netlist_Loose (N : Nat) (p0 : (List PartType)) (p1 : Netlist) : Option ((List Pin) × Int) :=
  (netlist_CheckList N p0 p1).bind fun (x33 : Int) => bif (x33 != 0) then (some (([] : (List Pin)), x33)) else ((netlist_LooseOf N p0 p1).bind fun (x35 : (List Pin)) => some (x35, 0))
/-- etchhouselaw2.awake -/
def etchhouselaw2_awake (N : Nat)  : Option (Bool) :=
  (netlist_Loose N ([(⟨⟨[114]⟩, ([(⟨⟨[49]⟩, 6, 0⟩ : PinType)] : (List PinType))⟩ : PartType)] : (List PartType)) (⟨([(⟨⟨[97]⟩, ⟨[114]⟩⟩ : Part)] : (List Part)), []⟩ : Netlist)).bind fun (x38 : (List Pin) × Int) => (bif (x38.2 == 0) then (bif ((x38.1.length : Int) == 1) then ((idx x38.1 0).bind fun (x49 : Pin) => some (decide (x49 = (⟨⟨[97]⟩, ⟨[49]⟩⟩ : Pin)))) else (some false)) else (some false)).bind fun (s46 : Bool) => some s46
/-- etchhouselaw2.NetlistJoinedMatchesSpec -/
def etchhouselaw2_NetlistJoinedMatchesSpec (N : Nat) (p0 : (List PartType)) (p1 : Netlist) (p2 : Str) (p3 : Str) : Option (Bool) :=
  (netlist_Joined N p0 p1 p2 p3).bind fun (x33 : Netlist × Int) => (etchhouseref2_Joined N p0 p1 p2 p3).bind fun (x37 : Netlist × Int) => (bif (x33.2 == x37.2) then ((etchhouseref2_Same N x33.1 x37.1).bind fun (x54 : Bool) => bif x54 then ((etchhouselaw2_awake N ).bind fun (x56 : Bool) => some x56) else (some false)) else (some false)).bind fun (s50 : Bool) => some s50
end
end Go.Gk
