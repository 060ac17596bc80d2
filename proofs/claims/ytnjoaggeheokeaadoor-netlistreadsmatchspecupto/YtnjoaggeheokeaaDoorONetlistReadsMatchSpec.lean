/-
  Printed by genfin.py: how the types of the arguments are read. No statement of the seed is proved here.
-/
import Derived.Test.YtnjoaggeheokeaaDoorRows
import Derived.Test.YtnjoaggeheokeaaDoorT
import Derived.Test.YtnjoaggeheokeaaDoorK12
import Derived.Test.YtnjoaggeheokeaaDoorB
set_option maxRecDepth 100000
namespace Go.Gk
open Go Go.Proofs
def UBK (H : Type) (d : DataW H) : Nat := YtnjoaggeheokeaaDoor.Rows.uptoBulk d
def UBA (H : Type) (d : List (DataW H)) : Nat := YtnjoaggeheokeaaDoor.Rows.uptoBulkAll d
theorem UB_ok : UB UBK UBA where
  str := fun H b => by simp [UBK, YtnjoaggeheokeaaDoor.Rows.uptoBulk]
  pos := fun H d => by
    unfold UBK
    cases d with
    | lit l => cases l <;> simp [YtnjoaggeheokeaaDoor.Rows.uptoBulk]
    | nil => simp [YtnjoaggeheokeaaDoor.Rows.uptoBulk]
    | ptr d => simp [YtnjoaggeheokeaaDoor.Rows.uptoBulk]
    | slice elems spare => simp [YtnjoaggeheokeaaDoor.Rows.uptoBulk]
    | agg parts => simp [YtnjoaggeheokeaaDoor.Rows.uptoBulk]
    | iface t d => simp [YtnjoaggeheokeaaDoor.Rows.uptoBulk]
    | map entries => simp [YtnjoaggeheokeaaDoor.Rows.uptoBulk]
    | held h => simp [YtnjoaggeheokeaaDoor.Rows.uptoBulk]
  sl := fun H e s => by simp [UBK, UBA, YtnjoaggeheokeaaDoor.Rows.uptoBulk]
  ag := fun H l => by simp [UBK, UBA, YtnjoaggeheokeaaDoor.Rows.uptoBulk]
  nil := fun H => by simp [UBA, YtnjoaggeheokeaaDoor.Rows.uptoBulkAll]
  cons := fun H x l => by simp [UBK, UBA, YtnjoaggeheokeaaDoor.Rows.uptoBulkAll]
theorem op9 : Opens UBK Tryd.prog 9 Str := opens_str UB_ok (by kernel_rfl)
end Go.Gk
