/-
  Printed by genfin.py: how the types of the arguments are read. No statement of the seed is proved here.
-/
import Derived.Test.YtnjoaggeheokeaaDoorRows
import Derived.Test.YtnjoaggeheokeaaDoorT
import Derived.Test.YtnjoaggeheokeaaDoorK12
import Derived.Test.YtnjoaggeheokeaaDoorB
set_option maxRecDepth 100000
namespace Go.Gk
open Go Go.Proofs
def UBK (H : Type) (d : DataW H) : Nat := YtnjoaggeheokeaaDoor.Rows.uptoBulk d
def UBA (H : Type) (d : List (DataW H)) : Nat := YtnjoaggeheokeaaDoor.Rows.uptoBulkAll d
theorem UB_ok : UB UBK UBA where
  str := fun H b => by simp [UBK, YtnjoaggeheokeaaDoor.Rows.uptoBulk]
  pos := fun H d => by
    unfold UBK
    cases d with
    | lit l => cases l <;> simp [YtnjoaggeheokeaaDoor.Rows.uptoBulk]
    | nil => simp [YtnjoaggeheokeaaDoor.Rows.uptoBulk]
    | ptr d => simp [YtnjoaggeheokeaaDoor.Rows.uptoBulk]
    | slice elems spare => simp [YtnjoaggeheokeaaDoor.Rows.uptoBulk]
    | agg parts => simp [YtnjoaggeheokeaaDoor.Rows.uptoBulk]
    | iface t d => simp [YtnjoaggeheokeaaDoor.Rows.uptoBulk]
    | map entries => simp [YtnjoaggeheokeaaDoor.Rows.uptoBulk]
    | held h => simp [YtnjoaggeheokeaaDoor.Rows.uptoBulk]
  sl := fun H e s => by simp [UBK, UBA, YtnjoaggeheokeaaDoor.Rows.uptoBulk]
  ag := fun H l => by simp [UBK, UBA, YtnjoaggeheokeaaDoor.Rows.uptoBulk]
  nil := fun H => by simp [UBA, YtnjoaggeheokeaaDoor.Rows.uptoBulkAll]
  cons := fun H x l => by simp [UBK, UBA, YtnjoaggeheokeaaDoor.Rows.uptoBulkAll]
theorem op9 : Opens UBK Tryd.prog 9 Str := opens_str UB_ok (by kernel_rfl)
theorem op3 : Opens UBK Tryd.prog 3 Int := opens_int UB_ok (by kernel_rfl)
theorem op82 : Opens UBK Tryd.prog 82 PinType := opens_struct UB_ok (fun (x : PinType) => (x.Name, x.Kind, x.Group)) (fun b => ⟨b.1, b.2.1, b.2.2⟩) (fun b => rfl) Tryd.underlying82 (by kernel_rfl) (fopen_cons UB_ok op9 rfl (by kernel_rfl) rfl (fopen_cons UB_ok op3 rfl (by kernel_rfl) rfl (fopen_one UB_ok op3 rfl (by kernel_rfl)))) (fun b => by simp only [bk_PinType]; omega)
theorem op83 : Opens UBK Tryd.prog 83 (List PinType) := opens_list UB_ok (e := 82) (by kernel_rfl) (by kernel_rfl) op82
theorem op85 : Opens UBK Tryd.prog 85 PartType := opens_struct UB_ok (fun (x : PartType) => (x.Name, x.Pins)) (fun b => ⟨b.1, b.2⟩) (fun b => rfl) Tryd.underlying85 (by kernel_rfl) (fopen_cons UB_ok op9 rfl (by kernel_rfl) rfl (fopen_one UB_ok op83 rfl (by kernel_rfl))) (fun b => by simp only [bk_PartType]; omega)
theorem op22 : Opens UBK Tryd.prog 22 (List PartType) := opens_list UB_ok (e := 85) (by kernel_rfl) (by kernel_rfl) op85
theorem op87 : Opens UBK Tryd.prog 87 Part := opens_struct UB_ok (fun (x : Part) => (x.Name, x.Type_)) (fun b => ⟨b.1, b.2⟩) (fun b => rfl) Tryd.underlying87 (by kernel_rfl) (fopen_cons UB_ok op9 rfl (by kernel_rfl) rfl (fopen_one UB_ok op9 rfl (by kernel_rfl))) (fun b => by simp only [bk_Part]; omega)
theorem op23 : Opens UBK Tryd.prog 23 (List Part) := opens_list UB_ok (e := 87) (by kernel_rfl) (by kernel_rfl) op87
theorem op28 : Opens UBK Tryd.prog 28 Pin := opens_struct UB_ok (fun (x : Pin) => (x.Part, x.Pin)) (fun b => ⟨b.1, b.2⟩) (fun b => rfl) Tryd.underlying28 (by kernel_rfl) (fopen_cons UB_ok op9 rfl (by kernel_rfl) rfl (fopen_one UB_ok op9 rfl (by kernel_rfl))) (fun b => by simp only [bk_Pin]; omega)
theorem op33 : Opens UBK Tryd.prog 33 (List Pin) := opens_list UB_ok (e := 28) (by kernel_rfl) (by kernel_rfl) op28
theorem op55 : Opens UBK Tryd.prog 55 (List Str) := opens_list UB_ok (e := 9) (by kernel_rfl) (by kernel_rfl) op9
theorem op64 : Opens UBK Tryd.prog 64 Net := opens_struct UB_ok (fun (x : Net) => (x.Name, x.Pins, x.Ports)) (fun b => ⟨b.1, b.2.1, b.2.2⟩) (fun b => rfl) Tryd.underlying64 (by kernel_rfl) (fopen_cons UB_ok op9 rfl (by kernel_rfl) rfl (fopen_cons UB_ok op33 rfl (by kernel_rfl) rfl (fopen_one UB_ok op55 rfl (by kernel_rfl)))) (fun b => by simp only [bk_Net]; omega)
theorem op24 : Opens UBK Tryd.prog 24 (List Net) := opens_list UB_ok (e := 64) (by kernel_rfl) (by kernel_rfl) op64
theorem op26 : Opens UBK Tryd.prog 26 Netlist := opens_struct UB_ok (fun (x : Netlist) => (x.Parts, x.Nets)) (fun b => ⟨b.1, b.2⟩) (fun b => rfl) Tryd.underlying26 (by kernel_rfl) (fopen_cons UB_ok op23 rfl (by kernel_rfl) rfl (fopen_one UB_ok op24 rfl (by kernel_rfl))) (fun b => by simp only [bk_Netlist]; omega)
end Go.Gk
