/-
  Printed by genfin.py: how the types of the arguments are read. No statement of the seed is proved here.
-/
import Derived.Test.YtghiafpkpfipgaaGreatDoorRows
import Derived.Test.YtghiafpkpfipgaaGreatDoorT
import Derived.Test.YtghiafpkpfipgaaGreatDoorK12
import Derived.Test.YtghiafpkpfipgaaGreatDoorB
set_option maxRecDepth 100000
namespace Go.Gk
open Go Go.Proofs
def UBK (H : Type) (d : DataW H) : Nat := YtghiafpkpfipgaaGreatDoor.Rows.uptoBulk d
def UBA (H : Type) (d : List (DataW H)) : Nat := YtghiafpkpfipgaaGreatDoor.Rows.uptoBulkAll d
theorem UB_ok : UB UBK UBA where
  str := fun H b => by simp [UBK, YtghiafpkpfipgaaGreatDoor.Rows.uptoBulk]
  pos := fun H d => by
    unfold UBK
    cases d with
    | lit l => cases l <;> simp [YtghiafpkpfipgaaGreatDoor.Rows.uptoBulk]
    | nil => simp [YtghiafpkpfipgaaGreatDoor.Rows.uptoBulk]
    | ptr d => simp [YtghiafpkpfipgaaGreatDoor.Rows.uptoBulk]
    | slice elems spare => simp [YtghiafpkpfipgaaGreatDoor.Rows.uptoBulk]
    | agg parts => simp [YtghiafpkpfipgaaGreatDoor.Rows.uptoBulk]
    | iface t d => simp [YtghiafpkpfipgaaGreatDoor.Rows.uptoBulk]
    | map entries => simp [YtghiafpkpfipgaaGreatDoor.Rows.uptoBulk]
    | held h => simp [YtghiafpkpfipgaaGreatDoor.Rows.uptoBulk]
  sl := fun H e s => by simp [UBK, UBA, YtghiafpkpfipgaaGreatDoor.Rows.uptoBulk]
  ag := fun H l => by simp [UBK, UBA, YtghiafpkpfipgaaGreatDoor.Rows.uptoBulk]
  nil := fun H => by simp [UBA, YtghiafpkpfipgaaGreatDoor.Rows.uptoBulkAll]
  cons := fun H x l => by simp [UBK, UBA, YtghiafpkpfipgaaGreatDoor.Rows.uptoBulkAll]
theorem op9 : Opens UBK Tryz.prog 9 Str := opens_str UB_ok (by kernel_rfl)
theorem op3 : Opens UBK Tryz.prog 3 Int := opens_int UB_ok (by kernel_rfl)
theorem op55 : Opens UBK Tryz.prog 55 PinType := opens_struct UB_ok (fun (x : PinType) => (x.Name, x.Kind, x.Group)) (fun b => ⟨b.1, b.2.1, b.2.2⟩) (fun b => rfl) Tryz.underlying55 (by kernel_rfl) (fopen_cons UB_ok op9 rfl (by kernel_rfl) rfl (fopen_cons UB_ok op3 rfl (by kernel_rfl) rfl (fopen_one UB_ok op3 rfl (by kernel_rfl)))) (fun b => by simp only [bk_PinType]; omega)
theorem op56 : Opens UBK Tryz.prog 56 (List PinType) := opens_list UB_ok (e := 55) (by kernel_rfl) (by kernel_rfl) op55
theorem op58 : Opens UBK Tryz.prog 58 PartType := opens_struct UB_ok (fun (x : PartType) => (x.Name, x.Pins)) (fun b => ⟨b.1, b.2⟩) (fun b => rfl) Tryz.underlying58 (by kernel_rfl) (fopen_cons UB_ok op9 rfl (by kernel_rfl) rfl (fopen_one UB_ok op56 rfl (by kernel_rfl))) (fun b => by simp only [bk_PartType]; omega)
theorem op22 : Opens UBK Tryz.prog 22 (List PartType) := opens_list UB_ok (e := 58) (by kernel_rfl) (by kernel_rfl) op58
theorem op48 : Opens UBK Tryz.prog 48 Part := opens_struct UB_ok (fun (x : Part) => (x.Name, x.Type_)) (fun b => ⟨b.1, b.2⟩) (fun b => rfl) Tryz.underlying48 (by kernel_rfl) (fopen_cons UB_ok op9 rfl (by kernel_rfl) rfl (fopen_one UB_ok op9 rfl (by kernel_rfl))) (fun b => by simp only [bk_Part]; omega)
theorem op23 : Opens UBK Tryz.prog 23 (List Part) := opens_list UB_ok (e := 48) (by kernel_rfl) (by kernel_rfl) op48
theorem op43 : Opens UBK Tryz.prog 43 Pin := opens_struct UB_ok (fun (x : Pin) => (x.Part, x.Pin)) (fun b => ⟨b.1, b.2⟩) (fun b => rfl) Tryz.underlying43 (by kernel_rfl) (fopen_cons UB_ok op9 rfl (by kernel_rfl) rfl (fopen_one UB_ok op9 rfl (by kernel_rfl))) (fun b => by simp only [bk_Pin]; omega)
theorem op35 : Opens UBK Tryz.prog 35 (List Pin) := opens_list UB_ok (e := 43) (by kernel_rfl) (by kernel_rfl) op43
theorem op36 : Opens UBK Tryz.prog 36 (List Str) := opens_list UB_ok (e := 9) (by kernel_rfl) (by kernel_rfl) op9
theorem op38 : Opens UBK Tryz.prog 38 Net := opens_struct UB_ok (fun (x : Net) => (x.Name, x.Pins, x.Ports)) (fun b => ⟨b.1, b.2.1, b.2.2⟩) (fun b => rfl) Tryz.underlying38 (by kernel_rfl) (fopen_cons UB_ok op9 rfl (by kernel_rfl) rfl (fopen_cons UB_ok op35 rfl (by kernel_rfl) rfl (fopen_one UB_ok op36 rfl (by kernel_rfl)))) (fun b => by simp only [bk_Net]; omega)
theorem op24 : Opens UBK Tryz.prog 24 (List Net) := opens_list UB_ok (e := 38) (by kernel_rfl) (by kernel_rfl) op38
theorem op26 : Opens UBK Tryz.prog 26 Netlist := opens_struct UB_ok (fun (x : Netlist) => (x.Parts, x.Nets)) (fun b => ⟨b.1, b.2⟩) (fun b => rfl) Tryz.underlying26 (by kernel_rfl) (fopen_cons UB_ok op23 rfl (by kernel_rfl) rfl (fopen_one UB_ok op24 rfl (by kernel_rfl))) (fun b => by simp only [bk_Netlist]; omega)
end Go.Gk
