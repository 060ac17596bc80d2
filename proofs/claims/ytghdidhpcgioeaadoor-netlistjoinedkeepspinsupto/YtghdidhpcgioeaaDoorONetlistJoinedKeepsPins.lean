/-
  Printed by genfin.py: how the types of the arguments are read. No statement of the seed is proved here.
-/
import Derived.Test.YtghdidhpcgioeaaDoorRows
import Derived.Test.YtghdidhpcgioeaaDoorT
import Derived.Test.YtghdidhpcgioeaaDoorK12
import Derived.Test.YtghdidhpcgioeaaDoorB
set_option maxRecDepth 100000
namespace Go.Gk
open Go Go.Proofs
def UBK (H : Type) (d : DataW H) : Nat := YtghdidhpcgioeaaDoor.Rows.uptoBulk d
def UBA (H : Type) (d : List (DataW H)) : Nat := YtghdidhpcgioeaaDoor.Rows.uptoBulkAll d
theorem UB_ok : UB UBK UBA where
  str := fun H b => by simp [UBK, YtghdidhpcgioeaaDoor.Rows.uptoBulk]
  pos := fun H d => by
    unfold UBK
    cases d with
    | lit l => cases l <;> simp [YtghdidhpcgioeaaDoor.Rows.uptoBulk]
    | nil => simp [YtghdidhpcgioeaaDoor.Rows.uptoBulk]
    | ptr d => simp [YtghdidhpcgioeaaDoor.Rows.uptoBulk]
    | slice elems spare => simp [YtghdidhpcgioeaaDoor.Rows.uptoBulk]
    | agg parts => simp [YtghdidhpcgioeaaDoor.Rows.uptoBulk]
    | iface t d => simp [YtghdidhpcgioeaaDoor.Rows.uptoBulk]
    | map entries => simp [YtghdidhpcgioeaaDoor.Rows.uptoBulk]
    | held h => simp [YtghdidhpcgioeaaDoor.Rows.uptoBulk]
  sl := fun H e s => by simp [UBK, UBA, YtghdidhpcgioeaaDoor.Rows.uptoBulk]
  ag := fun H l => by simp [UBK, UBA, YtghdidhpcgioeaaDoor.Rows.uptoBulk]
  nil := fun H => by simp [UBA, YtghdidhpcgioeaaDoor.Rows.uptoBulkAll]
  cons := fun H x l => by simp [UBK, UBA, YtghdidhpcgioeaaDoor.Rows.uptoBulkAll]
theorem op9 : Opens UBK Tryd.prog 9 Str := opens_str UB_ok (by kernel_rfl)
theorem op3 : Opens UBK Tryd.prog 3 Int := opens_int UB_ok (by kernel_rfl)
theorem op63 : Opens UBK Tryd.prog 63 PinType := opens_struct UB_ok (fun (x : PinType) => (x.Name, x.Kind, x.Group)) (fun b => ⟨b.1, b.2.1, b.2.2⟩) (fun b => rfl) Tryd.underlying63 (by kernel_rfl) (fopen_cons UB_ok op9 rfl (by kernel_rfl) rfl (fopen_cons UB_ok op3 rfl (by kernel_rfl) rfl (fopen_one UB_ok op3 rfl (by kernel_rfl)))) (fun b => by simp only [bk_PinType]; omega)
theorem op64 : Opens UBK Tryd.prog 64 (List PinType) := opens_list UB_ok (e := 63) (by kernel_rfl) (by kernel_rfl) op63
theorem op66 : Opens UBK Tryd.prog 66 PartType := opens_struct UB_ok (fun (x : PartType) => (x.Name, x.Pins)) (fun b => ⟨b.1, b.2⟩) (fun b => rfl) Tryd.underlying66 (by kernel_rfl) (fopen_cons UB_ok op9 rfl (by kernel_rfl) rfl (fopen_one UB_ok op64 rfl (by kernel_rfl))) (fun b => by simp only [bk_PartType]; omega)
theorem op22 : Opens UBK Tryd.prog 22 (List PartType) := opens_list UB_ok (e := 66) (by kernel_rfl) (by kernel_rfl) op66
theorem op36 : Opens UBK Tryd.prog 36 Part := opens_struct UB_ok (fun (x : Part) => (x.Name, x.Type_)) (fun b => ⟨b.1, b.2⟩) (fun b => rfl) Tryd.underlying36 (by kernel_rfl) (fopen_cons UB_ok op9 rfl (by kernel_rfl) rfl (fopen_one UB_ok op9 rfl (by kernel_rfl))) (fun b => by simp only [bk_Part]; omega)
theorem op23 : Opens UBK Tryd.prog 23 (List Part) := opens_list UB_ok (e := 36) (by kernel_rfl) (by kernel_rfl) op36
theorem op45 : Opens UBK Tryd.prog 45 Pin := opens_struct UB_ok (fun (x : Pin) => (x.Part, x.Pin)) (fun b => ⟨b.1, b.2⟩) (fun b => rfl) Tryd.underlying45 (by kernel_rfl) (fopen_cons UB_ok op9 rfl (by kernel_rfl) rfl (fopen_one UB_ok op9 rfl (by kernel_rfl))) (fun b => by simp only [bk_Pin]; omega)
theorem op37 : Opens UBK Tryd.prog 37 (List Pin) := opens_list UB_ok (e := 45) (by kernel_rfl) (by kernel_rfl) op45
theorem op27 : Opens UBK Tryd.prog 27 (List Str) := opens_list UB_ok (e := 9) (by kernel_rfl) (by kernel_rfl) op9
theorem op39 : Opens UBK Tryd.prog 39 Net := opens_struct UB_ok (fun (x : Net) => (x.Name, x.Pins, x.Ports)) (fun b => ⟨b.1, b.2.1, b.2.2⟩) (fun b => rfl) Tryd.underlying39 (by kernel_rfl) (fopen_cons UB_ok op9 rfl (by kernel_rfl) rfl (fopen_cons UB_ok op37 rfl (by kernel_rfl) rfl (fopen_one UB_ok op27 rfl (by kernel_rfl)))) (fun b => by simp only [bk_Net]; omega)
theorem op24 : Opens UBK Tryd.prog 24 (List Net) := opens_list UB_ok (e := 39) (by kernel_rfl) (by kernel_rfl) op39
theorem op26 : Opens UBK Tryd.prog 26 Netlist := opens_struct UB_ok (fun (x : Netlist) => (x.Parts, x.Nets)) (fun b => ⟨b.1, b.2⟩) (fun b => rfl) Tryd.underlying26 (by kernel_rfl) (fopen_cons UB_ok op23 rfl (by kernel_rfl) rfl (fopen_one UB_ok op24 rfl (by kernel_rfl))) (fun b => by simp only [bk_Netlist]; omega)
end Go.Gk
