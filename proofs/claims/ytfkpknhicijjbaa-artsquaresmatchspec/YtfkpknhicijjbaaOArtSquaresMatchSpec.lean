/-
  Printed by genfin.py: how the types of the arguments are read. No statement of the seed is proved here.
-/
import Derived.Test.YtfkpknhicijjbaaRows
import Derived.Test.YtfkpknhicijjbaaT
import Derived.Test.YtfkpknhicijjbaaK12
import Derived.Test.YtfkpknhicijjbaaB
set_option maxRecDepth 100000
namespace Go.Gk
open Go Go.Proofs
def UBK (H : Type) (d : DataW H) : Nat := Ytfkpknhicijjbaa.Rows.uptoBulk d
def UBA (H : Type) (d : List (DataW H)) : Nat := Ytfkpknhicijjbaa.Rows.uptoBulkAll d
theorem UB_ok : UB UBK UBA where
  str := fun H b => by simp [UBK, Ytfkpknhicijjbaa.Rows.uptoBulk]
  pos := fun H d => by
    unfold UBK
    cases d with
    | lit l => cases l <;> simp [Ytfkpknhicijjbaa.Rows.uptoBulk]
    | nil => simp [Ytfkpknhicijjbaa.Rows.uptoBulk]
    | ptr d => simp [Ytfkpknhicijjbaa.Rows.uptoBulk]
    | slice elems spare => simp [Ytfkpknhicijjbaa.Rows.uptoBulk]
    | agg parts => simp [Ytfkpknhicijjbaa.Rows.uptoBulk]
    | iface t d => simp [Ytfkpknhicijjbaa.Rows.uptoBulk]
    | map entries => simp [Ytfkpknhicijjbaa.Rows.uptoBulk]
    | held h => simp [Ytfkpknhicijjbaa.Rows.uptoBulk]
  sl := fun H e s => by simp [UBK, UBA, Ytfkpknhicijjbaa.Rows.uptoBulk]
  ag := fun H l => by simp [UBK, UBA, Ytfkpknhicijjbaa.Rows.uptoBulk]
  nil := fun H => by simp [UBA, Ytfkpknhicijjbaa.Rows.uptoBulkAll]
  cons := fun H x l => by simp [UBK, UBA, Ytfkpknhicijjbaa.Rows.uptoBulkAll]
theorem op3 : Opens UBK Try.prog 3 Int := opens_int UB_ok (by kernel_rfl)
theorem op23 : Opens UBK Try.prog 23 Point := opens_struct UB_ok (fun (x : Point) => (x.X, x.Y)) (fun b => ⟨b.1, b.2⟩) (fun b => rfl) Try.underlying23 (by kernel_rfl) (fopen_cons UB_ok op3 rfl (by kernel_rfl) rfl (fopen_one UB_ok op3 rfl (by kernel_rfl))) (fun b => by simp only [bk_Point]; omega)
theorem op4 : Opens UBK Try.prog 4 Bool := opens_bool UB_ok (by kernel_rfl)
theorem op25 : Opens UBK Try.prog 25 Bore := opens_struct UB_ok (fun (x : Bore) => (x.At, x.Size, x.From, x.To, x.Plated)) (fun b => ⟨b.1, b.2.1, b.2.2.1, b.2.2.2.1, b.2.2.2.2⟩) (fun b => rfl) Try.underlying25 (by kernel_rfl) (fopen_cons UB_ok op23 rfl (by kernel_rfl) rfl (fopen_cons UB_ok op3 rfl (by kernel_rfl) rfl (fopen_cons UB_ok op3 rfl (by kernel_rfl) rfl (fopen_cons UB_ok op3 rfl (by kernel_rfl) rfl (fopen_one UB_ok op4 rfl (by kernel_rfl)))))) (fun b => by simp only [bk_Bore]; omega)
end Go.Gk
