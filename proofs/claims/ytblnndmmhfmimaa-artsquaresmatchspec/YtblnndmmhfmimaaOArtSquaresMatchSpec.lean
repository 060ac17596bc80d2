/-
  Printed by genfin.py: how the types of the arguments are read. No statement of the seed is proved here.
-/
import Derived.Test.YtblnndmmhfmimaaRows
import Derived.Test.YtblnndmmhfmimaaT
import Derived.Test.YtblnndmmhfmimaaK12
import Derived.Test.YtblnndmmhfmimaaB
set_option maxRecDepth 100000
namespace Go.Gk
open Go Go.Proofs
def UBK (H : Type) (d : DataW H) : Nat := Ytblnndmmhfmimaa.Rows.uptoBulk d
def UBA (H : Type) (d : List (DataW H)) : Nat := Ytblnndmmhfmimaa.Rows.uptoBulkAll d
theorem UB_ok : UB UBK UBA where
  str := fun H b => by simp [UBK, Ytblnndmmhfmimaa.Rows.uptoBulk]
  pos := fun H d => by
    unfold UBK
    cases d with
    | lit l => cases l <;> simp [Ytblnndmmhfmimaa.Rows.uptoBulk]
    | nil => simp [Ytblnndmmhfmimaa.Rows.uptoBulk]
    | ptr d => simp [Ytblnndmmhfmimaa.Rows.uptoBulk]
    | slice elems spare => simp [Ytblnndmmhfmimaa.Rows.uptoBulk]
    | agg parts => simp [Ytblnndmmhfmimaa.Rows.uptoBulk]
    | iface t d => simp [Ytblnndmmhfmimaa.Rows.uptoBulk]
    | map entries => simp [Ytblnndmmhfmimaa.Rows.uptoBulk]
    | held h => simp [Ytblnndmmhfmimaa.Rows.uptoBulk]
  sl := fun H e s => by simp [UBK, UBA, Ytblnndmmhfmimaa.Rows.uptoBulk]
  ag := fun H l => by simp [UBK, UBA, Ytblnndmmhfmimaa.Rows.uptoBulk]
  nil := fun H => by simp [UBA, Ytblnndmmhfmimaa.Rows.uptoBulkAll]
  cons := fun H x l => by simp [UBK, UBA, Ytblnndmmhfmimaa.Rows.uptoBulkAll]
theorem op3 : Opens UBK Try.prog 3 Int := opens_int UB_ok (by kernel_rfl)
theorem op23 : Opens UBK Try.prog 23 Point := opens_struct UB_ok (fun (x : Point) => (x.X, x.Y)) (fun b => ⟨b.1, b.2⟩) (fun b => rfl) Try.underlying23 (by kernel_rfl) (fopen_cons UB_ok op3 rfl (by kernel_rfl) rfl (fopen_one UB_ok op3 rfl (by kernel_rfl))) (fun b => by simp only [bk_Point]; omega)
theorem op4 : Opens UBK Try.prog 4 Bool := opens_bool UB_ok (by kernel_rfl)
theorem op25 : Opens UBK Try.prog 25 Bore := opens_struct UB_ok (fun (x : Bore) => (x.At, x.Size, x.From, x.To, x.Plated)) (fun b => ⟨b.1, b.2.1, b.2.2.1, b.2.2.2.1, b.2.2.2.2⟩) (fun b => rfl) Try.underlying25 (by kernel_rfl) (fopen_cons UB_ok op23 rfl (by kernel_rfl) rfl (fopen_cons UB_ok op3 rfl (by kernel_rfl) rfl (fopen_cons UB_ok op3 rfl (by kernel_rfl) rfl (fopen_cons UB_ok op3 rfl (by kernel_rfl) rfl (fopen_one UB_ok op4 rfl (by kernel_rfl)))))) (fun b => by simp only [bk_Bore]; omega)
end Go.Gk
