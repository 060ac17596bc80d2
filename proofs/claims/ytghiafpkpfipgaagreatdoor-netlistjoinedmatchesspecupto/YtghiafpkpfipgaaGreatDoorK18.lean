/-
  slices.Sort of ints (the shelf's contract) in the logic of memory. No statement of the seed is proved here.
-/
import Derived.Test.YtghiafpkpfipgaaGreatDoorK16
import Derived.Test.YtghiafpkpfipgaaGreatDoorK17
import Derived.Shelf.SortM.Plain
import Derived.Shelf.SortM.SortNone
set_option linter.unusedVariables false
set_option linter.unusedSimpArgs false
set_option linter.unusedSectionVars false
namespace Go.Gk
open Go Go.Proofs Go.Sort
section
variable (w : World) (g o m : Nat) (dk : Array Int) (os : Array Obj)
end
end Go.Gk
