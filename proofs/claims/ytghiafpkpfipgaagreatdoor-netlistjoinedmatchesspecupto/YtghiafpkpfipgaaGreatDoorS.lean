/-
  Printed by gen.py: the shelf's contracts, laid.
-/
import Derived.Test.YtghiafpkpfipgaaGreatDoorProg
import Derived.Test.YtghiafpkpfipgaaGreatDoorK18
import Derived.Shelf.SlGeneric
import Derived.Ground.SlsfProg
import Derived.Ground.SlgmProg
namespace Go.Proofs
open Go.Shelf Go.RowKit Go.Lib Go.Sort
shelf_lay_g SlLaysF0.n6 Slsf 6 at Tryz 11 as Tryz.lay11
end Go.Proofs
