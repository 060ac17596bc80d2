/-
  Printed by gen.py: the shelf's contracts, laid.
-/
import Derived.Test.YtblnndmmhfmimaaProg
import Derived.Test.YtblnndmmhfmimaaK18
import Derived.Shelf.SlGeneric
import Derived.Ground.SlsfProg
import Derived.Ground.SlgmProg
namespace Go.Proofs
open Go.Shelf Go.RowKit Go.Lib Go.Sort
shelf_lay_g SlLaysF0.n6 Slsf 6 at Try 31 as Try.lay31
shelf_lay_g SlLaysM.n5 Slgm 5 at Try 33 as Try.lay33
end Go.Proofs
