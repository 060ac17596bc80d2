/-
  DERIVED. GIVEN WITH THE SEED: THE CARDS: each row of YthjjhaommlojiaaGreatDoorRows.lean that lists a variable, with what it lists TIED to the program's text (the seventh form; the later family's looks); each row that meets fmt, with fmt's text TOLD by the authors' own Lean function (tested against real Go, not proved from fmt's source: count such statements apart). THE CARD IS WHAT COUNTS. Prove the row's statement (the work); the ties are given (YthjjhaommlojiaaGreatDoorTie.lean); close each card by the builder's one call (the guide's Derived/Test/ToyasCard.lean, 'card_holds'). Laid BY PROGRAM, IN A SANDBOX (cutbox-door.mjs). By AI agents, Wed Nov 11 2026. No macro, syntax, notation, axiom, sorry.
-/
import Derived.Test.YthjjhaommlojiaaGreatDoorRows
import GoSem.ClaimSeven
namespace Go.Proofs.YthjjhaommlojiaaGreatDoor
namespace Rows

/-- THE TIED CARD OF 'etchhouselaw5.WaysMatchSpec'. -/
def waysMatchSpecCard : Claim7 := { stood := { row := waysMatchSpecRow, standIns := [], harness := (true, "a6467627e78a79d61b9ffad7ac109eeaee80d9739c1ea59571937664b603947a"), looks := false }, kinds := [], alts := [], laidByText := true, laidKinds := [.data, .pinned], laidTests := true, laidLooks := .later }
def WaysMatchSpecCardSaid : Prop := Claim7.holds Tryz.pinned (.plain (OpenSpec.ofChange waysMatchSpecSpec)) waysMatchSpecCard

/-- THE SECOND FORM's CARD OF 'etchhouselaw5.WaysMatchSpec'. -/
def waysMatchSpecUptoCard : Claim7 := { stood := { row := waysMatchSpecUptoRow, standIns := [], harness := (true, "a6467627e78a79d61b9ffad7ac109eeaee80d9739c1ea59571937664b603947a"), looks := false }, kinds := [], alts := [], laidByText := true, laidKinds := [.data, .pinned], laidTests := true, laidLooks := .later }
def WaysMatchSpecUptoCardSaid : Prop := Claim7.holds Tryz.pinned (.plain (OpenSpec.upto waysMatchSpecSpec)) waysMatchSpecUptoCard
end Rows
end Go.Proofs.YthjjhaommlojiaaGreatDoor
