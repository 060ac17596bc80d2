/-
  DERIVED. GIVEN WITH THE SEED: THE CARDS: each row of YtgjiokjfpghfgaaGreatDoorRows.lean that lists a variable, with what it lists TIED to the program's text (the seventh form; the later family's looks); each row that meets fmt, with fmt's text TOLD by the authors' own Lean function (tested against real Go, not proved from fmt's source: count such statements apart). THE CARD IS WHAT COUNTS. Prove the row's statement (the work); the ties are given (YtgjiokjfpghfgaaGreatDoorTie.lean); close each card by the builder's one call (the guide's Derived/Test/ToyasCard.lean, 'card_holds'). Laid BY PROGRAM, IN A SANDBOX (cutbox-door.mjs). By AI agents, Wed Nov 11 2026. No macro, syntax, notation, axiom, sorry.
-/
import Derived.Test.YtgjiokjfpghfgaaGreatDoorRows
import GoSem.ClaimSeven
namespace Go.Proofs.YtgjiokjfpghfgaaGreatDoor
namespace Rows

/-- THE TIED CARD OF 'etchhouselaw5.MoreCopperOpensNothing'. -/
def moreCopperOpensNothingCard : Claim7 := { stood := { row := moreCopperOpensNothingRow, standIns := [], harness := (true, "c4bb5b37e78e65dc6bf582892ad76c5ec3216e1c4fb75814293a911768e84580"), looks := false }, kinds := [], alts := [], laidByText := true, laidKinds := [.data, .pinned], laidTests := true, laidLooks := .later }
def MoreCopperOpensNothingCardSaid : Prop := Claim7.holds Tryz.pinned (.plain (OpenSpec.ofChange moreCopperOpensNothingSpec)) moreCopperOpensNothingCard

/-- THE SECOND FORM's CARD OF 'etchhouselaw5.MoreCopperOpensNothing'. -/
def moreCopperOpensNothingUptoCard : Claim7 := { stood := { row := moreCopperOpensNothingUptoRow, standIns := [], harness := (true, "c4bb5b37e78e65dc6bf582892ad76c5ec3216e1c4fb75814293a911768e84580"), looks := false }, kinds := [], alts := [], laidByText := true, laidKinds := [.data, .pinned], laidTests := true, laidLooks := .later }
def MoreCopperOpensNothingUptoCardSaid : Prop := Claim7.holds Tryz.pinned (.plain (OpenSpec.upto moreCopperOpensNothingSpec)) moreCopperOpensNothingUptoCard
end Rows
end Go.Proofs.YtgjiokjfpghfgaaGreatDoor
