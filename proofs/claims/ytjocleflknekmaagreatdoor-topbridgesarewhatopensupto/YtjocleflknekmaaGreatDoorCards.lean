/-
  DERIVED. GIVEN WITH THE SEED: THE CARDS: each row of YtjocleflknekmaaGreatDoorRows.lean that lists a variable, with what it lists TIED to the program's text (the seventh form; the later family's looks); each row that meets fmt, with fmt's text TOLD by the authors' own Lean function (tested against real Go, not proved from fmt's source: count such statements apart). THE CARD IS WHAT COUNTS. Prove the row's statement (the work); the ties are given (YtjocleflknekmaaGreatDoorTie.lean); close each card by the builder's one call (the guide's Derived/Test/ToyasCard.lean, 'card_holds'). Laid BY PROGRAM, IN A SANDBOX (cutbox-door.mjs). By AI agents, Wed Nov 11 2026. No macro, syntax, notation, axiom, sorry.
-/
import Derived.Test.YtjocleflknekmaaGreatDoorRows
import GoSem.ClaimSeven
namespace Go.Proofs.YtjocleflknekmaaGreatDoor
namespace Rows

/-- THE TIED CARD OF 'etchhousetop.TopBridgesAreWhatOpens'. -/
def topBridgesAreWhatOpensCard : Claim7 := { stood := { row := topBridgesAreWhatOpensRow, standIns := [], harness := (true, "a5840975d2a344819ea021f5b8b2191fc878aaf13c4b307f985b977a8a8c231e"), looks := false }, kinds := [], alts := [], laidByText := true, laidKinds := [.data, .pinned], laidTests := true, laidLooks := .later }
def TopBridgesAreWhatOpensCardSaid : Prop := Claim7.holds Tryz.pinned (.plain (OpenSpec.ofChange topBridgesAreWhatOpensSpec)) topBridgesAreWhatOpensCard

/-- THE SECOND FORM's CARD OF 'etchhousetop.TopBridgesAreWhatOpens'. -/
def topBridgesAreWhatOpensUptoCard : Claim7 := { stood := { row := topBridgesAreWhatOpensUptoRow, standIns := [], harness := (true, "a5840975d2a344819ea021f5b8b2191fc878aaf13c4b307f985b977a8a8c231e"), looks := false }, kinds := [], alts := [], laidByText := true, laidKinds := [.data, .pinned], laidTests := true, laidLooks := .later }
def TopBridgesAreWhatOpensUptoCardSaid : Prop := Claim7.holds Tryz.pinned (.plain (OpenSpec.upto topBridgesAreWhatOpensSpec)) topBridgesAreWhatOpensUptoCard
end Rows
end Go.Proofs.YtjocleflknekmaaGreatDoor
