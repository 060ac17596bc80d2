/-
  DERIVED. GIVEN WITH THE SEED: THE CARDS: each row of YtmmiladckdcjeacGreatDoorRows.lean that lists a variable, with what it lists TIED to the program's text (the seventh form; the later family's looks); each row that meets fmt, with fmt's text TOLD by the authors' own Lean function (tested against real Go, not proved from fmt's source: count such statements apart). THE CARD IS WHAT COUNTS. Prove the row's statement (the work); the ties are given (YtmmiladckdcjeacGreatDoorTie.lean); close each card by the builder's one call (the guide's Derived/Test/ToyasCard.lean, 'card_holds'). Laid BY PROGRAM, IN A SANDBOX (cutbox-door.mjs). By AI agents, Wed Nov 11 2026. No macro, syntax, notation, axiom, sorry.
-/
import Derived.Test.YtmmiladckdcjeacGreatDoorRows
import GoSem.ClaimSeven
namespace Go.Proofs.YtmmiladckdcjeacGreatDoor
namespace Rows

/-- THE TIED CARD OF 'etchhouselaw5.GroupsOfPinsMatchSpec'. -/
def groupsOfPinsMatchSpecCard : Claim7 := { stood := { row := groupsOfPinsMatchSpecRow, standIns := [], harness := (true, "57bffd5d914a31d6cd4fd02ffe8fda148a0cbaf2110a2dbbb50dea0d9d6f7cbb"), looks := false }, kinds := [], alts := [], laidByText := true, laidKinds := [.data, .pinned], laidTests := true, laidLooks := .later }
def GroupsOfPinsMatchSpecCardSaid : Prop := Claim7.holds Tryz.pinned (.plain (OpenSpec.ofChange groupsOfPinsMatchSpecSpec)) groupsOfPinsMatchSpecCard

/-- THE SECOND FORM's CARD OF 'etchhouselaw5.GroupsOfPinsMatchSpec'. -/
def groupsOfPinsMatchSpecUptoCard : Claim7 := { stood := { row := groupsOfPinsMatchSpecUptoRow, standIns := [], harness := (true, "57bffd5d914a31d6cd4fd02ffe8fda148a0cbaf2110a2dbbb50dea0d9d6f7cbb"), looks := false }, kinds := [], alts := [], laidByText := true, laidKinds := [.data, .pinned], laidTests := true, laidLooks := .later }
def GroupsOfPinsMatchSpecUptoCardSaid : Prop := Claim7.holds Tryz.pinned (.plain (OpenSpec.upto groupsOfPinsMatchSpecSpec)) groupsOfPinsMatchSpecUptoCard
end Rows
end Go.Proofs.YtmmiladckdcjeacGreatDoor
