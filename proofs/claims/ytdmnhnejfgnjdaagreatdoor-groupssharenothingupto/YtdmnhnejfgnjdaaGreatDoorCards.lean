/-
  DERIVED. GIVEN WITH THE SEED: THE CARDS: each row of YtdmnhnejfgnjdaaGreatDoorRows.lean that lists a variable, with what it lists TIED to the program's text (the seventh form; the later family's looks); each row that meets fmt, with fmt's text TOLD by the authors' own Lean function (tested against real Go, not proved from fmt's source: count such statements apart). THE CARD IS WHAT COUNTS. Prove the row's statement (the work); the ties are given (YtdmnhnejfgnjdaaGreatDoorTie.lean); close each card by the builder's one call (the guide's Derived/Test/ToyasCard.lean, 'card_holds'). Laid BY PROGRAM, IN A SANDBOX (cutbox-door.mjs). By AI agents, Wed Nov 11 2026. No macro, syntax, notation, axiom, sorry.
-/
import Derived.Test.YtdmnhnejfgnjdaaGreatDoorRows
import GoSem.ClaimSeven
namespace Go.Proofs.YtdmnhnejfgnjdaaGreatDoor
namespace Rows

/-- THE TIED CARD OF 'etchhouselaw5.GroupsShareNothing'. -/
def groupsShareNothingCard : Claim7 := { stood := { row := groupsShareNothingRow, standIns := [], harness := (true, "c76f968a9bf30b2f903352774e817c95690060eca514db0b07345735c05d5241"), looks := false }, kinds := [], alts := [], laidByText := true, laidKinds := [.data, .pinned], laidTests := true, laidLooks := .later }
def GroupsShareNothingCardSaid : Prop := Claim7.holds Tryz.pinned (.plain (OpenSpec.ofChange groupsShareNothingSpec)) groupsShareNothingCard

/-- THE SECOND FORM's CARD OF 'etchhouselaw5.GroupsShareNothing'. -/
def groupsShareNothingUptoCard : Claim7 := { stood := { row := groupsShareNothingUptoRow, standIns := [], harness := (true, "c76f968a9bf30b2f903352774e817c95690060eca514db0b07345735c05d5241"), looks := false }, kinds := [], alts := [], laidByText := true, laidKinds := [.data, .pinned], laidTests := true, laidLooks := .later }
def GroupsShareNothingUptoCardSaid : Prop := Claim7.holds Tryz.pinned (.plain (OpenSpec.upto groupsShareNothingSpec)) groupsShareNothingUptoCard
end Rows
end Go.Proofs.YtdmnhnejfgnjdaaGreatDoor
