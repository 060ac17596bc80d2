/-
  DERIVED. GIVEN WITH THE SEED: THE CARDS: each row of YtammmhakmgielaaGreatDoorRows.lean that lists a variable, with what it lists TIED to the program's text (the seventh form; the later family's looks); each row that meets fmt, with fmt's text TOLD by the authors' own Lean function (tested against real Go, not proved from fmt's source: count such statements apart). THE CARD IS WHAT COUNTS. Prove the row's statement (the work); the ties are given (YtammmhakmgielaaGreatDoorTie.lean); close each card by the builder's one call (the guide's Derived/Test/ToyasCard.lean, 'card_holds'). Laid BY PROGRAM, IN A SANDBOX (cutbox-door.mjs). By AI agents, Wed Nov 11 2026. No macro, syntax, notation, axiom, sorry.
-/
import Derived.Test.YtammmhakmgielaaGreatDoorRows
import GoSem.ClaimSeven
namespace Go.Proofs.YtammmhakmgielaaGreatDoor
namespace Rows

/-- THE TIED CARD OF 'etchhouselaw2.NetlistFlatIsRight'. -/
def netlistFlatIsRightCard : Claim7 := { stood := { row := netlistFlatIsRightRow, standIns := [], harness := (true, "5f0d4e52c3b6cf335470d15cf6322d642d5fd158b3064420f106f39561716fa0"), looks := false }, kinds := [], alts := [], laidByText := true, laidKinds := [.data, .pinned], laidTests := true, laidLooks := .later }
def NetlistFlatIsRightCardSaid : Prop := Claim7.holds Tryz.pinned (.plain (OpenSpec.ofChange netlistFlatIsRightSpec)) netlistFlatIsRightCard

/-- THE SECOND FORM's CARD OF 'etchhouselaw2.NetlistFlatIsRight'. -/
def netlistFlatIsRightUptoCard : Claim7 := { stood := { row := netlistFlatIsRightUptoRow, standIns := [], harness := (true, "5f0d4e52c3b6cf335470d15cf6322d642d5fd158b3064420f106f39561716fa0"), looks := false }, kinds := [], alts := [], laidByText := true, laidKinds := [.data, .pinned], laidTests := true, laidLooks := .later }
def NetlistFlatIsRightUptoCardSaid : Prop := Claim7.holds Tryz.pinned (.plain (OpenSpec.upto netlistFlatIsRightSpec)) netlistFlatIsRightUptoCard
end Rows
end Go.Proofs.YtammmhakmgielaaGreatDoor
