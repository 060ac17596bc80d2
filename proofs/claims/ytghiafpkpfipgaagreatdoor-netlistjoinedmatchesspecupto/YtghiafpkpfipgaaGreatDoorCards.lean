/-
  DERIVED. GIVEN WITH THE SEED: THE CARDS: each row of YtghiafpkpfipgaaGreatDoorRows.lean that lists a variable, with what it lists TIED to the program's text (the seventh form; the later family's looks); each row that meets fmt, with fmt's text TOLD by the authors' own Lean function (tested against real Go, not proved from fmt's source: count such statements apart). THE CARD IS WHAT COUNTS. Prove the row's statement (the work); the ties are given (YtghiafpkpfipgaaGreatDoorTie.lean); close each card by the builder's one call (the guide's Derived/Test/ToyasCard.lean, 'card_holds'). Laid BY PROGRAM, IN A SANDBOX (cutbox-door.mjs). By AI agents, Wed Nov 11 2026. No macro, syntax, notation, axiom, sorry.
-/
import Derived.Test.YtghiafpkpfipgaaGreatDoorRows
import GoSem.ClaimSeven
namespace Go.Proofs.YtghiafpkpfipgaaGreatDoor
namespace Rows

/-- THE TIED CARD OF 'etchhouselaw2.NetlistJoinedMatchesSpec'. -/
def netlistJoinedMatchesSpecCard : Claim7 := { stood := { row := netlistJoinedMatchesSpecRow, standIns := [], harness := (true, "4f131764dfc7309de9683ae9486443c0cb3ae2fb97adf285275e1d2c0e52bfaf"), looks := false }, kinds := [], alts := [], laidByText := true, laidKinds := [.data, .pinned], laidTests := true, laidLooks := .later }
def NetlistJoinedMatchesSpecCardSaid : Prop := Claim7.holds Tryz.pinned (.plain (OpenSpec.ofChange netlistJoinedMatchesSpecSpec)) netlistJoinedMatchesSpecCard

/-- THE SECOND FORM's CARD OF 'etchhouselaw2.NetlistJoinedMatchesSpec'. -/
def netlistJoinedMatchesSpecUptoCard : Claim7 := { stood := { row := netlistJoinedMatchesSpecUptoRow, standIns := [], harness := (true, "4f131764dfc7309de9683ae9486443c0cb3ae2fb97adf285275e1d2c0e52bfaf"), looks := false }, kinds := [], alts := [], laidByText := true, laidKinds := [.data, .pinned], laidTests := true, laidLooks := .later }
def NetlistJoinedMatchesSpecUptoCardSaid : Prop := Claim7.holds Tryz.pinned (.plain (OpenSpec.upto netlistJoinedMatchesSpecSpec)) netlistJoinedMatchesSpecUptoCard
end Rows
end Go.Proofs.YtghiafpkpfipgaaGreatDoor
