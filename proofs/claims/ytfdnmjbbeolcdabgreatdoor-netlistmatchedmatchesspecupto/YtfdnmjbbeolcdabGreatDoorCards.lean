/-
  DERIVED. GIVEN WITH THE SEED: THE CARDS: each row of YtfdnmjbbeolcdabGreatDoorRows.lean that lists a variable, with what it lists TIED to the program's text (the seventh form; the later family's looks); each row that meets fmt, with fmt's text TOLD by the authors' own Lean function (tested against real Go, not proved from fmt's source: count such statements apart). THE CARD IS WHAT COUNTS. Prove the row's statement (the work); the ties are given (YtfdnmjbbeolcdabGreatDoorTie.lean); close each card by the builder's one call (the guide's Derived/Test/ToyasCard.lean, 'card_holds'). Laid BY PROGRAM, IN A SANDBOX (cutbox-door.mjs). By AI agents, Wed Nov 11 2026. No macro, syntax, notation, axiom, sorry.
-/
import Derived.Test.YtfdnmjbbeolcdabGreatDoorRows
import GoSem.ClaimSeven
namespace Go.Proofs.YtfdnmjbbeolcdabGreatDoor
namespace Rows

/-- THE TIED CARD OF 'etchhouselaw2.NetlistMatchedMatchesSpec'. -/
def netlistMatchedMatchesSpecCard : Claim7 := { stood := { row := netlistMatchedMatchesSpecRow, standIns := [], harness := (true, "7d2d823e1e9673b33543ae257e83116b7728097732e060c63780cfcb7d92a6f3"), looks := false }, kinds := [], alts := [], laidByText := true, laidKinds := [.data, .pinned], laidTests := true, laidLooks := .later }
def NetlistMatchedMatchesSpecCardSaid : Prop := Claim7.holds Tryz.pinned (.plain (OpenSpec.ofChange netlistMatchedMatchesSpecSpec)) netlistMatchedMatchesSpecCard

/-- THE SECOND FORM's CARD OF 'etchhouselaw2.NetlistMatchedMatchesSpec'. -/
def netlistMatchedMatchesSpecUptoCard : Claim7 := { stood := { row := netlistMatchedMatchesSpecUptoRow, standIns := [], harness := (true, "7d2d823e1e9673b33543ae257e83116b7728097732e060c63780cfcb7d92a6f3"), looks := false }, kinds := [], alts := [], laidByText := true, laidKinds := [.data, .pinned], laidTests := true, laidLooks := .later }
def NetlistMatchedMatchesSpecUptoCardSaid : Prop := Claim7.holds Tryz.pinned (.plain (OpenSpec.upto netlistMatchedMatchesSpecSpec)) netlistMatchedMatchesSpecUptoCard
end Rows
end Go.Proofs.YtfdnmjbbeolcdabGreatDoor
