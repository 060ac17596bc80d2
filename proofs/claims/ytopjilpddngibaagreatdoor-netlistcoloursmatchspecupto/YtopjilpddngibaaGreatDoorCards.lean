/-
  DERIVED. GIVEN WITH THE SEED: THE CARDS: each row of YtopjilpddngibaaGreatDoorRows.lean that lists a variable, with what it lists TIED to the program's text (the seventh form; the later family's looks); each row that meets fmt, with fmt's text TOLD by the authors' own Lean function (tested against real Go, not proved from fmt's source: count such statements apart). THE CARD IS WHAT COUNTS. Prove the row's statement (the work); the ties are given (YtopjilpddngibaaGreatDoorTie.lean); close each card by the builder's one call (the guide's Derived/Test/ToyasCard.lean, 'card_holds'). Laid BY PROGRAM, IN A SANDBOX (cutbox-door.mjs). By AI agents, Wed Nov 11 2026. No macro, syntax, notation, axiom, sorry.
-/
import Derived.Test.YtopjilpddngibaaGreatDoorRows
import GoSem.ClaimSeven
namespace Go.Proofs.YtopjilpddngibaaGreatDoor
namespace Rows

/-- THE TIED CARD OF 'etchhouselaw2.NetlistColoursMatchSpec'. -/
def netlistColoursMatchSpecCard : Claim7 := { stood := { row := netlistColoursMatchSpecRow, standIns := [], harness := (true, "e25beec9f66045aad49d9faf8830a88ada630ad8dde87a6992b851fe2905d0bc"), looks := false }, kinds := [], alts := [], laidByText := true, laidKinds := [.data, .pinned], laidTests := true, laidLooks := .later }
def NetlistColoursMatchSpecCardSaid : Prop := Claim7.holds Tryz.pinned (.plain (OpenSpec.ofChange netlistColoursMatchSpecSpec)) netlistColoursMatchSpecCard

/-- THE SECOND FORM's CARD OF 'etchhouselaw2.NetlistColoursMatchSpec'. -/
def netlistColoursMatchSpecUptoCard : Claim7 := { stood := { row := netlistColoursMatchSpecUptoRow, standIns := [], harness := (true, "e25beec9f66045aad49d9faf8830a88ada630ad8dde87a6992b851fe2905d0bc"), looks := false }, kinds := [], alts := [], laidByText := true, laidKinds := [.data, .pinned], laidTests := true, laidLooks := .later }
def NetlistColoursMatchSpecUptoCardSaid : Prop := Claim7.holds Tryz.pinned (.plain (OpenSpec.upto netlistColoursMatchSpecSpec)) netlistColoursMatchSpecUptoCard
end Rows
end Go.Proofs.YtopjilpddngibaaGreatDoor
