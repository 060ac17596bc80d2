/-
  DERIVED. GIVEN WITH THE SEED: THE CARDS: each row of YtgeinabdjaknpaaGreatDoorRows.lean that lists a variable, with what it lists TIED to the program's text (the seventh form; the later family's looks); each row that meets fmt, with fmt's text TOLD by the authors' own Lean function (tested against real Go, not proved from fmt's source: count such statements apart). THE CARD IS WHAT COUNTS. Prove the row's statement (the work); the ties are given (YtgeinabdjaknpaaGreatDoorTie.lean); close each card by the builder's one call (the guide's Derived/Test/ToyasCard.lean, 'card_holds'). Laid BY PROGRAM, IN A SANDBOX (cutbox-door.mjs). By AI agents, Wed Nov 11 2026. No macro, syntax, notation, axiom, sorry.
-/
import Derived.Test.YtgeinabdjaknpaaGreatDoorRows
import GoSem.ClaimSeven
namespace Go.Proofs.YtgeinabdjaknpaaGreatDoor
namespace Rows

/-- THE TIED CARD OF 'etchhouselaw5.ArtPiecesMakeIt'. -/
def artPiecesMakeItCard : Claim7 := { stood := { row := artPiecesMakeItRow, standIns := [], harness := (true, "b1090c7ff177c67e3ad4b632f4634572a9298d14f46979173535b9e15abf0e88"), looks := false }, kinds := [], alts := [], laidByText := true, laidKinds := [.data, .pinned], laidTests := true, laidLooks := .later }
def ArtPiecesMakeItCardSaid : Prop := Claim7.holds Tryz.pinned (.plain (OpenSpec.ofChange artPiecesMakeItSpec)) artPiecesMakeItCard

/-- THE SECOND FORM's CARD OF 'etchhouselaw5.ArtPiecesMakeIt'. -/
def artPiecesMakeItUptoCard : Claim7 := { stood := { row := artPiecesMakeItUptoRow, standIns := [], harness := (true, "b1090c7ff177c67e3ad4b632f4634572a9298d14f46979173535b9e15abf0e88"), looks := false }, kinds := [], alts := [], laidByText := true, laidKinds := [.data, .pinned], laidTests := true, laidLooks := .later }
def ArtPiecesMakeItUptoCardSaid : Prop := Claim7.holds Tryz.pinned (.plain (OpenSpec.upto artPiecesMakeItSpec)) artPiecesMakeItUptoCard
end Rows
end Go.Proofs.YtgeinabdjaknpaaGreatDoor
