/-
  DERIVED. GIVEN WITH THE SEED: THE CARDS: each row of YtjocleflknekmabGreatDoorRows.lean that lists a variable, with what it lists TIED to the program's text (the seventh form; the later family's looks); each row that meets fmt, with fmt's text TOLD by the authors' own Lean function (tested against real Go, not proved from fmt's source: count such statements apart). THE CARD IS WHAT COUNTS. Prove the row's statement (the work); the ties are given (YtjocleflknekmabGreatDoorTie.lean); close each card by the builder's one call (the guide's Derived/Test/ToyasCard.lean, 'card_holds'). Laid BY PROGRAM, IN A SANDBOX (cutbox-door.mjs). By AI agents, Wed Nov 11 2026. No macro, syntax, notation, axiom, sorry.
-/
import Derived.Test.YtjocleflknekmabGreatDoorRows
import GoSem.ClaimSeven
namespace Go.Proofs.YtjocleflknekmabGreatDoor
namespace Rows

/-- THE TIED CARD OF 'etchhouselaw5.ArtComparesTell'. -/
def artComparesTellCard : Claim7 := { stood := { row := artComparesTellRow, standIns := [], harness := (true, "6077d20910b1cc242e92fb576513e0b9a4fc268f52ab2663f201de810e7bd9ac"), looks := false }, kinds := [], alts := [], laidByText := true, laidKinds := [.data, .pinned], laidTests := true, laidLooks := .later }
def ArtComparesTellCardSaid : Prop := Claim7.holds Tryz.pinned (.plain (OpenSpec.ofChange artComparesTellSpec)) artComparesTellCard

/-- THE SECOND FORM's CARD OF 'etchhouselaw5.ArtComparesTell'. -/
def artComparesTellUptoCard : Claim7 := { stood := { row := artComparesTellUptoRow, standIns := [], harness := (true, "6077d20910b1cc242e92fb576513e0b9a4fc268f52ab2663f201de810e7bd9ac"), looks := false }, kinds := [], alts := [], laidByText := true, laidKinds := [.data, .pinned], laidTests := true, laidLooks := .later }
def ArtComparesTellUptoCardSaid : Prop := Claim7.holds Tryz.pinned (.plain (OpenSpec.upto artComparesTellSpec)) artComparesTellUptoCard
end Rows
end Go.Proofs.YtjocleflknekmabGreatDoor
