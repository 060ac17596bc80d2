/-
  DERIVED. GIVEN WITH THE SEED: THE CARDS: each row of YtgehimfkgpbooaaGreatDoorRows.lean that lists a variable, with what it lists TIED to the program's text (the seventh form; the later family's looks); each row that meets fmt, with fmt's text TOLD by the authors' own Lean function (tested against real Go, not proved from fmt's source: count such statements apart). THE CARD IS WHAT COUNTS. Prove the row's statement (the work); the ties are given (YtgehimfkgpbooaaGreatDoorTie.lean); close each card by the builder's one call (the guide's Derived/Test/ToyasCard.lean, 'card_holds'). Laid BY PROGRAM, IN A SANDBOX (cutbox-door.mjs). By AI agents, Wed Nov 11 2026. No macro, syntax, notation, axiom, sorry.
-/
import Derived.Test.YtgehimfkgpbooaaGreatDoorRows
import GoSem.ClaimSeven
namespace Go.Proofs.YtgehimfkgpbooaaGreatDoor
namespace Rows

/-- THE TIED CARD OF 'etchhouselaw5.ArtPiecesMatchSpec'. -/
def artPiecesMatchSpecCard : Claim7 := { stood := { row := artPiecesMatchSpecRow, standIns := [], harness := (true, "82c2355391569afba67dc23e7c2f2da4e4523e914bb09d00300aac6ae57ca34c"), looks := false }, kinds := [], alts := [], laidByText := true, laidKinds := [.data, .pinned], laidTests := true, laidLooks := .later }
def ArtPiecesMatchSpecCardSaid : Prop := Claim7.holds Tryz.pinned (.plain (OpenSpec.ofChange artPiecesMatchSpecSpec)) artPiecesMatchSpecCard

/-- THE SECOND FORM's CARD OF 'etchhouselaw5.ArtPiecesMatchSpec'. -/
def artPiecesMatchSpecUptoCard : Claim7 := { stood := { row := artPiecesMatchSpecUptoRow, standIns := [], harness := (true, "82c2355391569afba67dc23e7c2f2da4e4523e914bb09d00300aac6ae57ca34c"), looks := false }, kinds := [], alts := [], laidByText := true, laidKinds := [.data, .pinned], laidTests := true, laidLooks := .later }
def ArtPiecesMatchSpecUptoCardSaid : Prop := Claim7.holds Tryz.pinned (.plain (OpenSpec.upto artPiecesMatchSpecSpec)) artPiecesMatchSpecUptoCard
end Rows
end Go.Proofs.YtgehimfkgpbooaaGreatDoor
