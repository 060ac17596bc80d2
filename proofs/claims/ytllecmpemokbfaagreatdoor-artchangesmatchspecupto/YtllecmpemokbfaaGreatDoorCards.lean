/-
  DERIVED. GIVEN WITH THE SEED: THE CARDS: each row of YtllecmpemokbfaaGreatDoorRows.lean that lists a variable, with what it lists TIED to the program's text (the seventh form; the later family's looks); each row that meets fmt, with fmt's text TOLD by the authors' own Lean function (tested against real Go, not proved from fmt's source: count such statements apart). THE CARD IS WHAT COUNTS. Prove the row's statement (the work); the ties are given (YtllecmpemokbfaaGreatDoorTie.lean); close each card by the builder's one call (the guide's Derived/Test/ToyasCard.lean, 'card_holds'). Laid BY PROGRAM, IN A SANDBOX (cutbox-door.mjs). By AI agents, Wed Nov 11 2026. No macro, syntax, notation, axiom, sorry.
-/
import Derived.Test.YtllecmpemokbfaaGreatDoorRows
import GoSem.ClaimSeven
namespace Go.Proofs.YtllecmpemokbfaaGreatDoor
namespace Rows

/-- THE TIED CARD OF 'etchhouselaw5.ArtChangesMatchSpec'. -/
def artChangesMatchSpecCard : Claim7 := { stood := { row := artChangesMatchSpecRow, standIns := [], harness := (true, "f1a415ae573b49783fcdf510753f9efc80b7c5c86099950400f4404ed9438c92"), looks := false }, kinds := [], alts := [], laidByText := true, laidKinds := [.data, .pinned], laidTests := true, laidLooks := .later }
def ArtChangesMatchSpecCardSaid : Prop := Claim7.holds Tryz.pinned (.plain (OpenSpec.ofChange artChangesMatchSpecSpec)) artChangesMatchSpecCard

/-- THE SECOND FORM's CARD OF 'etchhouselaw5.ArtChangesMatchSpec'. -/
def artChangesMatchSpecUptoCard : Claim7 := { stood := { row := artChangesMatchSpecUptoRow, standIns := [], harness := (true, "f1a415ae573b49783fcdf510753f9efc80b7c5c86099950400f4404ed9438c92"), looks := false }, kinds := [], alts := [], laidByText := true, laidKinds := [.data, .pinned], laidTests := true, laidLooks := .later }
def ArtChangesMatchSpecUptoCardSaid : Prop := Claim7.holds Tryz.pinned (.plain (OpenSpec.upto artChangesMatchSpecSpec)) artChangesMatchSpecUptoCard
end Rows
end Go.Proofs.YtllecmpemokbfaaGreatDoor
