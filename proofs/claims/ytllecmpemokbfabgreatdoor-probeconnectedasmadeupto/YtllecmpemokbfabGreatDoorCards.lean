/-
  DERIVED. GIVEN WITH THE SEED: THE CARDS: each row of YtllecmpemokbfabGreatDoorRows.lean that lists a variable, with what it lists TIED to the program's text (the seventh form; the later family's looks); each row that meets fmt, with fmt's text TOLD by the authors' own Lean function (tested against real Go, not proved from fmt's source: count such statements apart). THE CARD IS WHAT COUNTS. Prove the row's statement (the work); the ties are given (YtllecmpemokbfabGreatDoorTie.lean); close each card by the builder's one call (the guide's Derived/Test/ToyasCard.lean, 'card_holds'). Laid BY PROGRAM, IN A SANDBOX (cutbox-door.mjs). By AI agents, Wed Nov 11 2026. No macro, syntax, notation, axiom, sorry.
-/
import Derived.Test.YtllecmpemokbfabGreatDoorRows
import GoSem.ClaimSeven
namespace Go.Proofs.YtllecmpemokbfabGreatDoor
namespace Rows

/-- THE TIED CARD OF 'etchhouselaw11.ProbeConnectedAsMade'. -/
def probeConnectedAsMadeCard : Claim7 := { stood := { row := probeConnectedAsMadeRow, standIns := [], harness := (true, "c06473ac8ad30fe1b68f2a78b1bffdd24c4549a6f1e3384829fa5b50bee7f574"), looks := false }, kinds := [], alts := [], laidByText := true, laidKinds := [.data, .pinned], laidTests := true, laidLooks := .later }
def ProbeConnectedAsMadeCardSaid : Prop := Claim7.holds Tryz.pinned (.plain (OpenSpec.ofChange probeConnectedAsMadeSpec)) probeConnectedAsMadeCard

/-- THE SECOND FORM's CARD OF 'etchhouselaw11.ProbeConnectedAsMade'. -/
def probeConnectedAsMadeUptoCard : Claim7 := { stood := { row := probeConnectedAsMadeUptoRow, standIns := [], harness := (true, "c06473ac8ad30fe1b68f2a78b1bffdd24c4549a6f1e3384829fa5b50bee7f574"), looks := false }, kinds := [], alts := [], laidByText := true, laidKinds := [.data, .pinned], laidTests := true, laidLooks := .later }
def ProbeConnectedAsMadeUptoCardSaid : Prop := Claim7.holds Tryz.pinned (.plain (OpenSpec.upto probeConnectedAsMadeSpec)) probeConnectedAsMadeUptoCard
end Rows
end Go.Proofs.YtllecmpemokbfabGreatDoor
