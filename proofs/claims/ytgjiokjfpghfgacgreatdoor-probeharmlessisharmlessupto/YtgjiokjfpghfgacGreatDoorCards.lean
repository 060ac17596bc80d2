/-
  DERIVED. GIVEN WITH THE SEED: THE CARDS: each row of YtgjiokjfpghfgacGreatDoorRows.lean that lists a variable, with what it lists TIED to the program's text (the seventh form; the later family's looks); each row that meets fmt, with fmt's text TOLD by the authors' own Lean function (tested against real Go, not proved from fmt's source: count such statements apart). THE CARD IS WHAT COUNTS. Prove the row's statement (the work); the ties are given (YtgjiokjfpghfgacGreatDoorTie.lean); close each card by the builder's one call (the guide's Derived/Test/ToyasCard.lean, 'card_holds'). Laid BY PROGRAM, IN A SANDBOX (cutbox-door.mjs). By AI agents, Wed Nov 11 2026. No macro, syntax, notation, axiom, sorry.
-/
import Derived.Test.YtgjiokjfpghfgacGreatDoorRows
import GoSem.ClaimSeven
namespace Go.Proofs.YtgjiokjfpghfgacGreatDoor
namespace Rows

/-- THE TIED CARD OF 'etchhouselaw11.ProbeHarmlessIsHarmless'. -/
def probeHarmlessIsHarmlessCard : Claim7 := { stood := { row := probeHarmlessIsHarmlessRow, standIns := [], harness := (true, "5f9162a5732ecec89a93b63badbc573152420d75432dc80ae561380c86496663"), looks := false }, kinds := [], alts := [], laidByText := true, laidKinds := [.data, .pinned], laidTests := true, laidLooks := .later }
def ProbeHarmlessIsHarmlessCardSaid : Prop := Claim7.holds Tryz.pinned (.plain (OpenSpec.ofChange probeHarmlessIsHarmlessSpec)) probeHarmlessIsHarmlessCard

/-- THE SECOND FORM's CARD OF 'etchhouselaw11.ProbeHarmlessIsHarmless'. -/
def probeHarmlessIsHarmlessUptoCard : Claim7 := { stood := { row := probeHarmlessIsHarmlessUptoRow, standIns := [], harness := (true, "5f9162a5732ecec89a93b63badbc573152420d75432dc80ae561380c86496663"), looks := false }, kinds := [], alts := [], laidByText := true, laidKinds := [.data, .pinned], laidTests := true, laidLooks := .later }
def ProbeHarmlessIsHarmlessUptoCardSaid : Prop := Claim7.holds Tryz.pinned (.plain (OpenSpec.upto probeHarmlessIsHarmlessSpec)) probeHarmlessIsHarmlessUptoCard
end Rows
end Go.Proofs.YtgjiokjfpghfgacGreatDoor
