/-
  DERIVED. GIVEN WITH THE SEED: THE CARDS: each row of YtgjiokjfpghfgabGreatDoorRows.lean that lists a variable, with what it lists TIED to the program's text (the seventh form; the later family's looks); each row that meets fmt, with fmt's text TOLD by the authors' own Lean function (tested against real Go, not proved from fmt's source: count such statements apart). THE CARD IS WHAT COUNTS. Prove the row's statement (the work); the ties are given (YtgjiokjfpghfgabGreatDoorTie.lean); close each card by the builder's one call (the guide's Derived/Test/ToyasCard.lean, 'card_holds'). Laid BY PROGRAM, IN A SANDBOX (cutbox-door.mjs). By AI agents, Wed Nov 11 2026. No macro, syntax, notation, axiom, sorry.
-/
import Derived.Test.YtgjiokjfpghfgabGreatDoorRows
import GoSem.ClaimSeven
namespace Go.Proofs.YtgjiokjfpghfgabGreatDoor
namespace Rows

/-- THE TIED CARD OF 'etchhouselaw11.ProbeShowsAreConnected'. -/
def probeShowsAreConnectedCard : Claim7 := { stood := { row := probeShowsAreConnectedRow, standIns := [], harness := (true, "f11a1e1a5755b3380c8b9264f3612d435b7c45bc03fe5b20f9e8cc7dc2350607"), looks := false }, kinds := [], alts := [], laidByText := true, laidKinds := [.data, .pinned], laidTests := true, laidLooks := .later }
def ProbeShowsAreConnectedCardSaid : Prop := Claim7.holds Tryz.pinned (.plain (OpenSpec.ofChange probeShowsAreConnectedSpec)) probeShowsAreConnectedCard

/-- THE SECOND FORM's CARD OF 'etchhouselaw11.ProbeShowsAreConnected'. -/
def probeShowsAreConnectedUptoCard : Claim7 := { stood := { row := probeShowsAreConnectedUptoRow, standIns := [], harness := (true, "f11a1e1a5755b3380c8b9264f3612d435b7c45bc03fe5b20f9e8cc7dc2350607"), looks := false }, kinds := [], alts := [], laidByText := true, laidKinds := [.data, .pinned], laidTests := true, laidLooks := .later }
def ProbeShowsAreConnectedUptoCardSaid : Prop := Claim7.holds Tryz.pinned (.plain (OpenSpec.upto probeShowsAreConnectedSpec)) probeShowsAreConnectedUptoCard
end Rows
end Go.Proofs.YtgjiokjfpghfgabGreatDoor
