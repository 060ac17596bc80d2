/-
  DERIVED. GIVEN WITH THE SEED: THE CARDS: each row of YtbdpcenmcmmdcaaGreatDoorRows.lean that lists a variable, with what it lists TIED to the program's text (the seventh form; the later family's looks); each row that meets fmt, with fmt's text TOLD by the authors' own Lean function (tested against real Go, not proved from fmt's source: count such statements apart). THE CARD IS WHAT COUNTS. Prove the row's statement (the work); the ties are given (YtbdpcenmcmmdcaaGreatDoorTie.lean); close each card by the builder's one call (the guide's Derived/Test/ToyasCard.lean, 'card_holds'). Laid BY PROGRAM, IN A SANDBOX (cutbox-door.mjs). By AI agents, Wed Nov 11 2026. No macro, syntax, notation, axiom, sorry.
-/
import Derived.Test.YtbdpcenmcmmdcaaGreatDoorRows
import GoSem.ClaimSeven
namespace Go.Proofs.YtbdpcenmcmmdcaaGreatDoor
namespace Rows

/-- THE TIED CARD OF 'etchhouselaw11.ProbeShowsMatchSpec'. -/
def probeShowsMatchSpecCard : Claim7 := { stood := { row := probeShowsMatchSpecRow, standIns := [], harness := (true, "04ded0e0b4e82fecf86fa9fdcf47e912ca821a4685734758bbac044ed203b1ff"), looks := false }, kinds := [], alts := [], laidByText := true, laidKinds := [.data, .pinned], laidTests := true, laidLooks := .later }
def ProbeShowsMatchSpecCardSaid : Prop := Claim7.holds Tryz.pinned (.plain (OpenSpec.ofChange probeShowsMatchSpecSpec)) probeShowsMatchSpecCard

/-- THE SECOND FORM's CARD OF 'etchhouselaw11.ProbeShowsMatchSpec'. -/
def probeShowsMatchSpecUptoCard : Claim7 := { stood := { row := probeShowsMatchSpecUptoRow, standIns := [], harness := (true, "04ded0e0b4e82fecf86fa9fdcf47e912ca821a4685734758bbac044ed203b1ff"), looks := false }, kinds := [], alts := [], laidByText := true, laidKinds := [.data, .pinned], laidTests := true, laidLooks := .later }
def ProbeShowsMatchSpecUptoCardSaid : Prop := Claim7.holds Tryz.pinned (.plain (OpenSpec.upto probeShowsMatchSpecSpec)) probeShowsMatchSpecUptoCard
end Rows
end Go.Proofs.YtbdpcenmcmmdcaaGreatDoor
