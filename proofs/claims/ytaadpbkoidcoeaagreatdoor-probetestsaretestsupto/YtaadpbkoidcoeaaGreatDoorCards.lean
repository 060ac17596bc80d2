/-
  DERIVED. GIVEN WITH THE SEED: THE CARDS: each row of YtaadpbkoidcoeaaGreatDoorRows.lean that lists a variable, with what it lists TIED to the program's text (the seventh form; the later family's looks); each row that meets fmt, with fmt's text TOLD by the authors' own Lean function (tested against real Go, not proved from fmt's source: count such statements apart). THE CARD IS WHAT COUNTS. Prove the row's statement (the work); the ties are given (YtaadpbkoidcoeaaGreatDoorTie.lean); close each card by the builder's one call (the guide's Derived/Test/ToyasCard.lean, 'card_holds'). Laid BY PROGRAM, IN A SANDBOX (cutbox-door.mjs). By AI agents, Wed Nov 11 2026. No macro, syntax, notation, axiom, sorry.
-/
import Derived.Test.YtaadpbkoidcoeaaGreatDoorRows
import GoSem.ClaimSeven
namespace Go.Proofs.YtaadpbkoidcoeaaGreatDoor
namespace Rows

/-- THE TIED CARD OF 'etchhouselaw11.ProbeTestsAreTests'. -/
def probeTestsAreTestsCard : Claim7 := { stood := { row := probeTestsAreTestsRow, standIns := [], harness := (true, "d0511112734d907ea75b9ea8b080a943f8e195206f7da34fc915c8e30c36bf77"), looks := false }, kinds := [], alts := [], laidByText := true, laidKinds := [.data, .pinned], laidTests := true, laidLooks := .later }
def ProbeTestsAreTestsCardSaid : Prop := Claim7.holds Tryz.pinned (.plain (OpenSpec.ofChange probeTestsAreTestsSpec)) probeTestsAreTestsCard

/-- THE SECOND FORM's CARD OF 'etchhouselaw11.ProbeTestsAreTests'. -/
def probeTestsAreTestsUptoCard : Claim7 := { stood := { row := probeTestsAreTestsUptoRow, standIns := [], harness := (true, "d0511112734d907ea75b9ea8b080a943f8e195206f7da34fc915c8e30c36bf77"), looks := false }, kinds := [], alts := [], laidByText := true, laidKinds := [.data, .pinned], laidTests := true, laidLooks := .later }
def ProbeTestsAreTestsUptoCardSaid : Prop := Claim7.holds Tryz.pinned (.plain (OpenSpec.upto probeTestsAreTestsSpec)) probeTestsAreTestsUptoCard
end Rows
end Go.Proofs.YtaadpbkoidcoeaaGreatDoor
