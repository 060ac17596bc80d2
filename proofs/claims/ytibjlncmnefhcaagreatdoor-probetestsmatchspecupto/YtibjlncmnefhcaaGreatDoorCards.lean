/-
  DERIVED. GIVEN WITH THE SEED: THE CARDS: each row of YtibjlncmnefhcaaGreatDoorRows.lean that lists a variable, with what it lists TIED to the program's text (the seventh form; the later family's looks); each row that meets fmt, with fmt's text TOLD by the authors' own Lean function (tested against real Go, not proved from fmt's source: count such statements apart). THE CARD IS WHAT COUNTS. Prove the row's statement (the work); the ties are given (YtibjlncmnefhcaaGreatDoorTie.lean); close each card by the builder's one call (the guide's Derived/Test/ToyasCard.lean, 'card_holds'). Laid BY PROGRAM, IN A SANDBOX (cutbox-door.mjs). By AI agents, Wed Nov 11 2026. No macro, syntax, notation, axiom, sorry.
-/
import Derived.Test.YtibjlncmnefhcaaGreatDoorRows
import GoSem.ClaimSeven
namespace Go.Proofs.YtibjlncmnefhcaaGreatDoor
namespace Rows

/-- THE TIED CARD OF 'etchhouselaw11.ProbeTestsMatchSpec'. -/
def probeTestsMatchSpecCard : Claim7 := { stood := { row := probeTestsMatchSpecRow, standIns := [], harness := (true, "beb185cf3bf26bb2851aa0e776320ab562a528dd9e55389dd6243baf6fd9274e"), looks := false }, kinds := [], alts := [], laidByText := true, laidKinds := [.data, .pinned], laidTests := true, laidLooks := .later }
def ProbeTestsMatchSpecCardSaid : Prop := Claim7.holds Tryz.pinned (.plain (OpenSpec.ofChange probeTestsMatchSpecSpec)) probeTestsMatchSpecCard

/-- THE SECOND FORM's CARD OF 'etchhouselaw11.ProbeTestsMatchSpec'. -/
def probeTestsMatchSpecUptoCard : Claim7 := { stood := { row := probeTestsMatchSpecUptoRow, standIns := [], harness := (true, "beb185cf3bf26bb2851aa0e776320ab562a528dd9e55389dd6243baf6fd9274e"), looks := false }, kinds := [], alts := [], laidByText := true, laidKinds := [.data, .pinned], laidTests := true, laidLooks := .later }
def ProbeTestsMatchSpecUptoCardSaid : Prop := Claim7.holds Tryz.pinned (.plain (OpenSpec.upto probeTestsMatchSpecSpec)) probeTestsMatchSpecUptoCard
end Rows
end Go.Proofs.YtibjlncmnefhcaaGreatDoor
