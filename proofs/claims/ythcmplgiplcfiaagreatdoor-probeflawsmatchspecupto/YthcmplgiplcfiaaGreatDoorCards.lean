/-
  DERIVED. GIVEN WITH THE SEED: THE CARDS: each row of YthcmplgiplcfiaaGreatDoorRows.lean that lists a variable, with what it lists TIED to the program's text (the seventh form; the later family's looks); each row that meets fmt, with fmt's text TOLD by the authors' own Lean function (tested against real Go, not proved from fmt's source: count such statements apart). THE CARD IS WHAT COUNTS. Prove the row's statement (the work); the ties are given (YthcmplgiplcfiaaGreatDoorTie.lean); close each card by the builder's one call (the guide's Derived/Test/ToyasCard.lean, 'card_holds'). Laid BY PROGRAM, IN A SANDBOX (cutbox-door.mjs). By AI agents, Wed Nov 11 2026. No macro, syntax, notation, axiom, sorry.
-/
import Derived.Test.YthcmplgiplcfiaaGreatDoorRows
import GoSem.ClaimSeven
namespace Go.Proofs.YthcmplgiplcfiaaGreatDoor
namespace Rows

/-- THE TIED CARD OF 'etchhouselaw11.ProbeFlawsMatchSpec'. -/
def probeFlawsMatchSpecCard : Claim7 := { stood := { row := probeFlawsMatchSpecRow, standIns := [], harness := (true, "1e20951ce68166daf5956566c05282b912b6fcc4ba626e4dabb0eb20a5bbdfe2"), looks := false }, kinds := [], alts := [], laidByText := true, laidKinds := [.data, .pinned], laidTests := true, laidLooks := .later }
def ProbeFlawsMatchSpecCardSaid : Prop := Claim7.holds Tryz.pinned (.plain (OpenSpec.ofChange probeFlawsMatchSpecSpec)) probeFlawsMatchSpecCard

/-- THE SECOND FORM's CARD OF 'etchhouselaw11.ProbeFlawsMatchSpec'. -/
def probeFlawsMatchSpecUptoCard : Claim7 := { stood := { row := probeFlawsMatchSpecUptoRow, standIns := [], harness := (true, "1e20951ce68166daf5956566c05282b912b6fcc4ba626e4dabb0eb20a5bbdfe2"), looks := false }, kinds := [], alts := [], laidByText := true, laidKinds := [.data, .pinned], laidTests := true, laidLooks := .later }
def ProbeFlawsMatchSpecUptoCardSaid : Prop := Claim7.holds Tryz.pinned (.plain (OpenSpec.upto probeFlawsMatchSpecSpec)) probeFlawsMatchSpecUptoCard
end Rows
end Go.Proofs.YthcmplgiplcfiaaGreatDoor
