/-
  DERIVED. GIVEN WITH THE SEED: THE CARDS: each row of YtoklpakgcjcdoabGreatDoorRows.lean that lists a variable, with what it lists TIED to the program's text (the seventh form; the later family's looks); each row that meets fmt, with fmt's text TOLD by the authors' own Lean function (tested against real Go, not proved from fmt's source: count such statements apart). THE CARD IS WHAT COUNTS. Prove the row's statement (the work); the ties are given (YtoklpakgcjcdoabGreatDoorTie.lean); close each card by the builder's one call (the guide's Derived/Test/ToyasCard.lean, 'card_holds'). Laid BY PROGRAM, IN A SANDBOX (cutbox-door.mjs). By AI agents, Wed Nov 11 2026. No macro, syntax, notation, axiom, sorry.
-/
import Derived.Test.YtoklpakgcjcdoabGreatDoorRows
import GoSem.ClaimSeven
namespace Go.Proofs.YtoklpakgcjcdoabGreatDoor
namespace Rows

/-- THE TIED CARD OF 'etchhouselaw11.ProbeCanMatchSpec'. -/
def probeCanMatchSpecCard : Claim7 := { stood := { row := probeCanMatchSpecRow, standIns := [], harness := (true, "4b2033c9b0d645719f39e0219a7748df88778c271007fcda4c3012785f6c16e9"), looks := false }, kinds := [], alts := [], laidByText := true, laidKinds := [.data, .pinned], laidTests := true, laidLooks := .later }
def ProbeCanMatchSpecCardSaid : Prop := Claim7.holds Tryz.pinned (.plain (OpenSpec.ofChange probeCanMatchSpecSpec)) probeCanMatchSpecCard

/-- THE SECOND FORM's CARD OF 'etchhouselaw11.ProbeCanMatchSpec'. -/
def probeCanMatchSpecUptoCard : Claim7 := { stood := { row := probeCanMatchSpecUptoRow, standIns := [], harness := (true, "4b2033c9b0d645719f39e0219a7748df88778c271007fcda4c3012785f6c16e9"), looks := false }, kinds := [], alts := [], laidByText := true, laidKinds := [.data, .pinned], laidTests := true, laidLooks := .later }
def ProbeCanMatchSpecUptoCardSaid : Prop := Claim7.holds Tryz.pinned (.plain (OpenSpec.upto probeCanMatchSpecSpec)) probeCanMatchSpecUptoCard
end Rows
end Go.Proofs.YtoklpakgcjcdoabGreatDoor
