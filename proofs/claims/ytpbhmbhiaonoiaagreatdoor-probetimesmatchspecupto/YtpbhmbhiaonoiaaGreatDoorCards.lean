/-
  DERIVED. GIVEN WITH THE SEED: THE CARDS: each row of YtpbhmbhiaonoiaaGreatDoorRows.lean that lists a variable, with what it lists TIED to the program's text (the seventh form; the later family's looks); each row that meets fmt, with fmt's text TOLD by the authors' own Lean function (tested against real Go, not proved from fmt's source: count such statements apart). THE CARD IS WHAT COUNTS. Prove the row's statement (the work); the ties are given (YtpbhmbhiaonoiaaGreatDoorTie.lean); close each card by the builder's one call (the guide's Derived/Test/ToyasCard.lean, 'card_holds'). Laid BY PROGRAM, IN A SANDBOX (cutbox-door.mjs). By AI agents, Wed Nov 11 2026. No macro, syntax, notation, axiom, sorry.
-/
import Derived.Test.YtpbhmbhiaonoiaaGreatDoorRows
import GoSem.ClaimSeven
namespace Go.Proofs.YtpbhmbhiaonoiaaGreatDoor
namespace Rows

/-- THE TIED CARD OF 'etchhouselaw11.ProbeTimesMatchSpec'. -/
def probeTimesMatchSpecCard : Claim7 := { stood := { row := probeTimesMatchSpecRow, standIns := [], harness := (true, "46a8e2f3ba6f54c2bb25d63f82c3c0b55cc5f1c288573c7648ccce7c14e81cb4"), looks := false }, kinds := [], alts := [], laidByText := true, laidKinds := [.data, .pinned], laidTests := true, laidLooks := .later }
def ProbeTimesMatchSpecCardSaid : Prop := Claim7.holds Tryz.pinned (.plain (OpenSpec.ofChange probeTimesMatchSpecSpec)) probeTimesMatchSpecCard

/-- THE SECOND FORM's CARD OF 'etchhouselaw11.ProbeTimesMatchSpec'. -/
def probeTimesMatchSpecUptoCard : Claim7 := { stood := { row := probeTimesMatchSpecUptoRow, standIns := [], harness := (true, "46a8e2f3ba6f54c2bb25d63f82c3c0b55cc5f1c288573c7648ccce7c14e81cb4"), looks := false }, kinds := [], alts := [], laidByText := true, laidKinds := [.data, .pinned], laidTests := true, laidLooks := .later }
def ProbeTimesMatchSpecUptoCardSaid : Prop := Claim7.holds Tryz.pinned (.plain (OpenSpec.upto probeTimesMatchSpecSpec)) probeTimesMatchSpecUptoCard
end Rows
end Go.Proofs.YtpbhmbhiaonoiaaGreatDoor
