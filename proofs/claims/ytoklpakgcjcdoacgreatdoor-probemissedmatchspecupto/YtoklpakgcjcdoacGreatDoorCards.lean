/-
  DERIVED. GIVEN WITH THE SEED: THE CARDS: each row of YtoklpakgcjcdoacGreatDoorRows.lean that lists a variable, with what it lists TIED to the program's text (the seventh form; the later family's looks); each row that meets fmt, with fmt's text TOLD by the authors' own Lean function (tested against real Go, not proved from fmt's source: count such statements apart). THE CARD IS WHAT COUNTS. Prove the row's statement (the work); the ties are given (YtoklpakgcjcdoacGreatDoorTie.lean); close each card by the builder's one call (the guide's Derived/Test/ToyasCard.lean, 'card_holds'). Laid BY PROGRAM, IN A SANDBOX (cutbox-door.mjs). By AI agents, Wed Nov 11 2026. No macro, syntax, notation, axiom, sorry.
-/
import Derived.Test.YtoklpakgcjcdoacGreatDoorRows
import GoSem.ClaimSeven
namespace Go.Proofs.YtoklpakgcjcdoacGreatDoor
namespace Rows

/-- THE TIED CARD OF 'etchhouselaw11.ProbeMissedMatchSpec'. -/
def probeMissedMatchSpecCard : Claim7 := { stood := { row := probeMissedMatchSpecRow, standIns := [], harness := (true, "770c75b2a829e7595f9c85c05c4d184fc65a876f13ad23dd83e5a22d51cd6a0c"), looks := false }, kinds := [], alts := [], laidByText := true, laidKinds := [.data, .pinned], laidTests := true, laidLooks := .later }
def ProbeMissedMatchSpecCardSaid : Prop := Claim7.holds Tryz.pinned (.plain (OpenSpec.ofChange probeMissedMatchSpecSpec)) probeMissedMatchSpecCard

/-- THE SECOND FORM's CARD OF 'etchhouselaw11.ProbeMissedMatchSpec'. -/
def probeMissedMatchSpecUptoCard : Claim7 := { stood := { row := probeMissedMatchSpecUptoRow, standIns := [], harness := (true, "770c75b2a829e7595f9c85c05c4d184fc65a876f13ad23dd83e5a22d51cd6a0c"), looks := false }, kinds := [], alts := [], laidByText := true, laidKinds := [.data, .pinned], laidTests := true, laidLooks := .later }
def ProbeMissedMatchSpecUptoCardSaid : Prop := Claim7.holds Tryz.pinned (.plain (OpenSpec.upto probeMissedMatchSpecSpec)) probeMissedMatchSpecUptoCard
end Rows
end Go.Proofs.YtoklpakgcjcdoacGreatDoor
