/-
  DERIVED. GIVEN WITH THE SEED: THE CARDS: each row of YtfdnmjbbeolcdaaGreatDoorRows.lean that lists a variable, with what it lists TIED to the program's text (the seventh form; the later family's looks); each row that meets fmt, with fmt's text TOLD by the authors' own Lean function (tested against real Go, not proved from fmt's source: count such statements apart). THE CARD IS WHAT COUNTS. Prove the row's statement (the work); the ties are given (YtfdnmjbbeolcdaaGreatDoorTie.lean); close each card by the builder's one call (the guide's Derived/Test/ToyasCard.lean, 'card_holds'). Laid BY PROGRAM, IN A SANDBOX (cutbox-door.mjs). By AI agents, Wed Nov 11 2026. No macro, syntax, notation, axiom, sorry.
-/
import Derived.Test.YtfdnmjbbeolcdaaGreatDoorRows
import GoSem.ClaimSeven
namespace Go.Proofs.YtfdnmjbbeolcdaaGreatDoor
namespace Rows

/-- THE TIED CARD OF 'etchhouselaw2.NetlistNamesDoNotMatter'. -/
def netlistNamesDoNotMatterCard : Claim7 := { stood := { row := netlistNamesDoNotMatterRow, standIns := [], harness := (true, "c83b733376222c63880a08b706b225a6ecbac8b9daf5b94529de3ee7b3fd3557"), looks := false }, kinds := [], alts := [], laidByText := true, laidKinds := [.data, .pinned], laidTests := true, laidLooks := .later }
def NetlistNamesDoNotMatterCardSaid : Prop := Claim7.holds Tryz.pinned (.plain (OpenSpec.ofChange netlistNamesDoNotMatterSpec)) netlistNamesDoNotMatterCard

/-- THE SECOND FORM's CARD OF 'etchhouselaw2.NetlistNamesDoNotMatter'. -/
def netlistNamesDoNotMatterUptoCard : Claim7 := { stood := { row := netlistNamesDoNotMatterUptoRow, standIns := [], harness := (true, "c83b733376222c63880a08b706b225a6ecbac8b9daf5b94529de3ee7b3fd3557"), looks := false }, kinds := [], alts := [], laidByText := true, laidKinds := [.data, .pinned], laidTests := true, laidLooks := .later }
def NetlistNamesDoNotMatterUptoCardSaid : Prop := Claim7.holds Tryz.pinned (.plain (OpenSpec.upto netlistNamesDoNotMatterSpec)) netlistNamesDoNotMatterUptoCard
end Rows
end Go.Proofs.YtfdnmjbbeolcdaaGreatDoor
