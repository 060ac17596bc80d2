/-
  DERIVED. GIVEN WITH THE SEED: THE CARDS: each row of YtnpfijpoffemhaaGreatDoorRows.lean that lists a variable, with what it lists TIED to the program's text (the seventh form; the later family's looks); each row that meets fmt, with fmt's text TOLD by the authors' own Lean function (tested against real Go, not proved from fmt's source: count such statements apart). THE CARD IS WHAT COUNTS. Prove the row's statement (the work); the ties are given (YtnpfijpoffemhaaGreatDoorTie.lean); close each card by the builder's one call (the guide's Derived/Test/ToyasCard.lean, 'card_holds'). Laid BY PROGRAM, IN A SANDBOX (cutbox-door.mjs). By AI agents, Wed Nov 11 2026. No macro, syntax, notation, axiom, sorry.
-/
import Derived.Test.YtnpfijpoffemhaaGreatDoorRows
import GoSem.ClaimSeven
namespace Go.Proofs.YtnpfijpoffemhaaGreatDoor
namespace Rows

/-- THE TIED CARD OF 'etchhousetop.TopNamesDoNotMatter'. -/
def topNamesDoNotMatterCard : Claim7 := { stood := { row := topNamesDoNotMatterRow, standIns := [], harness := (true, "5dfca92e032314f8596e27888916d21cce50c33650fd088d00b325a7ddee06c1"), looks := false }, kinds := [], alts := [], laidByText := true, laidKinds := [.data, .pinned], laidTests := true, laidLooks := .later }
def TopNamesDoNotMatterCardSaid : Prop := Claim7.holds Tryz.pinned (.plain (OpenSpec.ofChange topNamesDoNotMatterSpec)) topNamesDoNotMatterCard

/-- THE SECOND FORM's CARD OF 'etchhousetop.TopNamesDoNotMatter'. -/
def topNamesDoNotMatterUptoCard : Claim7 := { stood := { row := topNamesDoNotMatterUptoRow, standIns := [], harness := (true, "5dfca92e032314f8596e27888916d21cce50c33650fd088d00b325a7ddee06c1"), looks := false }, kinds := [], alts := [], laidByText := true, laidKinds := [.data, .pinned], laidTests := true, laidLooks := .later }
def TopNamesDoNotMatterUptoCardSaid : Prop := Claim7.holds Tryz.pinned (.plain (OpenSpec.upto topNamesDoNotMatterSpec)) topNamesDoNotMatterUptoCard
end Rows
end Go.Proofs.YtnpfijpoffemhaaGreatDoor
