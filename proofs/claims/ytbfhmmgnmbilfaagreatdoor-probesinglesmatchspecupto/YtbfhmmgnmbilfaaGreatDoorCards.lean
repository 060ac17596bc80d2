/-
  DERIVED. GIVEN WITH THE SEED: THE CARDS: each row of YtbfhmmgnmbilfaaGreatDoorRows.lean that lists a variable, with what it lists TIED to the program's text (the seventh form; the later family's looks); each row that meets fmt, with fmt's text TOLD by the authors' own Lean function (tested against real Go, not proved from fmt's source: count such statements apart). THE CARD IS WHAT COUNTS. Prove the row's statement (the work); the ties are given (YtbfhmmgnmbilfaaGreatDoorTie.lean); close each card by the builder's one call (the guide's Derived/Test/ToyasCard.lean, 'card_holds'). Laid BY PROGRAM, IN A SANDBOX (cutbox-door.mjs). By AI agents, Wed Nov 11 2026. No macro, syntax, notation, axiom, sorry.
-/
import Derived.Test.YtbfhmmgnmbilfaaGreatDoorRows
import GoSem.ClaimSeven
namespace Go.Proofs.YtbfhmmgnmbilfaaGreatDoor
namespace Rows

/-- THE TIED CARD OF 'etchhouselaw11.ProbeSinglesMatchSpec'. -/
def probeSinglesMatchSpecCard : Claim7 := { stood := { row := probeSinglesMatchSpecRow, standIns := [], harness := (true, "01ec11762c117a728198b982bd72da90813b061ffbff2e9a8137c98649f7b020"), looks := false }, kinds := [], alts := [], laidByText := true, laidKinds := [.data, .pinned], laidTests := true, laidLooks := .later }
def ProbeSinglesMatchSpecCardSaid : Prop := Claim7.holds Tryz.pinned (.plain (OpenSpec.ofChange probeSinglesMatchSpecSpec)) probeSinglesMatchSpecCard

/-- THE SECOND FORM's CARD OF 'etchhouselaw11.ProbeSinglesMatchSpec'. -/
def probeSinglesMatchSpecUptoCard : Claim7 := { stood := { row := probeSinglesMatchSpecUptoRow, standIns := [], harness := (true, "01ec11762c117a728198b982bd72da90813b061ffbff2e9a8137c98649f7b020"), looks := false }, kinds := [], alts := [], laidByText := true, laidKinds := [.data, .pinned], laidTests := true, laidLooks := .later }
def ProbeSinglesMatchSpecUptoCardSaid : Prop := Claim7.holds Tryz.pinned (.plain (OpenSpec.upto probeSinglesMatchSpecSpec)) probeSinglesMatchSpecUptoCard
end Rows
end Go.Proofs.YtbfhmmgnmbilfaaGreatDoor
