/-
  DERIVED. GIVEN WITH THE SEED: THE CARDS: each row of YtghimbiinlfehaaGreatDoorRows.lean that lists a variable, with what it lists TIED to the program's text (the seventh form; the later family's looks); each row that meets fmt, with fmt's text TOLD by the authors' own Lean function (tested against real Go, not proved from fmt's source: count such statements apart). THE CARD IS WHAT COUNTS. Prove the row's statement (the work); the ties are given (YtghimbiinlfehaaGreatDoorTie.lean); close each card by the builder's one call (the guide's Derived/Test/ToyasCard.lean, 'card_holds'). Laid BY PROGRAM, IN A SANDBOX (cutbox-door.mjs). By AI agents, Wed Nov 11 2026. No macro, syntax, notation, axiom, sorry.
-/
import Derived.Test.YtghimbiinlfehaaGreatDoorRows
import GoSem.ClaimSeven
namespace Go.Proofs.YtghimbiinlfehaaGreatDoor
namespace Rows

/-- THE TIED CARD OF 'etchhouselaw5.ArtComparesMatchSpec'. -/
def artComparesMatchSpecCard : Claim7 := { stood := { row := artComparesMatchSpecRow, standIns := [], harness := (true, "09bcd5e6841db871db37b470b81d95a7e072d051178e58695b245db161d9dac0"), looks := false }, kinds := [], alts := [], laidByText := true, laidKinds := [.data, .pinned], laidTests := true, laidLooks := .later }
def ArtComparesMatchSpecCardSaid : Prop := Claim7.holds Tryz.pinned (.plain (OpenSpec.ofChange artComparesMatchSpecSpec)) artComparesMatchSpecCard

/-- THE SECOND FORM's CARD OF 'etchhouselaw5.ArtComparesMatchSpec'. -/
def artComparesMatchSpecUptoCard : Claim7 := { stood := { row := artComparesMatchSpecUptoRow, standIns := [], harness := (true, "09bcd5e6841db871db37b470b81d95a7e072d051178e58695b245db161d9dac0"), looks := false }, kinds := [], alts := [], laidByText := true, laidKinds := [.data, .pinned], laidTests := true, laidLooks := .later }
def ArtComparesMatchSpecUptoCardSaid : Prop := Claim7.holds Tryz.pinned (.plain (OpenSpec.upto artComparesMatchSpecSpec)) artComparesMatchSpecUptoCard
end Rows
end Go.Proofs.YtghimbiinlfehaaGreatDoor
