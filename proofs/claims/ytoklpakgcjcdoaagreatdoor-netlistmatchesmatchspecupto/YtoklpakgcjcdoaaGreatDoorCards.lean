/-
  DERIVED. GIVEN WITH THE SEED: THE CARDS: each row of YtoklpakgcjcdoaaGreatDoorRows.lean that lists a variable, with what it lists TIED to the program's text (the seventh form; the later family's looks); each row that meets fmt, with fmt's text TOLD by the authors' own Lean function (tested against real Go, not proved from fmt's source: count such statements apart). THE CARD IS WHAT COUNTS. Prove the row's statement (the work); the ties are given (YtoklpakgcjcdoaaGreatDoorTie.lean); close each card by the builder's one call (the guide's Derived/Test/ToyasCard.lean, 'card_holds'). Laid BY PROGRAM, IN A SANDBOX (cutbox-door.mjs). By AI agents, Wed Nov 11 2026. No macro, syntax, notation, axiom, sorry.
-/
import Derived.Test.YtoklpakgcjcdoaaGreatDoorRows
import GoSem.ClaimSeven
namespace Go.Proofs.YtoklpakgcjcdoaaGreatDoor
namespace Rows

/-- THE TIED CARD OF 'etchhouselaw2.NetlistMatchesMatchSpec'. -/
def netlistMatchesMatchSpecCard : Claim7 := { stood := { row := netlistMatchesMatchSpecRow, standIns := [], harness := (true, "757fce9a10a32beb6ecadef985ee7f4be809a8d2a01646da9cb6c9c25a16a80d"), looks := false }, kinds := [], alts := [], laidByText := true, laidKinds := [.data, .pinned], laidTests := true, laidLooks := .later }
def NetlistMatchesMatchSpecCardSaid : Prop := Claim7.holds Tryz.pinned (.plain (OpenSpec.ofChange netlistMatchesMatchSpecSpec)) netlistMatchesMatchSpecCard

/-- THE SECOND FORM's CARD OF 'etchhouselaw2.NetlistMatchesMatchSpec'. -/
def netlistMatchesMatchSpecUptoCard : Claim7 := { stood := { row := netlistMatchesMatchSpecUptoRow, standIns := [], harness := (true, "757fce9a10a32beb6ecadef985ee7f4be809a8d2a01646da9cb6c9c25a16a80d"), looks := false }, kinds := [], alts := [], laidByText := true, laidKinds := [.data, .pinned], laidTests := true, laidLooks := .later }
def NetlistMatchesMatchSpecUptoCardSaid : Prop := Claim7.holds Tryz.pinned (.plain (OpenSpec.upto netlistMatchesMatchSpecSpec)) netlistMatchesMatchSpecUptoCard
end Rows
end Go.Proofs.YtoklpakgcjcdoaaGreatDoor
