/-
  DERIVED. GIVEN WITH THE SEED: THE CARDS: each row of YtfidohbopcdgdaaGreatDoorRows.lean that lists a variable, with what it lists TIED to the program's text (the seventh form; the later family's looks); each row that meets fmt, with fmt's text TOLD by the authors' own Lean function (tested against real Go, not proved from fmt's source: count such statements apart). THE CARD IS WHAT COUNTS. Prove the row's statement (the work); the ties are given (YtfidohbopcdgdaaGreatDoorTie.lean); close each card by the builder's one call (the guide's Derived/Test/ToyasCard.lean, 'card_holds'). Laid BY PROGRAM, IN A SANDBOX (cutbox-door.mjs). By AI agents, Wed Nov 11 2026. No macro, syntax, notation, axiom, sorry.
-/
import Derived.Test.YtfidohbopcdgdaaGreatDoorRows
import GoSem.ClaimSeven
namespace Go.Proofs.YtfidohbopcdgdaaGreatDoor
namespace Rows

/-- THE TIED CARD OF 'etchhouselaw2.NetlistFlatMatchesSpec'. -/
def netlistFlatMatchesSpecCard : Claim7 := { stood := { row := netlistFlatMatchesSpecRow, standIns := [], harness := (true, "1e4d352a32ff827bc8a167f763a9af72502efc770107f11f47477e8efe0303c2"), looks := false }, kinds := [], alts := [], laidByText := true, laidKinds := [.data, .pinned], laidTests := true, laidLooks := .later }
def NetlistFlatMatchesSpecCardSaid : Prop := Claim7.holds Tryz.pinned (.plain (OpenSpec.ofChange netlistFlatMatchesSpecSpec)) netlistFlatMatchesSpecCard

/-- THE SECOND FORM's CARD OF 'etchhouselaw2.NetlistFlatMatchesSpec'. -/
def netlistFlatMatchesSpecUptoCard : Claim7 := { stood := { row := netlistFlatMatchesSpecUptoRow, standIns := [], harness := (true, "1e4d352a32ff827bc8a167f763a9af72502efc770107f11f47477e8efe0303c2"), looks := false }, kinds := [], alts := [], laidByText := true, laidKinds := [.data, .pinned], laidTests := true, laidLooks := .later }
def NetlistFlatMatchesSpecUptoCardSaid : Prop := Claim7.holds Tryz.pinned (.plain (OpenSpec.upto netlistFlatMatchesSpecSpec)) netlistFlatMatchesSpecUptoCard
end Rows
end Go.Proofs.YtfidohbopcdgdaaGreatDoor
