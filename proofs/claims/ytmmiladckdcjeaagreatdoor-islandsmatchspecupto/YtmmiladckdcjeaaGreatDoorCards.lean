/-
  DERIVED. GIVEN WITH THE SEED: THE CARDS: each row of YtmmiladckdcjeaaGreatDoorRows.lean that lists a variable, with what it lists TIED to the program's text (the seventh form; the later family's looks); each row that meets fmt, with fmt's text TOLD by the authors' own Lean function (tested against real Go, not proved from fmt's source: count such statements apart). THE CARD IS WHAT COUNTS. Prove the row's statement (the work); the ties are given (YtmmiladckdcjeaaGreatDoorTie.lean); close each card by the builder's one call (the guide's Derived/Test/ToyasCard.lean, 'card_holds'). Laid BY PROGRAM, IN A SANDBOX (cutbox-door.mjs). By AI agents, Wed Nov 11 2026. No macro, syntax, notation, axiom, sorry.
-/
import Derived.Test.YtmmiladckdcjeaaGreatDoorRows
import GoSem.ClaimSeven
namespace Go.Proofs.YtmmiladckdcjeaaGreatDoor
namespace Rows

/-- THE TIED CARD OF 'etchhouselaw5.IslandsMatchSpec'. -/
def islandsMatchSpecCard : Claim7 := { stood := { row := islandsMatchSpecRow, standIns := [], harness := (true, "c6aa359544e279f3acadb910678c5aca5007374e7fa2ccb68833d69d97720c72"), looks := false }, kinds := [], alts := [], laidByText := true, laidKinds := [.data, .pinned], laidTests := true, laidLooks := .later }
def IslandsMatchSpecCardSaid : Prop := Claim7.holds Tryz.pinned (.plain (OpenSpec.ofChange islandsMatchSpecSpec)) islandsMatchSpecCard

/-- THE SECOND FORM's CARD OF 'etchhouselaw5.IslandsMatchSpec'. -/
def islandsMatchSpecUptoCard : Claim7 := { stood := { row := islandsMatchSpecUptoRow, standIns := [], harness := (true, "c6aa359544e279f3acadb910678c5aca5007374e7fa2ccb68833d69d97720c72"), looks := false }, kinds := [], alts := [], laidByText := true, laidKinds := [.data, .pinned], laidTests := true, laidLooks := .later }
def IslandsMatchSpecUptoCardSaid : Prop := Claim7.holds Tryz.pinned (.plain (OpenSpec.upto islandsMatchSpecSpec)) islandsMatchSpecUptoCard
end Rows
end Go.Proofs.YtmmiladckdcjeaaGreatDoor
