/-
  DERIVED. GIVEN WITH THE SEED: THE CARDS: each row of YtmmiladckdcjeabGreatDoorRows.lean that lists a variable, with what it lists TIED to the program's text (the seventh form; the later family's looks); each row that meets fmt, with fmt's text TOLD by the authors' own Lean function (tested against real Go, not proved from fmt's source: count such statements apart). THE CARD IS WHAT COUNTS. Prove the row's statement (the work); the ties are given (YtmmiladckdcjeabGreatDoorTie.lean); close each card by the builder's one call (the guide's Derived/Test/ToyasCard.lean, 'card_holds'). Laid BY PROGRAM, IN A SANDBOX (cutbox-door.mjs). By AI agents, Wed Nov 11 2026. No macro, syntax, notation, axiom, sorry.
-/
import Derived.Test.YtmmiladckdcjeabGreatDoorRows
import GoSem.ClaimSeven
namespace Go.Proofs.YtmmiladckdcjeabGreatDoor
namespace Rows

/-- THE TIED CARD OF 'etchhouselaw5.GroupsMatchSpec'. -/
def groupsMatchSpecCard : Claim7 := { stood := { row := groupsMatchSpecRow, standIns := [], harness := (true, "d2c9fd3df0d00cdd25a03ebdf52feeef6617d27dd80e294791966b2f194aaa51"), looks := false }, kinds := [], alts := [], laidByText := true, laidKinds := [.data, .pinned], laidTests := true, laidLooks := .later }
def GroupsMatchSpecCardSaid : Prop := Claim7.holds Tryz.pinned (.plain (OpenSpec.ofChange groupsMatchSpecSpec)) groupsMatchSpecCard

/-- THE SECOND FORM's CARD OF 'etchhouselaw5.GroupsMatchSpec'. -/
def groupsMatchSpecUptoCard : Claim7 := { stood := { row := groupsMatchSpecUptoRow, standIns := [], harness := (true, "d2c9fd3df0d00cdd25a03ebdf52feeef6617d27dd80e294791966b2f194aaa51"), looks := false }, kinds := [], alts := [], laidByText := true, laidKinds := [.data, .pinned], laidTests := true, laidLooks := .later }
def GroupsMatchSpecUptoCardSaid : Prop := Claim7.holds Tryz.pinned (.plain (OpenSpec.upto groupsMatchSpecSpec)) groupsMatchSpecUptoCard
end Rows
end Go.Proofs.YtmmiladckdcjeabGreatDoor
