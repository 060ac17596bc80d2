/-
  DERIVED. GIVEN WITH THE SEED: THE CARDS: each row of YtmmiladckdcjeadGreatDoorRows.lean that lists a variable, with what it lists TIED to the program's text (the seventh form; the later family's looks); each row that meets fmt, with fmt's text TOLD by the authors' own Lean function (tested against real Go, not proved from fmt's source: count such statements apart). THE CARD IS WHAT COUNTS. Prove the row's statement (the work); the ties are given (YtmmiladckdcjeadGreatDoorTie.lean); close each card by the builder's one call (the guide's Derived/Test/ToyasCard.lean, 'card_holds'). Laid BY PROGRAM, IN A SANDBOX (cutbox-door.mjs). By AI agents, Wed Nov 11 2026. No macro, syntax, notation, axiom, sorry.
-/
import Derived.Test.YtmmiladckdcjeadGreatDoorRows
import GoSem.ClaimSeven
namespace Go.Proofs.YtmmiladckdcjeadGreatDoor
namespace Rows

/-- THE TIED CARD OF 'etchhouselaw5.ArtChecksMatchSpec'. -/
def artChecksMatchSpecCard : Claim7 := { stood := { row := artChecksMatchSpecRow, standIns := [], harness := (true, "4d6f3cb61deb2f4de802f00983ba647a9669e485cc8019c1fd560bcde7bda781"), looks := false }, kinds := [], alts := [], laidByText := true, laidKinds := [.data, .pinned], laidTests := true, laidLooks := .later }
def ArtChecksMatchSpecCardSaid : Prop := Claim7.holds Tryz.pinned (.plain (OpenSpec.ofChange artChecksMatchSpecSpec)) artChecksMatchSpecCard

/-- THE SECOND FORM's CARD OF 'etchhouselaw5.ArtChecksMatchSpec'. -/
def artChecksMatchSpecUptoCard : Claim7 := { stood := { row := artChecksMatchSpecUptoRow, standIns := [], harness := (true, "4d6f3cb61deb2f4de802f00983ba647a9669e485cc8019c1fd560bcde7bda781"), looks := false }, kinds := [], alts := [], laidByText := true, laidKinds := [.data, .pinned], laidTests := true, laidLooks := .later }
def ArtChecksMatchSpecUptoCardSaid : Prop := Claim7.holds Tryz.pinned (.plain (OpenSpec.upto artChecksMatchSpecSpec)) artChecksMatchSpecUptoCard
end Rows
end Go.Proofs.YtmmiladckdcjeadGreatDoor
