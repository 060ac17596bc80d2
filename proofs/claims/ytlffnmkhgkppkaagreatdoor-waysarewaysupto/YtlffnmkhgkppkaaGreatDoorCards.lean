/-
  DERIVED. GIVEN WITH THE SEED: THE CARDS: each row of YtlffnmkhgkppkaaGreatDoorRows.lean that lists a variable, with what it lists TIED to the program's text (the seventh form; the later family's looks); each row that meets fmt, with fmt's text TOLD by the authors' own Lean function (tested against real Go, not proved from fmt's source: count such statements apart). THE CARD IS WHAT COUNTS. Prove the row's statement (the work); the ties are given (YtlffnmkhgkppkaaGreatDoorTie.lean); close each card by the builder's one call (the guide's Derived/Test/ToyasCard.lean, 'card_holds'). Laid BY PROGRAM, IN A SANDBOX (cutbox-door.mjs). By AI agents, Wed Nov 11 2026. No macro, syntax, notation, axiom, sorry.
-/
import Derived.Test.YtlffnmkhgkppkaaGreatDoorRows
import GoSem.ClaimSeven
namespace Go.Proofs.YtlffnmkhgkppkaaGreatDoor
namespace Rows

/-- THE TIED CARD OF 'etchhouselaw11.ProbeSwapsMatchSpec'. -/
def probeSwapsMatchSpecCard : Claim7 := { stood := { row := probeSwapsMatchSpecRow, standIns := [], harness := (true, "f3af475b8a5340b0efe876de34cfef982ccf0a70fcac4c283f7ff749639a23f1"), looks := false }, kinds := [], alts := [], laidByText := true, laidKinds := [.data, .pinned], laidTests := true, laidLooks := .later }
def ProbeSwapsMatchSpecCardSaid : Prop := Claim7.holds Tryz.pinned (.plain (OpenSpec.ofChange probeSwapsMatchSpecSpec)) probeSwapsMatchSpecCard

/-- THE TIED CARD OF 'etchhouselaw5.WaysMatchSpec'. -/
def waysMatchSpecCard : Claim7 := { stood := { row := waysMatchSpecRow, standIns := [], harness := (true, "f3af475b8a5340b0efe876de34cfef982ccf0a70fcac4c283f7ff749639a23f1"), looks := false }, kinds := [], alts := [], laidByText := true, laidKinds := [.data, .pinned], laidTests := true, laidLooks := .later }
def WaysMatchSpecCardSaid : Prop := Claim7.holds Tryz.pinned (.plain (OpenSpec.ofChange waysMatchSpecSpec)) waysMatchSpecCard

/-- THE TIED CARD OF 'etchhouselaw5.WaysAreWays'. -/
def waysAreWaysCard : Claim7 := { stood := { row := waysAreWaysRow, standIns := [], harness := (true, "f3af475b8a5340b0efe876de34cfef982ccf0a70fcac4c283f7ff749639a23f1"), looks := false }, kinds := [], alts := [], laidByText := true, laidKinds := [.data, .pinned], laidTests := true, laidLooks := .later }
def WaysAreWaysCardSaid : Prop := Claim7.holds Tryz.pinned (.plain (OpenSpec.ofChange waysAreWaysSpec)) waysAreWaysCard

/-- THE SECOND FORM's CARD OF 'etchhouselaw11.ProbeSwapsMatchSpec'. -/
def probeSwapsMatchSpecUptoCard : Claim7 := { stood := { row := probeSwapsMatchSpecUptoRow, standIns := [], harness := (true, "f3af475b8a5340b0efe876de34cfef982ccf0a70fcac4c283f7ff749639a23f1"), looks := false }, kinds := [], alts := [], laidByText := true, laidKinds := [.data, .pinned], laidTests := true, laidLooks := .later }
def ProbeSwapsMatchSpecUptoCardSaid : Prop := Claim7.holds Tryz.pinned (.plain (OpenSpec.upto probeSwapsMatchSpecSpec)) probeSwapsMatchSpecUptoCard

/-- THE SECOND FORM's CARD OF 'etchhouselaw5.WaysMatchSpec'. -/
def waysMatchSpecUptoCard : Claim7 := { stood := { row := waysMatchSpecUptoRow, standIns := [], harness := (true, "f3af475b8a5340b0efe876de34cfef982ccf0a70fcac4c283f7ff749639a23f1"), looks := false }, kinds := [], alts := [], laidByText := true, laidKinds := [.data, .pinned], laidTests := true, laidLooks := .later }
def WaysMatchSpecUptoCardSaid : Prop := Claim7.holds Tryz.pinned (.plain (OpenSpec.upto waysMatchSpecSpec)) waysMatchSpecUptoCard

/-- THE SECOND FORM's CARD OF 'etchhouselaw5.WaysAreWays'. -/
def waysAreWaysUptoCard : Claim7 := { stood := { row := waysAreWaysUptoRow, standIns := [], harness := (true, "f3af475b8a5340b0efe876de34cfef982ccf0a70fcac4c283f7ff749639a23f1"), looks := false }, kinds := [], alts := [], laidByText := true, laidKinds := [.data, .pinned], laidTests := true, laidLooks := .later }
def WaysAreWaysUptoCardSaid : Prop := Claim7.holds Tryz.pinned (.plain (OpenSpec.upto waysAreWaysSpec)) waysAreWaysUptoCard
end Rows
end Go.Proofs.YtlffnmkhgkppkaaGreatDoor
