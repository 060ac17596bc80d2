/-
  DERIVED. GIVEN WITH THE SEED: THE CARDS: each row of YtghdidhpcgioeaaDoorRows.lean that lists a variable, with what it lists TIED to the program's text (the seventh form; the later family's looks); each row that meets fmt, with fmt's text TOLD by the authors' own Lean function (tested against real Go, not proved from fmt's source: count such statements apart). THE CARD IS WHAT COUNTS. Prove the row's statement (the work); the ties are given (YtghdidhpcgioeaaDoorTie.lean); close each card by the builder's one call (the guide's Derived/Test/ToyasCard.lean, 'card_holds'). Laid BY PROGRAM, IN A SANDBOX (cutbox-door.mjs). By AI agents, Wed Nov 11 2026. No macro, syntax, notation, axiom, sorry.
-/
import Derived.Test.YtghdidhpcgioeaaDoorRows
import GoSem.ClaimSeven
namespace Go.Proofs.YtghdidhpcgioeaaDoor
namespace Rows

/-- THE TIED CARD OF 'etchhouselaw2.NetlistIslandsHaveAll'. -/
def netlistIslandsHaveAllCard : Claim7 := { stood := { row := netlistIslandsHaveAllRow, standIns := [], harness := (true, "e95de6cd816e2d84d737c19622097b3ad7f3f3f4bd0a261b3a596f4c09c8dfa6"), looks := false }, kinds := [], alts := [], laidByText := true, laidKinds := [.data, .pinned], laidTests := true, laidLooks := .later }
def NetlistIslandsHaveAllCardSaid : Prop := Claim7.holds Tryd.pinned (.plain (OpenSpec.ofChange netlistIslandsHaveAllSpec)) netlistIslandsHaveAllCard

/-- THE TIED CARD OF 'etchhouselaw2.NetlistJoinedKeepsPins'. -/
def netlistJoinedKeepsPinsCard : Claim7 := { stood := { row := netlistJoinedKeepsPinsRow, standIns := [], harness := (true, "e95de6cd816e2d84d737c19622097b3ad7f3f3f4bd0a261b3a596f4c09c8dfa6"), looks := false }, kinds := [], alts := [], laidByText := true, laidKinds := [.data, .pinned], laidTests := true, laidLooks := .later }
def NetlistJoinedKeepsPinsCardSaid : Prop := Claim7.holds Tryd.pinned (.plain (OpenSpec.ofChange netlistJoinedKeepsPinsSpec)) netlistJoinedKeepsPinsCard

/-- THE SECOND FORM's CARD OF 'etchhouselaw2.NetlistIslandsHaveAll'. -/
def netlistIslandsHaveAllUptoCard : Claim7 := { stood := { row := netlistIslandsHaveAllUptoRow, standIns := [], harness := (true, "e95de6cd816e2d84d737c19622097b3ad7f3f3f4bd0a261b3a596f4c09c8dfa6"), looks := false }, kinds := [], alts := [], laidByText := true, laidKinds := [.data, .pinned], laidTests := true, laidLooks := .later }
def NetlistIslandsHaveAllUptoCardSaid : Prop := Claim7.holds Tryd.pinned (.plain (OpenSpec.upto netlistIslandsHaveAllSpec)) netlistIslandsHaveAllUptoCard

/-- THE SECOND FORM's CARD OF 'etchhouselaw2.NetlistJoinedKeepsPins'. -/
def netlistJoinedKeepsPinsUptoCard : Claim7 := { stood := { row := netlistJoinedKeepsPinsUptoRow, standIns := [], harness := (true, "e95de6cd816e2d84d737c19622097b3ad7f3f3f4bd0a261b3a596f4c09c8dfa6"), looks := false }, kinds := [], alts := [], laidByText := true, laidKinds := [.data, .pinned], laidTests := true, laidLooks := .later }
def NetlistJoinedKeepsPinsUptoCardSaid : Prop := Claim7.holds Tryd.pinned (.plain (OpenSpec.upto netlistJoinedKeepsPinsSpec)) netlistJoinedKeepsPinsUptoCard
end Rows
end Go.Proofs.YtghdidhpcgioeaaDoor
