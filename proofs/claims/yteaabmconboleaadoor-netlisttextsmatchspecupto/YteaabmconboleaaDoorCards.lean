/-
  DERIVED. GIVEN WITH THE SEED: THE CARDS: each row of YteaabmconboleaaDoorRows.lean that lists a variable, with what it lists TIED to the program's text (the seventh form; the later family's looks); each row that meets fmt, with fmt's text TOLD by the authors' own Lean function (tested against real Go, not proved from fmt's source: count such statements apart). THE CARD IS WHAT COUNTS. Prove the row's statement (the work); the ties are given (YteaabmconboleaaDoorTie.lean); close each card by the builder's one call (the guide's Derived/Test/ToyasCard.lean, 'card_holds'). Laid BY PROGRAM, IN A SANDBOX (cutbox-door.mjs). By AI agents, Wed Nov 11 2026. No macro, syntax, notation, axiom, sorry.
-/
import Derived.Test.YteaabmconboleaaDoorRows
import GoSem.ClaimSeven
namespace Go.Proofs.YteaabmconboleaaDoor
namespace Rows

/-- THE TIED CARD OF 'etchhouselaw2.NetlistTextsMatchSpec'. -/
def netlistTextsMatchSpecCard : Claim7 := { stood := { row := netlistTextsMatchSpecRow, standIns := [], harness := (true, "d9e068a8ac9f744a29a44930972ad4de6136f5d256d856c226e6a15e786a1c96"), looks := false }, kinds := [], alts := [], laidByText := true, laidKinds := [.data, .pinned], laidTests := true, laidLooks := .later }
def NetlistTextsMatchSpecCardSaid : Prop := Claim7.holds Tryd.pinned (.plain (OpenSpec.ofChange netlistTextsMatchSpecSpec)) netlistTextsMatchSpecCard

/-- THE SECOND FORM's CARD OF 'etchhouselaw2.NetlistTextsMatchSpec'. -/
def netlistTextsMatchSpecUptoCard : Claim7 := { stood := { row := netlistTextsMatchSpecUptoRow, standIns := [], harness := (true, "d9e068a8ac9f744a29a44930972ad4de6136f5d256d856c226e6a15e786a1c96"), looks := false }, kinds := [], alts := [], laidByText := true, laidKinds := [.data, .pinned], laidTests := true, laidLooks := .later }
def NetlistTextsMatchSpecUptoCardSaid : Prop := Claim7.holds Tryd.pinned (.plain (OpenSpec.upto netlistTextsMatchSpecSpec)) netlistTextsMatchSpecUptoCard
end Rows
end Go.Proofs.YteaabmconboleaaDoor
