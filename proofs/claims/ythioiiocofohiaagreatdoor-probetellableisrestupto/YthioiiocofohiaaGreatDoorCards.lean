/-
  DERIVED. GIVEN WITH THE SEED: THE CARDS: each row of YthioiiocofohiaaGreatDoorRows.lean that lists a variable, with what it lists TIED to the program's text (the seventh form; the later family's looks); each row that meets fmt, with fmt's text TOLD by the authors' own Lean function (tested against real Go, not proved from fmt's source: count such statements apart). THE CARD IS WHAT COUNTS. Prove the row's statement (the work); the ties are given (YthioiiocofohiaaGreatDoorTie.lean); close each card by the builder's one call (the guide's Derived/Test/ToyasCard.lean, 'card_holds'). Laid BY PROGRAM, IN A SANDBOX (cutbox-door.mjs). By AI agents, Wed Nov 11 2026. No macro, syntax, notation, axiom, sorry.
-/
import Derived.Test.YthioiiocofohiaaGreatDoorRows
import GoSem.ClaimSeven
namespace Go.Proofs.YthioiiocofohiaaGreatDoor
namespace Rows

/-- THE TIED CARD OF 'etchhouselaw11.ProbeCanHasIt'. -/
def probeCanHasItCard : Claim7 := { stood := { row := probeCanHasItRow, standIns := [], harness := (true, "7c8ddcd22f2278749bb48d1a8c5978dcf3d2a3870ae765fc469a7b58ca1313d0"), looks := false }, kinds := [], alts := [], laidByText := true, laidKinds := [.data, .pinned], laidTests := true, laidLooks := .later }
def ProbeCanHasItCardSaid : Prop := Claim7.holds Tryz.pinned (.plain (OpenSpec.ofChange probeCanHasItSpec)) probeCanHasItCard

/-- THE TIED CARD OF 'etchhouselaw11.ProbeLeanMissesSame'. -/
def probeLeanMissesSameCard : Claim7 := { stood := { row := probeLeanMissesSameRow, standIns := [], harness := (true, "7c8ddcd22f2278749bb48d1a8c5978dcf3d2a3870ae765fc469a7b58ca1313d0"), looks := false }, kinds := [], alts := [], laidByText := true, laidKinds := [.data, .pinned], laidTests := true, laidLooks := .later }
def ProbeLeanMissesSameCardSaid : Prop := Claim7.holds Tryz.pinned (.plain (OpenSpec.ofChange probeLeanMissesSameSpec)) probeLeanMissesSameCard

/-- THE TIED CARD OF 'etchhouselaw11.ProbeTellableIsRest'. -/
def probeTellableIsRestCard : Claim7 := { stood := { row := probeTellableIsRestRow, standIns := [], harness := (true, "7c8ddcd22f2278749bb48d1a8c5978dcf3d2a3870ae765fc469a7b58ca1313d0"), looks := false }, kinds := [], alts := [], laidByText := true, laidKinds := [.data, .pinned], laidTests := true, laidLooks := .later }
def ProbeTellableIsRestCardSaid : Prop := Claim7.holds Tryz.pinned (.plain (OpenSpec.ofChange probeTellableIsRestSpec)) probeTellableIsRestCard

/-- THE TIED CARD OF 'etchhouselaw11.ProbeSwapsAreBest'. -/
def probeSwapsAreBestCard : Claim7 := { stood := { row := probeSwapsAreBestRow, standIns := [], harness := (true, "7c8ddcd22f2278749bb48d1a8c5978dcf3d2a3870ae765fc469a7b58ca1313d0"), looks := false }, kinds := [], alts := [], laidByText := true, laidKinds := [.data, .pinned], laidTests := true, laidLooks := .later }
def ProbeSwapsAreBestCardSaid : Prop := Claim7.holds Tryz.pinned (.plain (OpenSpec.ofChange probeSwapsAreBestSpec)) probeSwapsAreBestCard

/-- THE TIED CARD OF 'etchhouselaw11.ProbeTimesMatchSpec'. -/
def probeTimesMatchSpecCard : Claim7 := { stood := { row := probeTimesMatchSpecRow, standIns := [], harness := (true, "7c8ddcd22f2278749bb48d1a8c5978dcf3d2a3870ae765fc469a7b58ca1313d0"), looks := false }, kinds := [], alts := [], laidByText := true, laidKinds := [.data, .pinned], laidTests := true, laidLooks := .later }
def ProbeTimesMatchSpecCardSaid : Prop := Claim7.holds Tryz.pinned (.plain (OpenSpec.ofChange probeTimesMatchSpecSpec)) probeTimesMatchSpecCard

/-- THE SECOND FORM's CARD OF 'etchhouselaw11.ProbeCanHasIt'. -/
def probeCanHasItUptoCard : Claim7 := { stood := { row := probeCanHasItUptoRow, standIns := [], harness := (true, "7c8ddcd22f2278749bb48d1a8c5978dcf3d2a3870ae765fc469a7b58ca1313d0"), looks := false }, kinds := [], alts := [], laidByText := true, laidKinds := [.data, .pinned], laidTests := true, laidLooks := .later }
def ProbeCanHasItUptoCardSaid : Prop := Claim7.holds Tryz.pinned (.plain (OpenSpec.upto probeCanHasItSpec)) probeCanHasItUptoCard

/-- THE SECOND FORM's CARD OF 'etchhouselaw11.ProbeLeanMissesSame'. -/
def probeLeanMissesSameUptoCard : Claim7 := { stood := { row := probeLeanMissesSameUptoRow, standIns := [], harness := (true, "7c8ddcd22f2278749bb48d1a8c5978dcf3d2a3870ae765fc469a7b58ca1313d0"), looks := false }, kinds := [], alts := [], laidByText := true, laidKinds := [.data, .pinned], laidTests := true, laidLooks := .later }
def ProbeLeanMissesSameUptoCardSaid : Prop := Claim7.holds Tryz.pinned (.plain (OpenSpec.upto probeLeanMissesSameSpec)) probeLeanMissesSameUptoCard

/-- THE SECOND FORM's CARD OF 'etchhouselaw11.ProbeTellableIsRest'. -/
def probeTellableIsRestUptoCard : Claim7 := { stood := { row := probeTellableIsRestUptoRow, standIns := [], harness := (true, "7c8ddcd22f2278749bb48d1a8c5978dcf3d2a3870ae765fc469a7b58ca1313d0"), looks := false }, kinds := [], alts := [], laidByText := true, laidKinds := [.data, .pinned], laidTests := true, laidLooks := .later }
def ProbeTellableIsRestUptoCardSaid : Prop := Claim7.holds Tryz.pinned (.plain (OpenSpec.upto probeTellableIsRestSpec)) probeTellableIsRestUptoCard

/-- THE SECOND FORM's CARD OF 'etchhouselaw11.ProbeSwapsAreBest'. -/
def probeSwapsAreBestUptoCard : Claim7 := { stood := { row := probeSwapsAreBestUptoRow, standIns := [], harness := (true, "7c8ddcd22f2278749bb48d1a8c5978dcf3d2a3870ae765fc469a7b58ca1313d0"), looks := false }, kinds := [], alts := [], laidByText := true, laidKinds := [.data, .pinned], laidTests := true, laidLooks := .later }
def ProbeSwapsAreBestUptoCardSaid : Prop := Claim7.holds Tryz.pinned (.plain (OpenSpec.upto probeSwapsAreBestSpec)) probeSwapsAreBestUptoCard

/-- THE SECOND FORM's CARD OF 'etchhouselaw11.ProbeTimesMatchSpec'. -/
def probeTimesMatchSpecUptoCard : Claim7 := { stood := { row := probeTimesMatchSpecUptoRow, standIns := [], harness := (true, "7c8ddcd22f2278749bb48d1a8c5978dcf3d2a3870ae765fc469a7b58ca1313d0"), looks := false }, kinds := [], alts := [], laidByText := true, laidKinds := [.data, .pinned], laidTests := true, laidLooks := .later }
def ProbeTimesMatchSpecUptoCardSaid : Prop := Claim7.holds Tryz.pinned (.plain (OpenSpec.upto probeTimesMatchSpecSpec)) probeTimesMatchSpecUptoCard
end Rows
end Go.Proofs.YthioiiocofohiaaGreatDoor
