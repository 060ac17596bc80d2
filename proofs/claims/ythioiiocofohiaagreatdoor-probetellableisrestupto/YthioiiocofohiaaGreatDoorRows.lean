/-
  NARROWER THAN 'FOR EVERY INPUT', by the rows' own cells (each row's printed sentence says how): ProbeCanHasIt: laid · ProbeLeanMissesSame: laid · ProbeTellableIsRest: laid · ProbeSwapsAreBest: laid · ProbeTimesMatchSpec: laid.
  DERIVED. THE GIVEN ROWS OF THIS SEAT. 5 by the template 'for every input the law returns true; each argument reads behind the call as it read before'; 0 by the template 'total and deterministic' (their statements: YthioiiocofohiaaGreatDoorTotals.lean).
  GIVEN WITH THE SEED: the statements are not yours to turn. If you find one false, say at which input.
  Laid BY PROGRAM, IN A SANDBOX (cutbox-rows.mjs): the forced cells as the released guide's own fill.sh prints them over the translation 7a3e7a7e18590f9c… (all of the seat's roots in one cut). By AI agents, Wed Nov 11 2026. No macro, syntax, notation, axiom, sorry.
-/
import Derived.Test.YthioiiocofohiaaGreatDoorChecked
import GoSem.PinnedTables
import GoSem.Claim
import GoSem.ClaimJoined
import GoSem.ClaimMapViews
import Derived.JoinedTies
import Derived.KernelRfl
namespace Go.Proofs.YthioiiocofohiaaGreatDoor
/- THE CELL 'sum', in the pinned program and in every row, IS THE sha256 OF THE DUMP (.gsa) THAT YthioiiocofohiaaGreatDoorProg.lean LOADS. Nothing in Lean hashes anything: it is a label: what it is worth is what the hold of that sum in a sandbox is worth. -/
noncomputable def Tryz.pinned : Pinned := { name := "ythioiiocofohiaagreatdoor", sum := "7a3e7a7e18590f9cf66068e7438b6527ee130ecc603ef281a9d3f3f29ff496cc", checked := Tryz.checked }
namespace Rows
def none {H : Type} : Left H := { results := [], args := [] }

/- WHAT THE LISTED PACKAGE-LEVEL VARIABLES READ AS WHEN THE CALL BEGINS. Each datum BY PROGRAM (the guide's laid-datum.mjs) off the statement by which the dump's own 'gosem.cut.vars' lays the variable. In a bare row this is a premise. The card (YthioiiocofohiaaGreatDoorCards.lean) ties it to the program's text. -/
def laid_unicode_utf8_acceptRanges {H : Type} : DataW H := .agg [.agg [.lit (.int .u8 128), .lit (.int .u8 191)], .agg [.lit (.int .u8 160), .lit (.int .u8 191)], .agg [.lit (.int .u8 128), .lit (.int .u8 159)], .agg [.lit (.int .u8 144), .lit (.int .u8 191)], .agg [.lit (.int .u8 128), .lit (.int .u8 143)], .agg [.lit (.int .u8 0), .lit (.int .u8 0)], .agg [.lit (.int .u8 0), .lit (.int .u8 0)], .agg [.lit (.int .u8 0), .lit (.int .u8 0)], .agg [.lit (.int .u8 0), .lit (.int .u8 0)], .agg [.lit (.int .u8 0), .lit (.int .u8 0)], .agg [.lit (.int .u8 0), .lit (.int .u8 0)], .agg [.lit (.int .u8 0), .lit (.int .u8 0)], .agg [.lit (.int .u8 0), .lit (.int .u8 0)], .agg [.lit (.int .u8 0), .lit (.int .u8 0)], .agg [.lit (.int .u8 0), .lit (.int .u8 0)], .agg [.lit (.int .u8 0), .lit (.int .u8 0)]]
/-- One of Go's own tables, pinned by name: the form's constant. -/
def laid_unicode_utf8_first : DataW Unit := Go.Pinned.utf8First

/-- 'etchhouselaw11.ProbeCanHasIt': WHATEVER THE INPUT: true; the input reads as it did. -/
def probeCanHasItSpec : ChangeSpec := { name := "probeCanHasIt", fn := fun _ => fun
  | [d1, d2, d3, d4] => { results := [.lit (.bool true)], args := [d1, d2, d3, d4] }
  | _ => none }
def probeCanHasItRow : OpenClaim := { program := "ythioiiocofohiaagreatdoor", sum := "7a3e7a7e18590f9cf66068e7438b6527ee130ecc603ef281a9d3f3f29ff496cc", func := "etchhouse/etchhouselaw11.ProbeCanHasIt", spec := "probeCanHasIt", inPlace := ["internal/bytealg.CountString", "internal/bytealg.IndexByteString", "internal/bytealg.IndexString", "internal/bytealg.abigen_runtime_cmpstring"], unfollowed := true, recurses := true, named := ["unicode/utf8.first", "unicode/utf8.acceptRanges", "internal/bytealg.MaxLen"], apart := false, laid := [("unicode/utf8.acceptRanges", laid_unicode_utf8_acceptRanges), ("unicode/utf8.first", laid_unicode_utf8_first)] }
def ProbeCanHasItSaid : Prop := probeCanHasItRow.holds Tryz.pinned (OpenSpec.ofChange probeCanHasItSpec)

/-- ITS FALSE NEIGHBOUR: 'it returns false'. Refute it at one input. -/
def probeCanHasItWrong : ChangeSpec := { name := "probeCanHasIt", fn := fun _ => fun
  | [d1, d2, d3, d4] => { results := [.lit (.bool false)], args := [d1, d2, d3, d4] }
  | _ => none }
def ProbeCanHasItWrongFalsely : Prop := probeCanHasItRow.holds Tryz.pinned (OpenSpec.ofChange probeCanHasItWrong)

/-- 'etchhouselaw11.ProbeLeanMissesSame': WHATEVER THE INPUT: true; the input reads as it did. -/
def probeLeanMissesSameSpec : ChangeSpec := { name := "probeLeanMissesSame", fn := fun _ => fun
  | [d1, d2, d3] => { results := [.lit (.bool true)], args := [d1, d2, d3] }
  | _ => none }
def probeLeanMissesSameRow : OpenClaim := { program := "ythioiiocofohiaagreatdoor", sum := "7a3e7a7e18590f9cf66068e7438b6527ee130ecc603ef281a9d3f3f29ff496cc", func := "etchhouse/etchhouselaw11.ProbeLeanMissesSame", spec := "probeLeanMissesSame", inPlace := ["internal/bytealg.CountString", "internal/bytealg.IndexByteString", "internal/bytealg.IndexString", "internal/bytealg.abigen_runtime_cmpstring"], unfollowed := true, recurses := true, named := ["unicode/utf8.first", "unicode/utf8.acceptRanges", "internal/bytealg.MaxLen"], apart := false, laid := [("unicode/utf8.acceptRanges", laid_unicode_utf8_acceptRanges), ("unicode/utf8.first", laid_unicode_utf8_first)] }
def ProbeLeanMissesSameSaid : Prop := probeLeanMissesSameRow.holds Tryz.pinned (OpenSpec.ofChange probeLeanMissesSameSpec)

/-- ITS FALSE NEIGHBOUR: 'it returns false'. Refute it at one input. -/
def probeLeanMissesSameWrong : ChangeSpec := { name := "probeLeanMissesSame", fn := fun _ => fun
  | [d1, d2, d3] => { results := [.lit (.bool false)], args := [d1, d2, d3] }
  | _ => none }
def ProbeLeanMissesSameWrongFalsely : Prop := probeLeanMissesSameRow.holds Tryz.pinned (OpenSpec.ofChange probeLeanMissesSameWrong)

/-- 'etchhouselaw11.ProbeTellableIsRest': WHATEVER THE INPUT: true; the input reads as it did. -/
def probeTellableIsRestSpec : ChangeSpec := { name := "probeTellableIsRest", fn := fun _ => fun
  | [d1, d2, d3] => { results := [.lit (.bool true)], args := [d1, d2, d3] }
  | _ => none }
def probeTellableIsRestRow : OpenClaim := { program := "ythioiiocofohiaagreatdoor", sum := "7a3e7a7e18590f9cf66068e7438b6527ee130ecc603ef281a9d3f3f29ff496cc", func := "etchhouse/etchhouselaw11.ProbeTellableIsRest", spec := "probeTellableIsRest", inPlace := ["internal/bytealg.CountString", "internal/bytealg.IndexByteString", "internal/bytealg.IndexString", "internal/bytealg.abigen_runtime_cmpstring"], unfollowed := true, recurses := true, named := ["unicode/utf8.first", "unicode/utf8.acceptRanges", "internal/bytealg.MaxLen"], apart := false, laid := [("unicode/utf8.acceptRanges", laid_unicode_utf8_acceptRanges), ("unicode/utf8.first", laid_unicode_utf8_first)] }
def ProbeTellableIsRestSaid : Prop := probeTellableIsRestRow.holds Tryz.pinned (OpenSpec.ofChange probeTellableIsRestSpec)

/-- ITS FALSE NEIGHBOUR: 'it returns false'. Refute it at one input. -/
def probeTellableIsRestWrong : ChangeSpec := { name := "probeTellableIsRest", fn := fun _ => fun
  | [d1, d2, d3] => { results := [.lit (.bool false)], args := [d1, d2, d3] }
  | _ => none }
def ProbeTellableIsRestWrongFalsely : Prop := probeTellableIsRestRow.holds Tryz.pinned (OpenSpec.ofChange probeTellableIsRestWrong)

/-- 'etchhouselaw11.ProbeSwapsAreBest': WHATEVER THE INPUT: true; the input reads as it did. -/
def probeSwapsAreBestSpec : ChangeSpec := { name := "probeSwapsAreBest", fn := fun _ => fun
  | [d1, d2, d3, d4, d5] => { results := [.lit (.bool true)], args := [d1, d2, d3, d4, d5] }
  | _ => none }
def probeSwapsAreBestRow : OpenClaim := { program := "ythioiiocofohiaagreatdoor", sum := "7a3e7a7e18590f9cf66068e7438b6527ee130ecc603ef281a9d3f3f29ff496cc", func := "etchhouse/etchhouselaw11.ProbeSwapsAreBest", spec := "probeSwapsAreBest", inPlace := ["internal/bytealg.CountString", "internal/bytealg.IndexByteString", "internal/bytealg.IndexString", "internal/bytealg.abigen_runtime_cmpstring"], unfollowed := true, recurses := true, named := ["unicode/utf8.first", "unicode/utf8.acceptRanges", "internal/bytealg.MaxLen"], apart := false, laid := [("unicode/utf8.acceptRanges", laid_unicode_utf8_acceptRanges), ("unicode/utf8.first", laid_unicode_utf8_first)] }
def ProbeSwapsAreBestSaid : Prop := probeSwapsAreBestRow.holds Tryz.pinned (OpenSpec.ofChange probeSwapsAreBestSpec)

/-- ITS FALSE NEIGHBOUR: 'it returns false'. Refute it at one input. -/
def probeSwapsAreBestWrong : ChangeSpec := { name := "probeSwapsAreBest", fn := fun _ => fun
  | [d1, d2, d3, d4, d5] => { results := [.lit (.bool false)], args := [d1, d2, d3, d4, d5] }
  | _ => none }
def ProbeSwapsAreBestWrongFalsely : Prop := probeSwapsAreBestRow.holds Tryz.pinned (OpenSpec.ofChange probeSwapsAreBestWrong)

/-- 'etchhouselaw11.ProbeTimesMatchSpec': WHATEVER THE INPUT: true; the input reads as it did. -/
def probeTimesMatchSpecSpec : ChangeSpec := { name := "probeTimesMatchSpec", fn := fun _ => fun
  | [d1, d2, d3, d4, d5] => { results := [.lit (.bool true)], args := [d1, d2, d3, d4, d5] }
  | _ => none }
def probeTimesMatchSpecRow : OpenClaim := { program := "ythioiiocofohiaagreatdoor", sum := "7a3e7a7e18590f9cf66068e7438b6527ee130ecc603ef281a9d3f3f29ff496cc", func := "etchhouse/etchhouselaw11.ProbeTimesMatchSpec", spec := "probeTimesMatchSpec", inPlace := ["internal/bytealg.CountString", "internal/bytealg.IndexByteString", "internal/bytealg.IndexString", "internal/bytealg.abigen_runtime_cmpstring"], unfollowed := true, recurses := true, named := ["unicode/utf8.first", "unicode/utf8.acceptRanges", "internal/bytealg.MaxLen"], apart := false, laid := [("unicode/utf8.acceptRanges", laid_unicode_utf8_acceptRanges), ("unicode/utf8.first", laid_unicode_utf8_first)] }
def ProbeTimesMatchSpecSaid : Prop := probeTimesMatchSpecRow.holds Tryz.pinned (OpenSpec.ofChange probeTimesMatchSpecSpec)

/-- ITS FALSE NEIGHBOUR: 'it returns false'. Refute it at one input. -/
def probeTimesMatchSpecWrong : ChangeSpec := { name := "probeTimesMatchSpec", fn := fun _ => fun
  | [d1, d2, d3, d4, d5] => { results := [.lit (.bool false)], args := [d1, d2, d3, d4, d5] }
  | _ => none }
def ProbeTimesMatchSpecWrongFalsely : Prop := probeTimesMatchSpecRow.holds Tryz.pinned (OpenSpec.ofChange probeTimesMatchSpecWrong)

/- THE SECOND FORM. 'bulk': how many values and letters a reading holds, each counted each time it is reached (what is shared counts as often as it is met; a slice's spare places count too). A statement '..UptoSaid' is the law's where the arguments, and the package variables that the reading takes, are together of bulk at most 1048576: NARROWER than '..Said'. Prove '..Said' where nothing that the law and all that it calls make is longer than what came in: it says more and counts as full. Else prove '..UptoSaid'. A law counts once. -/
mutual
def uptoBulk {H : Type} : DataW H → Nat
  | .lit (.string bytes) => bytes.length + 1
  | .lit _ => 1
  | .nil => 1
  | .ptr d => uptoBulk d + 1
  | .slice elems spare => uptoBulkAll elems + uptoBulkAll spare + 1
  | .agg parts => uptoBulkAll parts + 1
  | .iface _ d => uptoBulk d + 1
  | .map entries => uptoBulkEntries entries + 1
  | .held _ => 1
def uptoBulkAll {H : Type} : List (DataW H) → Nat
  | [] => 0
  | d :: r => uptoBulk d + uptoBulkAll r
def uptoBulkEntries {H : Type} : List (Lit × DataW H) → Nat
  | [] => 0
  | x :: r => uptoBulkEntry x + uptoBulkEntries r
def uptoBulkEntry {H : Type} : Lit × DataW H → Nat
  | (.string bytes, d) => bytes.length + uptoBulk d + 1
  | (_, d) => uptoBulk d + 1
 end
def uptoSmall : (H : Type) → List (DataW H) → Bool := fun _ ds => decide (uptoBulkAll ds ≤ 1048576)
def OpenSpec.upto (s : _root_.Go.ChangeSpec) : _root_.Go.OpenSpec := { _root_.Go.OpenSpec.ofChange s with cond := some uptoSmall }

/-- 'etchhouselaw11.ProbeCanHasIt', WHERE WHAT IT READS IS OF BULK AT MOST 1048576: true; the input reads as it did. -/
def probeCanHasItUptoRow : OpenClaim := { program := "ythioiiocofohiaagreatdoor", sum := "7a3e7a7e18590f9cf66068e7438b6527ee130ecc603ef281a9d3f3f29ff496cc", func := "etchhouse/etchhouselaw11.ProbeCanHasIt", spec := "probeCanHasIt", inPlace := ["internal/bytealg.CountString", "internal/bytealg.IndexByteString", "internal/bytealg.IndexString", "internal/bytealg.abigen_runtime_cmpstring"], unfollowed := true, recurses := true, named := ["unicode/utf8.first", "unicode/utf8.acceptRanges", "internal/bytealg.MaxLen"], apart := false, laid := [("unicode/utf8.acceptRanges", laid_unicode_utf8_acceptRanges), ("unicode/utf8.first", laid_unicode_utf8_first)], narrowed := true }
def ProbeCanHasItUptoSaid : Prop := probeCanHasItUptoRow.holds Tryz.pinned (OpenSpec.upto probeCanHasItSpec)

/-- 'etchhouselaw11.ProbeLeanMissesSame', WHERE WHAT IT READS IS OF BULK AT MOST 1048576: true; the input reads as it did. -/
def probeLeanMissesSameUptoRow : OpenClaim := { program := "ythioiiocofohiaagreatdoor", sum := "7a3e7a7e18590f9cf66068e7438b6527ee130ecc603ef281a9d3f3f29ff496cc", func := "etchhouse/etchhouselaw11.ProbeLeanMissesSame", spec := "probeLeanMissesSame", inPlace := ["internal/bytealg.CountString", "internal/bytealg.IndexByteString", "internal/bytealg.IndexString", "internal/bytealg.abigen_runtime_cmpstring"], unfollowed := true, recurses := true, named := ["unicode/utf8.first", "unicode/utf8.acceptRanges", "internal/bytealg.MaxLen"], apart := false, laid := [("unicode/utf8.acceptRanges", laid_unicode_utf8_acceptRanges), ("unicode/utf8.first", laid_unicode_utf8_first)], narrowed := true }
def ProbeLeanMissesSameUptoSaid : Prop := probeLeanMissesSameUptoRow.holds Tryz.pinned (OpenSpec.upto probeLeanMissesSameSpec)

/-- 'etchhouselaw11.ProbeTellableIsRest', WHERE WHAT IT READS IS OF BULK AT MOST 1048576: true; the input reads as it did. -/
def probeTellableIsRestUptoRow : OpenClaim := { program := "ythioiiocofohiaagreatdoor", sum := "7a3e7a7e18590f9cf66068e7438b6527ee130ecc603ef281a9d3f3f29ff496cc", func := "etchhouse/etchhouselaw11.ProbeTellableIsRest", spec := "probeTellableIsRest", inPlace := ["internal/bytealg.CountString", "internal/bytealg.IndexByteString", "internal/bytealg.IndexString", "internal/bytealg.abigen_runtime_cmpstring"], unfollowed := true, recurses := true, named := ["unicode/utf8.first", "unicode/utf8.acceptRanges", "internal/bytealg.MaxLen"], apart := false, laid := [("unicode/utf8.acceptRanges", laid_unicode_utf8_acceptRanges), ("unicode/utf8.first", laid_unicode_utf8_first)], narrowed := true }
def ProbeTellableIsRestUptoSaid : Prop := probeTellableIsRestUptoRow.holds Tryz.pinned (OpenSpec.upto probeTellableIsRestSpec)

/-- 'etchhouselaw11.ProbeSwapsAreBest', WHERE WHAT IT READS IS OF BULK AT MOST 1048576: true; the input reads as it did. -/
def probeSwapsAreBestUptoRow : OpenClaim := { program := "ythioiiocofohiaagreatdoor", sum := "7a3e7a7e18590f9cf66068e7438b6527ee130ecc603ef281a9d3f3f29ff496cc", func := "etchhouse/etchhouselaw11.ProbeSwapsAreBest", spec := "probeSwapsAreBest", inPlace := ["internal/bytealg.CountString", "internal/bytealg.IndexByteString", "internal/bytealg.IndexString", "internal/bytealg.abigen_runtime_cmpstring"], unfollowed := true, recurses := true, named := ["unicode/utf8.first", "unicode/utf8.acceptRanges", "internal/bytealg.MaxLen"], apart := false, laid := [("unicode/utf8.acceptRanges", laid_unicode_utf8_acceptRanges), ("unicode/utf8.first", laid_unicode_utf8_first)], narrowed := true }
def ProbeSwapsAreBestUptoSaid : Prop := probeSwapsAreBestUptoRow.holds Tryz.pinned (OpenSpec.upto probeSwapsAreBestSpec)

/-- 'etchhouselaw11.ProbeTimesMatchSpec', WHERE WHAT IT READS IS OF BULK AT MOST 1048576: true; the input reads as it did. -/
def probeTimesMatchSpecUptoRow : OpenClaim := { program := "ythioiiocofohiaagreatdoor", sum := "7a3e7a7e18590f9cf66068e7438b6527ee130ecc603ef281a9d3f3f29ff496cc", func := "etchhouse/etchhouselaw11.ProbeTimesMatchSpec", spec := "probeTimesMatchSpec", inPlace := ["internal/bytealg.CountString", "internal/bytealg.IndexByteString", "internal/bytealg.IndexString", "internal/bytealg.abigen_runtime_cmpstring"], unfollowed := true, recurses := true, named := ["unicode/utf8.first", "unicode/utf8.acceptRanges", "internal/bytealg.MaxLen"], apart := false, laid := [("unicode/utf8.acceptRanges", laid_unicode_utf8_acceptRanges), ("unicode/utf8.first", laid_unicode_utf8_first)], narrowed := true }
def ProbeTimesMatchSpecUptoSaid : Prop := probeTimesMatchSpecUptoRow.holds Tryz.pinned (OpenSpec.upto probeTimesMatchSpecSpec)

end Rows
end Go.Proofs.YthioiiocofohiaaGreatDoor
