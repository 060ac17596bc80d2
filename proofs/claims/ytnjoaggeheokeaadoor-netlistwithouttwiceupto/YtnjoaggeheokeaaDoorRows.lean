/-
  NARROWER THAN 'FOR EVERY INPUT', by the rows' own cells (each row's printed sentence says how): NetlistListsMatchSpec: laid · NetlistFindingsMatchSpec: laid · NetlistReadsMatchSpec: laid · NetlistChangesMatchSpec: laid · NetlistWithoutTwice: laid · NetlistWithoutMatchesSpec: laid · NetlistTextsMatchSpec: laid · NetlistIslandsMatchSpec: laid.
  DERIVED. THE GIVEN ROWS OF THIS SEAT. 8 by the template 'for every input the law returns true; each argument reads behind the call as it read before'; 0 by the template 'total and deterministic' (their statements: YtnjoaggeheokeaaDoorTotals.lean).
  GIVEN WITH THE SEED: the statements are not yours to turn. If you find one false, say at which input.
  Laid BY PROGRAM, IN A SANDBOX (cutbox-rows.mjs): the forced cells as the released guide's own fill.sh prints them over the translation 5f774a3c32d457cd… (all of the seat's roots in one cut). By AI agents, Wed Nov 11 2026. No macro, syntax, notation, axiom, sorry.
-/
import Derived.Test.YtnjoaggeheokeaaDoorChecked
import GoSem.PinnedTables
import GoSem.Claim
import GoSem.ClaimJoined
import GoSem.ClaimMapViews
import Derived.JoinedTies
import Derived.KernelRfl
namespace Go.Proofs.YtnjoaggeheokeaaDoor
/- THE CELL 'sum', in the pinned program and in every row, IS THE sha256 OF THE DUMP (.gsa) THAT YtnjoaggeheokeaaDoorProg.lean LOADS. Nothing in Lean hashes anything: it is a label: what it is worth is what the hold of that sum in a sandbox is worth. -/
noncomputable def Tryd.pinned : Pinned := { name := "ytnjoaggeheokeaadoor", sum := "5f774a3c32d457cdbaa4935c39339c025387b0f1f8bff6cd16031959fc0fb7f2", checked := Tryd.checked }
namespace Rows
def none {H : Type} : Left H := { results := [], args := [] }

/- WHAT THE LISTED PACKAGE-LEVEL VARIABLES READ AS WHEN THE CALL BEGINS. Each datum BY PROGRAM (the guide's laid-datum.mjs) off the statement by which the dump's own 'gosem.cut.vars' lays the variable. In a bare row this is a premise. The card (YtnjoaggeheokeaaDoorCards.lean) ties it to the program's text. -/
def laid_unicode_utf8_acceptRanges {H : Type} : DataW H := .agg [.agg [.lit (.int .u8 128), .lit (.int .u8 191)], .agg [.lit (.int .u8 160), .lit (.int .u8 191)], .agg [.lit (.int .u8 128), .lit (.int .u8 159)], .agg [.lit (.int .u8 144), .lit (.int .u8 191)], .agg [.lit (.int .u8 128), .lit (.int .u8 143)], .agg [.lit (.int .u8 0), .lit (.int .u8 0)], .agg [.lit (.int .u8 0), .lit (.int .u8 0)], .agg [.lit (.int .u8 0), .lit (.int .u8 0)], .agg [.lit (.int .u8 0), .lit (.int .u8 0)], .agg [.lit (.int .u8 0), .lit (.int .u8 0)], .agg [.lit (.int .u8 0), .lit (.int .u8 0)], .agg [.lit (.int .u8 0), .lit (.int .u8 0)], .agg [.lit (.int .u8 0), .lit (.int .u8 0)], .agg [.lit (.int .u8 0), .lit (.int .u8 0)], .agg [.lit (.int .u8 0), .lit (.int .u8 0)], .agg [.lit (.int .u8 0), .lit (.int .u8 0)]]
/-- One of Go's own tables, pinned by name: the form's constant. -/
def laid_unicode_utf8_first : DataW Unit := Go.Pinned.utf8First

/-- 'etchhouselaw2.NetlistListsMatchSpec': WHATEVER THE INPUT: true; the input reads as it did. -/
def netlistListsMatchSpecSpec : ChangeSpec := { name := "netlistListsMatchSpec", fn := fun _ => fun
  | [d1, d2, d3] => { results := [.lit (.bool true)], args := [d1, d2, d3] }
  | _ => none }
def netlistListsMatchSpecRow : OpenClaim := { program := "ytnjoaggeheokeaadoor", sum := "5f774a3c32d457cdbaa4935c39339c025387b0f1f8bff6cd16031959fc0fb7f2", func := "etchhouse/etchhouselaw2.NetlistListsMatchSpec", spec := "netlistListsMatchSpec", inPlace := ["internal/bytealg.IndexByteString", "internal/bytealg.abigen_runtime_cmpstring", "internal/bytealg.CountString", "internal/bytealg.IndexString"], unfollowed := true, recurses := true, named := ["unicode/utf8.first", "unicode/utf8.acceptRanges", "internal/bytealg.MaxLen"], plainKeys := false, apart := false, laid := [("unicode/utf8.acceptRanges", laid_unicode_utf8_acceptRanges), ("unicode/utf8.first", laid_unicode_utf8_first)] }
def NetlistListsMatchSpecSaid : Prop := netlistListsMatchSpecRow.holds Tryd.pinned (OpenSpec.ofChange netlistListsMatchSpecSpec)

/-- ITS FALSE NEIGHBOUR: 'it returns false'. Refute it at one input. -/
def netlistListsMatchSpecWrong : ChangeSpec := { name := "netlistListsMatchSpec", fn := fun _ => fun
  | [d1, d2, d3] => { results := [.lit (.bool false)], args := [d1, d2, d3] }
  | _ => none }
def NetlistListsMatchSpecWrongFalsely : Prop := netlistListsMatchSpecRow.holds Tryd.pinned (OpenSpec.ofChange netlistListsMatchSpecWrong)

/-- 'etchhouselaw2.NetlistFindingsMatchSpec': WHATEVER THE INPUT: true; the input reads as it did. -/
def netlistFindingsMatchSpecSpec : ChangeSpec := { name := "netlistFindingsMatchSpec", fn := fun _ => fun
  | [d1, d2] => { results := [.lit (.bool true)], args := [d1, d2] }
  | _ => none }
def netlistFindingsMatchSpecRow : OpenClaim := { program := "ytnjoaggeheokeaadoor", sum := "5f774a3c32d457cdbaa4935c39339c025387b0f1f8bff6cd16031959fc0fb7f2", func := "etchhouse/etchhouselaw2.NetlistFindingsMatchSpec", spec := "netlistFindingsMatchSpec", inPlace := ["internal/bytealg.IndexByteString", "internal/bytealg.abigen_runtime_cmpstring", "internal/bytealg.CountString", "internal/bytealg.IndexString"], unfollowed := true, recurses := true, named := ["unicode/utf8.first", "unicode/utf8.acceptRanges", "internal/bytealg.MaxLen"], plainKeys := false, apart := false, laid := [("unicode/utf8.acceptRanges", laid_unicode_utf8_acceptRanges), ("unicode/utf8.first", laid_unicode_utf8_first)] }
def NetlistFindingsMatchSpecSaid : Prop := netlistFindingsMatchSpecRow.holds Tryd.pinned (OpenSpec.ofChange netlistFindingsMatchSpecSpec)

/-- ITS FALSE NEIGHBOUR: 'it returns false'. Refute it at one input. -/
def netlistFindingsMatchSpecWrong : ChangeSpec := { name := "netlistFindingsMatchSpec", fn := fun _ => fun
  | [d1, d2] => { results := [.lit (.bool false)], args := [d1, d2] }
  | _ => none }
def NetlistFindingsMatchSpecWrongFalsely : Prop := netlistFindingsMatchSpecRow.holds Tryd.pinned (OpenSpec.ofChange netlistFindingsMatchSpecWrong)

/-- 'etchhouselaw2.NetlistReadsMatchSpec': WHATEVER THE INPUT: true; the input reads as it did. -/
def netlistReadsMatchSpecSpec : ChangeSpec := { name := "netlistReadsMatchSpec", fn := fun _ => fun
  | [d] => { results := [.lit (.bool true)], args := [d] }
  | _ => none }
def netlistReadsMatchSpecRow : OpenClaim := { program := "ytnjoaggeheokeaadoor", sum := "5f774a3c32d457cdbaa4935c39339c025387b0f1f8bff6cd16031959fc0fb7f2", func := "etchhouse/etchhouselaw2.NetlistReadsMatchSpec", spec := "netlistReadsMatchSpec", inPlace := ["internal/bytealg.IndexByteString", "internal/bytealg.IndexString", "internal/bytealg.CountString", "internal/bytealg.abigen_runtime_cmpstring"], unfollowed := true, recurses := true, named := ["internal/bytealg.MaxLen", "unicode/utf8.first", "unicode/utf8.acceptRanges"], plainKeys := false, apart := false, laid := [("unicode/utf8.acceptRanges", laid_unicode_utf8_acceptRanges), ("unicode/utf8.first", laid_unicode_utf8_first)] }
def NetlistReadsMatchSpecSaid : Prop := netlistReadsMatchSpecRow.holds Tryd.pinned (OpenSpec.ofChange netlistReadsMatchSpecSpec)

/-- ITS FALSE NEIGHBOUR: 'it returns false'. Refute it at one input. -/
def netlistReadsMatchSpecWrong : ChangeSpec := { name := "netlistReadsMatchSpec", fn := fun _ => fun
  | [d] => { results := [.lit (.bool false)], args := [d] }
  | _ => none }
def NetlistReadsMatchSpecWrongFalsely : Prop := netlistReadsMatchSpecRow.holds Tryd.pinned (OpenSpec.ofChange netlistReadsMatchSpecWrong)

/-- 'etchhouselaw2.NetlistChangesMatchSpec': WHATEVER THE INPUT: true; the input reads as it did. -/
def netlistChangesMatchSpecSpec : ChangeSpec := { name := "netlistChangesMatchSpec", fn := fun _ => fun
  | [d1, d2, d3] => { results := [.lit (.bool true)], args := [d1, d2, d3] }
  | _ => none }
def netlistChangesMatchSpecRow : OpenClaim := { program := "ytnjoaggeheokeaadoor", sum := "5f774a3c32d457cdbaa4935c39339c025387b0f1f8bff6cd16031959fc0fb7f2", func := "etchhouse/etchhouselaw2.NetlistChangesMatchSpec", spec := "netlistChangesMatchSpec", inPlace := ["internal/bytealg.IndexByteString", "internal/bytealg.abigen_runtime_cmpstring", "internal/bytealg.CountString", "internal/bytealg.IndexString"], unfollowed := true, recurses := true, named := ["unicode/utf8.first", "unicode/utf8.acceptRanges", "internal/bytealg.MaxLen"], plainKeys := false, apart := false, laid := [("unicode/utf8.acceptRanges", laid_unicode_utf8_acceptRanges), ("unicode/utf8.first", laid_unicode_utf8_first)] }
def NetlistChangesMatchSpecSaid : Prop := netlistChangesMatchSpecRow.holds Tryd.pinned (OpenSpec.ofChange netlistChangesMatchSpecSpec)

/-- ITS FALSE NEIGHBOUR: 'it returns false'. Refute it at one input. -/
def netlistChangesMatchSpecWrong : ChangeSpec := { name := "netlistChangesMatchSpec", fn := fun _ => fun
  | [d1, d2, d3] => { results := [.lit (.bool false)], args := [d1, d2, d3] }
  | _ => none }
def NetlistChangesMatchSpecWrongFalsely : Prop := netlistChangesMatchSpecRow.holds Tryd.pinned (OpenSpec.ofChange netlistChangesMatchSpecWrong)

/-- 'etchhouselaw2.NetlistWithoutTwice': WHATEVER THE INPUT: true; the input reads as it did. -/
def netlistWithoutTwiceSpec : ChangeSpec := { name := "netlistWithoutTwice", fn := fun _ => fun
  | [d1, d2, d3, d4] => { results := [.lit (.bool true)], args := [d1, d2, d3, d4] }
  | _ => none }
def netlistWithoutTwiceRow : OpenClaim := { program := "ytnjoaggeheokeaadoor", sum := "5f774a3c32d457cdbaa4935c39339c025387b0f1f8bff6cd16031959fc0fb7f2", func := "etchhouse/etchhouselaw2.NetlistWithoutTwice", spec := "netlistWithoutTwice", inPlace := ["internal/bytealg.IndexByteString", "internal/bytealg.abigen_runtime_cmpstring", "internal/bytealg.CountString", "internal/bytealg.IndexString"], unfollowed := true, recurses := true, named := ["unicode/utf8.first", "unicode/utf8.acceptRanges", "internal/bytealg.MaxLen"], plainKeys := false, apart := false, laid := [("unicode/utf8.acceptRanges", laid_unicode_utf8_acceptRanges), ("unicode/utf8.first", laid_unicode_utf8_first)] }
def NetlistWithoutTwiceSaid : Prop := netlistWithoutTwiceRow.holds Tryd.pinned (OpenSpec.ofChange netlistWithoutTwiceSpec)

/-- ITS FALSE NEIGHBOUR: 'it returns false'. Refute it at one input. -/
def netlistWithoutTwiceWrong : ChangeSpec := { name := "netlistWithoutTwice", fn := fun _ => fun
  | [d1, d2, d3, d4] => { results := [.lit (.bool false)], args := [d1, d2, d3, d4] }
  | _ => none }
def NetlistWithoutTwiceWrongFalsely : Prop := netlistWithoutTwiceRow.holds Tryd.pinned (OpenSpec.ofChange netlistWithoutTwiceWrong)

/-- 'etchhouselaw2.NetlistWithoutMatchesSpec': WHATEVER THE INPUT: true; the input reads as it did. -/
def netlistWithoutMatchesSpecSpec : ChangeSpec := { name := "netlistWithoutMatchesSpec", fn := fun _ => fun
  | [d1, d2, d3] => { results := [.lit (.bool true)], args := [d1, d2, d3] }
  | _ => none }
def netlistWithoutMatchesSpecRow : OpenClaim := { program := "ytnjoaggeheokeaadoor", sum := "5f774a3c32d457cdbaa4935c39339c025387b0f1f8bff6cd16031959fc0fb7f2", func := "etchhouse/etchhouselaw2.NetlistWithoutMatchesSpec", spec := "netlistWithoutMatchesSpec", inPlace := ["internal/bytealg.IndexByteString", "internal/bytealg.abigen_runtime_cmpstring", "internal/bytealg.CountString", "internal/bytealg.IndexString"], unfollowed := true, recurses := true, named := ["unicode/utf8.first", "unicode/utf8.acceptRanges", "internal/bytealg.MaxLen"], plainKeys := false, apart := false, laid := [("unicode/utf8.acceptRanges", laid_unicode_utf8_acceptRanges), ("unicode/utf8.first", laid_unicode_utf8_first)] }
def NetlistWithoutMatchesSpecSaid : Prop := netlistWithoutMatchesSpecRow.holds Tryd.pinned (OpenSpec.ofChange netlistWithoutMatchesSpecSpec)

/-- ITS FALSE NEIGHBOUR: 'it returns false'. Refute it at one input. -/
def netlistWithoutMatchesSpecWrong : ChangeSpec := { name := "netlistWithoutMatchesSpec", fn := fun _ => fun
  | [d1, d2, d3] => { results := [.lit (.bool false)], args := [d1, d2, d3] }
  | _ => none }
def NetlistWithoutMatchesSpecWrongFalsely : Prop := netlistWithoutMatchesSpecRow.holds Tryd.pinned (OpenSpec.ofChange netlistWithoutMatchesSpecWrong)

/-- 'etchhouselaw2.NetlistTextsMatchSpec': WHATEVER THE INPUT: true; the input reads as it did. -/
def netlistTextsMatchSpecSpec : ChangeSpec := { name := "netlistTextsMatchSpec", fn := fun _ => fun
  | [d] => { results := [.lit (.bool true)], args := [d] }
  | _ => none }
def netlistTextsMatchSpecRow : OpenClaim := { program := "ytnjoaggeheokeaadoor", sum := "5f774a3c32d457cdbaa4935c39339c025387b0f1f8bff6cd16031959fc0fb7f2", func := "etchhouse/etchhouselaw2.NetlistTextsMatchSpec", spec := "netlistTextsMatchSpec", inPlace := ["internal/abi.NoEscape", "internal/bytealg.IndexByteString", "internal/bytealg.abigen_runtime_cmpstring", "internal/bytealg.CountString", "internal/bytealg.IndexString"], unfollowed := true, recurses := true, named := ["unicode/utf8.first", "unicode/utf8.acceptRanges", "internal/bytealg.MaxLen"], plainKeys := false, apart := false, laid := [("unicode/utf8.acceptRanges", laid_unicode_utf8_acceptRanges), ("unicode/utf8.first", laid_unicode_utf8_first)] }
def NetlistTextsMatchSpecSaid : Prop := netlistTextsMatchSpecRow.holds Tryd.pinned (OpenSpec.ofChange netlistTextsMatchSpecSpec)

/-- ITS FALSE NEIGHBOUR: 'it returns false'. Refute it at one input. -/
def netlistTextsMatchSpecWrong : ChangeSpec := { name := "netlistTextsMatchSpec", fn := fun _ => fun
  | [d] => { results := [.lit (.bool false)], args := [d] }
  | _ => none }
def NetlistTextsMatchSpecWrongFalsely : Prop := netlistTextsMatchSpecRow.holds Tryd.pinned (OpenSpec.ofChange netlistTextsMatchSpecWrong)

/-- 'etchhouselaw2.NetlistIslandsMatchSpec': WHATEVER THE INPUT: true; the input reads as it did. -/
def netlistIslandsMatchSpecSpec : ChangeSpec := { name := "netlistIslandsMatchSpec", fn := fun _ => fun
  | [d1, d2, d3] => { results := [.lit (.bool true)], args := [d1, d2, d3] }
  | _ => none }
def netlistIslandsMatchSpecRow : OpenClaim := { program := "ytnjoaggeheokeaadoor", sum := "5f774a3c32d457cdbaa4935c39339c025387b0f1f8bff6cd16031959fc0fb7f2", func := "etchhouse/etchhouselaw2.NetlistIslandsMatchSpec", spec := "netlistIslandsMatchSpec", inPlace := ["internal/bytealg.IndexByteString", "internal/bytealg.abigen_runtime_cmpstring", "internal/bytealg.CountString", "internal/bytealg.IndexString"], unfollowed := true, recurses := true, named := ["unicode/utf8.first", "unicode/utf8.acceptRanges", "internal/bytealg.MaxLen"], plainKeys := false, apart := false, laid := [("unicode/utf8.acceptRanges", laid_unicode_utf8_acceptRanges), ("unicode/utf8.first", laid_unicode_utf8_first)] }
def NetlistIslandsMatchSpecSaid : Prop := netlistIslandsMatchSpecRow.holds Tryd.pinned (OpenSpec.ofChange netlistIslandsMatchSpecSpec)

/-- ITS FALSE NEIGHBOUR: 'it returns false'. Refute it at one input. -/
def netlistIslandsMatchSpecWrong : ChangeSpec := { name := "netlistIslandsMatchSpec", fn := fun _ => fun
  | [d1, d2, d3] => { results := [.lit (.bool false)], args := [d1, d2, d3] }
  | _ => none }
def NetlistIslandsMatchSpecWrongFalsely : Prop := netlistIslandsMatchSpecRow.holds Tryd.pinned (OpenSpec.ofChange netlistIslandsMatchSpecWrong)

/- THE SECOND FORM. 'bulk': how many values and letters a reading holds, each counted each time it is reached (what is shared counts as often as it is met; a slice's spare places count too). A statement '..UptoSaid' is the law's where the arguments, and the package variables that the reading takes, are together of bulk at most 1048576: NARROWER than '..Said'. Prove '..Said' where nothing that the law and all that it calls make is longer than what came in: it says more and counts as full. Else prove '..UptoSaid'. A law counts once. -/
mutual
def uptoBulk {H : Type} : DataW H → Nat
  | .lit (.string bytes) => bytes.length + 1
  | .lit _ => 1
  | .nil => 1
  | .ptr d => uptoBulk d + 1
  | .slice elems spare => uptoBulkAll elems + uptoBulkAll spare + 1
  | .agg parts => uptoBulkAll parts + 1
  | .iface _ d => uptoBulk d + 1
  | .map entries => uptoBulkEntries entries + 1
  | .held _ => 1
def uptoBulkAll {H : Type} : List (DataW H) → Nat
  | [] => 0
  | d :: r => uptoBulk d + uptoBulkAll r
def uptoBulkEntries {H : Type} : List (Lit × DataW H) → Nat
  | [] => 0
  | x :: r => uptoBulkEntry x + uptoBulkEntries r
def uptoBulkEntry {H : Type} : Lit × DataW H → Nat
  | (.string bytes, d) => bytes.length + uptoBulk d + 1
  | (_, d) => uptoBulk d + 1
 end
def uptoSmall : (H : Type) → List (DataW H) → Bool := fun _ ds => decide (uptoBulkAll ds ≤ 1048576)
def OpenSpec.upto (s : _root_.Go.ChangeSpec) : _root_.Go.OpenSpec := { _root_.Go.OpenSpec.ofChange s with cond := some uptoSmall }

/-- 'etchhouselaw2.NetlistListsMatchSpec', WHERE WHAT IT READS IS OF BULK AT MOST 1048576: true; the input reads as it did. -/
def netlistListsMatchSpecUptoRow : OpenClaim := { program := "ytnjoaggeheokeaadoor", sum := "5f774a3c32d457cdbaa4935c39339c025387b0f1f8bff6cd16031959fc0fb7f2", func := "etchhouse/etchhouselaw2.NetlistListsMatchSpec", spec := "netlistListsMatchSpec", inPlace := ["internal/bytealg.IndexByteString", "internal/bytealg.abigen_runtime_cmpstring", "internal/bytealg.CountString", "internal/bytealg.IndexString"], unfollowed := true, recurses := true, named := ["unicode/utf8.first", "unicode/utf8.acceptRanges", "internal/bytealg.MaxLen"], plainKeys := false, apart := false, laid := [("unicode/utf8.acceptRanges", laid_unicode_utf8_acceptRanges), ("unicode/utf8.first", laid_unicode_utf8_first)], narrowed := true }
def NetlistListsMatchSpecUptoSaid : Prop := netlistListsMatchSpecUptoRow.holds Tryd.pinned (OpenSpec.upto netlistListsMatchSpecSpec)

/-- 'etchhouselaw2.NetlistFindingsMatchSpec', WHERE WHAT IT READS IS OF BULK AT MOST 1048576: true; the input reads as it did. -/
def netlistFindingsMatchSpecUptoRow : OpenClaim := { program := "ytnjoaggeheokeaadoor", sum := "5f774a3c32d457cdbaa4935c39339c025387b0f1f8bff6cd16031959fc0fb7f2", func := "etchhouse/etchhouselaw2.NetlistFindingsMatchSpec", spec := "netlistFindingsMatchSpec", inPlace := ["internal/bytealg.IndexByteString", "internal/bytealg.abigen_runtime_cmpstring", "internal/bytealg.CountString", "internal/bytealg.IndexString"], unfollowed := true, recurses := true, named := ["unicode/utf8.first", "unicode/utf8.acceptRanges", "internal/bytealg.MaxLen"], plainKeys := false, apart := false, laid := [("unicode/utf8.acceptRanges", laid_unicode_utf8_acceptRanges), ("unicode/utf8.first", laid_unicode_utf8_first)], narrowed := true }
def NetlistFindingsMatchSpecUptoSaid : Prop := netlistFindingsMatchSpecUptoRow.holds Tryd.pinned (OpenSpec.upto netlistFindingsMatchSpecSpec)

/-- 'etchhouselaw2.NetlistReadsMatchSpec', WHERE WHAT IT READS IS OF BULK AT MOST 1048576: true; the input reads as it did. -/
def netlistReadsMatchSpecUptoRow : OpenClaim := { program := "ytnjoaggeheokeaadoor", sum := "5f774a3c32d457cdbaa4935c39339c025387b0f1f8bff6cd16031959fc0fb7f2", func := "etchhouse/etchhouselaw2.NetlistReadsMatchSpec", spec := "netlistReadsMatchSpec", inPlace := ["internal/bytealg.IndexByteString", "internal/bytealg.IndexString", "internal/bytealg.CountString", "internal/bytealg.abigen_runtime_cmpstring"], unfollowed := true, recurses := true, named := ["internal/bytealg.MaxLen", "unicode/utf8.first", "unicode/utf8.acceptRanges"], plainKeys := false, apart := false, laid := [("unicode/utf8.acceptRanges", laid_unicode_utf8_acceptRanges), ("unicode/utf8.first", laid_unicode_utf8_first)], narrowed := true }
def NetlistReadsMatchSpecUptoSaid : Prop := netlistReadsMatchSpecUptoRow.holds Tryd.pinned (OpenSpec.upto netlistReadsMatchSpecSpec)

/-- 'etchhouselaw2.NetlistChangesMatchSpec', WHERE WHAT IT READS IS OF BULK AT MOST 1048576: true; the input reads as it did. -/
def netlistChangesMatchSpecUptoRow : OpenClaim := { program := "ytnjoaggeheokeaadoor", sum := "5f774a3c32d457cdbaa4935c39339c025387b0f1f8bff6cd16031959fc0fb7f2", func := "etchhouse/etchhouselaw2.NetlistChangesMatchSpec", spec := "netlistChangesMatchSpec", inPlace := ["internal/bytealg.IndexByteString", "internal/bytealg.abigen_runtime_cmpstring", "internal/bytealg.CountString", "internal/bytealg.IndexString"], unfollowed := true, recurses := true, named := ["unicode/utf8.first", "unicode/utf8.acceptRanges", "internal/bytealg.MaxLen"], plainKeys := false, apart := false, laid := [("unicode/utf8.acceptRanges", laid_unicode_utf8_acceptRanges), ("unicode/utf8.first", laid_unicode_utf8_first)], narrowed := true }
def NetlistChangesMatchSpecUptoSaid : Prop := netlistChangesMatchSpecUptoRow.holds Tryd.pinned (OpenSpec.upto netlistChangesMatchSpecSpec)

/-- 'etchhouselaw2.NetlistWithoutTwice', WHERE WHAT IT READS IS OF BULK AT MOST 1048576: true; the input reads as it did. -/
def netlistWithoutTwiceUptoRow : OpenClaim := { program := "ytnjoaggeheokeaadoor", sum := "5f774a3c32d457cdbaa4935c39339c025387b0f1f8bff6cd16031959fc0fb7f2", func := "etchhouse/etchhouselaw2.NetlistWithoutTwice", spec := "netlistWithoutTwice", inPlace := ["internal/bytealg.IndexByteString", "internal/bytealg.abigen_runtime_cmpstring", "internal/bytealg.CountString", "internal/bytealg.IndexString"], unfollowed := true, recurses := true, named := ["unicode/utf8.first", "unicode/utf8.acceptRanges", "internal/bytealg.MaxLen"], plainKeys := false, apart := false, laid := [("unicode/utf8.acceptRanges", laid_unicode_utf8_acceptRanges), ("unicode/utf8.first", laid_unicode_utf8_first)], narrowed := true }
def NetlistWithoutTwiceUptoSaid : Prop := netlistWithoutTwiceUptoRow.holds Tryd.pinned (OpenSpec.upto netlistWithoutTwiceSpec)

/-- 'etchhouselaw2.NetlistWithoutMatchesSpec', WHERE WHAT IT READS IS OF BULK AT MOST 1048576: true; the input reads as it did. -/
def netlistWithoutMatchesSpecUptoRow : OpenClaim := { program := "ytnjoaggeheokeaadoor", sum := "5f774a3c32d457cdbaa4935c39339c025387b0f1f8bff6cd16031959fc0fb7f2", func := "etchhouse/etchhouselaw2.NetlistWithoutMatchesSpec", spec := "netlistWithoutMatchesSpec", inPlace := ["internal/bytealg.IndexByteString", "internal/bytealg.abigen_runtime_cmpstring", "internal/bytealg.CountString", "internal/bytealg.IndexString"], unfollowed := true, recurses := true, named := ["unicode/utf8.first", "unicode/utf8.acceptRanges", "internal/bytealg.MaxLen"], plainKeys := false, apart := false, laid := [("unicode/utf8.acceptRanges", laid_unicode_utf8_acceptRanges), ("unicode/utf8.first", laid_unicode_utf8_first)], narrowed := true }
def NetlistWithoutMatchesSpecUptoSaid : Prop := netlistWithoutMatchesSpecUptoRow.holds Tryd.pinned (OpenSpec.upto netlistWithoutMatchesSpecSpec)

/-- 'etchhouselaw2.NetlistTextsMatchSpec', WHERE WHAT IT READS IS OF BULK AT MOST 1048576: true; the input reads as it did. -/
def netlistTextsMatchSpecUptoRow : OpenClaim := { program := "ytnjoaggeheokeaadoor", sum := "5f774a3c32d457cdbaa4935c39339c025387b0f1f8bff6cd16031959fc0fb7f2", func := "etchhouse/etchhouselaw2.NetlistTextsMatchSpec", spec := "netlistTextsMatchSpec", inPlace := ["internal/abi.NoEscape", "internal/bytealg.IndexByteString", "internal/bytealg.abigen_runtime_cmpstring", "internal/bytealg.CountString", "internal/bytealg.IndexString"], unfollowed := true, recurses := true, named := ["unicode/utf8.first", "unicode/utf8.acceptRanges", "internal/bytealg.MaxLen"], plainKeys := false, apart := false, laid := [("unicode/utf8.acceptRanges", laid_unicode_utf8_acceptRanges), ("unicode/utf8.first", laid_unicode_utf8_first)], narrowed := true }
def NetlistTextsMatchSpecUptoSaid : Prop := netlistTextsMatchSpecUptoRow.holds Tryd.pinned (OpenSpec.upto netlistTextsMatchSpecSpec)

/-- 'etchhouselaw2.NetlistIslandsMatchSpec', WHERE WHAT IT READS IS OF BULK AT MOST 1048576: true; the input reads as it did. -/
def netlistIslandsMatchSpecUptoRow : OpenClaim := { program := "ytnjoaggeheokeaadoor", sum := "5f774a3c32d457cdbaa4935c39339c025387b0f1f8bff6cd16031959fc0fb7f2", func := "etchhouse/etchhouselaw2.NetlistIslandsMatchSpec", spec := "netlistIslandsMatchSpec", inPlace := ["internal/bytealg.IndexByteString", "internal/bytealg.abigen_runtime_cmpstring", "internal/bytealg.CountString", "internal/bytealg.IndexString"], unfollowed := true, recurses := true, named := ["unicode/utf8.first", "unicode/utf8.acceptRanges", "internal/bytealg.MaxLen"], plainKeys := false, apart := false, laid := [("unicode/utf8.acceptRanges", laid_unicode_utf8_acceptRanges), ("unicode/utf8.first", laid_unicode_utf8_first)], narrowed := true }
def NetlistIslandsMatchSpecUptoSaid : Prop := netlistIslandsMatchSpecUptoRow.holds Tryd.pinned (OpenSpec.upto netlistIslandsMatchSpecSpec)

end Rows
end Go.Proofs.YtnjoaggeheokeaaDoor
