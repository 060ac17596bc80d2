/-
  No cell of these rows narrows 'for every input' (looked for: loops, veiled, ifaces, maps, wideKeys, modest, calm, conditions, laid).
  DERIVED. THE GIVEN ROWS OF THIS SEAT. 2 by the template 'for every input the law returns true; each argument reads behind the call as it read before'; 0 by the template 'total and deterministic' (their statements: YtfkpknhicijjbaaTotals.lean).
  GIVEN WITH THE SEED: the statements are not yours to turn. If you find one false, say at which input.
  Laid BY PROGRAM, IN A SANDBOX (cutbox-rows.mjs): the forced cells as the released guide's own fill.sh prints them over the translation 855691cbe12300ea… (all of the seat's roots in one cut). By AI agents, Wed Nov 11 2026. No macro, syntax, notation, axiom, sorry.
-/
import Derived.Test.YtfkpknhicijjbaaChecked
import GoSem.Claim
import GoSem.ClaimJoined
import GoSem.ClaimMapViews
import Derived.JoinedTies
import Derived.KernelRfl
namespace Go.Proofs.Ytfkpknhicijjbaa
/- THE CELL 'sum', in the pinned program and in every row, IS THE sha256 OF THE DUMP (.gsa) THAT YtfkpknhicijjbaaProg.lean LOADS. Nothing in Lean hashes anything: it is a label: what it is worth is what the hold of that sum in a sandbox is worth. -/
noncomputable def Try.pinned : Pinned := { name := "ytfkpknhicijjbaa", sum := "855691cbe12300ea96feb316b1afe81fea8f6988fb0b431637111cb36a633f37", checked := Try.checked }
namespace Rows
def none {H : Type} : Left H := { results := [], args := [] }

/-- 'etchhouselaw5.ArtSquaresMatchSpec': WHATEVER THE INPUT: true; the input reads as it did. -/
def artSquaresMatchSpecSpec : ChangeSpec := { name := "artSquaresMatchSpec", fn := fun _ => fun
  | [d] => { results := [.lit (.bool true)], args := [d] }
  | _ => none }
def artSquaresMatchSpecRow : OpenClaim := { program := "ytfkpknhicijjbaa", sum := "855691cbe12300ea96feb316b1afe81fea8f6988fb0b431637111cb36a633f37", func := "etchhouse/etchhouselaw5.ArtSquaresMatchSpec", spec := "artSquaresMatchSpec", unfollowed := true, recurses := true, apart := false }
def ArtSquaresMatchSpecSaid : Prop := artSquaresMatchSpecRow.holds Try.pinned (OpenSpec.ofChange artSquaresMatchSpecSpec)

/-- ITS FALSE NEIGHBOUR: 'it returns false'. Refute it at one input. -/
def artSquaresMatchSpecWrong : ChangeSpec := { name := "artSquaresMatchSpec", fn := fun _ => fun
  | [d] => { results := [.lit (.bool false)], args := [d] }
  | _ => none }
def ArtSquaresMatchSpecWrongFalsely : Prop := artSquaresMatchSpecRow.holds Try.pinned (OpenSpec.ofChange artSquaresMatchSpecWrong)

/-- 'etchhousetop.TopCopperOnPanels': WHATEVER THE INPUT: true; the input reads as it did. -/
def topCopperOnPanelsSpec : ChangeSpec := { name := "topCopperOnPanels", fn := fun _ => fun
  | [d1, d2, d3] => { results := [.lit (.bool true)], args := [d1, d2, d3] }
  | _ => none }
def topCopperOnPanelsRow : OpenClaim := { program := "ytfkpknhicijjbaa", sum := "855691cbe12300ea96feb316b1afe81fea8f6988fb0b431637111cb36a633f37", func := "etchhouse/etchhousetop.TopCopperOnPanels", spec := "topCopperOnPanels", unfollowed := true, recurses := true, apart := false }
def TopCopperOnPanelsSaid : Prop := topCopperOnPanelsRow.holds Try.pinned (OpenSpec.ofChange topCopperOnPanelsSpec)

/-- ITS FALSE NEIGHBOUR: 'it returns false'. Refute it at one input. -/
def topCopperOnPanelsWrong : ChangeSpec := { name := "topCopperOnPanels", fn := fun _ => fun
  | [d1, d2, d3] => { results := [.lit (.bool false)], args := [d1, d2, d3] }
  | _ => none }
def TopCopperOnPanelsWrongFalsely : Prop := topCopperOnPanelsRow.holds Try.pinned (OpenSpec.ofChange topCopperOnPanelsWrong)

/- THE SECOND FORM. 'bulk': how many values and letters a reading holds, each counted each time it is reached (what is shared counts as often as it is met; a slice's spare places count too). A statement '..UptoSaid' is the law's where the arguments, and the package variables that the reading takes, are together of bulk at most 1048576: NARROWER than '..Said'. Prove '..Said' where nothing that the law and all that it calls make is longer than what came in: it says more and counts as full. Else prove '..UptoSaid'. A law counts once. -/
mutual
def uptoBulk {H : Type} : DataW H → Nat
  | .lit (.string bytes) => bytes.length + 1
  | .lit _ => 1
  | .nil => 1
  | .ptr d => uptoBulk d + 1
  | .slice elems spare => uptoBulkAll elems + uptoBulkAll spare + 1
  | .agg parts => uptoBulkAll parts + 1
  | .iface _ d => uptoBulk d + 1
  | .map entries => uptoBulkEntries entries + 1
  | .held _ => 1
def uptoBulkAll {H : Type} : List (DataW H) → Nat
  | [] => 0
  | d :: r => uptoBulk d + uptoBulkAll r
def uptoBulkEntries {H : Type} : List (Lit × DataW H) → Nat
  | [] => 0
  | x :: r => uptoBulkEntry x + uptoBulkEntries r
def uptoBulkEntry {H : Type} : Lit × DataW H → Nat
  | (.string bytes, d) => bytes.length + uptoBulk d + 1
  | (_, d) => uptoBulk d + 1
 end
def uptoSmall : (H : Type) → List (DataW H) → Bool := fun _ ds => decide (uptoBulkAll ds ≤ 1048576)
def OpenSpec.upto (s : _root_.Go.ChangeSpec) : _root_.Go.OpenSpec := { _root_.Go.OpenSpec.ofChange s with cond := some uptoSmall }

/-- 'etchhouselaw5.ArtSquaresMatchSpec', WHERE WHAT IT READS IS OF BULK AT MOST 1048576: true; the input reads as it did. -/
def artSquaresMatchSpecUptoRow : OpenClaim := { program := "ytfkpknhicijjbaa", sum := "855691cbe12300ea96feb316b1afe81fea8f6988fb0b431637111cb36a633f37", func := "etchhouse/etchhouselaw5.ArtSquaresMatchSpec", spec := "artSquaresMatchSpec", unfollowed := true, recurses := true, apart := false, narrowed := true }
def ArtSquaresMatchSpecUptoSaid : Prop := artSquaresMatchSpecUptoRow.holds Try.pinned (OpenSpec.upto artSquaresMatchSpecSpec)

/-- 'etchhousetop.TopCopperOnPanels', WHERE WHAT IT READS IS OF BULK AT MOST 1048576: true; the input reads as it did. -/
def topCopperOnPanelsUptoRow : OpenClaim := { program := "ytfkpknhicijjbaa", sum := "855691cbe12300ea96feb316b1afe81fea8f6988fb0b431637111cb36a633f37", func := "etchhouse/etchhousetop.TopCopperOnPanels", spec := "topCopperOnPanels", unfollowed := true, recurses := true, apart := false, narrowed := true }
def TopCopperOnPanelsUptoSaid : Prop := topCopperOnPanelsUptoRow.holds Try.pinned (OpenSpec.upto topCopperOnPanelsSpec)

end Rows
end Go.Proofs.Ytfkpknhicijjbaa
