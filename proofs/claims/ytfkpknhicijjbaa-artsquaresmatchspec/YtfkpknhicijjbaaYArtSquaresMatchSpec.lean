/-
  The law ArtSquaresMatchSpec: whatever the input, the call returns true and each argument reads afterwards as it did. The Go functions are told as plain functions (printed texts), the plain functions answer as the statement says (plain laws). Conditions: none but the statement's own.
-/
import Derived.Test.YtfkpknhicijjbaaRows
import Derived.Test.YtfkpknhicijjbaaOArtSquaresMatchSpec
import Derived.Test.YtfkpknhicijjbaaF3
import Derived.Test.YtfkpknhicijjbaaP8
import Derived.WalkKit
import Derived.ProofKit
import Derived.OpenShut
import Derived.Deep.DeepHandedRow
import Derived.Lay
namespace Go.Proofs.Ytfkpknhicijjbaa.artSquaresMatchSpec
open Go.ChangeShapes Go.WideShapes Go.ChangeAt Go.RowKit
theorem own : ownKnob Try.prog.godebug = none := by kernel_rfl
theorem laidOut : laidOutB Try.prog = true := by kernel_rfl
theorem args_readable : ∀ t ∈ Try.f3.params.toList, Try.prog.readableRec t = true ∧ t < Try.prog.types.size := by
  intro t ht
  rw [Try.params3] at ht
  simp only [List.mem_cons, List.not_mem_nil, or_false] at ht
  rcases ht with rfl
  all_goals exact ⟨by kernel_rfl, of_decide_eq_true (by kernel_rfl)⟩
set_option maxRecDepth 100000 in
theorem contract (H : Type) (enc : TypeId × Value → H) (W : World) (base : Nat) (args : Array Value) (ds gs : List (DataW H)) (before : List MemPlace)
    (hval : ∀ (j : Nat) t v, Try.f3.params[j]? = some t → args[j]? = some v → Value.okWide Try.prog W .any base t v)
    (hW : DataW.Whole enc Try.prog Try.f3.params.toList Rows.artSquaresMatchSpecSpec.vars false W args.toList ds gs before) :
    Calls Try.prog 3 args W fun e W' => ∃ v, e = .returned v ∧ Rows.artSquaresMatchSpecSpec.post enc Try.prog Try.f3 false true false false W args v W' := by
  have hW' := hW
  obtain ⟨p, q, hA0, hV, rfl, hfz, hnd⟩ := hW
  have hA : DataW.TrodAll enc Try.prog W 0 (fun _ => true) true Try.f3.params.toList args.toList ds p := hA0
  have hA1 := hA
  rw [Try.params3] at hA hval
  obtain ⟨v0, vs0, d0, ds0, p0, q0, hargs, rfl, rfl, h0, r0⟩ := trodAll_cons hA
  obtain ⟨rfl, rfl, rfl⟩ := trodAll_nil r0
  obtain rfl : args = #[v0] := by cases args; simp_all
  obtain ⟨rfl, rfl⟩ := trodVars_none hV
  obtain ⟨a0, e0, b0⟩ := Gk.Opens.arg Gk.op25 (hval 0 25 _ rfl rfl) h0
  have hg0 := Gk.Holds.begin W
  have hg1 := Gk.Holds.argIn (Γ := []) hg0 e0
  have walk := Gk.etchhouselaw5_ArtSquaresMatchSpec_ok 4194304 (res := true)  (i0 := 0) hg1 rfl (Gk.ArtSquaresMatchSpec_eq (Nat.le_refl _))
  refine Gk.Calls.fin walk fun v W' hR => ?_
  obtain ⟨rfl, hH⟩ := hR
  have hbl : Below W.heap.size W W' := Gk.Holds.kept (Γ := [Gk.rd v0 a0]) hH rfl
  exact Gk.post_kept (pa := _) (pv := []) hW' (fun _ _ _ => trodAll_cons_mk (shut_bool Try.underlying4 _) trodAll_mk0)
    (fun sp hsp => Gk.trodAll_again laidOut hbl args_readable hA1 (fun x hx => hW'.lt x (by simpa using hx)) (fun x hx => hsp x (by simpa using hx))) (fun _ _ => rfl) rfl hbl
    (ok_one (by kernel_rfl) rfl (okWide_bool_mk Try.underlying4 _))
theorem laid_met (os : Os) : laidMet Try.prog Rows.artSquaresMatchSpecRow.laid ((World.laidAll Try.prog os Rows.artSquaresMatchSpecRow.laid).forCall (fun _ _ => 0) ⟨#[], #[.agg #[(.int .i64 0), (.int .i64 0), (.int .i64 0), (.int .i64 0), (.int .i64 0), (.bool false)]], []⟩).memory :=
  laidMet_laidAll _ (by kernel_rfl) (by kernel_rfl)
theorem reads (os : Os) {H : Type} (enc : TypeId × Value → H) : ∃ places, DataW.whole enc Try.prog ((World.laidAll Try.prog os Rows.artSquaresMatchSpecRow.laid).forCall (fun _ _ => 0) ⟨#[], #[.agg #[(.int .i64 0), (.int .i64 0), (.int .i64 0), (.int .i64 0), (.int .i64 0), (.bool false)]], []⟩).memory Try.f3.params.toList Rows.artSquaresMatchSpecSpec.vars false (#[.agg #[(.int .i64 0), (.int .i64 0), (.int .i64 0), (.int .i64 0), (.int .i64 0), (.bool false)]] : Array Value).toList 8 = some ([.agg [.agg [.lit (.int .i64 0), .lit (.int .i64 0)], .lit (.int .i64 0), .lit (.int .i64 0), .lit (.int .i64 0), .lit (.bool false)]], [], places) :=
  ⟨[], by kernel_rfl⟩
set_option maxRecDepth 100000 in
theorem lifted (os : Os) (started : os.Started) (H : Type) (enc : TypeId × Value → H) (F : Stop.Interp) :
    ReturnsInHanded {} Try.checked os 3 .any ((OpenSpec.ofChange Rows.artSquaresMatchSpecSpec).preRow enc Try.prog Try.f3 Rows.artSquaresMatchSpecRow.domain false Rows.artSquaresMatchSpecRow.laid) (((OpenSpec.ofChange Rows.artSquaresMatchSpecSpec).at F).post enc Try.prog Try.f3 false true false false) := by
  obtain ⟨places, hx⟩ := reads os enc
  refine returnsInHanded_of_row (C := Try.checked) (s := OpenSpec.ofChange Rows.artSquaresMatchSpecSpec) own started (by kernel_rfl) Try.func3
    (witness_row_at (enc := enc) (C := Try.checked) false (World.laidAll Try.prog os Rows.artSquaresMatchSpecRow.laid) #[.agg #[(.int .i64 0), (.int .i64 0), (.int .i64 0), (.int .i64 0), (.int .i64 0), (.bool false)]] (World.laidAll_os _ _ _) (by kernel_rfl) (by kernel_rfl) (by kernel_rfl)
      (OpenSpec.preRow_of_cond 8 hx (by kernel_rfl) (fun k hk => by cases hk) (by kernel_rfl) (laid_met os))) ?_
  intro W base args ds gs before hval hW _ hcond _ _ _ _
  exact contract H enc W base args ds gs before hval hW
theorem said : Rows.ArtSquaresMatchSpecSaid :=
  OpenClaim.holds_of_cond 3 Try.f3 rfl rfl rfl rfl rfl rfl rfl ⟨rfl, rfl, rfl, rfl, rfl⟩ rfl rfl rfl rfl rfl (by kernel_rfl) Try.func3 (by kernel_rfl)
    (of_decide_eq_true (by kernel_rfl)) (by unfold Func.isWrapper; first | (rw [if_pos (by decide +kernel)]; kernel_rfl) | (rw [if_neg (by decide +kernel)]; exact ⟨rfl, rfl⟩))
    (fun os started H enc _ F => by rw [OpenClaim.pre_eq_preRow]; exact lifted os started H enc F)
end Go.Proofs.Ytfkpknhicijjbaa.artSquaresMatchSpec
