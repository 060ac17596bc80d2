/-
  The law NetlistJoinedKeepsPins: whatever the input of bulk at most 1048576, the call returns true and each argument reads afterwards as it did. The Go functions are told as plain functions (printed texts), the plain functions answer as the statement says (plain laws). Conditions: the statement's own (its bound, its listed tables).
-/
import Derived.Test.YtghdidhpcgioeaaDoorCards
import Derived.Test.YtghdidhpcgioeaaDoorTie
import Derived.Test.YtghdidhpcgioeaaDoorONetlistJoinedKeepsPins
import Derived.Test.YtghdidhpcgioeaaDoorF4
import Derived.Test.YtghdidhpcgioeaaDoorP13
import Derived.WalkKit
import Derived.ProofKit
import Derived.OpenShut
import Derived.Deep.DeepHandedRow
import Derived.Lay
namespace Go.Proofs.YtghdidhpcgioeaaDoor.netlistJoinedKeepsPins
open Go.ChangeShapes Go.WideShapes Go.ChangeAt Go.RowKit
theorem own : ownKnob Tryd.prog.godebug = none := by kernel_rfl
theorem laidOut : laidOutB Tryd.prog = true := by kernel_rfl
theorem args_readable : ∀ t ∈ Tryd.f4.params.toList, Tryd.prog.readableRec t = true ∧ t < Tryd.prog.types.size := by
  intro t ht
  rw [Tryd.params4] at ht
  simp only [List.mem_cons, List.not_mem_nil, or_false] at ht
  rcases ht with rfl | rfl | rfl | rfl | rfl | rfl
  all_goals exact ⟨by kernel_rfl, of_decide_eq_true (by kernel_rfl)⟩
set_option maxRecDepth 100000 in
theorem contract (H : Type) (enc : TypeId × Value → H) (W : World) (base : Nat) (args : Array Value) (ds gs : List (DataW H)) (before : List MemPlace)
    (hval : ∀ (j : Nat) t v, Tryd.f4.params[j]? = some t → args[j]? = some v → Value.okWide Tryd.prog W .any base t v)
    (hW : DataW.Whole enc Tryd.prog Tryd.f4.params.toList Rows.netlistJoinedKeepsPinsSpec.vars false W args.toList ds gs before) (hk : Rows.uptoSmall H (ds ++ gs) = true) :
    Calls Tryd.prog 4 args W fun e W' => ∃ v, e = .returned v ∧ Rows.netlistJoinedKeepsPinsSpec.post enc Tryd.prog Tryd.f4 false true false false W args v W' := by
  have hW' := hW
  obtain ⟨p, q, hA0, hV, rfl, hfz, hnd⟩ := hW
  have hA : DataW.TrodAll enc Tryd.prog W 0 (fun _ => true) true Tryd.f4.params.toList args.toList ds p := hA0
  have hA1 := hA
  rw [Tryd.params4] at hA hval
  obtain ⟨v0, vs0, d0, ds0, p0, q0, hargs, rfl, rfl, h0, r0⟩ := trodAll_cons hA
  obtain ⟨v1, vs1, d1, ds1, p1, q1, rfl, rfl, rfl, h1, r1⟩ := trodAll_cons r0
  obtain ⟨v2, vs2, d2, ds2, p2, q2, rfl, rfl, rfl, h2, r2⟩ := trodAll_cons r1
  obtain ⟨v3, vs3, d3, ds3, p3, q3, rfl, rfl, rfl, h3, r3⟩ := trodAll_cons r2
  obtain ⟨v4, vs4, d4, ds4, p4, q4, rfl, rfl, rfl, h4, r4⟩ := trodAll_cons r3
  obtain ⟨v5, vs5, d5, ds5, p5, q5, rfl, rfl, rfl, h5, r5⟩ := trodAll_cons r4
  obtain ⟨rfl, rfl, rfl⟩ := trodAll_nil r5
  obtain rfl : args = #[v0, v1, v2, v3, v4, v5] := by cases args; simp_all
  obtain ⟨rfl, rfl⟩ := trodVars_none hV
  obtain ⟨a0, e0, b0⟩ := Gk.Opens.arg Gk.op22 (hval 0 22 _ rfl rfl) h0
  obtain ⟨a1, e1, b1⟩ := Gk.Opens.arg Gk.op26 (hval 1 26 _ rfl rfl) h1
  obtain ⟨a2, rfl, b2⟩ := Gk.Opens.argS Gk.op9 (hval 2 9 _ rfl rfl) h2
  obtain ⟨a3, rfl, b3⟩ := Gk.Opens.argS Gk.op9 (hval 3 9 _ rfl rfl) h3
  obtain ⟨a4, rfl, b4⟩ := Gk.Opens.argS Gk.op3 (hval 4 3 _ rfl rfl) h4
  obtain ⟨a5, rfl, b5⟩ := Gk.Opens.argS Gk.op3 (hval 5 3 _ rfl rfl) h5
  have hsum := of_decide_eq_true hk
  simp only [List.append_nil, Rows.uptoBulkAll] at hsum
  have c0 : Gk.bk a0 ≤ 1048576 := by have : Gk.UBK H d0 = Rows.uptoBulk d0 := rfl; omega
  have c1 : Gk.bk a1 ≤ 1048576 := by have : Gk.UBK H d1 = Rows.uptoBulk d1 := rfl; omega
  have c2 : Gk.bk a2 ≤ 1048576 := by have : Gk.UBK H d2 = Rows.uptoBulk d2 := rfl; omega
  have c3 : Gk.bk a3 ≤ 1048576 := by have : Gk.UBK H d3 = Rows.uptoBulk d3 := rfl; omega
  have c4 : Gk.bk a4 ≤ 1048576 := by have : Gk.UBK H d4 = Rows.uptoBulk d4 := rfl; omega
  have c5 : Gk.bk a5 ≤ 1048576 := by have : Gk.UBK H d5 = Rows.uptoBulk d5 := rfl; omega
  have hg0 := Gk.Holds.begin W
  have hg1 := Gk.Holds.argIn (Γ := []) hg0 e1
  have hg2 := Gk.Holds.argIn (Γ := [Gk.rd v1 a1]) hg1 e0
  have walk := Gk.etchhouselaw2_NetlistJoinedKeepsPins_ok 4194304 (res := true) (p2 := a2) (p3 := a3) (p4 := a4) (p5 := a5) (i0 := 0) (i1 := 1) hg2 rfl rfl (Gk.NetlistJoinedKeepsPins_eq c0 c1 c2 c3 c4 c5 (Nat.le_refl _))
  refine Gk.Calls.fin walk fun v W' hR => ?_
  obtain ⟨rfl, hH⟩ := hR
  have hbl : Below W.heap.size W W' := Gk.Holds.kept (Γ := [Gk.rd v0 a0, Gk.rd v1 a1]) hH rfl
  exact Gk.post_kept (pa := _) (pv := []) hW' (fun _ _ _ => trodAll_cons_mk (shut_bool Tryd.underlying4 _) trodAll_mk0)
    (fun sp hsp => Gk.trodAll_again laidOut hbl args_readable hA1 (fun x hx => hW'.lt x (by simpa using hx)) (fun x hx => hsp x (by simpa using hx))) (fun _ _ => rfl) rfl hbl
    (ok_one (by kernel_rfl) rfl (okWide_bool_mk Tryd.underlying4 _))
theorem laid_met (os : Os) : laidMet Tryd.prog Rows.netlistJoinedKeepsPinsUptoRow.laid ((World.laidAll Tryd.prog os Rows.netlistJoinedKeepsPinsUptoRow.laid).forCall (fun _ _ => 0) ⟨#[], #[.slice none 0 0, .agg #[(.slice none 0 0), (.slice none 0 0)], .string ⟨#[]⟩, .string ⟨#[]⟩, .int .i64 0, .int .i64 0], []⟩).memory :=
  laidMet_laidAll _ (by kernel_rfl) (by kernel_rfl)
theorem reads (os : Os) {H : Type} (enc : TypeId × Value → H) : ∃ places, DataW.whole enc Tryd.prog ((World.laidAll Tryd.prog os Rows.netlistJoinedKeepsPinsUptoRow.laid).forCall (fun _ _ => 0) ⟨#[], #[.slice none 0 0, .agg #[(.slice none 0 0), (.slice none 0 0)], .string ⟨#[]⟩, .string ⟨#[]⟩, .int .i64 0, .int .i64 0], []⟩).memory Tryd.f4.params.toList Rows.netlistJoinedKeepsPinsSpec.vars false (#[.slice none 0 0, .agg #[(.slice none 0 0), (.slice none 0 0)], .string ⟨#[]⟩, .string ⟨#[]⟩, .int .i64 0, .int .i64 0] : Array Value).toList 8 = some ([.nil, .agg [.nil, .nil], .lit (.string []), .lit (.string []), .lit (.int .i64 0), .lit (.int .i64 0)], [], places) :=
  ⟨[], by kernel_rfl⟩
set_option maxRecDepth 100000 in
theorem lifted (os : Os) (started : os.Started) (H : Type) (enc : TypeId × Value → H) (F : Stop.Interp) :
    ReturnsInHanded {} Tryd.checked os 4 .any ((Rows.OpenSpec.upto Rows.netlistJoinedKeepsPinsSpec).preRow enc Tryd.prog Tryd.f4 Rows.netlistJoinedKeepsPinsUptoRow.domain false Rows.netlistJoinedKeepsPinsUptoRow.laid) (((Rows.OpenSpec.upto Rows.netlistJoinedKeepsPinsSpec).at F).post enc Tryd.prog Tryd.f4 false true false false) := by
  obtain ⟨places, hx⟩ := reads os enc
  refine returnsInHanded_of_row (C := Tryd.checked) (s := Rows.OpenSpec.upto Rows.netlistJoinedKeepsPinsSpec) own started (by kernel_rfl) Tryd.func4
    (witness_row_at (enc := enc) (C := Tryd.checked) false (World.laidAll Tryd.prog os Rows.netlistJoinedKeepsPinsUptoRow.laid) #[.slice none 0 0, .agg #[(.slice none 0 0), (.slice none 0 0)], .string ⟨#[]⟩, .string ⟨#[]⟩, .int .i64 0, .int .i64 0] (World.laidAll_os _ _ _) (by kernel_rfl) (by kernel_rfl) (by kernel_rfl)
      (OpenSpec.preRow_of_cond 8 hx (by kernel_rfl) (fun k hk => by cases hk; kernel_rfl) (by kernel_rfl) (laid_met os))) ?_
  intro W base args ds gs before hval hW _ hcond _ _ _ _
  exact contract H enc W base args ds gs before hval hW (hcond _ rfl)
theorem said : Rows.NetlistJoinedKeepsPinsUptoSaid :=
  OpenClaim.holds_of_cond 4 Tryd.f4 rfl rfl rfl rfl rfl rfl rfl ⟨rfl, rfl, rfl, rfl, rfl⟩ rfl rfl rfl rfl rfl (by kernel_rfl) Tryd.func4 (by kernel_rfl)
    (of_decide_eq_true (by kernel_rfl)) (by unfold Func.isWrapper; first | (rw [if_pos (by decide +kernel)]; kernel_rfl) | (rw [if_neg (by decide +kernel)]; exact ⟨rfl, rfl⟩))
    (fun os started H enc _ F => by rw [OpenClaim.pre_eq_preRow]; exact lifted os started H enc F)
theorem plain (f : FuncId) (fn : Func) (hf : Tryd.pinned.checked.prog.funcNamed "etchhouse/etchhouselaw2.NetlistJoinedKeepsPins" = some f) (hfn : Tryd.pinned.checked.prog.funcs[f]? = some fn) :
    false = Tryd.pinned.checked.prog.looks [] ∧ ∀ (j : Nat) t, fn.params[j]? = some t → Tryd.pinned.checked.prog.wantsStandIn t = false := by
  obtain rfl : f = 4 := Option.some.inj ((show Tryd.prog.funcNamed "etchhouse/etchhouselaw2.NetlistJoinedKeepsPins" = some 4 by kernel_rfl).symm.trans hf) |>.symm
  obtain rfl : fn = Tryd.f4 := (Option.some.inj (Tryd.func4.symm.trans hfn)).symm
  refine ⟨by kernel_rfl, fun j t ht => ?_⟩
  rw [Tryd.params4] at ht
  have ht := Array.mem_of_getElem? ht
  simp only [List.mem_toArray, List.mem_cons, List.not_mem_nil, or_false] at ht
  rcases ht with rfl | rfl | rfl | rfl | rfl | rfl
  all_goals exact (show Tryd.prog.wantsStandIn _ = false by kernel_rfl)
theorem card : Rows.NetlistJoinedKeepsPinsUptoCardSaid :=
  Claim7.holds_tied_plain_at .later [] _ _ _ _ said (fun _ h => by cases h) (by kernel_rfl) (fun _ h => by cases h) netlistJoinedKeepsPinsUpto_row_tie rfl ⟨rfl, rfl⟩ (by kernel_rfl) rfl plain (by kernel_rfl)
end Go.Proofs.YtghdidhpcgioeaaDoor.netlistJoinedKeepsPins
