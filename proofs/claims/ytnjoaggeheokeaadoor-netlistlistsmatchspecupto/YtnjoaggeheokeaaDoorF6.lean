/-
  Printed by gen.py: Go functions as plain functions, and that they are.
-/
import Derived.Test.YtnjoaggeheokeaaDoorF5
set_option linter.unusedVariables false
set_option linter.unusedSimpArgs false
set_option linter.unusedSectionVars false
set_option maxRecDepth 100000
set_option maxHeartbeats 4000000

namespace Go.Gk
open Go Go.Proofs
def etchhouselaw2_NetlistListsMatchSpec_R (E : World) (Γ : List HP) (res : Bool) (v : Value) (w : World) : Prop := v = (.bool res) ∧ Holds E w Γ
def etchhouselaw2_NetlistListsMatchSpec_K (E : World) (Γ : List HP) (r : Bool) (σ : Nat → Value) (w : World) : Prop := finQ Tryd.prog 76 Tryd.f3 (etchhouselaw2_NetlistListsMatchSpec_R E Γ r) .ret σ w
theorem etchhouselaw2_NetlistListsMatchSpec_ok (N : Nat) {E w : World} {Γ : List HP} {i0 : Nat} {v0 : Value} {p0 : (List PartType)} {i1 : Nat} {v1 : Value} {p1 : Netlist} {i2 : Nat} {v2 : Value} {p2 : Pin} {res : Bool} (hw : Holds E w Γ) (h0 : Γ[i0]? = some (rd v0 p0)) (h1 : Γ[i1]? = some (rd v1 p1)) (h2 : Γ[i2]? = some (rd v2 p2)) (hb : etchhouselaw2_NetlistListsMatchSpec N p0 p1 p2 = some res) :
    Calls Tryd.prog 3 [v0, v1, v2].toArray w (Ret (etchhouselaw2_NetlistListsMatchSpec_R E Γ res)) := by
  unfold etchhouselaw2_NetlistListsMatchSpec at hb
  refine enter Tryd.func3 rfl rfl (Nat.le_of_ble_eq_true rfl) ?_
  have hw := hw.dup (i := i0 + 0) h0
  have hw := hw.dup (i := i1 + 1) h1
  have hw := hw.dup (i := i2 + 2) h2
  refine RC.seq ?_
  refine RC.region ?_
  refine RL.box_rd (i := 1) (v := v1) trivial rfl hw rfl rfl fun b1 w hw => ?_
  refine RL.box_rd (i := 1) (v := v2) trivial rfl hw rfl rfl fun b2 w hw => ?_
  refine RL.assign (v := (.bool false)) trivial rfl rfl ?_
  refine RL.nil ?_
  refine thenQ_n ?_
  refine RC.seq ?_
  refine RC.region ?_
  refine RL.move (v := v0) trivial rfl rfl ?_
  refine RL.load_bf (i := 1) (f := (fun x => x)) trivial rfl hw rfl rfl Fd.self ty26 fun v3 hw => ?_
  refine RL.load_bf (i := 1) (f := (fun x => x)) trivial rfl hw rfl rfl Fd.self ty28 fun v4 hw => ?_
  obtain ⟨x5, hx5, hb⟩ := bd hb
  refine RL.call trivial rfl fn11 [v0, v3, v4] rfl (Calls_ret (netlist_NetOf_ok N  (i0 := 6) (i1 := 1) (i2 := 0) hw rfl rfl rfl hx5) ?_)
  rintro _ w ⟨rfl, hw⟩
  refine RL.move (v := (.tuple #[(str x5.1), (.bool x5.2.1), (.int .i64 x5.2.2)])) trivial rfl rfl ?_
  refine RL.extract (v := (str x5.1)) trivial rfl rfl rfl ?_
  refine RL.extract (v := (.bool x5.2.1)) trivial rfl rfl rfl ?_
  refine RL.extract (v := (.int .i64 x5.2.2)) trivial rfl rfl rfl ?_
  refine RL.assign (v := (str x5.1)) trivial rfl rfl ?_
  refine RL.assign (v := (.bool x5.2.1)) trivial rfl rfl ?_
  refine RL.assign (v := (.int .i64 x5.2.2)) trivial rfl rfl ?_
  refine RL.nil ?_
  refine thenQ_n ?_
  refine RC.seq ?_
  refine RC.region ?_
  refine RL.move (v := v0) trivial rfl rfl ?_
  refine RL.load_bf (i := 3) (f := (fun x => x)) trivial rfl hw rfl rfl Fd.self ty26 fun v6 hw => ?_
  refine RL.load_bf (i := 3) (f := (fun x => x)) trivial rfl hw rfl rfl Fd.self ty28 fun v7 hw => ?_
  obtain ⟨x8, hx8, hb⟩ := bd hb
  refine RL.call trivial rfl fn12 [v0, v6, v7] rfl (Calls_ret (etchhouseref2_NetOf_ok N  (i0 := 8) (i1 := 1) (i2 := 0) hw rfl rfl rfl hx8) ?_)
  rintro _ w ⟨rfl, hw⟩
  refine RL.move (v := (.tuple #[(str x8.1), (.bool x8.2.1), (.int .i64 x8.2.2)])) trivial rfl rfl ?_
  refine RL.extract (v := (str x8.1)) trivial rfl rfl rfl ?_
  refine RL.extract (v := (.bool x8.2.1)) trivial rfl rfl rfl ?_
  refine RL.extract (v := (.int .i64 x8.2.2)) trivial rfl rfl rfl ?_
  refine RL.assign (v := (str x8.1)) trivial rfl rfl ?_
  refine RL.assign (v := (.bool x8.2.1)) trivial rfl rfl ?_
  refine RL.assign (v := (.int .i64 x8.2.2)) trivial rfl rfl ?_
  refine RL.nil ?_
  refine thenQ_n ?_
  refine RC.seq ?_
  refine RC.seq ?_
  obtain ⟨s22, hj, hb⟩ := bd hb
  refine RC.jn (fun (s22 : Bool) (σ : Nat → Value) (w : World) => agree σ [(0, v0), (4, (.pointer (some ⟨b1, 0, none⟩))), (52, (.bool s22))] ∧ Holds E w ([rd v0 p0, bx 26 b1 p1] ++ Γ)) s22 ?_ ?_
  · obtain ⟨x24, hx24, hj⟩ := bd hj
    obtain ⟨x26, hx26, hj⟩ := bd hj
    rcases Bool.eq_false_or_eq_true (((x24 != x26) || (x5.2.2 != x8.2.2)) || (!x5.1.eqb x8.1)) with hg27 | hg27
    · replace hj := cT hg27 hj
      refine RC.draw mixed rfl (fun (D : Nat → Bool) (σ : Nat → Value) (w : World) => ∃ v23 v25 : Value, doneV D σ [(0, 31, v0), (1, 32, v23), (2, 33, (.int .i64 x24)), (3, 34, v0), (4, 35, v25), (5, 36, (.int .i64 x26)), (6, 37, (.bool (x24 != x26))), (7, 38, (.bool (x24 != x26))), (8, 39, (cv (true && ((x24 != x26) == false)) (.int .i64 x5.2.2))), (9, 40, (cv (true && ((x24 != x26) == false)) (.int .i64 x8.2.2))), (10, 41, (cv (true && ((x24 != x26) == false)) (.bool (x5.2.2 != x8.2.2)))), (11, 42, (.bool ((x24 != x26) || (x5.2.2 != x8.2.2)))), (12, 43, (.bool ((x24 != x26) || (x5.2.2 != x8.2.2)))), (13, 44, (cv (true && (((x24 != x26) || (x5.2.2 != x8.2.2)) == false)) (str x5.1))), (14, 45, (cv (true && (((x24 != x26) || (x5.2.2 != x8.2.2)) == false)) (str x8.1))), (15, 46, (cv (true && (((x24 != x26) || (x5.2.2 != x8.2.2)) == false)) (.bool (!x5.1.eqb x8.1)))), (16, 47, (.bool (((x24 != x26) || (x5.2.2 != x8.2.2)) || (!x5.1.eqb x8.1)))), (17, 48, (.bool (((x24 != x26) || (x5.2.2 != x8.2.2)) || (!x5.1.eqb x8.1)))), (18, 49, undef), (19, 50, undef), (20, 51, undef), (21, 52, (.bool true))] ∧ agree σ [(0, v0), (4, (.pointer (some ⟨b1, 0, none⟩))), (7, (str x5.1)), (8, (.bool x5.2.1)), (9, (.int .i64 x5.2.2)), (10, (str x8.1)), (11, (.bool x8.2.1)), (12, (.int .i64 x8.2.2))] ∧ Holds E w ([bif D 1 then (rd v23 p1) else junk, bif D 4 then (rd v25 p1) else junk, rd v7 p2, rd v6 p1, rd v4 p2, rd v3 p1, bx 28 b2 p2, bx 26 b1 p1, rd v2 p2, rd v1 p1, rd v0 p0] ++ Γ)) ?_ ⟨?_, ?_, ?_, ?_, ?_, ?_, ?_, ?_, ?_, ?_, ?_, ?_, ?_, ?_, ?_, ?_, ?_, ?_, ?_, ?_, ?_, ?_, trivial⟩ ?_
      · have hw := hw.drew
        have hw := hw.junk
        have hw := hw.junk
        exact ⟨undef, undef, ⟨(fun h => by cases h), (fun h => by cases h), (fun h => by cases h), (fun h => by cases h), (fun h => by cases h), (fun h => by cases h), (fun h => by cases h), (fun h => by cases h), (fun h => by cases h), (fun h => by cases h), (fun h => by cases h), (fun h => by cases h), (fun h => by cases h), (fun h => by cases h), (fun h => by cases h), (fun h => by cases h), (fun h => by cases h), (fun h => by cases h), (fun h => by cases h), (fun h => by cases h), (fun h => by cases h), (fun h => by cases h), trivial⟩, ⟨rfl, rfl, rfl, rfl, rfl, rfl, rfl, rfl, trivial⟩, hw⟩
      · intro D σ w hD hdep hJ
        obtain ⟨v23, v25, hv, ha, hw⟩ := hJ
        have ha2 : agree σ [(0, v0), (4, (.pointer (some ⟨b1, 0, none⟩))), (7, (str x5.1)), (8, (.bool x5.2.1)), (9, (.int .i64 x5.2.2)), (10, (str x8.1)), (11, (.bool x8.2.1)), (12, (.int .i64 x8.2.2))] := ⟨ha.1, ha.2.1, ha.2.2.1, ha.2.2.2.1, ha.2.2.2.2.1, ha.2.2.2.2.2.1, ha.2.2.2.2.2.2.1, ha.2.2.2.2.2.2.2.1, trivial⟩
        obtain ⟨τ, rfl⟩ := ha2.ups
        refine RL.move (v := v0) trivial rfl rfl ?_
        refine RL.nil ?_
        exact ⟨rfl, v23, v25, ⟨fun _ => rfl, hv.2.1, hv.2.2.1, hv.2.2.2.1, hv.2.2.2.2.1, hv.2.2.2.2.2.1, hv.2.2.2.2.2.2.1, hv.2.2.2.2.2.2.2.1, hv.2.2.2.2.2.2.2.2.1, hv.2.2.2.2.2.2.2.2.2.1, hv.2.2.2.2.2.2.2.2.2.2.1, hv.2.2.2.2.2.2.2.2.2.2.2.1, hv.2.2.2.2.2.2.2.2.2.2.2.2.1, hv.2.2.2.2.2.2.2.2.2.2.2.2.2.1, hv.2.2.2.2.2.2.2.2.2.2.2.2.2.2.1, hv.2.2.2.2.2.2.2.2.2.2.2.2.2.2.2.1, hv.2.2.2.2.2.2.2.2.2.2.2.2.2.2.2.2.1, hv.2.2.2.2.2.2.2.2.2.2.2.2.2.2.2.2.2.1, hv.2.2.2.2.2.2.2.2.2.2.2.2.2.2.2.2.2.2.1, hv.2.2.2.2.2.2.2.2.2.2.2.2.2.2.2.2.2.2.2.1, hv.2.2.2.2.2.2.2.2.2.2.2.2.2.2.2.2.2.2.2.2.1, hv.2.2.2.2.2.2.2.2.2.2.2.2.2.2.2.2.2.2.2.2.2.1, trivial⟩, ha, hw⟩
      · intro D σ w hD hdep hJ
        obtain ⟨v23, v25, hv, ha, hw⟩ := hJ
        have ha2 : agree σ [(0, v0), (4, (.pointer (some ⟨b1, 0, none⟩))), (7, (str x5.1)), (8, (.bool x5.2.1)), (9, (.int .i64 x5.2.2)), (10, (str x8.1)), (11, (.bool x8.2.1)), (12, (.int .i64 x8.2.2))] := ⟨ha.1, ha.2.1, ha.2.2.1, ha.2.2.2.1, ha.2.2.2.2.1, ha.2.2.2.2.2.1, ha.2.2.2.2.2.2.1, ha.2.2.2.2.2.2.2.1, trivial⟩
        obtain ⟨τ, rfl⟩ := ha2.ups
        refine RL.load_bf (i := 7) (f := (fun x => x)) trivial rfl hw rfl rfl Fd.self ty26 fun v28 hw => ?_
        have hw := hw.fillat 0 1 0 rfl rfl rfl (by simp)
        refine RL.nil ?_
        exact ⟨rfl, v28, v25, ⟨hv.1, fun _ => rfl, hv.2.2.1, hv.2.2.2.1, hv.2.2.2.2.1, hv.2.2.2.2.2.1, hv.2.2.2.2.2.2.1, hv.2.2.2.2.2.2.2.1, hv.2.2.2.2.2.2.2.2.1, hv.2.2.2.2.2.2.2.2.2.1, hv.2.2.2.2.2.2.2.2.2.2.1, hv.2.2.2.2.2.2.2.2.2.2.2.1, hv.2.2.2.2.2.2.2.2.2.2.2.2.1, hv.2.2.2.2.2.2.2.2.2.2.2.2.2.1, hv.2.2.2.2.2.2.2.2.2.2.2.2.2.2.1, hv.2.2.2.2.2.2.2.2.2.2.2.2.2.2.2.1, hv.2.2.2.2.2.2.2.2.2.2.2.2.2.2.2.2.1, hv.2.2.2.2.2.2.2.2.2.2.2.2.2.2.2.2.2.1, hv.2.2.2.2.2.2.2.2.2.2.2.2.2.2.2.2.2.2.1, hv.2.2.2.2.2.2.2.2.2.2.2.2.2.2.2.2.2.2.2.1, hv.2.2.2.2.2.2.2.2.2.2.2.2.2.2.2.2.2.2.2.2.1, hv.2.2.2.2.2.2.2.2.2.2.2.2.2.2.2.2.2.2.2.2.2.1, trivial⟩, ha, hw⟩
      · intro D σ w hD hdep hJ
        obtain ⟨v23, v25, hv, ha, hw⟩ := hJ
        have ha2 : agree σ [(31, v0), (32, v23), (0, v0), (4, (.pointer (some ⟨b1, 0, none⟩))), (7, (str x5.1)), (8, (.bool x5.2.1)), (9, (.int .i64 x5.2.2)), (10, (str x8.1)), (11, (.bool x8.2.1)), (12, (.int .i64 x8.2.2))] := ⟨hv.1 (hdep.1 rfl), hv.2.1 (hdep.2.1 rfl), ha.1, ha.2.1, ha.2.2.1, ha.2.2.2.1, ha.2.2.2.2.1, ha.2.2.2.2.2.1, ha.2.2.2.2.2.2.1, ha.2.2.2.2.2.2.2.1, trivial⟩
        obtain ⟨τ, rfl⟩ := ha2.ups
        refine RL.call trivial rfl fn13 [v0, v23] rfl (Calls_ret (netlist_CheckList_ok N  (i0 := 10) (i1 := 0) hw rfl (ent_t (hdep.2.1 rfl)) hx24) ?_)
        rintro _ w ⟨rfl, hw⟩
        refine RL.nil ?_
        exact ⟨rfl, v23, v25, ⟨hv.1, hv.2.1, fun _ => rfl, hv.2.2.2.1, hv.2.2.2.2.1, hv.2.2.2.2.2.1, hv.2.2.2.2.2.2.1, hv.2.2.2.2.2.2.2.1, hv.2.2.2.2.2.2.2.2.1, hv.2.2.2.2.2.2.2.2.2.1, hv.2.2.2.2.2.2.2.2.2.2.1, hv.2.2.2.2.2.2.2.2.2.2.2.1, hv.2.2.2.2.2.2.2.2.2.2.2.2.1, hv.2.2.2.2.2.2.2.2.2.2.2.2.2.1, hv.2.2.2.2.2.2.2.2.2.2.2.2.2.2.1, hv.2.2.2.2.2.2.2.2.2.2.2.2.2.2.2.1, hv.2.2.2.2.2.2.2.2.2.2.2.2.2.2.2.2.1, hv.2.2.2.2.2.2.2.2.2.2.2.2.2.2.2.2.2.1, hv.2.2.2.2.2.2.2.2.2.2.2.2.2.2.2.2.2.2.1, hv.2.2.2.2.2.2.2.2.2.2.2.2.2.2.2.2.2.2.2.1, hv.2.2.2.2.2.2.2.2.2.2.2.2.2.2.2.2.2.2.2.2.1, hv.2.2.2.2.2.2.2.2.2.2.2.2.2.2.2.2.2.2.2.2.2.1, trivial⟩, ha, hw⟩
      · intro D σ w hD hdep hJ
        obtain ⟨v23, v25, hv, ha, hw⟩ := hJ
        have ha2 : agree σ [(0, v0), (4, (.pointer (some ⟨b1, 0, none⟩))), (7, (str x5.1)), (8, (.bool x5.2.1)), (9, (.int .i64 x5.2.2)), (10, (str x8.1)), (11, (.bool x8.2.1)), (12, (.int .i64 x8.2.2))] := ⟨ha.1, ha.2.1, ha.2.2.1, ha.2.2.2.1, ha.2.2.2.2.1, ha.2.2.2.2.2.1, ha.2.2.2.2.2.2.1, ha.2.2.2.2.2.2.2.1, trivial⟩
        obtain ⟨τ, rfl⟩ := ha2.ups
        refine RL.move (v := v0) trivial rfl rfl ?_
        refine RL.nil ?_
        exact ⟨rfl, v23, v25, ⟨hv.1, hv.2.1, hv.2.2.1, fun _ => rfl, hv.2.2.2.2.1, hv.2.2.2.2.2.1, hv.2.2.2.2.2.2.1, hv.2.2.2.2.2.2.2.1, hv.2.2.2.2.2.2.2.2.1, hv.2.2.2.2.2.2.2.2.2.1, hv.2.2.2.2.2.2.2.2.2.2.1, hv.2.2.2.2.2.2.2.2.2.2.2.1, hv.2.2.2.2.2.2.2.2.2.2.2.2.1, hv.2.2.2.2.2.2.2.2.2.2.2.2.2.1, hv.2.2.2.2.2.2.2.2.2.2.2.2.2.2.1, hv.2.2.2.2.2.2.2.2.2.2.2.2.2.2.2.1, hv.2.2.2.2.2.2.2.2.2.2.2.2.2.2.2.2.1, hv.2.2.2.2.2.2.2.2.2.2.2.2.2.2.2.2.2.1, hv.2.2.2.2.2.2.2.2.2.2.2.2.2.2.2.2.2.2.1, hv.2.2.2.2.2.2.2.2.2.2.2.2.2.2.2.2.2.2.2.1, hv.2.2.2.2.2.2.2.2.2.2.2.2.2.2.2.2.2.2.2.2.1, hv.2.2.2.2.2.2.2.2.2.2.2.2.2.2.2.2.2.2.2.2.2.1, trivial⟩, ha, hw⟩
      · intro D σ w hD hdep hJ
        obtain ⟨v23, v25, hv, ha, hw⟩ := hJ
        have ha2 : agree σ [(0, v0), (4, (.pointer (some ⟨b1, 0, none⟩))), (7, (str x5.1)), (8, (.bool x5.2.1)), (9, (.int .i64 x5.2.2)), (10, (str x8.1)), (11, (.bool x8.2.1)), (12, (.int .i64 x8.2.2))] := ⟨ha.1, ha.2.1, ha.2.2.1, ha.2.2.2.1, ha.2.2.2.2.1, ha.2.2.2.2.2.1, ha.2.2.2.2.2.2.1, ha.2.2.2.2.2.2.2.1, trivial⟩
        obtain ⟨τ, rfl⟩ := ha2.ups
        refine RL.load_bf (i := 7) (f := (fun x => x)) trivial rfl hw rfl rfl Fd.self ty26 fun v29 hw => ?_
        have hw := hw.fillat 0 1 1 rfl rfl rfl (by simp)
        refine RL.nil ?_
        exact ⟨rfl, v23, v29, ⟨hv.1, hv.2.1, hv.2.2.1, hv.2.2.2.1, fun _ => rfl, hv.2.2.2.2.2.1, hv.2.2.2.2.2.2.1, hv.2.2.2.2.2.2.2.1, hv.2.2.2.2.2.2.2.2.1, hv.2.2.2.2.2.2.2.2.2.1, hv.2.2.2.2.2.2.2.2.2.2.1, hv.2.2.2.2.2.2.2.2.2.2.2.1, hv.2.2.2.2.2.2.2.2.2.2.2.2.1, hv.2.2.2.2.2.2.2.2.2.2.2.2.2.1, hv.2.2.2.2.2.2.2.2.2.2.2.2.2.2.1, hv.2.2.2.2.2.2.2.2.2.2.2.2.2.2.2.1, hv.2.2.2.2.2.2.2.2.2.2.2.2.2.2.2.2.1, hv.2.2.2.2.2.2.2.2.2.2.2.2.2.2.2.2.2.1, hv.2.2.2.2.2.2.2.2.2.2.2.2.2.2.2.2.2.2.1, hv.2.2.2.2.2.2.2.2.2.2.2.2.2.2.2.2.2.2.2.1, hv.2.2.2.2.2.2.2.2.2.2.2.2.2.2.2.2.2.2.2.2.1, hv.2.2.2.2.2.2.2.2.2.2.2.2.2.2.2.2.2.2.2.2.2.1, trivial⟩, ha, hw⟩
      · intro D σ w hD hdep hJ
        obtain ⟨v23, v25, hv, ha, hw⟩ := hJ
        have ha2 : agree σ [(34, v0), (35, v25), (33, (.int .i64 x24)), (0, v0), (4, (.pointer (some ⟨b1, 0, none⟩))), (7, (str x5.1)), (8, (.bool x5.2.1)), (9, (.int .i64 x5.2.2)), (10, (str x8.1)), (11, (.bool x8.2.1)), (12, (.int .i64 x8.2.2))] := ⟨hv.2.2.2.1 (hdep.1 rfl), hv.2.2.2.2.1 (hdep.2.1 rfl), hv.2.2.1 (hdep.2.2.1 rfl), ha.1, ha.2.1, ha.2.2.1, ha.2.2.2.1, ha.2.2.2.2.1, ha.2.2.2.2.2.1, ha.2.2.2.2.2.2.1, ha.2.2.2.2.2.2.2.1, trivial⟩
        obtain ⟨τ, rfl⟩ := ha2.ups
        refine RL.call trivial rfl fn14 [v0, v25] rfl (Calls_ret (etchhouseref2_CheckList_ok N  (i0 := 10) (i1 := 1) hw rfl (ent_t (hdep.2.1 rfl)) hx26) ?_)
        rintro _ w ⟨rfl, hw⟩
        refine RL.nil ?_
        exact ⟨rfl, v23, v25, ⟨hv.1, hv.2.1, hv.2.2.1, hv.2.2.2.1, hv.2.2.2.2.1, fun _ => rfl, hv.2.2.2.2.2.2.1, hv.2.2.2.2.2.2.2.1, hv.2.2.2.2.2.2.2.2.1, hv.2.2.2.2.2.2.2.2.2.1, hv.2.2.2.2.2.2.2.2.2.2.1, hv.2.2.2.2.2.2.2.2.2.2.2.1, hv.2.2.2.2.2.2.2.2.2.2.2.2.1, hv.2.2.2.2.2.2.2.2.2.2.2.2.2.1, hv.2.2.2.2.2.2.2.2.2.2.2.2.2.2.1, hv.2.2.2.2.2.2.2.2.2.2.2.2.2.2.2.1, hv.2.2.2.2.2.2.2.2.2.2.2.2.2.2.2.2.1, hv.2.2.2.2.2.2.2.2.2.2.2.2.2.2.2.2.2.1, hv.2.2.2.2.2.2.2.2.2.2.2.2.2.2.2.2.2.2.1, hv.2.2.2.2.2.2.2.2.2.2.2.2.2.2.2.2.2.2.2.1, hv.2.2.2.2.2.2.2.2.2.2.2.2.2.2.2.2.2.2.2.2.1, hv.2.2.2.2.2.2.2.2.2.2.2.2.2.2.2.2.2.2.2.2.2.1, trivial⟩, ha, hw⟩
      · intro D σ w hD hdep hJ
        obtain ⟨v23, v25, hv, ha, hw⟩ := hJ
        have ha2 : agree σ [(33, (.int .i64 x24)), (36, (.int .i64 x26)), (0, v0), (4, (.pointer (some ⟨b1, 0, none⟩))), (7, (str x5.1)), (8, (.bool x5.2.1)), (9, (.int .i64 x5.2.2)), (10, (str x8.1)), (11, (.bool x8.2.1)), (12, (.int .i64 x8.2.2))] := ⟨hv.2.2.1 (hdep.1 rfl), hv.2.2.2.2.2.1 (hdep.2.1 rfl), ha.1, ha.2.1, ha.2.2.1, ha.2.2.2.1, ha.2.2.2.2.1, ha.2.2.2.2.2.1, ha.2.2.2.2.2.2.1, ha.2.2.2.2.2.2.2.1, trivial⟩
        obtain ⟨τ, rfl⟩ := ha2.ups
        refine RL.icmp (a := x24) (b := x26) trivial rfl rfl rfl rfl ?_
        refine RL.nil ?_
        exact ⟨rfl, v23, v25, ⟨hv.1, hv.2.1, hv.2.2.1, hv.2.2.2.1, hv.2.2.2.2.1, hv.2.2.2.2.2.1, fun _ => rfl, hv.2.2.2.2.2.2.2.1, hv.2.2.2.2.2.2.2.2.1, hv.2.2.2.2.2.2.2.2.2.1, hv.2.2.2.2.2.2.2.2.2.2.1, hv.2.2.2.2.2.2.2.2.2.2.2.1, hv.2.2.2.2.2.2.2.2.2.2.2.2.1, hv.2.2.2.2.2.2.2.2.2.2.2.2.2.1, hv.2.2.2.2.2.2.2.2.2.2.2.2.2.2.1, hv.2.2.2.2.2.2.2.2.2.2.2.2.2.2.2.1, hv.2.2.2.2.2.2.2.2.2.2.2.2.2.2.2.2.1, hv.2.2.2.2.2.2.2.2.2.2.2.2.2.2.2.2.2.1, hv.2.2.2.2.2.2.2.2.2.2.2.2.2.2.2.2.2.2.1, hv.2.2.2.2.2.2.2.2.2.2.2.2.2.2.2.2.2.2.2.1, hv.2.2.2.2.2.2.2.2.2.2.2.2.2.2.2.2.2.2.2.2.1, hv.2.2.2.2.2.2.2.2.2.2.2.2.2.2.2.2.2.2.2.2.2.1, trivial⟩, ha, hw⟩
      · intro D σ w hD hdep hJ
        obtain ⟨v23, v25, hv, ha, hw⟩ := hJ
        have ha2 : agree σ [(37, (.bool (x24 != x26))), (36, (.int .i64 x26)), (0, v0), (4, (.pointer (some ⟨b1, 0, none⟩))), (7, (str x5.1)), (8, (.bool x5.2.1)), (9, (.int .i64 x5.2.2)), (10, (str x8.1)), (11, (.bool x8.2.1)), (12, (.int .i64 x8.2.2))] := ⟨hv.2.2.2.2.2.2.1 (hdep.1 rfl), hv.2.2.2.2.2.1 (hdep.2.1 rfl), ha.1, ha.2.1, ha.2.2.1, ha.2.2.2.1, ha.2.2.2.2.1, ha.2.2.2.2.2.1, ha.2.2.2.2.2.2.1, ha.2.2.2.2.2.2.2.1, trivial⟩
        obtain ⟨τ, rfl⟩ := ha2.ups
        refine RL.move (v := (.bool (x24 != x26))) trivial rfl rfl ?_
        refine RL.nil ?_
        exact ⟨rfl, v23, v25, ⟨hv.1, hv.2.1, hv.2.2.1, hv.2.2.2.1, hv.2.2.2.2.1, hv.2.2.2.2.2.1, hv.2.2.2.2.2.2.1, fun _ => rfl, hv.2.2.2.2.2.2.2.2.1, hv.2.2.2.2.2.2.2.2.2.1, hv.2.2.2.2.2.2.2.2.2.2.1, hv.2.2.2.2.2.2.2.2.2.2.2.1, hv.2.2.2.2.2.2.2.2.2.2.2.2.1, hv.2.2.2.2.2.2.2.2.2.2.2.2.2.1, hv.2.2.2.2.2.2.2.2.2.2.2.2.2.2.1, hv.2.2.2.2.2.2.2.2.2.2.2.2.2.2.2.1, hv.2.2.2.2.2.2.2.2.2.2.2.2.2.2.2.2.1, hv.2.2.2.2.2.2.2.2.2.2.2.2.2.2.2.2.2.1, hv.2.2.2.2.2.2.2.2.2.2.2.2.2.2.2.2.2.2.1, hv.2.2.2.2.2.2.2.2.2.2.2.2.2.2.2.2.2.2.2.1, hv.2.2.2.2.2.2.2.2.2.2.2.2.2.2.2.2.2.2.2.2.1, hv.2.2.2.2.2.2.2.2.2.2.2.2.2.2.2.2.2.2.2.2.2.1, trivial⟩, ha, hw⟩
      · intro D σ w hD hdep hJ
        obtain ⟨v23, v25, hv, ha, hw⟩ := hJ
        have ha2 : agree σ [(38, (.bool (x24 != x26))), (0, v0), (4, (.pointer (some ⟨b1, 0, none⟩))), (7, (str x5.1)), (8, (.bool x5.2.1)), (9, (.int .i64 x5.2.2)), (10, (str x8.1)), (11, (.bool x8.2.1)), (12, (.int .i64 x8.2.2))] := ⟨hv.2.2.2.2.2.2.2.1 (hdep.1 rfl), ha.1, ha.2.1, ha.2.2.1, ha.2.2.2.1, ha.2.2.2.2.1, ha.2.2.2.2.2.1, ha.2.2.2.2.2.2.1, ha.2.2.2.2.2.2.2.1, trivial⟩
        obtain ⟨τ, rfl⟩ := ha2.ups
        refine RL.gs (c := true) (b := (x24 != x26)) (v := (.int .i64 x5.2.2)) rfl rfl rfl (gs_move rfl (fun _ => rfl)) ?_
        refine RL.nil ?_
        exact ⟨rfl, v23, v25, ⟨hv.1, hv.2.1, hv.2.2.1, hv.2.2.2.1, hv.2.2.2.2.1, hv.2.2.2.2.2.1, hv.2.2.2.2.2.2.1, hv.2.2.2.2.2.2.2.1, fun _ => rfl, hv.2.2.2.2.2.2.2.2.2.1, hv.2.2.2.2.2.2.2.2.2.2.1, hv.2.2.2.2.2.2.2.2.2.2.2.1, hv.2.2.2.2.2.2.2.2.2.2.2.2.1, hv.2.2.2.2.2.2.2.2.2.2.2.2.2.1, hv.2.2.2.2.2.2.2.2.2.2.2.2.2.2.1, hv.2.2.2.2.2.2.2.2.2.2.2.2.2.2.2.1, hv.2.2.2.2.2.2.2.2.2.2.2.2.2.2.2.2.1, hv.2.2.2.2.2.2.2.2.2.2.2.2.2.2.2.2.2.1, hv.2.2.2.2.2.2.2.2.2.2.2.2.2.2.2.2.2.2.1, hv.2.2.2.2.2.2.2.2.2.2.2.2.2.2.2.2.2.2.2.1, hv.2.2.2.2.2.2.2.2.2.2.2.2.2.2.2.2.2.2.2.2.1, hv.2.2.2.2.2.2.2.2.2.2.2.2.2.2.2.2.2.2.2.2.2.1, trivial⟩, ha, hw⟩
      · intro D σ w hD hdep hJ
        obtain ⟨v23, v25, hv, ha, hw⟩ := hJ
        have ha2 : agree σ [(38, (.bool (x24 != x26))), (0, v0), (4, (.pointer (some ⟨b1, 0, none⟩))), (7, (str x5.1)), (8, (.bool x5.2.1)), (9, (.int .i64 x5.2.2)), (10, (str x8.1)), (11, (.bool x8.2.1)), (12, (.int .i64 x8.2.2))] := ⟨hv.2.2.2.2.2.2.2.1 (hdep.1 rfl), ha.1, ha.2.1, ha.2.2.1, ha.2.2.2.1, ha.2.2.2.2.1, ha.2.2.2.2.2.1, ha.2.2.2.2.2.2.1, ha.2.2.2.2.2.2.2.1, trivial⟩
        obtain ⟨τ, rfl⟩ := ha2.ups
        refine RL.gs (c := true) (b := (x24 != x26)) (v := (.int .i64 x8.2.2)) rfl rfl rfl (gs_move rfl (fun _ => rfl)) ?_
        refine RL.nil ?_
        exact ⟨rfl, v23, v25, ⟨hv.1, hv.2.1, hv.2.2.1, hv.2.2.2.1, hv.2.2.2.2.1, hv.2.2.2.2.2.1, hv.2.2.2.2.2.2.1, hv.2.2.2.2.2.2.2.1, hv.2.2.2.2.2.2.2.2.1, fun _ => rfl, hv.2.2.2.2.2.2.2.2.2.2.1, hv.2.2.2.2.2.2.2.2.2.2.2.1, hv.2.2.2.2.2.2.2.2.2.2.2.2.1, hv.2.2.2.2.2.2.2.2.2.2.2.2.2.1, hv.2.2.2.2.2.2.2.2.2.2.2.2.2.2.1, hv.2.2.2.2.2.2.2.2.2.2.2.2.2.2.2.1, hv.2.2.2.2.2.2.2.2.2.2.2.2.2.2.2.2.1, hv.2.2.2.2.2.2.2.2.2.2.2.2.2.2.2.2.2.1, hv.2.2.2.2.2.2.2.2.2.2.2.2.2.2.2.2.2.2.1, hv.2.2.2.2.2.2.2.2.2.2.2.2.2.2.2.2.2.2.2.1, hv.2.2.2.2.2.2.2.2.2.2.2.2.2.2.2.2.2.2.2.2.1, hv.2.2.2.2.2.2.2.2.2.2.2.2.2.2.2.2.2.2.2.2.2.1, trivial⟩, ha, hw⟩
      · intro D σ w hD hdep hJ
        obtain ⟨v23, v25, hv, ha, hw⟩ := hJ
        have ha2 : agree σ [(39, (cv (true && ((x24 != x26) == false)) (.int .i64 x5.2.2))), (40, (cv (true && ((x24 != x26) == false)) (.int .i64 x8.2.2))), (38, (.bool (x24 != x26))), (0, v0), (4, (.pointer (some ⟨b1, 0, none⟩))), (7, (str x5.1)), (8, (.bool x5.2.1)), (9, (.int .i64 x5.2.2)), (10, (str x8.1)), (11, (.bool x8.2.1)), (12, (.int .i64 x8.2.2))] := ⟨hv.2.2.2.2.2.2.2.2.1 (hdep.1 rfl), hv.2.2.2.2.2.2.2.2.2.1 (hdep.2.1 rfl), hv.2.2.2.2.2.2.2.1 (hdep.2.2.1 rfl), ha.1, ha.2.1, ha.2.2.1, ha.2.2.2.1, ha.2.2.2.2.1, ha.2.2.2.2.2.1, ha.2.2.2.2.2.2.1, ha.2.2.2.2.2.2.2.1, trivial⟩
        obtain ⟨τ, rfl⟩ := ha2.ups
        refine RL.gs (c := true) (b := (x24 != x26)) (v := (.bool (x5.2.2 != x8.2.2))) rfl rfl rfl (gs_icmp (bop := .neq) (K := .i64) (a := x5.2.2) (b := x8.2.2) rfl (fun h => by exact (cv_t h : cv (true && ((x24 != x26) == false)) (.int .i64 x5.2.2) = (.int .i64 x5.2.2))) (fun h => by exact (cv_t h : cv (true && ((x24 != x26) == false)) (.int .i64 x8.2.2) = (.int .i64 x8.2.2))) rfl) ?_
        refine RL.nil ?_
        exact ⟨rfl, v23, v25, ⟨hv.1, hv.2.1, hv.2.2.1, hv.2.2.2.1, hv.2.2.2.2.1, hv.2.2.2.2.2.1, hv.2.2.2.2.2.2.1, hv.2.2.2.2.2.2.2.1, hv.2.2.2.2.2.2.2.2.1, hv.2.2.2.2.2.2.2.2.2.1, fun _ => rfl, hv.2.2.2.2.2.2.2.2.2.2.2.1, hv.2.2.2.2.2.2.2.2.2.2.2.2.1, hv.2.2.2.2.2.2.2.2.2.2.2.2.2.1, hv.2.2.2.2.2.2.2.2.2.2.2.2.2.2.1, hv.2.2.2.2.2.2.2.2.2.2.2.2.2.2.2.1, hv.2.2.2.2.2.2.2.2.2.2.2.2.2.2.2.2.1, hv.2.2.2.2.2.2.2.2.2.2.2.2.2.2.2.2.2.1, hv.2.2.2.2.2.2.2.2.2.2.2.2.2.2.2.2.2.2.1, hv.2.2.2.2.2.2.2.2.2.2.2.2.2.2.2.2.2.2.2.1, hv.2.2.2.2.2.2.2.2.2.2.2.2.2.2.2.2.2.2.2.2.1, hv.2.2.2.2.2.2.2.2.2.2.2.2.2.2.2.2.2.2.2.2.2.1, trivial⟩, ha, hw⟩
      · intro D σ w hD hdep hJ
        obtain ⟨v23, v25, hv, ha, hw⟩ := hJ
        have ha2 : agree σ [(38, (.bool (x24 != x26))), (41, (cv (true && ((x24 != x26) == false)) (.bool (x5.2.2 != x8.2.2)))), (0, v0), (4, (.pointer (some ⟨b1, 0, none⟩))), (7, (str x5.1)), (8, (.bool x5.2.1)), (9, (.int .i64 x5.2.2)), (10, (str x8.1)), (11, (.bool x8.2.1)), (12, (.int .i64 x8.2.2))] := ⟨hv.2.2.2.2.2.2.2.1 (hdep.1 rfl), hv.2.2.2.2.2.2.2.2.2.2.1 (hdep.2.1 rfl), ha.1, ha.2.1, ha.2.2.1, ha.2.2.2.1, ha.2.2.2.2.1, ha.2.2.2.2.2.1, ha.2.2.2.2.2.2.1, ha.2.2.2.2.2.2.2.1, trivial⟩
        obtain ⟨τ, rfl⟩ := ha2.ups
        refine RL.pick (b := (x24 != x26)) (v := (.bool ((x24 != x26) || (x5.2.2 != x8.2.2)))) trivial rfl rfl (pk_or (c := true) rfl) ?_
        refine RL.nil ?_
        exact ⟨rfl, v23, v25, ⟨hv.1, hv.2.1, hv.2.2.1, hv.2.2.2.1, hv.2.2.2.2.1, hv.2.2.2.2.2.1, hv.2.2.2.2.2.2.1, hv.2.2.2.2.2.2.2.1, hv.2.2.2.2.2.2.2.2.1, hv.2.2.2.2.2.2.2.2.2.1, hv.2.2.2.2.2.2.2.2.2.2.1, fun _ => rfl, hv.2.2.2.2.2.2.2.2.2.2.2.2.1, hv.2.2.2.2.2.2.2.2.2.2.2.2.2.1, hv.2.2.2.2.2.2.2.2.2.2.2.2.2.2.1, hv.2.2.2.2.2.2.2.2.2.2.2.2.2.2.2.1, hv.2.2.2.2.2.2.2.2.2.2.2.2.2.2.2.2.1, hv.2.2.2.2.2.2.2.2.2.2.2.2.2.2.2.2.2.1, hv.2.2.2.2.2.2.2.2.2.2.2.2.2.2.2.2.2.2.1, hv.2.2.2.2.2.2.2.2.2.2.2.2.2.2.2.2.2.2.2.1, hv.2.2.2.2.2.2.2.2.2.2.2.2.2.2.2.2.2.2.2.2.1, hv.2.2.2.2.2.2.2.2.2.2.2.2.2.2.2.2.2.2.2.2.2.1, trivial⟩, ha, hw⟩
      · intro D σ w hD hdep hJ
        obtain ⟨v23, v25, hv, ha, hw⟩ := hJ
        have ha2 : agree σ [(42, (.bool ((x24 != x26) || (x5.2.2 != x8.2.2)))), (38, (.bool (x24 != x26))), (0, v0), (4, (.pointer (some ⟨b1, 0, none⟩))), (7, (str x5.1)), (8, (.bool x5.2.1)), (9, (.int .i64 x5.2.2)), (10, (str x8.1)), (11, (.bool x8.2.1)), (12, (.int .i64 x8.2.2))] := ⟨hv.2.2.2.2.2.2.2.2.2.2.2.1 (hdep.1 rfl), hv.2.2.2.2.2.2.2.1 (hdep.2.1 rfl), ha.1, ha.2.1, ha.2.2.1, ha.2.2.2.1, ha.2.2.2.2.1, ha.2.2.2.2.2.1, ha.2.2.2.2.2.2.1, ha.2.2.2.2.2.2.2.1, trivial⟩
        obtain ⟨τ, rfl⟩ := ha2.ups
        refine RL.move (v := (.bool ((x24 != x26) || (x5.2.2 != x8.2.2)))) trivial rfl rfl ?_
        refine RL.nil ?_
        exact ⟨rfl, v23, v25, ⟨hv.1, hv.2.1, hv.2.2.1, hv.2.2.2.1, hv.2.2.2.2.1, hv.2.2.2.2.2.1, hv.2.2.2.2.2.2.1, hv.2.2.2.2.2.2.2.1, hv.2.2.2.2.2.2.2.2.1, hv.2.2.2.2.2.2.2.2.2.1, hv.2.2.2.2.2.2.2.2.2.2.1, hv.2.2.2.2.2.2.2.2.2.2.2.1, fun _ => rfl, hv.2.2.2.2.2.2.2.2.2.2.2.2.2.1, hv.2.2.2.2.2.2.2.2.2.2.2.2.2.2.1, hv.2.2.2.2.2.2.2.2.2.2.2.2.2.2.2.1, hv.2.2.2.2.2.2.2.2.2.2.2.2.2.2.2.2.1, hv.2.2.2.2.2.2.2.2.2.2.2.2.2.2.2.2.2.1, hv.2.2.2.2.2.2.2.2.2.2.2.2.2.2.2.2.2.2.1, hv.2.2.2.2.2.2.2.2.2.2.2.2.2.2.2.2.2.2.2.1, hv.2.2.2.2.2.2.2.2.2.2.2.2.2.2.2.2.2.2.2.2.1, hv.2.2.2.2.2.2.2.2.2.2.2.2.2.2.2.2.2.2.2.2.2.1, trivial⟩, ha, hw⟩
      · intro D σ w hD hdep hJ
        obtain ⟨v23, v25, hv, ha, hw⟩ := hJ
        have ha2 : agree σ [(43, (.bool ((x24 != x26) || (x5.2.2 != x8.2.2)))), (0, v0), (4, (.pointer (some ⟨b1, 0, none⟩))), (7, (str x5.1)), (8, (.bool x5.2.1)), (9, (.int .i64 x5.2.2)), (10, (str x8.1)), (11, (.bool x8.2.1)), (12, (.int .i64 x8.2.2))] := ⟨hv.2.2.2.2.2.2.2.2.2.2.2.2.1 (hdep.1 rfl), ha.1, ha.2.1, ha.2.2.1, ha.2.2.2.1, ha.2.2.2.2.1, ha.2.2.2.2.2.1, ha.2.2.2.2.2.2.1, ha.2.2.2.2.2.2.2.1, trivial⟩
        obtain ⟨τ, rfl⟩ := ha2.ups
        refine RL.gs (c := true) (b := ((x24 != x26) || (x5.2.2 != x8.2.2))) (v := (str x5.1)) rfl rfl rfl (gs_move rfl (fun _ => rfl)) ?_
        refine RL.nil ?_
        exact ⟨rfl, v23, v25, ⟨hv.1, hv.2.1, hv.2.2.1, hv.2.2.2.1, hv.2.2.2.2.1, hv.2.2.2.2.2.1, hv.2.2.2.2.2.2.1, hv.2.2.2.2.2.2.2.1, hv.2.2.2.2.2.2.2.2.1, hv.2.2.2.2.2.2.2.2.2.1, hv.2.2.2.2.2.2.2.2.2.2.1, hv.2.2.2.2.2.2.2.2.2.2.2.1, hv.2.2.2.2.2.2.2.2.2.2.2.2.1, fun _ => rfl, hv.2.2.2.2.2.2.2.2.2.2.2.2.2.2.1, hv.2.2.2.2.2.2.2.2.2.2.2.2.2.2.2.1, hv.2.2.2.2.2.2.2.2.2.2.2.2.2.2.2.2.1, hv.2.2.2.2.2.2.2.2.2.2.2.2.2.2.2.2.2.1, hv.2.2.2.2.2.2.2.2.2.2.2.2.2.2.2.2.2.2.1, hv.2.2.2.2.2.2.2.2.2.2.2.2.2.2.2.2.2.2.2.1, hv.2.2.2.2.2.2.2.2.2.2.2.2.2.2.2.2.2.2.2.2.1, hv.2.2.2.2.2.2.2.2.2.2.2.2.2.2.2.2.2.2.2.2.2.1, trivial⟩, ha, hw⟩
      · intro D σ w hD hdep hJ
        obtain ⟨v23, v25, hv, ha, hw⟩ := hJ
        have ha2 : agree σ [(43, (.bool ((x24 != x26) || (x5.2.2 != x8.2.2)))), (0, v0), (4, (.pointer (some ⟨b1, 0, none⟩))), (7, (str x5.1)), (8, (.bool x5.2.1)), (9, (.int .i64 x5.2.2)), (10, (str x8.1)), (11, (.bool x8.2.1)), (12, (.int .i64 x8.2.2))] := ⟨hv.2.2.2.2.2.2.2.2.2.2.2.2.1 (hdep.1 rfl), ha.1, ha.2.1, ha.2.2.1, ha.2.2.2.1, ha.2.2.2.2.1, ha.2.2.2.2.2.1, ha.2.2.2.2.2.2.1, ha.2.2.2.2.2.2.2.1, trivial⟩
        obtain ⟨τ, rfl⟩ := ha2.ups
        refine RL.gs (c := true) (b := ((x24 != x26) || (x5.2.2 != x8.2.2))) (v := (str x8.1)) rfl rfl rfl (gs_move rfl (fun _ => rfl)) ?_
        refine RL.nil ?_
        exact ⟨rfl, v23, v25, ⟨hv.1, hv.2.1, hv.2.2.1, hv.2.2.2.1, hv.2.2.2.2.1, hv.2.2.2.2.2.1, hv.2.2.2.2.2.2.1, hv.2.2.2.2.2.2.2.1, hv.2.2.2.2.2.2.2.2.1, hv.2.2.2.2.2.2.2.2.2.1, hv.2.2.2.2.2.2.2.2.2.2.1, hv.2.2.2.2.2.2.2.2.2.2.2.1, hv.2.2.2.2.2.2.2.2.2.2.2.2.1, hv.2.2.2.2.2.2.2.2.2.2.2.2.2.1, fun _ => rfl, hv.2.2.2.2.2.2.2.2.2.2.2.2.2.2.2.1, hv.2.2.2.2.2.2.2.2.2.2.2.2.2.2.2.2.1, hv.2.2.2.2.2.2.2.2.2.2.2.2.2.2.2.2.2.1, hv.2.2.2.2.2.2.2.2.2.2.2.2.2.2.2.2.2.2.1, hv.2.2.2.2.2.2.2.2.2.2.2.2.2.2.2.2.2.2.2.1, hv.2.2.2.2.2.2.2.2.2.2.2.2.2.2.2.2.2.2.2.2.1, hv.2.2.2.2.2.2.2.2.2.2.2.2.2.2.2.2.2.2.2.2.2.1, trivial⟩, ha, hw⟩
      · intro D σ w hD hdep hJ
        obtain ⟨v23, v25, hv, ha, hw⟩ := hJ
        have ha2 : agree σ [(44, (cv (true && (((x24 != x26) || (x5.2.2 != x8.2.2)) == false)) (str x5.1))), (45, (cv (true && (((x24 != x26) || (x5.2.2 != x8.2.2)) == false)) (str x8.1))), (43, (.bool ((x24 != x26) || (x5.2.2 != x8.2.2)))), (0, v0), (4, (.pointer (some ⟨b1, 0, none⟩))), (7, (str x5.1)), (8, (.bool x5.2.1)), (9, (.int .i64 x5.2.2)), (10, (str x8.1)), (11, (.bool x8.2.1)), (12, (.int .i64 x8.2.2))] := ⟨hv.2.2.2.2.2.2.2.2.2.2.2.2.2.1 (hdep.1 rfl), hv.2.2.2.2.2.2.2.2.2.2.2.2.2.2.1 (hdep.2.1 rfl), hv.2.2.2.2.2.2.2.2.2.2.2.2.1 (hdep.2.2.1 rfl), ha.1, ha.2.1, ha.2.2.1, ha.2.2.2.1, ha.2.2.2.2.1, ha.2.2.2.2.2.1, ha.2.2.2.2.2.2.1, ha.2.2.2.2.2.2.2.1, trivial⟩
        obtain ⟨τ, rfl⟩ := ha2.ups
        refine RL.gs (c := true) (b := ((x24 != x26) || (x5.2.2 != x8.2.2))) (v := (.bool (!x5.1.eqb x8.1))) rfl rfl rfl (gs_scmp (bop := .neq) (a := x5.1) (b := x8.1) rfl (fun h => by exact (cv_t h : cv (true && (((x24 != x26) || (x5.2.2 != x8.2.2)) == false)) (str x5.1) = (str x5.1))) (fun h => by exact (cv_t h : cv (true && (((x24 != x26) || (x5.2.2 != x8.2.2)) == false)) (str x8.1) = (str x8.1))) rfl) ?_
        refine RL.nil ?_
        exact ⟨rfl, v23, v25, ⟨hv.1, hv.2.1, hv.2.2.1, hv.2.2.2.1, hv.2.2.2.2.1, hv.2.2.2.2.2.1, hv.2.2.2.2.2.2.1, hv.2.2.2.2.2.2.2.1, hv.2.2.2.2.2.2.2.2.1, hv.2.2.2.2.2.2.2.2.2.1, hv.2.2.2.2.2.2.2.2.2.2.1, hv.2.2.2.2.2.2.2.2.2.2.2.1, hv.2.2.2.2.2.2.2.2.2.2.2.2.1, hv.2.2.2.2.2.2.2.2.2.2.2.2.2.1, hv.2.2.2.2.2.2.2.2.2.2.2.2.2.2.1, fun _ => rfl, hv.2.2.2.2.2.2.2.2.2.2.2.2.2.2.2.2.1, hv.2.2.2.2.2.2.2.2.2.2.2.2.2.2.2.2.2.1, hv.2.2.2.2.2.2.2.2.2.2.2.2.2.2.2.2.2.2.1, hv.2.2.2.2.2.2.2.2.2.2.2.2.2.2.2.2.2.2.2.1, hv.2.2.2.2.2.2.2.2.2.2.2.2.2.2.2.2.2.2.2.2.1, hv.2.2.2.2.2.2.2.2.2.2.2.2.2.2.2.2.2.2.2.2.2.1, trivial⟩, ha, hw⟩
      · intro D σ w hD hdep hJ
        obtain ⟨v23, v25, hv, ha, hw⟩ := hJ
        have ha2 : agree σ [(43, (.bool ((x24 != x26) || (x5.2.2 != x8.2.2)))), (46, (cv (true && (((x24 != x26) || (x5.2.2 != x8.2.2)) == false)) (.bool (!x5.1.eqb x8.1)))), (0, v0), (4, (.pointer (some ⟨b1, 0, none⟩))), (7, (str x5.1)), (8, (.bool x5.2.1)), (9, (.int .i64 x5.2.2)), (10, (str x8.1)), (11, (.bool x8.2.1)), (12, (.int .i64 x8.2.2))] := ⟨hv.2.2.2.2.2.2.2.2.2.2.2.2.1 (hdep.1 rfl), hv.2.2.2.2.2.2.2.2.2.2.2.2.2.2.2.1 (hdep.2.1 rfl), ha.1, ha.2.1, ha.2.2.1, ha.2.2.2.1, ha.2.2.2.2.1, ha.2.2.2.2.2.1, ha.2.2.2.2.2.2.1, ha.2.2.2.2.2.2.2.1, trivial⟩
        obtain ⟨τ, rfl⟩ := ha2.ups
        refine RL.pick (b := ((x24 != x26) || (x5.2.2 != x8.2.2))) (v := (.bool (((x24 != x26) || (x5.2.2 != x8.2.2)) || (!x5.1.eqb x8.1)))) trivial rfl rfl (pk_or (c := true) rfl) ?_
        refine RL.nil ?_
        exact ⟨rfl, v23, v25, ⟨hv.1, hv.2.1, hv.2.2.1, hv.2.2.2.1, hv.2.2.2.2.1, hv.2.2.2.2.2.1, hv.2.2.2.2.2.2.1, hv.2.2.2.2.2.2.2.1, hv.2.2.2.2.2.2.2.2.1, hv.2.2.2.2.2.2.2.2.2.1, hv.2.2.2.2.2.2.2.2.2.2.1, hv.2.2.2.2.2.2.2.2.2.2.2.1, hv.2.2.2.2.2.2.2.2.2.2.2.2.1, hv.2.2.2.2.2.2.2.2.2.2.2.2.2.1, hv.2.2.2.2.2.2.2.2.2.2.2.2.2.2.1, hv.2.2.2.2.2.2.2.2.2.2.2.2.2.2.2.1, fun _ => rfl, hv.2.2.2.2.2.2.2.2.2.2.2.2.2.2.2.2.2.1, hv.2.2.2.2.2.2.2.2.2.2.2.2.2.2.2.2.2.2.1, hv.2.2.2.2.2.2.2.2.2.2.2.2.2.2.2.2.2.2.2.1, hv.2.2.2.2.2.2.2.2.2.2.2.2.2.2.2.2.2.2.2.2.1, hv.2.2.2.2.2.2.2.2.2.2.2.2.2.2.2.2.2.2.2.2.2.1, trivial⟩, ha, hw⟩
      · intro D σ w hD hdep hJ
        obtain ⟨v23, v25, hv, ha, hw⟩ := hJ
        have ha2 : agree σ [(47, (.bool (((x24 != x26) || (x5.2.2 != x8.2.2)) || (!x5.1.eqb x8.1)))), (43, (.bool ((x24 != x26) || (x5.2.2 != x8.2.2)))), (0, v0), (4, (.pointer (some ⟨b1, 0, none⟩))), (7, (str x5.1)), (8, (.bool x5.2.1)), (9, (.int .i64 x5.2.2)), (10, (str x8.1)), (11, (.bool x8.2.1)), (12, (.int .i64 x8.2.2))] := ⟨hv.2.2.2.2.2.2.2.2.2.2.2.2.2.2.2.2.1 (hdep.1 rfl), hv.2.2.2.2.2.2.2.2.2.2.2.2.1 (hdep.2.1 rfl), ha.1, ha.2.1, ha.2.2.1, ha.2.2.2.1, ha.2.2.2.2.1, ha.2.2.2.2.2.1, ha.2.2.2.2.2.2.1, ha.2.2.2.2.2.2.2.1, trivial⟩
        obtain ⟨τ, rfl⟩ := ha2.ups
        refine RL.move (v := (.bool (((x24 != x26) || (x5.2.2 != x8.2.2)) || (!x5.1.eqb x8.1)))) trivial rfl rfl ?_
        refine RL.nil ?_
        exact ⟨rfl, v23, v25, ⟨hv.1, hv.2.1, hv.2.2.1, hv.2.2.2.1, hv.2.2.2.2.1, hv.2.2.2.2.2.1, hv.2.2.2.2.2.2.1, hv.2.2.2.2.2.2.2.1, hv.2.2.2.2.2.2.2.2.1, hv.2.2.2.2.2.2.2.2.2.1, hv.2.2.2.2.2.2.2.2.2.2.1, hv.2.2.2.2.2.2.2.2.2.2.2.1, hv.2.2.2.2.2.2.2.2.2.2.2.2.1, hv.2.2.2.2.2.2.2.2.2.2.2.2.2.1, hv.2.2.2.2.2.2.2.2.2.2.2.2.2.2.1, hv.2.2.2.2.2.2.2.2.2.2.2.2.2.2.2.1, hv.2.2.2.2.2.2.2.2.2.2.2.2.2.2.2.2.1, fun _ => rfl, hv.2.2.2.2.2.2.2.2.2.2.2.2.2.2.2.2.2.2.1, hv.2.2.2.2.2.2.2.2.2.2.2.2.2.2.2.2.2.2.2.1, hv.2.2.2.2.2.2.2.2.2.2.2.2.2.2.2.2.2.2.2.2.1, hv.2.2.2.2.2.2.2.2.2.2.2.2.2.2.2.2.2.2.2.2.2.1, trivial⟩, ha, hw⟩
      · intro D σ w hD hdep hJ
        obtain ⟨v23, v25, hv, ha, hw⟩ := hJ
        have ha2 : agree σ [(48, (.bool (((x24 != x26) || (x5.2.2 != x8.2.2)) || (!x5.1.eqb x8.1)))), (0, v0), (4, (.pointer (some ⟨b1, 0, none⟩))), (7, (str x5.1)), (8, (.bool x5.2.1)), (9, (.int .i64 x5.2.2)), (10, (str x8.1)), (11, (.bool x8.2.1)), (12, (.int .i64 x8.2.2))] := ⟨hv.2.2.2.2.2.2.2.2.2.2.2.2.2.2.2.2.2.1 (hdep.1 rfl), ha.1, ha.2.1, ha.2.2.1, ha.2.2.2.1, ha.2.2.2.2.1, ha.2.2.2.2.2.1, ha.2.2.2.2.2.2.1, ha.2.2.2.2.2.2.2.1, trivial⟩
        obtain ⟨τ, rfl⟩ := ha2.ups
        refine RL.skip rfl (.inl (congrArg Value.bool hg27)) rfl ?_
        refine RL.nil ?_
        exact ⟨rfl, v23, v25, ⟨hv.1, hv.2.1, hv.2.2.1, hv.2.2.2.1, hv.2.2.2.2.1, hv.2.2.2.2.2.1, hv.2.2.2.2.2.2.1, hv.2.2.2.2.2.2.2.1, hv.2.2.2.2.2.2.2.2.1, hv.2.2.2.2.2.2.2.2.2.1, hv.2.2.2.2.2.2.2.2.2.2.1, hv.2.2.2.2.2.2.2.2.2.2.2.1, hv.2.2.2.2.2.2.2.2.2.2.2.2.1, hv.2.2.2.2.2.2.2.2.2.2.2.2.2.1, hv.2.2.2.2.2.2.2.2.2.2.2.2.2.2.1, hv.2.2.2.2.2.2.2.2.2.2.2.2.2.2.2.1, hv.2.2.2.2.2.2.2.2.2.2.2.2.2.2.2.2.1, hv.2.2.2.2.2.2.2.2.2.2.2.2.2.2.2.2.2.1, fun _ => rfl, hv.2.2.2.2.2.2.2.2.2.2.2.2.2.2.2.2.2.2.2.1, hv.2.2.2.2.2.2.2.2.2.2.2.2.2.2.2.2.2.2.2.2.1, hv.2.2.2.2.2.2.2.2.2.2.2.2.2.2.2.2.2.2.2.2.2.1, trivial⟩, ha, hw⟩
      · intro D σ w hD hdep hJ
        obtain ⟨v23, v25, hv, ha, hw⟩ := hJ
        have ha2 : agree σ [(48, (.bool (((x24 != x26) || (x5.2.2 != x8.2.2)) || (!x5.1.eqb x8.1)))), (0, v0), (4, (.pointer (some ⟨b1, 0, none⟩))), (7, (str x5.1)), (8, (.bool x5.2.1)), (9, (.int .i64 x5.2.2)), (10, (str x8.1)), (11, (.bool x8.2.1)), (12, (.int .i64 x8.2.2))] := ⟨hv.2.2.2.2.2.2.2.2.2.2.2.2.2.2.2.2.2.1 (hdep.1 rfl), ha.1, ha.2.1, ha.2.2.1, ha.2.2.2.1, ha.2.2.2.2.1, ha.2.2.2.2.2.1, ha.2.2.2.2.2.2.1, ha.2.2.2.2.2.2.2.1, trivial⟩
        obtain ⟨τ, rfl⟩ := ha2.ups
        refine RL.skip rfl (.inl (congrArg Value.bool hg27)) rfl ?_
        refine RL.nil ?_
        exact ⟨rfl, v23, v25, ⟨hv.1, hv.2.1, hv.2.2.1, hv.2.2.2.1, hv.2.2.2.2.1, hv.2.2.2.2.2.1, hv.2.2.2.2.2.2.1, hv.2.2.2.2.2.2.2.1, hv.2.2.2.2.2.2.2.2.1, hv.2.2.2.2.2.2.2.2.2.1, hv.2.2.2.2.2.2.2.2.2.2.1, hv.2.2.2.2.2.2.2.2.2.2.2.1, hv.2.2.2.2.2.2.2.2.2.2.2.2.1, hv.2.2.2.2.2.2.2.2.2.2.2.2.2.1, hv.2.2.2.2.2.2.2.2.2.2.2.2.2.2.1, hv.2.2.2.2.2.2.2.2.2.2.2.2.2.2.2.1, hv.2.2.2.2.2.2.2.2.2.2.2.2.2.2.2.2.1, hv.2.2.2.2.2.2.2.2.2.2.2.2.2.2.2.2.2.1, hv.2.2.2.2.2.2.2.2.2.2.2.2.2.2.2.2.2.2.1, fun _ => rfl, hv.2.2.2.2.2.2.2.2.2.2.2.2.2.2.2.2.2.2.2.2.1, hv.2.2.2.2.2.2.2.2.2.2.2.2.2.2.2.2.2.2.2.2.2.1, trivial⟩, ha, hw⟩
      · intro D σ w hD hdep hJ
        obtain ⟨v23, v25, hv, ha, hw⟩ := hJ
        have ha2 : agree σ [(49, undef), (50, undef), (48, (.bool (((x24 != x26) || (x5.2.2 != x8.2.2)) || (!x5.1.eqb x8.1)))), (0, v0), (4, (.pointer (some ⟨b1, 0, none⟩))), (7, (str x5.1)), (8, (.bool x5.2.1)), (9, (.int .i64 x5.2.2)), (10, (str x8.1)), (11, (.bool x8.2.1)), (12, (.int .i64 x8.2.2))] := ⟨hv.2.2.2.2.2.2.2.2.2.2.2.2.2.2.2.2.2.2.1 (hdep.1 rfl), hv.2.2.2.2.2.2.2.2.2.2.2.2.2.2.2.2.2.2.2.1 (hdep.2.1 rfl), hv.2.2.2.2.2.2.2.2.2.2.2.2.2.2.2.2.2.1 (hdep.2.2.1 rfl), ha.1, ha.2.1, ha.2.2.1, ha.2.2.2.1, ha.2.2.2.2.1, ha.2.2.2.2.2.1, ha.2.2.2.2.2.2.1, ha.2.2.2.2.2.2.2.1, trivial⟩
        obtain ⟨τ, rfl⟩ := ha2.ups
        refine RL.skip rfl (.inl (congrArg Value.bool hg27)) rfl ?_
        refine RL.nil ?_
        exact ⟨rfl, v23, v25, ⟨hv.1, hv.2.1, hv.2.2.1, hv.2.2.2.1, hv.2.2.2.2.1, hv.2.2.2.2.2.1, hv.2.2.2.2.2.2.1, hv.2.2.2.2.2.2.2.1, hv.2.2.2.2.2.2.2.2.1, hv.2.2.2.2.2.2.2.2.2.1, hv.2.2.2.2.2.2.2.2.2.2.1, hv.2.2.2.2.2.2.2.2.2.2.2.1, hv.2.2.2.2.2.2.2.2.2.2.2.2.1, hv.2.2.2.2.2.2.2.2.2.2.2.2.2.1, hv.2.2.2.2.2.2.2.2.2.2.2.2.2.2.1, hv.2.2.2.2.2.2.2.2.2.2.2.2.2.2.2.1, hv.2.2.2.2.2.2.2.2.2.2.2.2.2.2.2.2.1, hv.2.2.2.2.2.2.2.2.2.2.2.2.2.2.2.2.2.1, hv.2.2.2.2.2.2.2.2.2.2.2.2.2.2.2.2.2.2.1, hv.2.2.2.2.2.2.2.2.2.2.2.2.2.2.2.2.2.2.2.1, fun _ => rfl, hv.2.2.2.2.2.2.2.2.2.2.2.2.2.2.2.2.2.2.2.2.2.1, trivial⟩, ha, hw⟩
      · intro D σ w hD hdep hJ
        obtain ⟨v23, v25, hv, ha, hw⟩ := hJ
        have ha2 : agree σ [(48, (.bool (((x24 != x26) || (x5.2.2 != x8.2.2)) || (!x5.1.eqb x8.1)))), (51, undef), (0, v0), (4, (.pointer (some ⟨b1, 0, none⟩))), (7, (str x5.1)), (8, (.bool x5.2.1)), (9, (.int .i64 x5.2.2)), (10, (str x8.1)), (11, (.bool x8.2.1)), (12, (.int .i64 x8.2.2))] := ⟨hv.2.2.2.2.2.2.2.2.2.2.2.2.2.2.2.2.2.1 (hdep.1 rfl), hv.2.2.2.2.2.2.2.2.2.2.2.2.2.2.2.2.2.2.2.2.1 (hdep.2.1 rfl), ha.1, ha.2.1, ha.2.2.1, ha.2.2.2.1, ha.2.2.2.2.1, ha.2.2.2.2.2.1, ha.2.2.2.2.2.2.1, ha.2.2.2.2.2.2.2.1, trivial⟩
        obtain ⟨τ, rfl⟩ := ha2.ups
        refine RL.pick (b := (((x24 != x26) || (x5.2.2 != x8.2.2)) || (!x5.1.eqb x8.1))) (v := (.bool true)) trivial rfl rfl (by rw [hg27]; rfl) ?_
        refine RL.nil ?_
        exact ⟨rfl, v23, v25, ⟨hv.1, hv.2.1, hv.2.2.1, hv.2.2.2.1, hv.2.2.2.2.1, hv.2.2.2.2.2.1, hv.2.2.2.2.2.2.1, hv.2.2.2.2.2.2.2.1, hv.2.2.2.2.2.2.2.2.1, hv.2.2.2.2.2.2.2.2.2.1, hv.2.2.2.2.2.2.2.2.2.2.1, hv.2.2.2.2.2.2.2.2.2.2.2.1, hv.2.2.2.2.2.2.2.2.2.2.2.2.1, hv.2.2.2.2.2.2.2.2.2.2.2.2.2.1, hv.2.2.2.2.2.2.2.2.2.2.2.2.2.2.1, hv.2.2.2.2.2.2.2.2.2.2.2.2.2.2.2.1, hv.2.2.2.2.2.2.2.2.2.2.2.2.2.2.2.2.1, hv.2.2.2.2.2.2.2.2.2.2.2.2.2.2.2.2.2.1, hv.2.2.2.2.2.2.2.2.2.2.2.2.2.2.2.2.2.2.1, hv.2.2.2.2.2.2.2.2.2.2.2.2.2.2.2.2.2.2.2.1, hv.2.2.2.2.2.2.2.2.2.2.2.2.2.2.2.2.2.2.2.2.1, fun _ => rfl, trivial⟩, ha, hw⟩
      intro D σ w hall hJ
      obtain ⟨v23, v25, hv, ha, hw⟩ := hJ
      rw [hall 1 (by decide)] at hw
      rw [hall 4 (by decide)] at hw
      have ha2 : agree σ [(52, (.bool true)), (0, v0), (4, (.pointer (some ⟨b1, 0, none⟩))), (7, (str x5.1)), (8, (.bool x5.2.1)), (9, (.int .i64 x5.2.2)), (10, (str x8.1)), (11, (.bool x8.2.1)), (12, (.int .i64 x8.2.2))] := ⟨hv.2.2.2.2.2.2.2.2.2.2.2.2.2.2.2.2.2.2.2.2.2.1 (hall 21 (by decide)), ha.1, ha.2.1, ha.2.2.1, ha.2.2.2.1, ha.2.2.2.2.1, ha.2.2.2.2.2.1, ha.2.2.2.2.2.2.1, ha.2.2.2.2.2.2.2.1, trivial⟩
      obtain ⟨τ, rfl⟩ := ha2.ups
      injection hj with hj; subst hj
      exact ⟨rfl, ⟨rfl, rfl, rfl, trivial⟩, hw.pick 11 [10, 7] (new := [rd v0 p0, bx 26 b1 p1]) rfl rfl (by decide) (by decide)⟩
    replace hj := cF hg27 hj
    refine RC.draw mixed rfl (fun (D : Nat → Bool) (σ : Nat → Value) (w : World) => ∃ v23 v25 : Value, doneV D σ [(0, 31, v0), (1, 32, v23), (2, 33, (.int .i64 x24)), (3, 34, v0), (4, 35, v25), (5, 36, (.int .i64 x26)), (6, 37, (.bool (x24 != x26))), (7, 38, (.bool (x24 != x26))), (8, 39, (cv (true && ((x24 != x26) == false)) (.int .i64 x5.2.2))), (9, 40, (cv (true && ((x24 != x26) == false)) (.int .i64 x8.2.2))), (10, 41, (cv (true && ((x24 != x26) == false)) (.bool (x5.2.2 != x8.2.2)))), (11, 42, (.bool ((x24 != x26) || (x5.2.2 != x8.2.2)))), (12, 43, (.bool ((x24 != x26) || (x5.2.2 != x8.2.2)))), (13, 44, (cv (true && (((x24 != x26) || (x5.2.2 != x8.2.2)) == false)) (str x5.1))), (14, 45, (cv (true && (((x24 != x26) || (x5.2.2 != x8.2.2)) == false)) (str x8.1))), (15, 46, (cv (true && (((x24 != x26) || (x5.2.2 != x8.2.2)) == false)) (.bool (!x5.1.eqb x8.1)))), (16, 47, (.bool (((x24 != x26) || (x5.2.2 != x8.2.2)) || (!x5.1.eqb x8.1)))), (17, 48, (.bool (((x24 != x26) || (x5.2.2 != x8.2.2)) || (!x5.1.eqb x8.1)))), (18, 49, (.bool x5.2.1)), (19, 50, (.bool x8.2.1)), (20, 51, (.bool (x5.2.1 != x8.2.1))), (21, 52, (.bool (x5.2.1 != x8.2.1)))] ∧ agree σ [(0, v0), (4, (.pointer (some ⟨b1, 0, none⟩))), (7, (str x5.1)), (8, (.bool x5.2.1)), (9, (.int .i64 x5.2.2)), (10, (str x8.1)), (11, (.bool x8.2.1)), (12, (.int .i64 x8.2.2))] ∧ Holds E w ([bif D 1 then (rd v23 p1) else junk, bif D 4 then (rd v25 p1) else junk, rd v7 p2, rd v6 p1, rd v4 p2, rd v3 p1, bx 28 b2 p2, bx 26 b1 p1, rd v2 p2, rd v1 p1, rd v0 p0] ++ Γ)) ?_ ⟨?_, ?_, ?_, ?_, ?_, ?_, ?_, ?_, ?_, ?_, ?_, ?_, ?_, ?_, ?_, ?_, ?_, ?_, ?_, ?_, ?_, ?_, trivial⟩ ?_
    · have hw := hw.drew
      have hw := hw.junk
      have hw := hw.junk
      exact ⟨undef, undef, ⟨(fun h => by cases h), (fun h => by cases h), (fun h => by cases h), (fun h => by cases h), (fun h => by cases h), (fun h => by cases h), (fun h => by cases h), (fun h => by cases h), (fun h => by cases h), (fun h => by cases h), (fun h => by cases h), (fun h => by cases h), (fun h => by cases h), (fun h => by cases h), (fun h => by cases h), (fun h => by cases h), (fun h => by cases h), (fun h => by cases h), (fun h => by cases h), (fun h => by cases h), (fun h => by cases h), (fun h => by cases h), trivial⟩, ⟨rfl, rfl, rfl, rfl, rfl, rfl, rfl, rfl, trivial⟩, hw⟩
    · intro D σ w hD hdep hJ
      obtain ⟨v23, v25, hv, ha, hw⟩ := hJ
      have ha2 : agree σ [(0, v0), (4, (.pointer (some ⟨b1, 0, none⟩))), (7, (str x5.1)), (8, (.bool x5.2.1)), (9, (.int .i64 x5.2.2)), (10, (str x8.1)), (11, (.bool x8.2.1)), (12, (.int .i64 x8.2.2))] := ⟨ha.1, ha.2.1, ha.2.2.1, ha.2.2.2.1, ha.2.2.2.2.1, ha.2.2.2.2.2.1, ha.2.2.2.2.2.2.1, ha.2.2.2.2.2.2.2.1, trivial⟩
      obtain ⟨τ, rfl⟩ := ha2.ups
      refine RL.move (v := v0) trivial rfl rfl ?_
      refine RL.nil ?_
      exact ⟨rfl, v23, v25, ⟨fun _ => rfl, hv.2.1, hv.2.2.1, hv.2.2.2.1, hv.2.2.2.2.1, hv.2.2.2.2.2.1, hv.2.2.2.2.2.2.1, hv.2.2.2.2.2.2.2.1, hv.2.2.2.2.2.2.2.2.1, hv.2.2.2.2.2.2.2.2.2.1, hv.2.2.2.2.2.2.2.2.2.2.1, hv.2.2.2.2.2.2.2.2.2.2.2.1, hv.2.2.2.2.2.2.2.2.2.2.2.2.1, hv.2.2.2.2.2.2.2.2.2.2.2.2.2.1, hv.2.2.2.2.2.2.2.2.2.2.2.2.2.2.1, hv.2.2.2.2.2.2.2.2.2.2.2.2.2.2.2.1, hv.2.2.2.2.2.2.2.2.2.2.2.2.2.2.2.2.1, hv.2.2.2.2.2.2.2.2.2.2.2.2.2.2.2.2.2.1, hv.2.2.2.2.2.2.2.2.2.2.2.2.2.2.2.2.2.2.1, hv.2.2.2.2.2.2.2.2.2.2.2.2.2.2.2.2.2.2.2.1, hv.2.2.2.2.2.2.2.2.2.2.2.2.2.2.2.2.2.2.2.2.1, hv.2.2.2.2.2.2.2.2.2.2.2.2.2.2.2.2.2.2.2.2.2.1, trivial⟩, ha, hw⟩
    · intro D σ w hD hdep hJ
      obtain ⟨v23, v25, hv, ha, hw⟩ := hJ
      have ha2 : agree σ [(0, v0), (4, (.pointer (some ⟨b1, 0, none⟩))), (7, (str x5.1)), (8, (.bool x5.2.1)), (9, (.int .i64 x5.2.2)), (10, (str x8.1)), (11, (.bool x8.2.1)), (12, (.int .i64 x8.2.2))] := ⟨ha.1, ha.2.1, ha.2.2.1, ha.2.2.2.1, ha.2.2.2.2.1, ha.2.2.2.2.2.1, ha.2.2.2.2.2.2.1, ha.2.2.2.2.2.2.2.1, trivial⟩
      obtain ⟨τ, rfl⟩ := ha2.ups
      refine RL.load_bf (i := 7) (f := (fun x => x)) trivial rfl hw rfl rfl Fd.self ty26 fun v30 hw => ?_
      have hw := hw.fillat 0 1 0 rfl rfl rfl (by simp)
      refine RL.nil ?_
      exact ⟨rfl, v30, v25, ⟨hv.1, fun _ => rfl, hv.2.2.1, hv.2.2.2.1, hv.2.2.2.2.1, hv.2.2.2.2.2.1, hv.2.2.2.2.2.2.1, hv.2.2.2.2.2.2.2.1, hv.2.2.2.2.2.2.2.2.1, hv.2.2.2.2.2.2.2.2.2.1, hv.2.2.2.2.2.2.2.2.2.2.1, hv.2.2.2.2.2.2.2.2.2.2.2.1, hv.2.2.2.2.2.2.2.2.2.2.2.2.1, hv.2.2.2.2.2.2.2.2.2.2.2.2.2.1, hv.2.2.2.2.2.2.2.2.2.2.2.2.2.2.1, hv.2.2.2.2.2.2.2.2.2.2.2.2.2.2.2.1, hv.2.2.2.2.2.2.2.2.2.2.2.2.2.2.2.2.1, hv.2.2.2.2.2.2.2.2.2.2.2.2.2.2.2.2.2.1, hv.2.2.2.2.2.2.2.2.2.2.2.2.2.2.2.2.2.2.1, hv.2.2.2.2.2.2.2.2.2.2.2.2.2.2.2.2.2.2.2.1, hv.2.2.2.2.2.2.2.2.2.2.2.2.2.2.2.2.2.2.2.2.1, hv.2.2.2.2.2.2.2.2.2.2.2.2.2.2.2.2.2.2.2.2.2.1, trivial⟩, ha, hw⟩
    · intro D σ w hD hdep hJ
      obtain ⟨v23, v25, hv, ha, hw⟩ := hJ
      have ha2 : agree σ [(31, v0), (32, v23), (0, v0), (4, (.pointer (some ⟨b1, 0, none⟩))), (7, (str x5.1)), (8, (.bool x5.2.1)), (9, (.int .i64 x5.2.2)), (10, (str x8.1)), (11, (.bool x8.2.1)), (12, (.int .i64 x8.2.2))] := ⟨hv.1 (hdep.1 rfl), hv.2.1 (hdep.2.1 rfl), ha.1, ha.2.1, ha.2.2.1, ha.2.2.2.1, ha.2.2.2.2.1, ha.2.2.2.2.2.1, ha.2.2.2.2.2.2.1, ha.2.2.2.2.2.2.2.1, trivial⟩
      obtain ⟨τ, rfl⟩ := ha2.ups
      refine RL.call trivial rfl fn13 [v0, v23] rfl (Calls_ret (netlist_CheckList_ok N  (i0 := 10) (i1 := 0) hw rfl (ent_t (hdep.2.1 rfl)) hx24) ?_)
      rintro _ w ⟨rfl, hw⟩
      refine RL.nil ?_
      exact ⟨rfl, v23, v25, ⟨hv.1, hv.2.1, fun _ => rfl, hv.2.2.2.1, hv.2.2.2.2.1, hv.2.2.2.2.2.1, hv.2.2.2.2.2.2.1, hv.2.2.2.2.2.2.2.1, hv.2.2.2.2.2.2.2.2.1, hv.2.2.2.2.2.2.2.2.2.1, hv.2.2.2.2.2.2.2.2.2.2.1, hv.2.2.2.2.2.2.2.2.2.2.2.1, hv.2.2.2.2.2.2.2.2.2.2.2.2.1, hv.2.2.2.2.2.2.2.2.2.2.2.2.2.1, hv.2.2.2.2.2.2.2.2.2.2.2.2.2.2.1, hv.2.2.2.2.2.2.2.2.2.2.2.2.2.2.2.1, hv.2.2.2.2.2.2.2.2.2.2.2.2.2.2.2.2.1, hv.2.2.2.2.2.2.2.2.2.2.2.2.2.2.2.2.2.1, hv.2.2.2.2.2.2.2.2.2.2.2.2.2.2.2.2.2.2.1, hv.2.2.2.2.2.2.2.2.2.2.2.2.2.2.2.2.2.2.2.1, hv.2.2.2.2.2.2.2.2.2.2.2.2.2.2.2.2.2.2.2.2.1, hv.2.2.2.2.2.2.2.2.2.2.2.2.2.2.2.2.2.2.2.2.2.1, trivial⟩, ha, hw⟩
    · intro D σ w hD hdep hJ
      obtain ⟨v23, v25, hv, ha, hw⟩ := hJ
      have ha2 : agree σ [(0, v0), (4, (.pointer (some ⟨b1, 0, none⟩))), (7, (str x5.1)), (8, (.bool x5.2.1)), (9, (.int .i64 x5.2.2)), (10, (str x8.1)), (11, (.bool x8.2.1)), (12, (.int .i64 x8.2.2))] := ⟨ha.1, ha.2.1, ha.2.2.1, ha.2.2.2.1, ha.2.2.2.2.1, ha.2.2.2.2.2.1, ha.2.2.2.2.2.2.1, ha.2.2.2.2.2.2.2.1, trivial⟩
      obtain ⟨τ, rfl⟩ := ha2.ups
      refine RL.move (v := v0) trivial rfl rfl ?_
      refine RL.nil ?_
      exact ⟨rfl, v23, v25, ⟨hv.1, hv.2.1, hv.2.2.1, fun _ => rfl, hv.2.2.2.2.1, hv.2.2.2.2.2.1, hv.2.2.2.2.2.2.1, hv.2.2.2.2.2.2.2.1, hv.2.2.2.2.2.2.2.2.1, hv.2.2.2.2.2.2.2.2.2.1, hv.2.2.2.2.2.2.2.2.2.2.1, hv.2.2.2.2.2.2.2.2.2.2.2.1, hv.2.2.2.2.2.2.2.2.2.2.2.2.1, hv.2.2.2.2.2.2.2.2.2.2.2.2.2.1, hv.2.2.2.2.2.2.2.2.2.2.2.2.2.2.1, hv.2.2.2.2.2.2.2.2.2.2.2.2.2.2.2.1, hv.2.2.2.2.2.2.2.2.2.2.2.2.2.2.2.2.1, hv.2.2.2.2.2.2.2.2.2.2.2.2.2.2.2.2.2.1, hv.2.2.2.2.2.2.2.2.2.2.2.2.2.2.2.2.2.2.1, hv.2.2.2.2.2.2.2.2.2.2.2.2.2.2.2.2.2.2.2.1, hv.2.2.2.2.2.2.2.2.2.2.2.2.2.2.2.2.2.2.2.2.1, hv.2.2.2.2.2.2.2.2.2.2.2.2.2.2.2.2.2.2.2.2.2.1, trivial⟩, ha, hw⟩
    · intro D σ w hD hdep hJ
      obtain ⟨v23, v25, hv, ha, hw⟩ := hJ
      have ha2 : agree σ [(0, v0), (4, (.pointer (some ⟨b1, 0, none⟩))), (7, (str x5.1)), (8, (.bool x5.2.1)), (9, (.int .i64 x5.2.2)), (10, (str x8.1)), (11, (.bool x8.2.1)), (12, (.int .i64 x8.2.2))] := ⟨ha.1, ha.2.1, ha.2.2.1, ha.2.2.2.1, ha.2.2.2.2.1, ha.2.2.2.2.2.1, ha.2.2.2.2.2.2.1, ha.2.2.2.2.2.2.2.1, trivial⟩
      obtain ⟨τ, rfl⟩ := ha2.ups
      refine RL.load_bf (i := 7) (f := (fun x => x)) trivial rfl hw rfl rfl Fd.self ty26 fun v31 hw => ?_
      have hw := hw.fillat 0 1 1 rfl rfl rfl (by simp)
      refine RL.nil ?_
      exact ⟨rfl, v23, v31, ⟨hv.1, hv.2.1, hv.2.2.1, hv.2.2.2.1, fun _ => rfl, hv.2.2.2.2.2.1, hv.2.2.2.2.2.2.1, hv.2.2.2.2.2.2.2.1, hv.2.2.2.2.2.2.2.2.1, hv.2.2.2.2.2.2.2.2.2.1, hv.2.2.2.2.2.2.2.2.2.2.1, hv.2.2.2.2.2.2.2.2.2.2.2.1, hv.2.2.2.2.2.2.2.2.2.2.2.2.1, hv.2.2.2.2.2.2.2.2.2.2.2.2.2.1, hv.2.2.2.2.2.2.2.2.2.2.2.2.2.2.1, hv.2.2.2.2.2.2.2.2.2.2.2.2.2.2.2.1, hv.2.2.2.2.2.2.2.2.2.2.2.2.2.2.2.2.1, hv.2.2.2.2.2.2.2.2.2.2.2.2.2.2.2.2.2.1, hv.2.2.2.2.2.2.2.2.2.2.2.2.2.2.2.2.2.2.1, hv.2.2.2.2.2.2.2.2.2.2.2.2.2.2.2.2.2.2.2.1, hv.2.2.2.2.2.2.2.2.2.2.2.2.2.2.2.2.2.2.2.2.1, hv.2.2.2.2.2.2.2.2.2.2.2.2.2.2.2.2.2.2.2.2.2.1, trivial⟩, ha, hw⟩
    · intro D σ w hD hdep hJ
      obtain ⟨v23, v25, hv, ha, hw⟩ := hJ
      have ha2 : agree σ [(34, v0), (35, v25), (33, (.int .i64 x24)), (0, v0), (4, (.pointer (some ⟨b1, 0, none⟩))), (7, (str x5.1)), (8, (.bool x5.2.1)), (9, (.int .i64 x5.2.2)), (10, (str x8.1)), (11, (.bool x8.2.1)), (12, (.int .i64 x8.2.2))] := ⟨hv.2.2.2.1 (hdep.1 rfl), hv.2.2.2.2.1 (hdep.2.1 rfl), hv.2.2.1 (hdep.2.2.1 rfl), ha.1, ha.2.1, ha.2.2.1, ha.2.2.2.1, ha.2.2.2.2.1, ha.2.2.2.2.2.1, ha.2.2.2.2.2.2.1, ha.2.2.2.2.2.2.2.1, trivial⟩
      obtain ⟨τ, rfl⟩ := ha2.ups
      refine RL.call trivial rfl fn14 [v0, v25] rfl (Calls_ret (etchhouseref2_CheckList_ok N  (i0 := 10) (i1 := 1) hw rfl (ent_t (hdep.2.1 rfl)) hx26) ?_)
      rintro _ w ⟨rfl, hw⟩
      refine RL.nil ?_
      exact ⟨rfl, v23, v25, ⟨hv.1, hv.2.1, hv.2.2.1, hv.2.2.2.1, hv.2.2.2.2.1, fun _ => rfl, hv.2.2.2.2.2.2.1, hv.2.2.2.2.2.2.2.1, hv.2.2.2.2.2.2.2.2.1, hv.2.2.2.2.2.2.2.2.2.1, hv.2.2.2.2.2.2.2.2.2.2.1, hv.2.2.2.2.2.2.2.2.2.2.2.1, hv.2.2.2.2.2.2.2.2.2.2.2.2.1, hv.2.2.2.2.2.2.2.2.2.2.2.2.2.1, hv.2.2.2.2.2.2.2.2.2.2.2.2.2.2.1, hv.2.2.2.2.2.2.2.2.2.2.2.2.2.2.2.1, hv.2.2.2.2.2.2.2.2.2.2.2.2.2.2.2.2.1, hv.2.2.2.2.2.2.2.2.2.2.2.2.2.2.2.2.2.1, hv.2.2.2.2.2.2.2.2.2.2.2.2.2.2.2.2.2.2.1, hv.2.2.2.2.2.2.2.2.2.2.2.2.2.2.2.2.2.2.2.1, hv.2.2.2.2.2.2.2.2.2.2.2.2.2.2.2.2.2.2.2.2.1, hv.2.2.2.2.2.2.2.2.2.2.2.2.2.2.2.2.2.2.2.2.2.1, trivial⟩, ha, hw⟩
    · intro D σ w hD hdep hJ
      obtain ⟨v23, v25, hv, ha, hw⟩ := hJ
      have ha2 : agree σ [(33, (.int .i64 x24)), (36, (.int .i64 x26)), (0, v0), (4, (.pointer (some ⟨b1, 0, none⟩))), (7, (str x5.1)), (8, (.bool x5.2.1)), (9, (.int .i64 x5.2.2)), (10, (str x8.1)), (11, (.bool x8.2.1)), (12, (.int .i64 x8.2.2))] := ⟨hv.2.2.1 (hdep.1 rfl), hv.2.2.2.2.2.1 (hdep.2.1 rfl), ha.1, ha.2.1, ha.2.2.1, ha.2.2.2.1, ha.2.2.2.2.1, ha.2.2.2.2.2.1, ha.2.2.2.2.2.2.1, ha.2.2.2.2.2.2.2.1, trivial⟩
      obtain ⟨τ, rfl⟩ := ha2.ups
      refine RL.icmp (a := x24) (b := x26) trivial rfl rfl rfl rfl ?_
      refine RL.nil ?_
      exact ⟨rfl, v23, v25, ⟨hv.1, hv.2.1, hv.2.2.1, hv.2.2.2.1, hv.2.2.2.2.1, hv.2.2.2.2.2.1, fun _ => rfl, hv.2.2.2.2.2.2.2.1, hv.2.2.2.2.2.2.2.2.1, hv.2.2.2.2.2.2.2.2.2.1, hv.2.2.2.2.2.2.2.2.2.2.1, hv.2.2.2.2.2.2.2.2.2.2.2.1, hv.2.2.2.2.2.2.2.2.2.2.2.2.1, hv.2.2.2.2.2.2.2.2.2.2.2.2.2.1, hv.2.2.2.2.2.2.2.2.2.2.2.2.2.2.1, hv.2.2.2.2.2.2.2.2.2.2.2.2.2.2.2.1, hv.2.2.2.2.2.2.2.2.2.2.2.2.2.2.2.2.1, hv.2.2.2.2.2.2.2.2.2.2.2.2.2.2.2.2.2.1, hv.2.2.2.2.2.2.2.2.2.2.2.2.2.2.2.2.2.2.1, hv.2.2.2.2.2.2.2.2.2.2.2.2.2.2.2.2.2.2.2.1, hv.2.2.2.2.2.2.2.2.2.2.2.2.2.2.2.2.2.2.2.2.1, hv.2.2.2.2.2.2.2.2.2.2.2.2.2.2.2.2.2.2.2.2.2.1, trivial⟩, ha, hw⟩
    · intro D σ w hD hdep hJ
      obtain ⟨v23, v25, hv, ha, hw⟩ := hJ
      have ha2 : agree σ [(37, (.bool (x24 != x26))), (36, (.int .i64 x26)), (0, v0), (4, (.pointer (some ⟨b1, 0, none⟩))), (7, (str x5.1)), (8, (.bool x5.2.1)), (9, (.int .i64 x5.2.2)), (10, (str x8.1)), (11, (.bool x8.2.1)), (12, (.int .i64 x8.2.2))] := ⟨hv.2.2.2.2.2.2.1 (hdep.1 rfl), hv.2.2.2.2.2.1 (hdep.2.1 rfl), ha.1, ha.2.1, ha.2.2.1, ha.2.2.2.1, ha.2.2.2.2.1, ha.2.2.2.2.2.1, ha.2.2.2.2.2.2.1, ha.2.2.2.2.2.2.2.1, trivial⟩
      obtain ⟨τ, rfl⟩ := ha2.ups
      refine RL.move (v := (.bool (x24 != x26))) trivial rfl rfl ?_
      refine RL.nil ?_
      exact ⟨rfl, v23, v25, ⟨hv.1, hv.2.1, hv.2.2.1, hv.2.2.2.1, hv.2.2.2.2.1, hv.2.2.2.2.2.1, hv.2.2.2.2.2.2.1, fun _ => rfl, hv.2.2.2.2.2.2.2.2.1, hv.2.2.2.2.2.2.2.2.2.1, hv.2.2.2.2.2.2.2.2.2.2.1, hv.2.2.2.2.2.2.2.2.2.2.2.1, hv.2.2.2.2.2.2.2.2.2.2.2.2.1, hv.2.2.2.2.2.2.2.2.2.2.2.2.2.1, hv.2.2.2.2.2.2.2.2.2.2.2.2.2.2.1, hv.2.2.2.2.2.2.2.2.2.2.2.2.2.2.2.1, hv.2.2.2.2.2.2.2.2.2.2.2.2.2.2.2.2.1, hv.2.2.2.2.2.2.2.2.2.2.2.2.2.2.2.2.2.1, hv.2.2.2.2.2.2.2.2.2.2.2.2.2.2.2.2.2.2.1, hv.2.2.2.2.2.2.2.2.2.2.2.2.2.2.2.2.2.2.2.1, hv.2.2.2.2.2.2.2.2.2.2.2.2.2.2.2.2.2.2.2.2.1, hv.2.2.2.2.2.2.2.2.2.2.2.2.2.2.2.2.2.2.2.2.2.1, trivial⟩, ha, hw⟩
    · intro D σ w hD hdep hJ
      obtain ⟨v23, v25, hv, ha, hw⟩ := hJ
      have ha2 : agree σ [(38, (.bool (x24 != x26))), (0, v0), (4, (.pointer (some ⟨b1, 0, none⟩))), (7, (str x5.1)), (8, (.bool x5.2.1)), (9, (.int .i64 x5.2.2)), (10, (str x8.1)), (11, (.bool x8.2.1)), (12, (.int .i64 x8.2.2))] := ⟨hv.2.2.2.2.2.2.2.1 (hdep.1 rfl), ha.1, ha.2.1, ha.2.2.1, ha.2.2.2.1, ha.2.2.2.2.1, ha.2.2.2.2.2.1, ha.2.2.2.2.2.2.1, ha.2.2.2.2.2.2.2.1, trivial⟩
      obtain ⟨τ, rfl⟩ := ha2.ups
      refine RL.gs (c := true) (b := (x24 != x26)) (v := (.int .i64 x5.2.2)) rfl rfl rfl (gs_move rfl (fun _ => rfl)) ?_
      refine RL.nil ?_
      exact ⟨rfl, v23, v25, ⟨hv.1, hv.2.1, hv.2.2.1, hv.2.2.2.1, hv.2.2.2.2.1, hv.2.2.2.2.2.1, hv.2.2.2.2.2.2.1, hv.2.2.2.2.2.2.2.1, fun _ => rfl, hv.2.2.2.2.2.2.2.2.2.1, hv.2.2.2.2.2.2.2.2.2.2.1, hv.2.2.2.2.2.2.2.2.2.2.2.1, hv.2.2.2.2.2.2.2.2.2.2.2.2.1, hv.2.2.2.2.2.2.2.2.2.2.2.2.2.1, hv.2.2.2.2.2.2.2.2.2.2.2.2.2.2.1, hv.2.2.2.2.2.2.2.2.2.2.2.2.2.2.2.1, hv.2.2.2.2.2.2.2.2.2.2.2.2.2.2.2.2.1, hv.2.2.2.2.2.2.2.2.2.2.2.2.2.2.2.2.2.1, hv.2.2.2.2.2.2.2.2.2.2.2.2.2.2.2.2.2.2.1, hv.2.2.2.2.2.2.2.2.2.2.2.2.2.2.2.2.2.2.2.1, hv.2.2.2.2.2.2.2.2.2.2.2.2.2.2.2.2.2.2.2.2.1, hv.2.2.2.2.2.2.2.2.2.2.2.2.2.2.2.2.2.2.2.2.2.1, trivial⟩, ha, hw⟩
    · intro D σ w hD hdep hJ
      obtain ⟨v23, v25, hv, ha, hw⟩ := hJ
      have ha2 : agree σ [(38, (.bool (x24 != x26))), (0, v0), (4, (.pointer (some ⟨b1, 0, none⟩))), (7, (str x5.1)), (8, (.bool x5.2.1)), (9, (.int .i64 x5.2.2)), (10, (str x8.1)), (11, (.bool x8.2.1)), (12, (.int .i64 x8.2.2))] := ⟨hv.2.2.2.2.2.2.2.1 (hdep.1 rfl), ha.1, ha.2.1, ha.2.2.1, ha.2.2.2.1, ha.2.2.2.2.1, ha.2.2.2.2.2.1, ha.2.2.2.2.2.2.1, ha.2.2.2.2.2.2.2.1, trivial⟩
      obtain ⟨τ, rfl⟩ := ha2.ups
      refine RL.gs (c := true) (b := (x24 != x26)) (v := (.int .i64 x8.2.2)) rfl rfl rfl (gs_move rfl (fun _ => rfl)) ?_
      refine RL.nil ?_
      exact ⟨rfl, v23, v25, ⟨hv.1, hv.2.1, hv.2.2.1, hv.2.2.2.1, hv.2.2.2.2.1, hv.2.2.2.2.2.1, hv.2.2.2.2.2.2.1, hv.2.2.2.2.2.2.2.1, hv.2.2.2.2.2.2.2.2.1, fun _ => rfl, hv.2.2.2.2.2.2.2.2.2.2.1, hv.2.2.2.2.2.2.2.2.2.2.2.1, hv.2.2.2.2.2.2.2.2.2.2.2.2.1, hv.2.2.2.2.2.2.2.2.2.2.2.2.2.1, hv.2.2.2.2.2.2.2.2.2.2.2.2.2.2.1, hv.2.2.2.2.2.2.2.2.2.2.2.2.2.2.2.1, hv.2.2.2.2.2.2.2.2.2.2.2.2.2.2.2.2.1, hv.2.2.2.2.2.2.2.2.2.2.2.2.2.2.2.2.2.1, hv.2.2.2.2.2.2.2.2.2.2.2.2.2.2.2.2.2.2.1, hv.2.2.2.2.2.2.2.2.2.2.2.2.2.2.2.2.2.2.2.1, hv.2.2.2.2.2.2.2.2.2.2.2.2.2.2.2.2.2.2.2.2.1, hv.2.2.2.2.2.2.2.2.2.2.2.2.2.2.2.2.2.2.2.2.2.1, trivial⟩, ha, hw⟩
    · intro D σ w hD hdep hJ
      obtain ⟨v23, v25, hv, ha, hw⟩ := hJ
      have ha2 : agree σ [(39, (cv (true && ((x24 != x26) == false)) (.int .i64 x5.2.2))), (40, (cv (true && ((x24 != x26) == false)) (.int .i64 x8.2.2))), (38, (.bool (x24 != x26))), (0, v0), (4, (.pointer (some ⟨b1, 0, none⟩))), (7, (str x5.1)), (8, (.bool x5.2.1)), (9, (.int .i64 x5.2.2)), (10, (str x8.1)), (11, (.bool x8.2.1)), (12, (.int .i64 x8.2.2))] := ⟨hv.2.2.2.2.2.2.2.2.1 (hdep.1 rfl), hv.2.2.2.2.2.2.2.2.2.1 (hdep.2.1 rfl), hv.2.2.2.2.2.2.2.1 (hdep.2.2.1 rfl), ha.1, ha.2.1, ha.2.2.1, ha.2.2.2.1, ha.2.2.2.2.1, ha.2.2.2.2.2.1, ha.2.2.2.2.2.2.1, ha.2.2.2.2.2.2.2.1, trivial⟩
      obtain ⟨τ, rfl⟩ := ha2.ups
      refine RL.gs (c := true) (b := (x24 != x26)) (v := (.bool (x5.2.2 != x8.2.2))) rfl rfl rfl (gs_icmp (bop := .neq) (K := .i64) (a := x5.2.2) (b := x8.2.2) rfl (fun h => by exact (cv_t h : cv (true && ((x24 != x26) == false)) (.int .i64 x5.2.2) = (.int .i64 x5.2.2))) (fun h => by exact (cv_t h : cv (true && ((x24 != x26) == false)) (.int .i64 x8.2.2) = (.int .i64 x8.2.2))) rfl) ?_
      refine RL.nil ?_
      exact ⟨rfl, v23, v25, ⟨hv.1, hv.2.1, hv.2.2.1, hv.2.2.2.1, hv.2.2.2.2.1, hv.2.2.2.2.2.1, hv.2.2.2.2.2.2.1, hv.2.2.2.2.2.2.2.1, hv.2.2.2.2.2.2.2.2.1, hv.2.2.2.2.2.2.2.2.2.1, fun _ => rfl, hv.2.2.2.2.2.2.2.2.2.2.2.1, hv.2.2.2.2.2.2.2.2.2.2.2.2.1, hv.2.2.2.2.2.2.2.2.2.2.2.2.2.1, hv.2.2.2.2.2.2.2.2.2.2.2.2.2.2.1, hv.2.2.2.2.2.2.2.2.2.2.2.2.2.2.2.1, hv.2.2.2.2.2.2.2.2.2.2.2.2.2.2.2.2.1, hv.2.2.2.2.2.2.2.2.2.2.2.2.2.2.2.2.2.1, hv.2.2.2.2.2.2.2.2.2.2.2.2.2.2.2.2.2.2.1, hv.2.2.2.2.2.2.2.2.2.2.2.2.2.2.2.2.2.2.2.1, hv.2.2.2.2.2.2.2.2.2.2.2.2.2.2.2.2.2.2.2.2.1, hv.2.2.2.2.2.2.2.2.2.2.2.2.2.2.2.2.2.2.2.2.2.1, trivial⟩, ha, hw⟩
    · intro D σ w hD hdep hJ
      obtain ⟨v23, v25, hv, ha, hw⟩ := hJ
      have ha2 : agree σ [(38, (.bool (x24 != x26))), (41, (cv (true && ((x24 != x26) == false)) (.bool (x5.2.2 != x8.2.2)))), (0, v0), (4, (.pointer (some ⟨b1, 0, none⟩))), (7, (str x5.1)), (8, (.bool x5.2.1)), (9, (.int .i64 x5.2.2)), (10, (str x8.1)), (11, (.bool x8.2.1)), (12, (.int .i64 x8.2.2))] := ⟨hv.2.2.2.2.2.2.2.1 (hdep.1 rfl), hv.2.2.2.2.2.2.2.2.2.2.1 (hdep.2.1 rfl), ha.1, ha.2.1, ha.2.2.1, ha.2.2.2.1, ha.2.2.2.2.1, ha.2.2.2.2.2.1, ha.2.2.2.2.2.2.1, ha.2.2.2.2.2.2.2.1, trivial⟩
      obtain ⟨τ, rfl⟩ := ha2.ups
      refine RL.pick (b := (x24 != x26)) (v := (.bool ((x24 != x26) || (x5.2.2 != x8.2.2)))) trivial rfl rfl (pk_or (c := true) rfl) ?_
      refine RL.nil ?_
      exact ⟨rfl, v23, v25, ⟨hv.1, hv.2.1, hv.2.2.1, hv.2.2.2.1, hv.2.2.2.2.1, hv.2.2.2.2.2.1, hv.2.2.2.2.2.2.1, hv.2.2.2.2.2.2.2.1, hv.2.2.2.2.2.2.2.2.1, hv.2.2.2.2.2.2.2.2.2.1, hv.2.2.2.2.2.2.2.2.2.2.1, fun _ => rfl, hv.2.2.2.2.2.2.2.2.2.2.2.2.1, hv.2.2.2.2.2.2.2.2.2.2.2.2.2.1, hv.2.2.2.2.2.2.2.2.2.2.2.2.2.2.1, hv.2.2.2.2.2.2.2.2.2.2.2.2.2.2.2.1, hv.2.2.2.2.2.2.2.2.2.2.2.2.2.2.2.2.1, hv.2.2.2.2.2.2.2.2.2.2.2.2.2.2.2.2.2.1, hv.2.2.2.2.2.2.2.2.2.2.2.2.2.2.2.2.2.2.1, hv.2.2.2.2.2.2.2.2.2.2.2.2.2.2.2.2.2.2.2.1, hv.2.2.2.2.2.2.2.2.2.2.2.2.2.2.2.2.2.2.2.2.1, hv.2.2.2.2.2.2.2.2.2.2.2.2.2.2.2.2.2.2.2.2.2.1, trivial⟩, ha, hw⟩
    · intro D σ w hD hdep hJ
      obtain ⟨v23, v25, hv, ha, hw⟩ := hJ
      have ha2 : agree σ [(42, (.bool ((x24 != x26) || (x5.2.2 != x8.2.2)))), (38, (.bool (x24 != x26))), (0, v0), (4, (.pointer (some ⟨b1, 0, none⟩))), (7, (str x5.1)), (8, (.bool x5.2.1)), (9, (.int .i64 x5.2.2)), (10, (str x8.1)), (11, (.bool x8.2.1)), (12, (.int .i64 x8.2.2))] := ⟨hv.2.2.2.2.2.2.2.2.2.2.2.1 (hdep.1 rfl), hv.2.2.2.2.2.2.2.1 (hdep.2.1 rfl), ha.1, ha.2.1, ha.2.2.1, ha.2.2.2.1, ha.2.2.2.2.1, ha.2.2.2.2.2.1, ha.2.2.2.2.2.2.1, ha.2.2.2.2.2.2.2.1, trivial⟩
      obtain ⟨τ, rfl⟩ := ha2.ups
      refine RL.move (v := (.bool ((x24 != x26) || (x5.2.2 != x8.2.2)))) trivial rfl rfl ?_
      refine RL.nil ?_
      exact ⟨rfl, v23, v25, ⟨hv.1, hv.2.1, hv.2.2.1, hv.2.2.2.1, hv.2.2.2.2.1, hv.2.2.2.2.2.1, hv.2.2.2.2.2.2.1, hv.2.2.2.2.2.2.2.1, hv.2.2.2.2.2.2.2.2.1, hv.2.2.2.2.2.2.2.2.2.1, hv.2.2.2.2.2.2.2.2.2.2.1, hv.2.2.2.2.2.2.2.2.2.2.2.1, fun _ => rfl, hv.2.2.2.2.2.2.2.2.2.2.2.2.2.1, hv.2.2.2.2.2.2.2.2.2.2.2.2.2.2.1, hv.2.2.2.2.2.2.2.2.2.2.2.2.2.2.2.1, hv.2.2.2.2.2.2.2.2.2.2.2.2.2.2.2.2.1, hv.2.2.2.2.2.2.2.2.2.2.2.2.2.2.2.2.2.1, hv.2.2.2.2.2.2.2.2.2.2.2.2.2.2.2.2.2.2.1, hv.2.2.2.2.2.2.2.2.2.2.2.2.2.2.2.2.2.2.2.1, hv.2.2.2.2.2.2.2.2.2.2.2.2.2.2.2.2.2.2.2.2.1, hv.2.2.2.2.2.2.2.2.2.2.2.2.2.2.2.2.2.2.2.2.2.1, trivial⟩, ha, hw⟩
    · intro D σ w hD hdep hJ
      obtain ⟨v23, v25, hv, ha, hw⟩ := hJ
      have ha2 : agree σ [(43, (.bool ((x24 != x26) || (x5.2.2 != x8.2.2)))), (0, v0), (4, (.pointer (some ⟨b1, 0, none⟩))), (7, (str x5.1)), (8, (.bool x5.2.1)), (9, (.int .i64 x5.2.2)), (10, (str x8.1)), (11, (.bool x8.2.1)), (12, (.int .i64 x8.2.2))] := ⟨hv.2.2.2.2.2.2.2.2.2.2.2.2.1 (hdep.1 rfl), ha.1, ha.2.1, ha.2.2.1, ha.2.2.2.1, ha.2.2.2.2.1, ha.2.2.2.2.2.1, ha.2.2.2.2.2.2.1, ha.2.2.2.2.2.2.2.1, trivial⟩
      obtain ⟨τ, rfl⟩ := ha2.ups
      refine RL.gs (c := true) (b := ((x24 != x26) || (x5.2.2 != x8.2.2))) (v := (str x5.1)) rfl rfl rfl (gs_move rfl (fun _ => rfl)) ?_
      refine RL.nil ?_
      exact ⟨rfl, v23, v25, ⟨hv.1, hv.2.1, hv.2.2.1, hv.2.2.2.1, hv.2.2.2.2.1, hv.2.2.2.2.2.1, hv.2.2.2.2.2.2.1, hv.2.2.2.2.2.2.2.1, hv.2.2.2.2.2.2.2.2.1, hv.2.2.2.2.2.2.2.2.2.1, hv.2.2.2.2.2.2.2.2.2.2.1, hv.2.2.2.2.2.2.2.2.2.2.2.1, hv.2.2.2.2.2.2.2.2.2.2.2.2.1, fun _ => rfl, hv.2.2.2.2.2.2.2.2.2.2.2.2.2.2.1, hv.2.2.2.2.2.2.2.2.2.2.2.2.2.2.2.1, hv.2.2.2.2.2.2.2.2.2.2.2.2.2.2.2.2.1, hv.2.2.2.2.2.2.2.2.2.2.2.2.2.2.2.2.2.1, hv.2.2.2.2.2.2.2.2.2.2.2.2.2.2.2.2.2.2.1, hv.2.2.2.2.2.2.2.2.2.2.2.2.2.2.2.2.2.2.2.1, hv.2.2.2.2.2.2.2.2.2.2.2.2.2.2.2.2.2.2.2.2.1, hv.2.2.2.2.2.2.2.2.2.2.2.2.2.2.2.2.2.2.2.2.2.1, trivial⟩, ha, hw⟩
    · intro D σ w hD hdep hJ
      obtain ⟨v23, v25, hv, ha, hw⟩ := hJ
      have ha2 : agree σ [(43, (.bool ((x24 != x26) || (x5.2.2 != x8.2.2)))), (0, v0), (4, (.pointer (some ⟨b1, 0, none⟩))), (7, (str x5.1)), (8, (.bool x5.2.1)), (9, (.int .i64 x5.2.2)), (10, (str x8.1)), (11, (.bool x8.2.1)), (12, (.int .i64 x8.2.2))] := ⟨hv.2.2.2.2.2.2.2.2.2.2.2.2.1 (hdep.1 rfl), ha.1, ha.2.1, ha.2.2.1, ha.2.2.2.1, ha.2.2.2.2.1, ha.2.2.2.2.2.1, ha.2.2.2.2.2.2.1, ha.2.2.2.2.2.2.2.1, trivial⟩
      obtain ⟨τ, rfl⟩ := ha2.ups
      refine RL.gs (c := true) (b := ((x24 != x26) || (x5.2.2 != x8.2.2))) (v := (str x8.1)) rfl rfl rfl (gs_move rfl (fun _ => rfl)) ?_
      refine RL.nil ?_
      exact ⟨rfl, v23, v25, ⟨hv.1, hv.2.1, hv.2.2.1, hv.2.2.2.1, hv.2.2.2.2.1, hv.2.2.2.2.2.1, hv.2.2.2.2.2.2.1, hv.2.2.2.2.2.2.2.1, hv.2.2.2.2.2.2.2.2.1, hv.2.2.2.2.2.2.2.2.2.1, hv.2.2.2.2.2.2.2.2.2.2.1, hv.2.2.2.2.2.2.2.2.2.2.2.1, hv.2.2.2.2.2.2.2.2.2.2.2.2.1, hv.2.2.2.2.2.2.2.2.2.2.2.2.2.1, fun _ => rfl, hv.2.2.2.2.2.2.2.2.2.2.2.2.2.2.2.1, hv.2.2.2.2.2.2.2.2.2.2.2.2.2.2.2.2.1, hv.2.2.2.2.2.2.2.2.2.2.2.2.2.2.2.2.2.1, hv.2.2.2.2.2.2.2.2.2.2.2.2.2.2.2.2.2.2.1, hv.2.2.2.2.2.2.2.2.2.2.2.2.2.2.2.2.2.2.2.1, hv.2.2.2.2.2.2.2.2.2.2.2.2.2.2.2.2.2.2.2.2.1, hv.2.2.2.2.2.2.2.2.2.2.2.2.2.2.2.2.2.2.2.2.2.1, trivial⟩, ha, hw⟩
    · intro D σ w hD hdep hJ
      obtain ⟨v23, v25, hv, ha, hw⟩ := hJ
      have ha2 : agree σ [(44, (cv (true && (((x24 != x26) || (x5.2.2 != x8.2.2)) == false)) (str x5.1))), (45, (cv (true && (((x24 != x26) || (x5.2.2 != x8.2.2)) == false)) (str x8.1))), (43, (.bool ((x24 != x26) || (x5.2.2 != x8.2.2)))), (0, v0), (4, (.pointer (some ⟨b1, 0, none⟩))), (7, (str x5.1)), (8, (.bool x5.2.1)), (9, (.int .i64 x5.2.2)), (10, (str x8.1)), (11, (.bool x8.2.1)), (12, (.int .i64 x8.2.2))] := ⟨hv.2.2.2.2.2.2.2.2.2.2.2.2.2.1 (hdep.1 rfl), hv.2.2.2.2.2.2.2.2.2.2.2.2.2.2.1 (hdep.2.1 rfl), hv.2.2.2.2.2.2.2.2.2.2.2.2.1 (hdep.2.2.1 rfl), ha.1, ha.2.1, ha.2.2.1, ha.2.2.2.1, ha.2.2.2.2.1, ha.2.2.2.2.2.1, ha.2.2.2.2.2.2.1, ha.2.2.2.2.2.2.2.1, trivial⟩
      obtain ⟨τ, rfl⟩ := ha2.ups
      refine RL.gs (c := true) (b := ((x24 != x26) || (x5.2.2 != x8.2.2))) (v := (.bool (!x5.1.eqb x8.1))) rfl rfl rfl (gs_scmp (bop := .neq) (a := x5.1) (b := x8.1) rfl (fun h => by exact (cv_t h : cv (true && (((x24 != x26) || (x5.2.2 != x8.2.2)) == false)) (str x5.1) = (str x5.1))) (fun h => by exact (cv_t h : cv (true && (((x24 != x26) || (x5.2.2 != x8.2.2)) == false)) (str x8.1) = (str x8.1))) rfl) ?_
      refine RL.nil ?_
      exact ⟨rfl, v23, v25, ⟨hv.1, hv.2.1, hv.2.2.1, hv.2.2.2.1, hv.2.2.2.2.1, hv.2.2.2.2.2.1, hv.2.2.2.2.2.2.1, hv.2.2.2.2.2.2.2.1, hv.2.2.2.2.2.2.2.2.1, hv.2.2.2.2.2.2.2.2.2.1, hv.2.2.2.2.2.2.2.2.2.2.1, hv.2.2.2.2.2.2.2.2.2.2.2.1, hv.2.2.2.2.2.2.2.2.2.2.2.2.1, hv.2.2.2.2.2.2.2.2.2.2.2.2.2.1, hv.2.2.2.2.2.2.2.2.2.2.2.2.2.2.1, fun _ => rfl, hv.2.2.2.2.2.2.2.2.2.2.2.2.2.2.2.2.1, hv.2.2.2.2.2.2.2.2.2.2.2.2.2.2.2.2.2.1, hv.2.2.2.2.2.2.2.2.2.2.2.2.2.2.2.2.2.2.1, hv.2.2.2.2.2.2.2.2.2.2.2.2.2.2.2.2.2.2.2.1, hv.2.2.2.2.2.2.2.2.2.2.2.2.2.2.2.2.2.2.2.2.1, hv.2.2.2.2.2.2.2.2.2.2.2.2.2.2.2.2.2.2.2.2.2.1, trivial⟩, ha, hw⟩
    · intro D σ w hD hdep hJ
      obtain ⟨v23, v25, hv, ha, hw⟩ := hJ
      have ha2 : agree σ [(43, (.bool ((x24 != x26) || (x5.2.2 != x8.2.2)))), (46, (cv (true && (((x24 != x26) || (x5.2.2 != x8.2.2)) == false)) (.bool (!x5.1.eqb x8.1)))), (0, v0), (4, (.pointer (some ⟨b1, 0, none⟩))), (7, (str x5.1)), (8, (.bool x5.2.1)), (9, (.int .i64 x5.2.2)), (10, (str x8.1)), (11, (.bool x8.2.1)), (12, (.int .i64 x8.2.2))] := ⟨hv.2.2.2.2.2.2.2.2.2.2.2.2.1 (hdep.1 rfl), hv.2.2.2.2.2.2.2.2.2.2.2.2.2.2.2.1 (hdep.2.1 rfl), ha.1, ha.2.1, ha.2.2.1, ha.2.2.2.1, ha.2.2.2.2.1, ha.2.2.2.2.2.1, ha.2.2.2.2.2.2.1, ha.2.2.2.2.2.2.2.1, trivial⟩
      obtain ⟨τ, rfl⟩ := ha2.ups
      refine RL.pick (b := ((x24 != x26) || (x5.2.2 != x8.2.2))) (v := (.bool (((x24 != x26) || (x5.2.2 != x8.2.2)) || (!x5.1.eqb x8.1)))) trivial rfl rfl (pk_or (c := true) rfl) ?_
      refine RL.nil ?_
      exact ⟨rfl, v23, v25, ⟨hv.1, hv.2.1, hv.2.2.1, hv.2.2.2.1, hv.2.2.2.2.1, hv.2.2.2.2.2.1, hv.2.2.2.2.2.2.1, hv.2.2.2.2.2.2.2.1, hv.2.2.2.2.2.2.2.2.1, hv.2.2.2.2.2.2.2.2.2.1, hv.2.2.2.2.2.2.2.2.2.2.1, hv.2.2.2.2.2.2.2.2.2.2.2.1, hv.2.2.2.2.2.2.2.2.2.2.2.2.1, hv.2.2.2.2.2.2.2.2.2.2.2.2.2.1, hv.2.2.2.2.2.2.2.2.2.2.2.2.2.2.1, hv.2.2.2.2.2.2.2.2.2.2.2.2.2.2.2.1, fun _ => rfl, hv.2.2.2.2.2.2.2.2.2.2.2.2.2.2.2.2.2.1, hv.2.2.2.2.2.2.2.2.2.2.2.2.2.2.2.2.2.2.1, hv.2.2.2.2.2.2.2.2.2.2.2.2.2.2.2.2.2.2.2.1, hv.2.2.2.2.2.2.2.2.2.2.2.2.2.2.2.2.2.2.2.2.1, hv.2.2.2.2.2.2.2.2.2.2.2.2.2.2.2.2.2.2.2.2.2.1, trivial⟩, ha, hw⟩
    · intro D σ w hD hdep hJ
      obtain ⟨v23, v25, hv, ha, hw⟩ := hJ
      have ha2 : agree σ [(47, (.bool (((x24 != x26) || (x5.2.2 != x8.2.2)) || (!x5.1.eqb x8.1)))), (43, (.bool ((x24 != x26) || (x5.2.2 != x8.2.2)))), (0, v0), (4, (.pointer (some ⟨b1, 0, none⟩))), (7, (str x5.1)), (8, (.bool x5.2.1)), (9, (.int .i64 x5.2.2)), (10, (str x8.1)), (11, (.bool x8.2.1)), (12, (.int .i64 x8.2.2))] := ⟨hv.2.2.2.2.2.2.2.2.2.2.2.2.2.2.2.2.1 (hdep.1 rfl), hv.2.2.2.2.2.2.2.2.2.2.2.2.1 (hdep.2.1 rfl), ha.1, ha.2.1, ha.2.2.1, ha.2.2.2.1, ha.2.2.2.2.1, ha.2.2.2.2.2.1, ha.2.2.2.2.2.2.1, ha.2.2.2.2.2.2.2.1, trivial⟩
      obtain ⟨τ, rfl⟩ := ha2.ups
      refine RL.move (v := (.bool (((x24 != x26) || (x5.2.2 != x8.2.2)) || (!x5.1.eqb x8.1)))) trivial rfl rfl ?_
      refine RL.nil ?_
      exact ⟨rfl, v23, v25, ⟨hv.1, hv.2.1, hv.2.2.1, hv.2.2.2.1, hv.2.2.2.2.1, hv.2.2.2.2.2.1, hv.2.2.2.2.2.2.1, hv.2.2.2.2.2.2.2.1, hv.2.2.2.2.2.2.2.2.1, hv.2.2.2.2.2.2.2.2.2.1, hv.2.2.2.2.2.2.2.2.2.2.1, hv.2.2.2.2.2.2.2.2.2.2.2.1, hv.2.2.2.2.2.2.2.2.2.2.2.2.1, hv.2.2.2.2.2.2.2.2.2.2.2.2.2.1, hv.2.2.2.2.2.2.2.2.2.2.2.2.2.2.1, hv.2.2.2.2.2.2.2.2.2.2.2.2.2.2.2.1, hv.2.2.2.2.2.2.2.2.2.2.2.2.2.2.2.2.1, fun _ => rfl, hv.2.2.2.2.2.2.2.2.2.2.2.2.2.2.2.2.2.2.1, hv.2.2.2.2.2.2.2.2.2.2.2.2.2.2.2.2.2.2.2.1, hv.2.2.2.2.2.2.2.2.2.2.2.2.2.2.2.2.2.2.2.2.1, hv.2.2.2.2.2.2.2.2.2.2.2.2.2.2.2.2.2.2.2.2.2.1, trivial⟩, ha, hw⟩
    · intro D σ w hD hdep hJ
      obtain ⟨v23, v25, hv, ha, hw⟩ := hJ
      have ha2 : agree σ [(48, (.bool (((x24 != x26) || (x5.2.2 != x8.2.2)) || (!x5.1.eqb x8.1)))), (0, v0), (4, (.pointer (some ⟨b1, 0, none⟩))), (7, (str x5.1)), (8, (.bool x5.2.1)), (9, (.int .i64 x5.2.2)), (10, (str x8.1)), (11, (.bool x8.2.1)), (12, (.int .i64 x8.2.2))] := ⟨hv.2.2.2.2.2.2.2.2.2.2.2.2.2.2.2.2.2.1 (hdep.1 rfl), ha.1, ha.2.1, ha.2.2.1, ha.2.2.2.1, ha.2.2.2.2.1, ha.2.2.2.2.2.1, ha.2.2.2.2.2.2.1, ha.2.2.2.2.2.2.2.1, trivial⟩
      obtain ⟨τ, rfl⟩ := ha2.ups
      refine RL.move (v := (.bool x5.2.1)) ⟨_, rfl, congrArg Value.bool hg27⟩ rfl rfl ?_
      refine RL.nil ?_
      exact ⟨rfl, v23, v25, ⟨hv.1, hv.2.1, hv.2.2.1, hv.2.2.2.1, hv.2.2.2.2.1, hv.2.2.2.2.2.1, hv.2.2.2.2.2.2.1, hv.2.2.2.2.2.2.2.1, hv.2.2.2.2.2.2.2.2.1, hv.2.2.2.2.2.2.2.2.2.1, hv.2.2.2.2.2.2.2.2.2.2.1, hv.2.2.2.2.2.2.2.2.2.2.2.1, hv.2.2.2.2.2.2.2.2.2.2.2.2.1, hv.2.2.2.2.2.2.2.2.2.2.2.2.2.1, hv.2.2.2.2.2.2.2.2.2.2.2.2.2.2.1, hv.2.2.2.2.2.2.2.2.2.2.2.2.2.2.2.1, hv.2.2.2.2.2.2.2.2.2.2.2.2.2.2.2.2.1, hv.2.2.2.2.2.2.2.2.2.2.2.2.2.2.2.2.2.1, fun _ => rfl, hv.2.2.2.2.2.2.2.2.2.2.2.2.2.2.2.2.2.2.2.1, hv.2.2.2.2.2.2.2.2.2.2.2.2.2.2.2.2.2.2.2.2.1, hv.2.2.2.2.2.2.2.2.2.2.2.2.2.2.2.2.2.2.2.2.2.1, trivial⟩, ha, hw⟩
    · intro D σ w hD hdep hJ
      obtain ⟨v23, v25, hv, ha, hw⟩ := hJ
      have ha2 : agree σ [(48, (.bool (((x24 != x26) || (x5.2.2 != x8.2.2)) || (!x5.1.eqb x8.1)))), (0, v0), (4, (.pointer (some ⟨b1, 0, none⟩))), (7, (str x5.1)), (8, (.bool x5.2.1)), (9, (.int .i64 x5.2.2)), (10, (str x8.1)), (11, (.bool x8.2.1)), (12, (.int .i64 x8.2.2))] := ⟨hv.2.2.2.2.2.2.2.2.2.2.2.2.2.2.2.2.2.1 (hdep.1 rfl), ha.1, ha.2.1, ha.2.2.1, ha.2.2.2.1, ha.2.2.2.2.1, ha.2.2.2.2.2.1, ha.2.2.2.2.2.2.1, ha.2.2.2.2.2.2.2.1, trivial⟩
      obtain ⟨τ, rfl⟩ := ha2.ups
      refine RL.move (v := (.bool x8.2.1)) ⟨_, rfl, congrArg Value.bool hg27⟩ rfl rfl ?_
      refine RL.nil ?_
      exact ⟨rfl, v23, v25, ⟨hv.1, hv.2.1, hv.2.2.1, hv.2.2.2.1, hv.2.2.2.2.1, hv.2.2.2.2.2.1, hv.2.2.2.2.2.2.1, hv.2.2.2.2.2.2.2.1, hv.2.2.2.2.2.2.2.2.1, hv.2.2.2.2.2.2.2.2.2.1, hv.2.2.2.2.2.2.2.2.2.2.1, hv.2.2.2.2.2.2.2.2.2.2.2.1, hv.2.2.2.2.2.2.2.2.2.2.2.2.1, hv.2.2.2.2.2.2.2.2.2.2.2.2.2.1, hv.2.2.2.2.2.2.2.2.2.2.2.2.2.2.1, hv.2.2.2.2.2.2.2.2.2.2.2.2.2.2.2.1, hv.2.2.2.2.2.2.2.2.2.2.2.2.2.2.2.2.1, hv.2.2.2.2.2.2.2.2.2.2.2.2.2.2.2.2.2.1, hv.2.2.2.2.2.2.2.2.2.2.2.2.2.2.2.2.2.2.1, fun _ => rfl, hv.2.2.2.2.2.2.2.2.2.2.2.2.2.2.2.2.2.2.2.2.1, hv.2.2.2.2.2.2.2.2.2.2.2.2.2.2.2.2.2.2.2.2.2.1, trivial⟩, ha, hw⟩
    · intro D σ w hD hdep hJ
      obtain ⟨v23, v25, hv, ha, hw⟩ := hJ
      have ha2 : agree σ [(49, (.bool x5.2.1)), (50, (.bool x8.2.1)), (48, (.bool (((x24 != x26) || (x5.2.2 != x8.2.2)) || (!x5.1.eqb x8.1)))), (0, v0), (4, (.pointer (some ⟨b1, 0, none⟩))), (7, (str x5.1)), (8, (.bool x5.2.1)), (9, (.int .i64 x5.2.2)), (10, (str x8.1)), (11, (.bool x8.2.1)), (12, (.int .i64 x8.2.2))] := ⟨hv.2.2.2.2.2.2.2.2.2.2.2.2.2.2.2.2.2.2.1 (hdep.1 rfl), hv.2.2.2.2.2.2.2.2.2.2.2.2.2.2.2.2.2.2.2.1 (hdep.2.1 rfl), hv.2.2.2.2.2.2.2.2.2.2.2.2.2.2.2.2.2.1 (hdep.2.2.1 rfl), ha.1, ha.2.1, ha.2.2.1, ha.2.2.2.1, ha.2.2.2.2.1, ha.2.2.2.2.2.1, ha.2.2.2.2.2.2.1, ha.2.2.2.2.2.2.2.1, trivial⟩
      obtain ⟨τ, rfl⟩ := ha2.ups
      refine RL.bcmp_ne (a := x5.2.1) (b := x8.2.1) ⟨_, rfl, congrArg Value.bool hg27⟩ rfl rfl rfl un4 ?_
      refine RL.nil ?_
      exact ⟨rfl, v23, v25, ⟨hv.1, hv.2.1, hv.2.2.1, hv.2.2.2.1, hv.2.2.2.2.1, hv.2.2.2.2.2.1, hv.2.2.2.2.2.2.1, hv.2.2.2.2.2.2.2.1, hv.2.2.2.2.2.2.2.2.1, hv.2.2.2.2.2.2.2.2.2.1, hv.2.2.2.2.2.2.2.2.2.2.1, hv.2.2.2.2.2.2.2.2.2.2.2.1, hv.2.2.2.2.2.2.2.2.2.2.2.2.1, hv.2.2.2.2.2.2.2.2.2.2.2.2.2.1, hv.2.2.2.2.2.2.2.2.2.2.2.2.2.2.1, hv.2.2.2.2.2.2.2.2.2.2.2.2.2.2.2.1, hv.2.2.2.2.2.2.2.2.2.2.2.2.2.2.2.2.1, hv.2.2.2.2.2.2.2.2.2.2.2.2.2.2.2.2.2.1, hv.2.2.2.2.2.2.2.2.2.2.2.2.2.2.2.2.2.2.1, hv.2.2.2.2.2.2.2.2.2.2.2.2.2.2.2.2.2.2.2.1, fun _ => rfl, hv.2.2.2.2.2.2.2.2.2.2.2.2.2.2.2.2.2.2.2.2.2.1, trivial⟩, ha, hw⟩
    · intro D σ w hD hdep hJ
      obtain ⟨v23, v25, hv, ha, hw⟩ := hJ
      have ha2 : agree σ [(48, (.bool (((x24 != x26) || (x5.2.2 != x8.2.2)) || (!x5.1.eqb x8.1)))), (51, (.bool (x5.2.1 != x8.2.1))), (0, v0), (4, (.pointer (some ⟨b1, 0, none⟩))), (7, (str x5.1)), (8, (.bool x5.2.1)), (9, (.int .i64 x5.2.2)), (10, (str x8.1)), (11, (.bool x8.2.1)), (12, (.int .i64 x8.2.2))] := ⟨hv.2.2.2.2.2.2.2.2.2.2.2.2.2.2.2.2.2.1 (hdep.1 rfl), hv.2.2.2.2.2.2.2.2.2.2.2.2.2.2.2.2.2.2.2.2.1 (hdep.2.1 rfl), ha.1, ha.2.1, ha.2.2.1, ha.2.2.2.1, ha.2.2.2.2.1, ha.2.2.2.2.2.1, ha.2.2.2.2.2.2.1, ha.2.2.2.2.2.2.2.1, trivial⟩
      obtain ⟨τ, rfl⟩ := ha2.ups
      refine RL.pick (b := (((x24 != x26) || (x5.2.2 != x8.2.2)) || (!x5.1.eqb x8.1))) (v := (.bool (x5.2.1 != x8.2.1))) trivial rfl rfl (by rw [hg27]; rfl) ?_
      refine RL.nil ?_
      exact ⟨rfl, v23, v25, ⟨hv.1, hv.2.1, hv.2.2.1, hv.2.2.2.1, hv.2.2.2.2.1, hv.2.2.2.2.2.1, hv.2.2.2.2.2.2.1, hv.2.2.2.2.2.2.2.1, hv.2.2.2.2.2.2.2.2.1, hv.2.2.2.2.2.2.2.2.2.1, hv.2.2.2.2.2.2.2.2.2.2.1, hv.2.2.2.2.2.2.2.2.2.2.2.1, hv.2.2.2.2.2.2.2.2.2.2.2.2.1, hv.2.2.2.2.2.2.2.2.2.2.2.2.2.1, hv.2.2.2.2.2.2.2.2.2.2.2.2.2.2.1, hv.2.2.2.2.2.2.2.2.2.2.2.2.2.2.2.1, hv.2.2.2.2.2.2.2.2.2.2.2.2.2.2.2.2.1, hv.2.2.2.2.2.2.2.2.2.2.2.2.2.2.2.2.2.1, hv.2.2.2.2.2.2.2.2.2.2.2.2.2.2.2.2.2.2.1, hv.2.2.2.2.2.2.2.2.2.2.2.2.2.2.2.2.2.2.2.1, hv.2.2.2.2.2.2.2.2.2.2.2.2.2.2.2.2.2.2.2.2.1, fun _ => rfl, trivial⟩, ha, hw⟩
    intro D σ w hall hJ
    obtain ⟨v23, v25, hv, ha, hw⟩ := hJ
    rw [hall 1 (by decide)] at hw
    rw [hall 4 (by decide)] at hw
    have ha2 : agree σ [(52, (.bool (x5.2.1 != x8.2.1))), (0, v0), (4, (.pointer (some ⟨b1, 0, none⟩))), (7, (str x5.1)), (8, (.bool x5.2.1)), (9, (.int .i64 x5.2.2)), (10, (str x8.1)), (11, (.bool x8.2.1)), (12, (.int .i64 x8.2.2))] := ⟨hv.2.2.2.2.2.2.2.2.2.2.2.2.2.2.2.2.2.2.2.2.2.1 (hall 21 (by decide)), ha.1, ha.2.1, ha.2.2.1, ha.2.2.2.1, ha.2.2.2.2.1, ha.2.2.2.2.2.1, ha.2.2.2.2.2.2.1, ha.2.2.2.2.2.2.2.1, trivial⟩
    obtain ⟨τ, rfl⟩ := ha2.ups
    injection hj with hj; subst hj
    exact ⟨rfl, ⟨rfl, rfl, rfl, trivial⟩, hw.pick 11 [10, 7] (new := [rd v0 p0, bx 26 b1 p1]) rfl rfl (by decide) (by decide)⟩
  rintro σ w ⟨ha, hw⟩
  obtain ⟨τ, rfl⟩ := ha.ups
  refine thenQ_n ?_
  refine RC.cond (b := s22) rfl (fun hc => ?_) (fun hc => ?_)
  · replace hb := cT hc hb
    refine RC.seq ?_
    refine RC.region ?_
    refine RL.assign (v := (.bool false)) trivial rfl rfl ?_
    refine RL.nil ?_
    refine thenQ_n ?_
    refine RC.ret ?_
    refine thenQ_r ?_
    injection hb with hb; subst hb
    exact fin1 rfl rfl ⟨rfl, hw.drop 2 rfl⟩
  replace hb := cF hc hb
  refine RC.skip ?_
  refine thenQ_n ?_
  refine RC.seq ?_
  refine RC.region ?_
  refine RL.move (v := v0) trivial rfl rfl ?_
  refine RL.load_bf (i := 1) (f := (fun x => x)) trivial rfl hw rfl rfl Fd.self ty26 fun v32 hw => ?_
  obtain ⟨x33, hx33, hb⟩ := bd hb
  refine RL.call trivial rfl fn15 [v0, v32] rfl (Calls_ret (netlist_Loose_ok N  (i0 := 1) (i1 := 0) hw rfl rfl hx33) ?_)
  rintro _ w ⟨v34, rfl, hw⟩
  refine RL.move (v := (.tuple #[v34, (.int .i64 x33.2)])) trivial rfl rfl ?_
  refine RL.extract (v := v34) trivial rfl rfl rfl ?_
  refine RL.extract (v := (.int .i64 x33.2)) trivial rfl rfl rfl ?_
  refine RL.assign (v := v34) trivial rfl rfl ?_
  refine RL.assign (v := (.int .i64 x33.2)) trivial rfl rfl ?_
  refine RL.nil ?_
  refine thenQ_n ?_
  refine RC.seq ?_
  refine RC.region ?_
  refine RL.move (v := v0) trivial rfl rfl ?_
  refine RL.load_bf (i := 3) (f := (fun x => x)) trivial rfl hw rfl rfl Fd.self ty26 fun v35 hw => ?_
  obtain ⟨x36, hx36, hb⟩ := bd hb
  refine RL.call trivial rfl fn16 [v0, v35] rfl (Calls_ret (etchhouseref2_Loose_ok N  (i0 := 3) (i1 := 0) hw rfl rfl hx36) ?_)
  rintro _ w ⟨v37, rfl, hw⟩
  refine RL.move (v := (.tuple #[v37, (.int .i64 x36.2)])) trivial rfl rfl ?_
  refine RL.extract (v := v37) trivial rfl rfl rfl ?_
  refine RL.extract (v := (.int .i64 x36.2)) trivial rfl rfl rfl ?_
  refine RL.assign (v := v37) trivial rfl rfl ?_
  refine RL.assign (v := (.int .i64 x36.2)) trivial rfl rfl ?_
  refine RL.nil ?_
  refine thenQ_n ?_
  refine RC.seq ?_
  obtain ⟨s44, hj, hb⟩ := bd hb
  refine RC.jn (fun (s44 : Bool) (σ : Nat → Value) (w : World) => agree σ [(6, (.bool s44))] ∧ Holds E w ([] ++ Γ)) s44 ?_ ?_
  · refine RC.region ?_
    refine RL.move (v := (.int .i64 x33.2)) trivial rfl rfl ?_
    refine RL.move (v := (.int .i64 x36.2)) trivial rfl rfl ?_
    refine RL.icmp (a := x33.2) (b := x36.2) trivial rfl rfl rfl rfl ?_
    refine RL.move (v := (.bool (x33.2 == x36.2))) trivial rfl rfl ?_
    rcases Bool.eq_false_or_eq_true (x33.2 == x36.2) with hg45 | hg45
    rotate_left
    · replace hj := cF hg45 hj
      refine RL.skip rfl (.inl (congrArg Value.bool hg45)) rfl ?_
      refine RL.skip rfl (.inl (congrArg Value.bool hg45)) rfl ?_
      refine RL.skip rfl (.inl (congrArg Value.bool hg45)) rfl ?_
      refine RL.pick (b := (x33.2 == x36.2)) (v := (.bool false)) trivial rfl rfl (by rw [hg45]; rfl) ?_
      refine RL.move (v := (.bool false)) trivial rfl rfl ?_
      refine RL.skip rfl (.inl rfl) rfl ?_
      refine RL.pick (b := false) (v := (.bool false)) trivial rfl rfl rfl ?_
      refine RL.assign (v := (.bool false)) trivial rfl rfl ?_
      refine RL.nil ?_
      injection hj with hj; subst hj
      exact ⟨rfl, ⟨rfl, trivial⟩, hw.pick 6 [] (new := []) rfl rfl (by decide) (by decide)⟩
    replace hj := cT hg45 hj
    refine RL.move (v := v34) ⟨_, rfl, congrArg Value.bool hg45⟩ rfl rfl ?_
    refine RL.move (v := v37) ⟨_, rfl, congrArg Value.bool hg45⟩ rfl rfl ?_
    have hw := hw.freeze (i := 2) rfl
    have hw := hw.freeze (i := 0) rfl
    obtain ⟨x46, hx46, hj⟩ := bd hj
    refine RL.call ⟨_, rfl, congrArg Value.bool hg45⟩ rfl fn17 [v34, v37] rfl (Calls_ret (slices_Equal_Pin_ok N  (i0 := 2) (i1 := 0) hw rfl rfl hx46) ?_)
    rintro _ w ⟨rfl, hw⟩
    refine RL.pick (b := (x33.2 == x36.2)) (v := (.bool x46)) trivial rfl rfl (by rw [hg45]; rfl) ?_
    refine RL.move (v := (.bool x46)) trivial rfl rfl ?_
    rcases Bool.eq_false_or_eq_true x46 with hg47 | hg47
    rotate_left
    · replace hj := cF hg47 hj
      refine RL.skip rfl (.inl (congrArg Value.bool hg47)) rfl ?_
      refine RL.pick (b := x46) (v := (.bool false)) trivial rfl rfl (by rw [hg47]; rfl) ?_
      refine RL.assign (v := (.bool false)) trivial rfl rfl ?_
      refine RL.nil ?_
      injection hj with hj; subst hj
      exact ⟨rfl, ⟨rfl, trivial⟩, hw.pick 6 [] (new := []) rfl rfl (by decide) (by decide)⟩
    replace hj := cT hg47 hj
    obtain ⟨x48, hx48, hj⟩ := bd hj
    refine RL.call ⟨_, rfl, congrArg Value.bool hg47⟩ rfl fn18 [] rfl (Calls_ret (etchhouselaw2_awake_ok N   hw  hx48) ?_)
    rintro _ w ⟨rfl, hw⟩
    refine RL.pick (b := x46) (v := (.bool x48)) trivial rfl rfl (by rw [hg47]; rfl) ?_
    refine RL.assign (v := (.bool x48)) trivial rfl rfl ?_
    refine RL.nil ?_
    injection hj with hj; subst hj
    exact ⟨rfl, ⟨rfl, trivial⟩, hw.pick 6 [] (new := []) rfl rfl (by decide) (by decide)⟩
  rintro σ w ⟨ha, hw⟩
  obtain ⟨τ, rfl⟩ := ha.ups
  refine thenQ_n ?_
  refine RC.ret ?_
  injection hb with hb; subst hb
  exact fin1 rfl rfl ⟨rfl, hw.drop 0 rfl⟩
end Go.Gk
